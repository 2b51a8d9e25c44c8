/- WeightAt: the law's walk. -/
import Derived.Test.YtdmiihljepkapaaWeight
import Derived.Test.YtdmiihljepkapaaHeld
namespace Go.Proofs.Ytdmiihljepkapaa
set_option linter.unusedSimpArgs false
set_option linter.unusedVariables false
open Go.RowKit

theorem ArgRow.own {w : World} {base : Nat} {e : TypeId} {size : Nat} {a : Option Addr} {n cap : Nat} {xs : List Value} (h : w.ownsRow base e size (.slice a n cap) n xs) : ArgRow w a n cap size xs := .of (own_row h)

set_option maxRecDepth 100000 in
set_option maxHeartbeats 4000000 in
theorem walk_FnExactWeightAt (N E S : Int) (a : Option Addr) (n c : Nat) (l : List Wz) (v : Int) (w : World) (ha : NetArg w N E S a n c l) (_ : (Lit.int .i64 v).wf = true) :
    Calls Try.prog 5 #[netV N E S a n c, .int .i64 v] w fun e w' => e = .returned (.bool true) ∧ Below w.heap.size w w' := by
  have hr := ha.row
  have hl := ha.len
  have hn := hr.le
  clear ha
  have K := fun w => szNet N E S a n c w hn
  by_cases hb : 1048576 < n
  · simp only [if_pos hb] at K
    have K := Lib.hid K
    go_enter Try.func5, Try.ntmps5
    go_wp2_with fail
    refine (K.out _).mono ?_
    rintro e wx ⟨rfl, hbx⟩
    obtain ⟨hcx, hfx⟩ := bcell hbx
    have hzx := bsize hbx
    go_wp2_with fail
    go_ret
    exact ⟨rfl, by (repeat' (first | (with_reducible exact Below.refl _ _) | (with_reducible assumption) | (with_reducible refine balloc ?_ _) | (with_reducible refine Below.drew ?_) | (with_reducible refine below_drewN ?_ _) | (with_reducible refine bset ?_ ?_ _) | (with_reducible refine bstep ?_ (by assumption)) | go_size))⟩
  simp only [if_neg hb] at K
  have K := Lib.hid K
  have HR := Lib.hid hr
  have HL := Lib.hid hl
  have hn' : n ≤ 1048576 := by omega
  clear hr hl hn hb
  go_enter Try.func5, Try.ntmps5
  go_wp2_with fail
  refine (K.out _).mono ?_
  rintro e w1 ⟨rfl, hb1⟩
  have zq1_0 := blt hb1 (b := w.heap.size) (by (first | omega | (simp only [World.size_alloc, World.size_setCell, World.size_drew, World.heap_drewN]; omega)))
  obtain ⟨uq1_0, vq1_0, zz1_0⟩ := zq1_0
  go_wp2_with fail
  have B1 : Hid (Below w.heap.size w w1) := (by (repeat' (first | (with_reducible exact Below.refl _ _) | (with_reducible assumption) | (with_reducible refine balloc ?_ _) | (with_reducible refine Below.drew ?_) | (with_reducible refine below_drewN ?_ _) | (with_reducible refine bset ?_ ?_ _) | (with_reducible refine bstep ?_ (by assumption)) | go_size)) : Below w.heap.size w w1)
  refine (toNet N E S a n c l _ (HR.out.below B1.out) HL.out hn').mono ?_
  rintro e w2 ⟨g2, rfl, o2, hb2⟩
  have zq2 := blt hb2 (b := w.heap.size) (by (first | omega | (simp only [World.size_alloc, World.size_setCell, World.size_drew, World.heap_drewN]; omega)))
  obtain ⟨uq2, vq2, zz2⟩ := zq2
  have R2 := Lib.hid (ArgRow.own o2)
  have B2 : Hid (Below w.heap.size w w2) := bstep B1.out hb2
  clear o2
  go_wp2_with fail
  refine (specWeightAt N E S _ n n l v _ R2.out HL.out).mono ?_
  rintro e w3 ⟨rfl, hb3⟩
  have zq3 := blt hb3 (b := w.heap.size) (by (first | omega | (simp only [World.size_alloc, World.size_setCell, World.size_drew, World.heap_drewN]; omega)))
  obtain ⟨uq3, vq3, zz3⟩ := zq3
  have B3 : Hid (Below w.heap.size w w3) := bstep B2.out hb3
  go_wp2_with fail
  refine (toNet N E S a n c l _ (HR.out.below B3.out) HL.out hn').mono ?_
  rintro e w4 ⟨g4, rfl, o4, hb4⟩
  have zq4 := blt hb4 (b := w.heap.size) (by (first | omega | (simp only [World.size_alloc, World.size_setCell, World.size_drew, World.heap_drewN]; omega)))
  obtain ⟨uq4, vq4, zz4⟩ := zq4
  have R4 := Lib.hid (ArgRow.own o4)
  have B4 : Hid (Below w.heap.size w w4) := bstep B3.out hb4
  clear o4
  have ne1 : ¬ w4.heap.size = w.heap.size := by omega
  have ne2 : ¬ w.heap.size = w4.heap.size := by omega
  go_wp2_with fail
  refine (implWeightAt N E S _ n n l v _ (R4.out.below (by (repeat' (first | (with_reducible exact Below.refl _ _) | (with_reducible assumption) | (with_reducible refine balloc ?_ _) | (with_reducible refine Below.drew ?_) | (with_reducible refine below_drewN ?_ _) | (with_reducible refine bset ?_ ?_ _) | (with_reducible refine bstep ?_ (by assumption)) | go_size)))) HL.out).mono ?_
  rintro e w5 ⟨rfl, hb5⟩
  have zq5 := blt hb5 (b := w.heap.size) (by (first | omega | (simp only [World.size_alloc, World.size_setCell, World.size_drew, World.heap_drewN]; omega)))
  obtain ⟨uq5, vq5, zz5⟩ := zq5
  have zr5 := blt hb5 (b := w4.heap.size) (by (first | omega | (simp only [World.size_alloc, World.size_setCell, World.size_drew, World.heap_drewN]; omega)))
  obtain ⟨ur5, vr5, zs5⟩ := zr5
  have B5 : Hid (Below w.heap.size w w5) := bstep (balloc B4.out _) hb5
  have R5 : Hid (ArgRow w5 (some ⟨g4, 0, none⟩) n n 3 (wires l)) := (R4.out.below (w' := w4.alloc _) (by (repeat' (first | (with_reducible exact Below.refl _ _) | (with_reducible assumption) | (with_reducible refine balloc ?_ _) | (with_reducible refine Below.drew ?_) | (with_reducible refine below_drewN ?_ _) | (with_reducible refine bset ?_ ?_ _) | (with_reducible refine bstep ?_ (by assumption)) | go_size)))).below hb5
  go_wp2_with fail
  go_region_with (first
    | (go_at_call 43; ((with_reducible refine (toNet N E S a n c l _ (HR.out.below (by first | exact B5.out | exact below_drewN B5.out _ | exact B5.out.drew)) HL.out hn').mono ?_); rintro e w6 ⟨g6, rfl, o6, hb6⟩); (try (replace hb6 := bdrew hb6)); have R6 := Lib.hid (ArgRow.own o6); have R56 := Lib.hid (R5.out.below hb6); clear o6; (try (have hq_ := bltn hb6 (b := w.heap.size) (by (first | omega | (simp only [World.size_alloc, World.size_setCell, World.size_drew, World.heap_drewN]; omega))); obtain ⟨uu, vv, zz, nn, mm⟩ := hq_)); (try (have hq_ := bltn hb6 (b := w4.heap.size) (by (first | omega | (simp only [World.size_alloc, World.size_setCell, World.size_drew, World.heap_drewN]; omega))); obtain ⟨uu, vv, zz, nn, mm⟩ := hq_)))
    | (go_at_call 45; ((with_reducible refine (eqNet N E S (some ⟨g4, 0, none⟩) (some ⟨g6, 0, none⟩) n n n l _ (by exact R56.out) (by exact R6.out) HL.out).mono ?_); rintro e w7 ⟨rfl, hb7⟩); (try (replace hb7 := bdrew hb7))))
  all_goals
    go_wp2_with fail
    go_ret
    exact ⟨rfl, bstep (bstep B5.out hb6) hb7⟩
end Go.Proofs.Ytdmiihljepkapaa
