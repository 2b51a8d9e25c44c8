/- ResistanceOf: the law's walk. -/
import Derived.Test.YtdmiihljepkapaaResist
import Derived.Test.YtdmiihljepkapaaResistS
import Derived.Test.YtdmiihljepkapaaLawWeight
namespace Go.Proofs.Ytdmiihljepkapaa
set_option linter.unusedSimpArgs false
set_option linter.unusedVariables false
open Go.RowKit
theorem eqRatioSame (n d : Int) (w : World) :
    Calls Try.prog 89 #[ratV n d, ratV n d] w fun e w' => e = .returned (.bool true) ∧ Below w.heap.size w w' := by
  go_enter Try.func89, Try.ntmps89
  go_wp2_with fail
  go_ret
  exact ⟨rfl, by (repeat' (first | (with_reducible exact Below.refl _ _) | (with_reducible assumption) | (with_reducible refine balloc ?_ _) | (with_reducible refine Below.drew ?_) | (with_reducible refine below_drewN ?_ _) | (with_reducible refine bset ?_ ?_ _) | (with_reducible refine bstep ?_ (by assumption)) | go_size))⟩

set_option maxRecDepth 100000 in
set_option maxHeartbeats 8000000 in
theorem walk_FnExactResistanceOf (N E S : Int) (a : Option Addr) (n c : Nat) (l : List Wz) (p : Int) (q : Int) (w : World) (ha : NetArg w N E S a n c l) (h_p : (Lit.int .i64 p).wf = true) (h_q : (Lit.int .i64 q).wf = true) :
    Calls Try.prog 23 #[netV N E S a n c, .int .i64 p, .int .i64 q] w fun e w' => e = .returned (.bool true) ∧ Below w.heap.size w w' := by
  have hr := ha.row
  have hl := ha.len
  have hwf := ha.wl
  have hN := i64_bd ha.wN
  have hE := i64_bd ha.wE
  have hS := i64_bd ha.wS
  have b_p := i64_bd h_p
  have b_q := i64_bd h_q
  have hn := hr.le
  clear ha
  have K := fun w => szNet N E S a n c w hn
  by_cases hb : 1048576 < n
  · simp only [if_pos hb] at K
    have K := Lib.hid K
    go_enter Try.func23, Try.ntmps23
    go_wp2_with fail
    refine (K.out _).mono ?_
    rintro e wx ⟨rfl, hbx⟩
    obtain ⟨hcx, hfx⟩ := bcell hbx
    have hzx := bsize hbx
    go_wp2_with fail
    go_ret
    exact ⟨rfl, by (repeat' (first | (with_reducible exact Below.refl _ _) | (with_reducible assumption) | (with_reducible refine balloc ?_ _) | (with_reducible refine Below.drew ?_) | (with_reducible refine below_drewN ?_ _) | (with_reducible refine bset ?_ ?_ _) | (with_reducible refine bstep ?_ (by assumption)) | go_size))⟩
  simp only [if_neg hb] at K
  have K := Lib.hid K
  have HR := Lib.hid hr
  have HL := Lib.hid hl
  have hn' : n ≤ 1048576 := by omega
  obtain ⟨X, Y, B, KS, KI⟩ : ∃ (X Y : Int) (B : Bool), Hid (∀ (w : World) (g : Nat), ArgRow w (some ⟨g, 0, none⟩) n n 3 (wires l) → Calls Try.prog 96 #[netV N E S (some ⟨g, 0, none⟩) n n, .int .i64 p, .int .i64 q] w fun e w' => e = .returned (.tuple #[ratV X Y, .bool B]) ∧ Below w.heap.size w w') ∧ Hid (∀ (w : World) (g : Nat), ArgRow w (some ⟨g, 0, none⟩) n n 3 (wires l) → Calls Try.prog 37 #[netV N E S (some ⟨g, 0, none⟩) n n, .int .i64 p, .int .i64 q] w fun e w' => e = .returned (.tuple #[ratV X Y, .bool B]) ∧ Below w.heap.size w w') := by
    by_cases hok : NetOk N E S l
    · obtain ⟨M, rfl⟩ : ∃ M : Nat, N = M := ⟨N.toNat, by have := hok.h.n1; omega⟩
      by_cases hb9 : (0 ≤ p ∧ p < M) ∧ (0 ≤ q ∧ q < M)
      · exact ⟨_, _, _, fun w g rr => specResistanceOf M E S _ n n l p q hb9.1 hb9.2 hok w rr hl, fun w g rr => implResistanceOf M E S _ n n l p q hb9.1 hb9.2 hok w rr hl⟩
      · exact ⟨_, _, _, fun w g rr => specResistanceOf1 M E S _ n n l p q hok hb9 w rr hl, fun w g rr => implResistanceOf1 M E S _ n n l p q hok hb9 w rr hl⟩
    · exact ⟨_, _, _, fun w g rr => specResistanceOf0 N E S _ n n l p q hok w rr hl, fun w g rr => implResistanceOf0 N E S _ n n l p q hok w rr hl⟩
  clear hr hl hn hb hwf
  go_enter Try.func23, Try.ntmps23
  go_wp2_with fail
  refine (K.out _).mono ?_
  rintro e w1 ⟨rfl, hb1⟩
  have zq1_0 := blt hb1 (b := w.heap.size) (by (first | omega | (simp only [World.size_alloc, World.size_setCell, World.size_drew, World.heap_drewN]; omega)))
  obtain ⟨uq1_0, vq1_0, zz1_0⟩ := zq1_0
  go_wp2_with fail
  have B1 : Hid (Below w.heap.size w w1) := (by (repeat' (first | (with_reducible exact Below.refl _ _) | (with_reducible assumption) | (with_reducible refine balloc ?_ _) | (with_reducible refine Below.drew ?_) | (with_reducible refine below_drewN ?_ _) | (with_reducible refine bset ?_ ?_ _) | (with_reducible refine bstep ?_ (by assumption)) | go_size)) : Below w.heap.size w w1)
  refine (toNet N E S a n c l _ (HR.out.below B1.out) HL.out hn').mono ?_
  rintro e w2 ⟨g2, rfl, o2, hb2⟩
  have zq2 := blt hb2 (b := w.heap.size) (by (first | omega | (simp only [World.size_alloc, World.size_setCell, World.size_drew, World.heap_drewN]; omega)))
  obtain ⟨uq2, vq2, zz2⟩ := zq2
  have R2 := Lib.hid (ArgRow.own o2)
  have B2 : Hid (Below w.heap.size w w2) := bstep B1.out hb2
  clear o2
  go_wp2_with fail
  refine (KS.out _ g2 R2.out).mono ?_
  rintro e w3 ⟨rfl, hb3⟩
  have zq3 := blt hb3 (b := w.heap.size) (by (first | omega | (simp only [World.size_alloc, World.size_setCell, World.size_drew, World.heap_drewN]; omega)))
  obtain ⟨uq3, vq3, zz3⟩ := zq3
  have B3 : Hid (Below w.heap.size w w3) := bstep B2.out hb3
  go_wp2_with fail
  refine (toNet N E S a n c l _ (HR.out.below (balloc B3.out _)) HL.out hn').mono ?_
  rintro e w4 ⟨g4, rfl, o4, hb4⟩
  obtain ⟨uq4, vq4, zz4, zn4, zm4⟩ := bltn hb4 (b := w.heap.size) (by (first | omega | (simp only [World.size_alloc, World.size_setCell, World.size_drew, World.heap_drewN]; omega)))
  obtain ⟨ut4, vt4, zt4, tn4, tm4⟩ := bltn hb4 (b := w3.heap.size) (by (first | omega | (simp only [World.size_alloc, World.size_setCell, World.size_drew, World.heap_drewN]; omega)))
  have R4 := Lib.hid (ArgRow.own o4)
  have B4 : Hid (Below w.heap.size w w4) := bstep (balloc B3.out _) hb4
  clear o4
  go_wp2_with fail
  refine (KI.out _ g4 (R4.out.below (by (repeat' (first | (with_reducible exact Below.refl _ _) | (with_reducible assumption) | (with_reducible refine balloc ?_ _) | (with_reducible refine Below.drew ?_) | (with_reducible refine below_drewN ?_ _) | (with_reducible refine bset ?_ ?_ _) | (with_reducible refine bstep ?_ (by assumption)) | go_size))))).mono ?_
  rintro e w5 ⟨rfl, hb5⟩
  obtain ⟨uq5, vq5, zz5, zn5, zm5⟩ := bltn hb5 (b := w.heap.size) (by (first | omega | (simp only [World.size_alloc, World.size_setCell, World.size_drew, World.heap_drewN]; omega)))
  obtain ⟨ut5, vt5, zt5, tn5, tm5⟩ := bltn hb5 (b := w3.heap.size) (by (first | omega | (simp only [World.size_alloc, World.size_setCell, World.size_drew, World.heap_drewN]; omega)))
  obtain ⟨ur5, vr5, zs5, rn5, rm5⟩ := bltn hb5 (b := w4.heap.size) (by (first | omega | (simp only [World.size_alloc, World.size_setCell, World.size_drew, World.heap_drewN]; omega)))
  have B5 : Hid (Below w.heap.size w w5) := bstep (balloc B4.out _) hb5
  have R5 : Hid (ArgRow w5 (some ⟨g4, 0, none⟩) n n 3 (wires l)) := (R4.out.below (w' := w4.alloc _) (by (repeat' (first | (with_reducible exact Below.refl _ _) | (with_reducible assumption) | (with_reducible refine balloc ?_ _) | (with_reducible refine Below.drew ?_) | (with_reducible refine below_drewN ?_ _) | (with_reducible refine bset ?_ ?_ _) | (with_reducible refine bstep ?_ (by assumption)) | go_size)))).below hb5
  go_wp2_with fail
  refine (eqRatioSame X Y _).mono ?_
  rintro e wq ⟨rfl, hbq⟩
  obtain ⟨uqq, vqq, zzq, znq, zmq⟩ := bltn hbq (b := w.heap.size) (by (first | omega | (simp only [World.size_alloc, World.size_setCell, World.size_drew, World.heap_drewN]; omega)))
  obtain ⟨urq, vrq, zsq, rnq, rmq⟩ := bltn hbq (b := w4.heap.size) (by (first | omega | (simp only [World.size_alloc, World.size_setCell, World.size_drew, World.heap_drewN]; omega)))
  have BQ : Hid (Below w.heap.size w wq) := bstep (balloc B5.out _) hbq
  have RQ : Hid (ArgRow wq (some ⟨g4, 0, none⟩) n n 3 (wires l)) := (R5.out.below (w' := w5.alloc _) (by (repeat' (first | (with_reducible exact Below.refl _ _) | (with_reducible assumption) | (with_reducible refine balloc ?_ _) | (with_reducible refine Below.drew ?_) | (with_reducible refine below_drewN ?_ _) | (with_reducible refine bset ?_ ?_ _) | (with_reducible refine bstep ?_ (by assumption)) | go_size)))).below hbq
  go_wp2_with fail
  go_region_with (first
    | (go_at_call 43; ((with_reducible refine (toNet N E S a n c l _ (HR.out.below (by first | exact BQ.out | exact below_drewN BQ.out _ | exact BQ.out.drew)) HL.out hn').mono ?_); rintro e w6 ⟨g6, rfl, o6, hb6⟩); (try (replace hb6 := bdrew hb6)); have R6 := Lib.hid (ArgRow.own o6); have R56 := Lib.hid (RQ.out.below hb6); clear o6; (try (have hq_ := bltn hb6 (b := w.heap.size) (by (first | omega | (simp only [World.size_alloc, World.size_setCell, World.size_drew, World.heap_drewN]; omega))); obtain ⟨uu, vv, zz, nn, mm⟩ := hq_)); (try (have hq_ := bltn hb6 (b := w4.heap.size) (by (first | omega | (simp only [World.size_alloc, World.size_setCell, World.size_drew, World.heap_drewN]; omega))); obtain ⟨uu, vv, zz, nn, mm⟩ := hq_)))
    | (go_at_call 45; ((with_reducible refine (eqNet N E S (some ⟨g4, 0, none⟩) (some ⟨g6, 0, none⟩) n n n l _ (by exact R56.out) (by exact R6.out) HL.out).mono ?_); rintro e w7 ⟨rfl, hb7⟩); (try (replace hb7 := bdrew hb7))))
  all_goals
    go_wp2_with fail
    go_ret
    exact ⟨rfl, bstep (bstep BQ.out hb6) hb7⟩
end Go.Proofs.Ytdmiihljepkapaa
