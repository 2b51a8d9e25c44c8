/- SameNet: the law's walk. -/
import Derived.Test.YtdmiihljepkapaaSame2
import Derived.Test.YtdmiihljepkapaaLawWeight
namespace Go.Proofs.Ytdmiihljepkapaa
set_option linter.unusedSimpArgs false
set_option linter.unusedVariables false
open Go.RowKit

theorem szNetK (N E S : Int) (a : Option Addr) (n c k : Nat) (w : World) (hn : n ≤ maxLen) (hk : k ≤ 1048576) :
    Calls Try.prog 41 #[netV N E S a n c, .int .i64 k] w fun e w' => (e = .returned (.int .i64 (if k < n then -1 else (k : Int) - n))) ∧ Below w.heap.size w w' := by
  have K := Lib.hid (fun w => szWires a n c k w hn hk)
  unfold maxLen at hn
  by_cases h : k < n
  · rw [if_pos h] at K ⊢
    go_enter Try.func41, Try.ntmps41
    go_wp2_with fail
    refine (K.out _).mono ?_
    rintro e w' ⟨rfl, rfl⟩
    go_wp2_with fail
    go_ret
    exact ⟨rfl, by (repeat' (first | (with_reducible exact Below.refl _ _) | (with_reducible assumption) | (with_reducible refine balloc ?_ _) | (with_reducible refine Below.drew ?_) | (with_reducible refine below_drewN ?_ _) | (with_reducible refine bset ?_ ?_ _) | (with_reducible refine bstep ?_ (by assumption)) | go_size))⟩
  · rw [if_neg h] at K ⊢
    go_enter Try.func41, Try.ntmps41
    go_wp2_with fail
    refine (K.out _).mono ?_
    rintro e w' ⟨rfl, rfl⟩
    go_wp2_with fail
    go_ret
    exact ⟨rfl, by (repeat' (first | (with_reducible exact Below.refl _ _) | (with_reducible assumption) | (with_reducible refine balloc ?_ _) | (with_reducible refine Below.drew ?_) | (with_reducible refine below_drewN ?_ _) | (with_reducible refine bset ?_ ?_ _) | (with_reducible refine bstep ?_ (by assumption)) | go_size))⟩

set_option maxRecDepth 100000 in
set_option maxHeartbeats 8000000 in
theorem walk_FnExactSameNet (N1 E1 S1 : Int) (a1 : Option Addr) (n1 c1 : Nat) (l1 : List Wz) (N2 E2 S2 : Int) (a2 : Option Addr) (n2 c2 : Nat) (l2 : List Wz) (w : World) (ha1 : NetArg w N1 E1 S1 a1 n1 c1 l1) (ha2 : NetArg w N2 E2 S2 a2 n2 c2 l2) :
    Calls Try.prog 6 #[netV N1 E1 S1 a1 n1 c1, netV N2 E2 S2 a2 n2 c2] w fun e w' => e = .returned (.bool true) ∧ Below w.heap.size w w' := by
  have hn1 := ha1.row.le
  have hn2 := ha2.row.le
  have K1 := fun w => szNet N1 E1 S1 a1 n1 c1 w hn1
  by_cases hb : 1048576 < n1
  · simp only [if_pos hb] at K1
    have K1 := Lib.hid K1
    go_enter Try.func6, Try.ntmps6
    go_wp2_with fail
    refine (K1.out _).mono ?_
    rintro e wx ⟨rfl, hbx⟩
    obtain ⟨hcx, hfx⟩ := bcell hbx
    have hzx := bsize hbx
    go_wp2_with fail
    go_ret
    exact ⟨rfl, by (repeat' (first | (with_reducible exact Below.refl _ _) | (with_reducible assumption) | (with_reducible refine balloc ?_ _) | (with_reducible refine Below.drew ?_) | (with_reducible refine below_drewN ?_ _) | (with_reducible refine bset ?_ ?_ _) | (with_reducible refine bstep ?_ (by assumption)) | go_size))⟩
  simp only [if_neg hb] at K1
  obtain ⟨k, hk⟩ : ∃ k : Nat, (1048576 : Int) - n1 = k := ⟨1048576 - n1, by omega⟩
  simp only [hk] at K1
  have K1 := Lib.hid K1
  have K2 := fun w => szNetK N2 E2 S2 a2 n2 c2 k w hn2 (by omega)
  by_cases hb2 : k < n2
  · simp only [if_pos hb2] at K2
    have K2 := Lib.hid K2
    go_enter Try.func6, Try.ntmps6
    go_wp2_with fail
    refine (K1.out _).mono ?_
    rintro e wx ⟨rfl, hbx⟩
    have zqx_0 := blt hbx (b := w.heap.size) (by (first | omega | (simp only [World.size_alloc, World.size_setCell, World.size_drew, World.heap_drewN]; omega)))
    obtain ⟨uqx_0, vqx_0, zzx_0⟩ := zqx_0
    have zqx_1 := blt hbx (b := w.heap.size + 1) (by (first | omega | (simp only [World.size_alloc, World.size_setCell, World.size_drew, World.heap_drewN]; omega)))
    obtain ⟨uqx_1, vqx_1, zzx_1⟩ := zqx_1
    go_wp2_with fail
    refine (K2.out _).mono ?_
    rintro e wy ⟨rfl, hby⟩
    have zqy_0 := blt hby (b := w.heap.size) (by (first | omega | (simp only [World.size_alloc, World.size_setCell, World.size_drew, World.heap_drewN]; omega)))
    obtain ⟨uqy_0, vqy_0, zzy_0⟩ := zqy_0
    have zqy_1 := blt hby (b := w.heap.size + 1) (by (first | omega | (simp only [World.size_alloc, World.size_setCell, World.size_drew, World.heap_drewN]; omega)))
    obtain ⟨uqy_1, vqy_1, zzy_1⟩ := zqy_1
    go_wp2_with fail
    go_ret
    exact ⟨rfl, by (repeat' (first | (with_reducible exact Below.refl _ _) | (with_reducible assumption) | (with_reducible refine balloc ?_ _) | (with_reducible refine Below.drew ?_) | (with_reducible refine below_drewN ?_ _) | (with_reducible refine bset ?_ ?_ _) | (with_reducible refine bstep ?_ (by assumption)) | go_size))⟩
  simp only [if_neg hb2] at K2
  have K2 := Lib.hid K2
  have HR1 := Lib.hid ha1.row
  have HL1 := Lib.hid ha1.len
  have HR2 := Lib.hid ha2.row
  have HL2 := Lib.hid ha2.len
  have hn1' : n1 ≤ 1048576 := by omega
  have hn2' : n2 ≤ 1048576 := by omega
  have hk2 : n2 ≤ k := by omega
  clear ha1 ha2 hn1 hn2 hb hb2 hk
  go_enter Try.func6, Try.ntmps6
  go_wp2_with fail
  refine (K1.out _).mono ?_
  rintro e wx ⟨rfl, hbx⟩
  have zqx_0 := blt hbx (b := w.heap.size) (by (first | omega | (simp only [World.size_alloc, World.size_setCell, World.size_drew, World.heap_drewN]; omega)))
  obtain ⟨uqx_0, vqx_0, zzx_0⟩ := zqx_0
  have zqx_1 := blt hbx (b := w.heap.size + 1) (by (first | omega | (simp only [World.size_alloc, World.size_setCell, World.size_drew, World.heap_drewN]; omega)))
  obtain ⟨uqx_1, vqx_1, zzx_1⟩ := zqx_1
  go_wp2_with fail
  refine (K2.out _).mono ?_
  rintro e wy ⟨rfl, hby⟩
  have zqy_0 := blt hby (b := w.heap.size) (by (first | omega | (simp only [World.size_alloc, World.size_setCell, World.size_drew, World.heap_drewN]; omega)))
  obtain ⟨uqy_0, vqy_0, zzy_0⟩ := zqy_0
  have zqy_1 := blt hby (b := w.heap.size + 1) (by (first | omega | (simp only [World.size_alloc, World.size_setCell, World.size_drew, World.heap_drewN]; omega)))
  obtain ⟨uqy_1, vqy_1, zzy_1⟩ := zqy_1
  have KI := Lib.hid (fun (w : World) (g1 g2 : Nat) r1 r2 => implSameNet N1 E1 S1 N2 E2 S2 (some ⟨g1, 0, none⟩) (some ⟨g2, 0, none⟩) n1 n1 n2 n2 l1 l2 w r1 r2 HL1.out HL2.out)
  have KS := Lib.hid (fun (w : World) (g1 g2 : Nat) r1 r2 => specSameNet N1 E1 S1 N2 E2 S2 (some ⟨g1, 0, none⟩) (some ⟨g2, 0, none⟩) n1 n1 n2 n2 l1 l2 w r1 r2 HL1.out HL2.out)
  generalize sameB N1 E1 S1 l1 N2 E2 S2 l2 = B at KI KS
  go_upto_region 8 with fail
  go_cut [6] (fun s6 wc => s6 = .bool B ∧ Hid (Below (w.heap.size + 1 + 1) ((w.alloc (.cells #[.int .i64 N1, .int .i64 E1, .int .i64 S1, .slice a1 n1 c1] 44)).alloc (.cells #[.int .i64 N2, .int .i64 E2, .int .i64 S2, .slice a2 n2 c2] 44)) wc))
  case first =>
    go_region_with (first
      | (go_at_call_of 43 N1; ((with_reducible refine (toNet N1 E1 S1 a1 n1 c1 l1 _ (HR1.out.below (by (repeat' (first | (with_reducible exact Below.refl _ _) | (with_reducible assumption) | (with_reducible refine balloc ?_ _) | (with_reducible refine Below.drew ?_) | (with_reducible refine below_drewN ?_ _) | (with_reducible refine bset ?_ ?_ _) | (with_reducible refine bstep ?_ (by assumption)) | go_size)))) HL1.out hn1').mono ?_); rintro e wa ⟨ga, rfl, oa, hba⟩); (try (replace hba := bdrew hba)); have RA := Lib.hid (ArgRow.own oa); clear oa; (try (have hq_ := bltn hba (b := w.heap.size) (by (first | omega | (simp only [World.size_alloc, World.size_setCell, World.size_drew, World.heap_drewN]; omega))); obtain ⟨uu, vv, zz, nn, mm⟩ := hq_)); (try (have hq_ := bltn hba (b := w.heap.size + 1) (by (first | omega | (simp only [World.size_alloc, World.size_setCell, World.size_drew, World.heap_drewN]; omega))); obtain ⟨uu, vv, zz, nn, mm⟩ := hq_)))
      | (go_at_call_of 43 N2; ((with_reducible refine (toNet N2 E2 S2 a2 n2 c2 l2 _ (HR2.out.below (by (repeat' (first | (with_reducible exact Below.refl _ _) | (with_reducible assumption) | (with_reducible refine balloc ?_ _) | (with_reducible refine Below.drew ?_) | (with_reducible refine below_drewN ?_ _) | (with_reducible refine bset ?_ ?_ _) | (with_reducible refine bstep ?_ (by assumption)) | go_size)))) HL2.out hn2').mono ?_); rintro e wb ⟨gb, rfl, ob, hbb⟩); (try (replace hbb := bdrew hbb)); have RB := Lib.hid (ArgRow.own ob); clear ob; (try (have hq_ := bltn hbb (b := w.heap.size) (by (first | omega | (simp only [World.size_alloc, World.size_setCell, World.size_drew, World.heap_drewN]; omega))); obtain ⟨uu, vv, zz, nn, mm⟩ := hq_)); (try (have hq_ := bltn hbb (b := w.heap.size + 1) (by (first | omega | (simp only [World.size_alloc, World.size_setCell, World.size_drew, World.heap_drewN]; omega))); obtain ⟨uu, vv, zz, nn, mm⟩ := hq_)))
      | (go_at_call 46; ((with_reducible refine (KS.out _ ga gb (by first | exact RA.out | exact RA.out.below hbb) (by first | exact RB.out | exact RB.out.below hba)).mono ?_); rintro e wd ⟨rfl, hbd⟩); (try (replace hbd := bdrew hbd))))
    all_goals
      go_wp2_with fail
      go_meet
      first
        | (have q := bstep (bstep (bstep (bstep hbx hby) hba) hbb) hbd
           simp only [World.size_alloc] at q
           exact ⟨rfl, q⟩)
        | (have q := bstep (bstep (bstep (bstep hbx hby) hbb) hba) hbd
           simp only [World.size_alloc] at q
           exact ⟨rfl, q⟩)
  case rest =>
    obtain ⟨rfl, HB⟩ := hcut
    have hz : w.heap.size + 1 + 1 ≤ wc.heap.size := by have := HB.out.size; simpa using this
    have B0 : Hid (Below w.heap.size w wc) := (balloc (balloc (Below.refl _ _) _) _).trans (HB.out.mono (by omega))
    have u0 (o : Nat) : wc.cell? ⟨w.heap.size, o, none⟩ = ((w.alloc (.cells #[.int .i64 N1, .int .i64 E1, .int .i64 S1, .slice a1 n1 c1] 44)).alloc (.cells #[.int .i64 N2, .int .i64 E2, .int .i64 S2, .slice a2 n2 c2] 44)).cell? ⟨w.heap.size, o, none⟩ :=
      HB.out.cell (p := ⟨w.heap.size, o, none⟩) (by show w.heap.size < _; omega)
    have u1 (o : Nat) : wc.cell? ⟨w.heap.size + 1, o, none⟩ = ((w.alloc (.cells #[.int .i64 N1, .int .i64 E1, .int .i64 S1, .slice a1 n1 c1] 44)).alloc (.cells #[.int .i64 N2, .int .i64 E2, .int .i64 S2, .slice a2 n2 c2] 44)).cell? ⟨w.heap.size + 1, o, none⟩ :=
      HB.out.cell (p := ⟨w.heap.size + 1, o, none⟩) (by show w.heap.size + 1 < _; omega)
    go_wp2_with fail
    refine (toNet N1 E1 S1 a1 n1 c1 l1 _ (HR1.out.below B0.out) HL1.out hn1').mono ?_
    rintro e w1 ⟨g1, rfl, o1, hb1⟩
    have R1 := Lib.hid (ArgRow.own o1)
    clear o1
    obtain ⟨uu1, vv1, zz1, nn1, mm1⟩ := bltn hb1 (b := w.heap.size) (by omega)
    obtain ⟨uv1, vw1, zy1, no1, mo1⟩ := bltn hb1 (b := w.heap.size + 1) (by omega)
    have B1 : Hid (Below w.heap.size w w1) := bstep B0.out hb1
    go_wp2_with fail
    refine (toNet N2 E2 S2 a2 n2 c2 l2 _ (HR2.out.below (balloc B1.out _)) HL2.out hn2').mono ?_
    rintro e w2 ⟨g2, rfl, o2, hb2⟩
    have R2 := Lib.hid (ArgRow.own o2)
    clear o2
    obtain ⟨uu2, vv2, zz2, nn2, mm2⟩ := bltn hb2 (b := w.heap.size) (by (first | omega | (simp only [World.size_alloc, World.size_setCell, World.size_drew, World.heap_drewN]; omega)))
    obtain ⟨uv2, vw2, zy2, no2, mo2⟩ := bltn hb2 (b := w.heap.size + 1) (by (first | omega | (simp only [World.size_alloc, World.size_setCell, World.size_drew, World.heap_drewN]; omega)))
    obtain ⟨uw2, vx2, zx2, np2, mp2⟩ := bltn hb2 (b := w1.heap.size) (by (first | omega | (simp only [World.size_alloc, World.size_setCell, World.size_drew, World.heap_drewN]; omega)))
    have B2 : Hid (Below w.heap.size w w2) := bstep (balloc B1.out _) hb2
    have R12 : Hid (ArgRow w2 (some ⟨g1, 0, none⟩) n1 n1 3 (wires l1)) := (R1.out.below (w' := w1.alloc _) (by (repeat' (first | (with_reducible exact Below.refl _ _) | (with_reducible assumption) | (with_reducible refine balloc ?_ _) | (with_reducible refine Below.drew ?_) | (with_reducible refine below_drewN ?_ _) | (with_reducible refine bset ?_ ?_ _) | (with_reducible refine bstep ?_ (by assumption)) | go_size)))).below hb2
    go_wp2_with fail
    refine (KI.out _ g1 g2 (R12.out.below (by (repeat' (first | (with_reducible exact Below.refl _ _) | (with_reducible assumption) | (with_reducible refine balloc ?_ _) | (with_reducible refine Below.drew ?_) | (with_reducible refine below_drewN ?_ _) | (with_reducible refine bset ?_ ?_ _) | (with_reducible refine bstep ?_ (by assumption)) | go_size)))) (R2.out.below (by (repeat' (first | (with_reducible exact Below.refl _ _) | (with_reducible assumption) | (with_reducible refine balloc ?_ _) | (with_reducible refine Below.drew ?_) | (with_reducible refine below_drewN ?_ _) | (with_reducible refine bset ?_ ?_ _) | (with_reducible refine bstep ?_ (by assumption)) | go_size))))).mono ?_
    rintro e w3 ⟨rfl, hb3⟩
    obtain ⟨uu3, vv3, zz3, nn3, mm3⟩ := bltn hb3 (b := w.heap.size) (by (first | omega | (simp only [World.size_alloc, World.size_setCell, World.size_drew, World.heap_drewN]; omega)))
    obtain ⟨uv3, vw3, zy3, no3, mo3⟩ := bltn hb3 (b := w.heap.size + 1) (by (first | omega | (simp only [World.size_alloc, World.size_setCell, World.size_drew, World.heap_drewN]; omega)))
    obtain ⟨uw3, vx3, zx3, np3, mp3⟩ := bltn hb3 (b := w1.heap.size) (by (first | omega | (simp only [World.size_alloc, World.size_setCell, World.size_drew, World.heap_drewN]; omega)))
    obtain ⟨ux3, vy3, zw3, nq3, mq3⟩ := bltn hb3 (b := w2.heap.size) (by (first | omega | (simp only [World.size_alloc, World.size_setCell, World.size_drew, World.heap_drewN]; omega)))
    have B3 : Hid (Below w.heap.size w w3) := bstep (balloc B2.out _) hb3
    have R13 : Hid (ArgRow w3 (some ⟨g1, 0, none⟩) n1 n1 3 (wires l1)) := (R12.out.below (w' := w2.alloc _) (by (repeat' (first | (with_reducible exact Below.refl _ _) | (with_reducible assumption) | (with_reducible refine balloc ?_ _) | (with_reducible refine Below.drew ?_) | (with_reducible refine below_drewN ?_ _) | (with_reducible refine bset ?_ ?_ _) | (with_reducible refine bstep ?_ (by assumption)) | go_size)))).below hb3
    have R23 : Hid (ArgRow w3 (some ⟨g2, 0, none⟩) n2 n2 3 (wires l2)) := (R2.out.below (w' := w2.alloc _) (by (repeat' (first | (with_reducible exact Below.refl _ _) | (with_reducible assumption) | (with_reducible refine balloc ?_ _) | (with_reducible refine Below.drew ?_) | (with_reducible refine below_drewN ?_ _) | (with_reducible refine bset ?_ ?_ _) | (with_reducible refine bstep ?_ (by assumption)) | go_size)))).below hb3
    go_upto_region 14 with fail
    go_cut [39] (fun s39 wq => s39 = .bool false ∧ Hid (Below w3.heap.size w3 wq))
    case first =>
      go_region_with (first
        | (go_at_call 43; ((with_reducible refine (toNet N1 E1 S1 a1 n1 c1 l1 _ (HR1.out.below (by first | exact B3.out | exact B3.out.drew | exact below_drewN B3.out _)) HL1.out hn1').mono ?_); rintro e w6 ⟨g6, rfl, o6, hb6⟩); (try (replace hb6 := bdrew hb6)); have R6 := Lib.hid (ArgRow.own o6); have R16 := Lib.hid (R13.out.below hb6); clear o6; (try (have hq_ := bltn hb6 (b := w.heap.size) (by (first | omega | (simp only [World.size_alloc, World.size_setCell, World.size_drew, World.heap_drewN]; omega))); obtain ⟨uu, vv, zz, nn, mm⟩ := hq_)); (try (have hq_ := bltn hb6 (b := w.heap.size + 1) (by (first | omega | (simp only [World.size_alloc, World.size_setCell, World.size_drew, World.heap_drewN]; omega))); obtain ⟨uu, vv, zz, nn, mm⟩ := hq_)); (try (have hq_ := bltn hb6 (b := w1.heap.size) (by (first | omega | (simp only [World.size_alloc, World.size_setCell, World.size_drew, World.heap_drewN]; omega))); obtain ⟨uu, vv, zz, nn, mm⟩ := hq_)); (try (have hq_ := bltn hb6 (b := w2.heap.size) (by (first | omega | (simp only [World.size_alloc, World.size_setCell, World.size_drew, World.heap_drewN]; omega))); obtain ⟨uu, vv, zz, nn, mm⟩ := hq_)))
        | (go_at_call 45; ((with_reducible refine (eqNet N1 E1 S1 (some ⟨g1, 0, none⟩) (some ⟨g6, 0, none⟩) n1 n1 n1 l1 _ (by exact R16.out) (by exact R6.out) HL1.out).mono ?_); rintro e w7 ⟨rfl, hb7⟩); (try (replace hb7 := bdrew hb7))))
      all_goals
        go_wp2_with fail
        go_meet
        exact ⟨rfl, bstep hb6 hb7⟩
    case rest =>
      obtain ⟨rfl, HQ⟩ := hcut
      have hq := Hid.out HQ
      obtain ⟨uu4, vv4, zz4, nn4, mm4⟩ := bltn hq (b := w.heap.size) (by (first | omega | (simp only [World.size_alloc, World.size_setCell, World.size_drew, World.heap_drewN]; omega)))
      obtain ⟨uv4, vw4, zy4, no4, mo4⟩ := bltn hq (b := w.heap.size + 1) (by (first | omega | (simp only [World.size_alloc, World.size_setCell, World.size_drew, World.heap_drewN]; omega)))
      obtain ⟨ux4, vy4, zw4, nq4, mq4⟩ := bltn hq (b := w2.heap.size) (by (first | omega | (simp only [World.size_alloc, World.size_setCell, World.size_drew, World.heap_drewN]; omega)))
      have B4 := Lib.hid (bstep B3.out hq)
      have R24 := Lib.hid (R23.out.below hq)
      clear HQ hq
      go_wp2_with fail
      go_region_with (first
        | (go_at_call 43; ((with_reducible refine (toNet N2 E2 S2 a2 n2 c2 l2 _ (HR2.out.below (by first | exact B4.out | exact B4.out.drew | exact below_drewN B4.out _)) HL2.out hn2').mono ?_); rintro e w8 ⟨g8, rfl, o8, hb8⟩); (try (replace hb8 := bdrew hb8)); have R8 := Lib.hid (ArgRow.own o8); have R28 := Lib.hid (R24.out.below hb8); clear o8; (try (have hq_ := bltn hb8 (b := w.heap.size) (by (first | omega | (simp only [World.size_alloc, World.size_setCell, World.size_drew, World.heap_drewN]; omega))); obtain ⟨uu, vv, zz, nn, mm⟩ := hq_)); (try (have hq_ := bltn hb8 (b := w.heap.size + 1) (by (first | omega | (simp only [World.size_alloc, World.size_setCell, World.size_drew, World.heap_drewN]; omega))); obtain ⟨uu, vv, zz, nn, mm⟩ := hq_)); (try (have hq_ := bltn hb8 (b := w2.heap.size) (by (first | omega | (simp only [World.size_alloc, World.size_setCell, World.size_drew, World.heap_drewN]; omega))); obtain ⟨uu, vv, zz, nn, mm⟩ := hq_)))
        | (go_at_call 45; ((with_reducible refine (eqNet N2 E2 S2 (some ⟨g2, 0, none⟩) (some ⟨g8, 0, none⟩) n2 n2 n2 l2 _ (by exact R28.out) (by exact R8.out) HL2.out).mono ?_); rintro e w9 ⟨rfl, hb9⟩); (try (replace hb9 := bdrew hb9))))
      all_goals
        go_wp2_with fail
        go_ret
        exact ⟨rfl, bstep (bstep B4.out hb8) hb9⟩
end Go.Proofs.Ytdmiihljepkapaa
