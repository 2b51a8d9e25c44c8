/- SameNet: two networks with the same numbers and wires. -/
import Derived.Test.YtjchindjoailbaaG01
import Derived.Test.YtjchindjoailbaaG26
import Derived.Test.YtjchindjoailbaaG14
import Derived.WalkKit
import Derived.ProofKit
import Derived.OpenShut
import Derived.ShutString
import Derived.ChangeOld
import Derived.Below
import Derived.Lib.SmallJoins
namespace Go.Proofs.Ytjchindjoailbaa
set_option linter.unusedSimpArgs false
set_option linter.unusedVariables false
open Go.RowKit

theorem take_same {l1 l2 : List Wz} {k : Nat} (h1 : k < l1.length) (h2 : k < l2.length) (h : l1.take k = l2.take k) (e : l1[k] = l2[k]) : l1.take (k + 1) = l2.take (k + 1) := by
  rw [List.take_succ_eq_append_getElem h1, List.take_succ_eq_append_getElem h2, h, e]

set_option maxHeartbeats 2000000 in
theorem equalWires (a1 a2 : Option Addr) (n1 c1 n2 c2 : Nat) (l1 l2 : List Wz) (w : World) (r1 : ArgRow w a1 n1 c1 3 (wires l1)) (r2 : ArgRow w a2 n2 c2 3 (wires l2)) (hl1 : l1.length = n1) (hl2 : l2.length = n2) :
    Calls Try.prog 103 #[.slice a1 n1 c1, .slice a2 n2 c2] w fun e w' => e = .returned (.bool (decide (l1 = l2))) ∧ Below w.heap.size w w' := by
  have hn := r1.le
  have hn2 := r2.le
  unfold maxLen at hn hn2
  by_cases hne : n1 = n2
  · subst hne
    by_cases h0 : n1 = 0
    · subst h0
      have e1 := List.length_eq_zero_iff.1 hl1
      have e2 := List.length_eq_zero_iff.1 hl2
      subst e1 e2
      clear r1 r2
      go_enter Try.func103, Try.ntmps103
      go_wp2_with fail
      go_rounds 1
      go_ret
      exact ⟨rfl, Below.refl _ _⟩
    · obtain ⟨b1, o1, rfl, hb1, _⟩ := r1.form (by omega)
      obtain ⟨b2, o2, rfl, hb2, _⟩ := r2.form (by omega)
      have R1 := Lib.hid r1
      have R2 := Lib.hid r2
      have HL1 := Lib.hid hl1
      have HL2 := Lib.hid hl2
      clear r1 r2 hl1 hl2
      go_enter Try.func103, Try.ntmps103
      go_wp2_with fail
      go_loopw [5, 13] (fun _ v wr => ∃ k : Nat, k ≤ n1 ∧ v = .int .i64 k ∧ Hid (l1.take k = l2.take k) ∧ ∃ n, wr = w.drewN n) (fun _ v _ => n1 - (intOf v).toNat)
      case atStart => exact ⟨0, by omega, rfl, by simp [Hid], 0, rfl⟩
      case round =>
        obtain ⟨k, hk, rfl, HT, m, rfl⟩ := hrel
        by_cases hlt : k < n1
        · have hk1 : k < l1.length := by rw [HL1.out]; exact hlt
          have hk2 : k < l2.length := by rw [HL2.out]; exact hlt
          obtain ⟨p0, p1, p2⟩ := wire_cells R1.out k hk1
          obtain ⟨q0, q1, q2⟩ := wire_cells R2.out k hk2
          by_cases he : l1[k] = l2[k]
          · have HT2 := Lib.hid (take_same hk1 hk2 HT.out he)
            rw [← he] at q0 q1 q2
            generalize l1[k] = x at p0 p1 p2 q0 q1 q2
            obtain ⟨x0, x1, x2⟩ := x
            clear hk1 hk2 he
            go_wp2_with fail
            go_quiet (fail)
            go_wp2_with fail
            go_roundw
            case rel => exact ⟨k + 1, by omega, by go_num, HT2.out, _, rfl⟩
            case measure => simp [intOf]; omega
          · have hd : Hid (decide (l1 = l2) = false) := by
              show _ = _
              apply decide_eq_false; intro h; subst h; exact he rfl
            generalize l1[k] = x at p0 p1 p2 he
            generalize l2[k] = y at q0 q1 q2 he
            obtain ⟨x0, x1, x2⟩ := x
            obtain ⟨y0, y1, y2⟩ := y
            clear hk1 hk2
            have hq : ((x0 == y0) = false) ∨ (x0 = y0 ∧ (x1 == y1) = false) ∨ (x0 = y0 ∧ x1 = y1 ∧ (x2 == y2) = false) := by
              by_cases h0 : x0 = y0
              · by_cases h1 : x1 = y1
                · refine .inr (.inr ⟨h0, h1, ?_⟩)
                  simp; intro h2; apply he; rw [h0, h1, h2]
                · exact .inr (.inl ⟨h0, by simp [h1]⟩)
              · exact .inl (by simp [h0])
            clear he
            rcases hq with hq | ⟨rfl, hq⟩ | ⟨rfl, rfl, hq⟩
            all_goals
              go_wp2_with fail
              go_quiet (fail)
              go_wp2_with fail
              go_ret
              exact ⟨by rw [hd.out]; rfl, below_drewN (below_drewN (Below.refl _ _) _) _⟩
        · go_wp2_with fail
          go_ret
          obtain rfl : k = n1 := by omega
          have := HT.out
          rw [List.take_of_length_le (by rw [HL1.out]; omega), List.take_of_length_le (by rw [HL2.out]; omega)] at this
          exact ⟨by rw [decide_eq_true this]; rfl, below_drewN (Below.refl _ _) _⟩
  · have hd : Hid (decide (l1 = l2) = false) := by
      show _ = _
      apply decide_eq_false; intro h; subst h; exact hne (hl1.symm.trans hl2)
    clear r1 r2
    go_enter Try.func103, Try.ntmps103
    go_wp2_with fail
    go_ret
    exact ⟨by rw [hd.out]; rfl, Below.refl _ _⟩
/-- the two networks are one -/
def sameB (N1 E1 S1 : Int) (l1 : List Wz) (N2 E2 S2 : Int) (l2 : List Wz) : Bool := (N1 == N2) && (E1 == E2) && (S1 == S2) && decide (l1 = l2)

set_option maxHeartbeats 4000000 in
theorem implSameNet (N1 E1 S1 N2 E2 S2 : Int) (a1 a2 : Option Addr) (n1 c1 n2 c2 : Nat) (l1 l2 : List Wz) (w : World) (r1 : ArgRow w a1 n1 c1 3 (wires l1)) (r2 : ArgRow w a2 n2 c2 3 (wires l2)) (hl1 : l1.length = n1) (hl2 : l2.length = n2) :
    Calls Try.prog 53 #[netV N1 E1 S1 a1 n1 c1, netV N2 E2 S2 a2 n2 c2] w fun e w' => e = .returned (.bool (sameB N1 E1 S1 l1 N2 E2 S2 l2)) ∧ Below w.heap.size w w' := by
  unfold sameB
  cases q1 : (N1 == N2)
  · go_enter Try.func53, Try.ntmps53
    go_wp2_with fail
    go_ret
    exact ⟨rfl, by (repeat' (first | (with_reducible exact Below.refl _ _) | (with_reducible assumption) | (with_reducible refine balloc ?_ _) | (with_reducible refine Below.drew ?_) | (with_reducible refine below_drewN ?_ _) | (with_reducible refine bset ?_ ?_ _) | (with_reducible refine bstep ?_ (by assumption)) | go_size))⟩
  cases q2 : (E1 == E2)
  · go_enter Try.func53, Try.ntmps53
    go_wp2_with fail
    go_ret
    exact ⟨rfl, by (repeat' (first | (with_reducible exact Below.refl _ _) | (with_reducible assumption) | (with_reducible refine balloc ?_ _) | (with_reducible refine Below.drew ?_) | (with_reducible refine below_drewN ?_ _) | (with_reducible refine bset ?_ ?_ _) | (with_reducible refine bstep ?_ (by assumption)) | go_size))⟩
  cases q3 : (S1 == S2)
  · go_enter Try.func53, Try.ntmps53
    go_wp2_with fail
    go_ret
    exact ⟨rfl, by (repeat' (first | (with_reducible exact Below.refl _ _) | (with_reducible assumption) | (with_reducible refine balloc ?_ _) | (with_reducible refine Below.drew ?_) | (with_reducible refine below_drewN ?_ _) | (with_reducible refine bset ?_ ?_ _) | (with_reducible refine bstep ?_ (by assumption)) | go_size))⟩
  go_enter Try.func53, Try.ntmps53
  go_wp2_with fail
  refine (equalWires a1 a2 n1 c1 n2 c2 l1 l2 _ (r1.below (by (repeat' (first | (with_reducible exact Below.refl _ _) | (with_reducible assumption) | (with_reducible refine balloc ?_ _) | (with_reducible refine Below.drew ?_) | (with_reducible refine below_drewN ?_ _) | (with_reducible refine bset ?_ ?_ _) | (with_reducible refine bstep ?_ (by assumption)) | go_size)))) (r2.below (by (repeat' (first | (with_reducible exact Below.refl _ _) | (with_reducible assumption) | (with_reducible refine balloc ?_ _) | (with_reducible refine Below.drew ?_) | (with_reducible refine below_drewN ?_ _) | (with_reducible refine bset ?_ ?_ _) | (with_reducible refine bstep ?_ (by assumption)) | go_size)))) hl1 hl2).mono ?_
  rintro e wx ⟨rfl, hbx⟩
  go_wp2_with fail
  go_ret
  exact ⟨by simp, bstep (by (repeat' (first | (with_reducible exact Below.refl _ _) | (with_reducible assumption) | (with_reducible refine balloc ?_ _) | (with_reducible refine Below.drew ?_) | (with_reducible refine below_drewN ?_ _) | (with_reducible refine bset ?_ ?_ _) | (with_reducible refine bstep ?_ (by assumption)) | go_size))) hbx⟩
end Go.Proofs.Ytjchindjoailbaa

/- SameNet of the reference. -/
namespace Go.Proofs.Ytjchindjoailbaa
set_option linter.unusedSimpArgs false
set_option linter.unusedVariables false
open Go.RowKit

end Go.Proofs.Ytjchindjoailbaa

/- SameNet: the law's walk. -/
namespace Go.Proofs.Ytjchindjoailbaa
set_option linter.unusedSimpArgs false
set_option linter.unusedVariables false
open Go.RowKit

theorem szNetK (N E S : Int) (a : Option Addr) (n c k : Nat) (w : World) (hn : n ≤ maxLen) (hk : k ≤ 1048576) :
    Calls Try.prog 42 #[netV N E S a n c, .int .i64 k] w fun e w' => (e = .returned (.int .i64 (if k < n then -1 else (k : Int) - n))) ∧ Below w.heap.size w w' := by
  have K := Lib.hid (fun w => szWires a n c k w hn hk)
  unfold maxLen at hn
  by_cases h : k < n
  · rw [if_pos h] at K ⊢
    go_enter Try.func42, Try.ntmps42
    go_wp2_with fail
    refine (K.out _).mono ?_
    rintro e w' ⟨rfl, rfl⟩
    go_wp2_with fail
    go_ret
    exact ⟨rfl, by (repeat' (first | (with_reducible exact Below.refl _ _) | (with_reducible assumption) | (with_reducible refine balloc ?_ _) | (with_reducible refine Below.drew ?_) | (with_reducible refine below_drewN ?_ _) | (with_reducible refine bset ?_ ?_ _) | (with_reducible refine bstep ?_ (by assumption)) | go_size))⟩
  · rw [if_neg h] at K ⊢
    go_enter Try.func42, Try.ntmps42
    go_wp2_with fail
    refine (K.out _).mono ?_
    rintro e w' ⟨rfl, rfl⟩
    go_wp2_with fail
    go_ret
    exact ⟨rfl, by (repeat' (first | (with_reducible exact Below.refl _ _) | (with_reducible assumption) | (with_reducible refine balloc ?_ _) | (with_reducible refine Below.drew ?_) | (with_reducible refine below_drewN ?_ _) | (with_reducible refine bset ?_ ?_ _) | (with_reducible refine bstep ?_ (by assumption)) | go_size))⟩

end Go.Proofs.Ytjchindjoailbaa

/- AreAlike: the law's walk. -/
namespace Go.Proofs.Ytjchindjoailbaa
set_option linter.unusedSimpArgs false
set_option linter.unusedVariables false
open Go.RowKit

set_option maxRecDepth 100000 in
set_option maxHeartbeats 8000000 in
theorem walk_FnExactAreAlike (N1 E1 S1 : Int) (a1 : Option Addr) (n1 c1 : Nat) (l1 : List Wz) (N2 E2 S2 : Int) (a2 : Option Addr) (n2 c2 : Nat) (l2 : List Wz) (w : World) (ha1 : NetArg w N1 E1 S1 a1 n1 c1 l1) (ha2 : NetArg w N2 E2 S2 a2 n2 c2 l2) :
    Calls Try.prog 11 #[netV N1 E1 S1 a1 n1 c1, netV N2 E2 S2 a2 n2 c2] w fun e w' => e = .returned (.bool true) ∧ Below w.heap.size w w' := by
  have hn1 := ha1.row.le
  have hn2 := ha2.row.le
  have K1 := fun w => szNet N1 E1 S1 a1 n1 c1 w hn1
  by_cases hb : 1048576 < n1
  · simp only [if_pos hb] at K1
    have K1 := Lib.hid K1
    go_enter Try.func11, Try.ntmps11
    go_wp2_with fail
    refine (K1.out _).mono ?_
    rintro e wx ⟨rfl, hbx⟩
    obtain ⟨hcx, hfx⟩ := bcell hbx
    have hzx := bsize hbx
    go_wp2_with fail
    go_ret
    exact ⟨rfl, by (repeat' (first | (with_reducible exact Below.refl _ _) | (with_reducible assumption) | (with_reducible refine balloc ?_ _) | (with_reducible refine Below.drew ?_) | (with_reducible refine below_drewN ?_ _) | (with_reducible refine bset ?_ ?_ _) | (with_reducible refine bstep ?_ (by assumption)) | go_size))⟩
  simp only [if_neg hb] at K1
  obtain ⟨k, hk⟩ : ∃ k : Nat, (1048576 : Int) - n1 = k := ⟨1048576 - n1, by omega⟩
  simp only [hk] at K1
  have K1 := Lib.hid K1
  have K2 := fun w => szNetK N2 E2 S2 a2 n2 c2 k w hn2 (by omega)
  by_cases hb2 : k < n2
  · simp only [if_pos hb2] at K2
    have K2 := Lib.hid K2
    go_enter Try.func11, Try.ntmps11
    go_wp2_with fail
    refine (K1.out _).mono ?_
    rintro e wx ⟨rfl, hbx⟩
    have zqx_0 := blt hbx (b := w.heap.size) (by (first | omega | (simp only [World.size_alloc, World.size_setCell, World.size_drew, World.heap_drewN]; omega)))
    obtain ⟨uqx_0, vqx_0, zzx_0⟩ := zqx_0
    have zqx_1 := blt hbx (b := w.heap.size + 1) (by (first | omega | (simp only [World.size_alloc, World.size_setCell, World.size_drew, World.heap_drewN]; omega)))
    obtain ⟨uqx_1, vqx_1, zzx_1⟩ := zqx_1
    go_wp2_with fail
    refine (K2.out _).mono ?_
    rintro e wy ⟨rfl, hby⟩
    have zqy_0 := blt hby (b := w.heap.size) (by (first | omega | (simp only [World.size_alloc, World.size_setCell, World.size_drew, World.heap_drewN]; omega)))
    obtain ⟨uqy_0, vqy_0, zzy_0⟩ := zqy_0
    have zqy_1 := blt hby (b := w.heap.size + 1) (by (first | omega | (simp only [World.size_alloc, World.size_setCell, World.size_drew, World.heap_drewN]; omega)))
    obtain ⟨uqy_1, vqy_1, zzy_1⟩ := zqy_1
    go_wp2_with fail
    go_ret
    exact ⟨rfl, by (repeat' (first | (with_reducible exact Below.refl _ _) | (with_reducible assumption) | (with_reducible refine balloc ?_ _) | (with_reducible refine Below.drew ?_) | (with_reducible refine below_drewN ?_ _) | (with_reducible refine bset ?_ ?_ _) | (with_reducible refine bstep ?_ (by assumption)) | go_size))⟩
  simp only [if_neg hb2] at K2
  have K2 := Lib.hid K2
  have HR1 := Lib.hid ha1.row
  have HL1 := Lib.hid ha1.len
  have HR2 := Lib.hid ha2.row
  have HL2 := Lib.hid ha2.len
  have hn1' : n1 ≤ 1048576 := by omega
  have hn2' : n2 ≤ 1048576 := by omega
  have hk2 : n2 ≤ k := by omega
  clear ha1 ha2 hn1 hn2 hb hb2 hk
  go_enter Try.func11, Try.ntmps11
  go_wp2_with fail
  refine (K1.out _).mono ?_
  rintro e wx ⟨rfl, hbx⟩
  have zqx_0 := blt hbx (b := w.heap.size) (by (first | omega | (simp only [World.size_alloc, World.size_setCell, World.size_drew, World.heap_drewN]; omega)))
  obtain ⟨uqx_0, vqx_0, zzx_0⟩ := zqx_0
  have zqx_1 := blt hbx (b := w.heap.size + 1) (by (first | omega | (simp only [World.size_alloc, World.size_setCell, World.size_drew, World.heap_drewN]; omega)))
  obtain ⟨uqx_1, vqx_1, zzx_1⟩ := zqx_1
  go_wp2_with fail
  refine (K2.out _).mono ?_
  rintro e wy ⟨rfl, hby⟩
  have zqy_0 := blt hby (b := w.heap.size) (by (first | omega | (simp only [World.size_alloc, World.size_setCell, World.size_drew, World.heap_drewN]; omega)))
  obtain ⟨uqy_0, vqy_0, zzy_0⟩ := zqy_0
  have zqy_1 := blt hby (b := w.heap.size + 1) (by (first | omega | (simp only [World.size_alloc, World.size_setCell, World.size_drew, World.heap_drewN]; omega)))
  obtain ⟨uqy_1, vqy_1, zzy_1⟩ := zqy_1
  obtain ⟨B, hBB⟩ := bool_of (Alike N1 E1 S1 l1 N2 E2 S2 l2)
  have HBB := Lib.hid hBB
  clear hBB
  have KI := Lib.hid (fun (w : World) (g1 g2 : Nat) r1 r2 => implAreAlike N1 E1 S1 (some ⟨g1, 0, none⟩) n1 n1 l1 N2 E2 S2 (some ⟨g2, 0, none⟩) n2 n2 l2 B HBB.out w r1 HL1.out r2 HL2.out)
  have KS := Lib.hid (fun (w : World) (g1 g2 : Nat) r1 r2 => specAreAlike N1 E1 S1 (some ⟨g1, 0, none⟩) n1 n1 l1 N2 E2 S2 (some ⟨g2, 0, none⟩) n2 n2 l2 B HBB.out w r1 HL1.out r2 HL2.out)
  clear HBB
  go_upto_region 8 with fail
  go_cut [6] (fun s6 wc => s6 = .bool B ∧ Hid (Below (w.heap.size + 1 + 1) ((w.alloc (.cells #[.int .i64 N1, .int .i64 E1, .int .i64 S1, .slice a1 n1 c1] 60)).alloc (.cells #[.int .i64 N2, .int .i64 E2, .int .i64 S2, .slice a2 n2 c2] 60)) wc))
  case first =>
    go_region_with (first
      | (go_at_call_of 45 N1; ((with_reducible refine (toNet N1 E1 S1 a1 n1 c1 l1 _ (HR1.out.below (by (repeat' (first | (with_reducible exact Below.refl _ _) | (with_reducible assumption) | (with_reducible refine balloc ?_ _) | (with_reducible refine Below.drew ?_) | (with_reducible refine below_drewN ?_ _) | (with_reducible refine bset ?_ ?_ _) | (with_reducible refine bstep ?_ (by assumption)) | go_size)))) HL1.out hn1').mono ?_); rintro e wa ⟨ga, rfl, oa, hba⟩); (try (replace hba := bdrew hba)); have RA := Lib.hid (ArgRow.own oa); clear oa; (try (have hq_ := bltn hba (b := w.heap.size) (by (first | omega | (simp only [World.size_alloc, World.size_setCell, World.size_drew, World.heap_drewN]; omega))); obtain ⟨uu, vv, zz, nn, mm⟩ := hq_)); (try (have hq_ := bltn hba (b := w.heap.size + 1) (by (first | omega | (simp only [World.size_alloc, World.size_setCell, World.size_drew, World.heap_drewN]; omega))); obtain ⟨uu, vv, zz, nn, mm⟩ := hq_)))
      | (go_at_call_of 45 N2; ((with_reducible refine (toNet N2 E2 S2 a2 n2 c2 l2 _ (HR2.out.below (by (repeat' (first | (with_reducible exact Below.refl _ _) | (with_reducible assumption) | (with_reducible refine balloc ?_ _) | (with_reducible refine Below.drew ?_) | (with_reducible refine below_drewN ?_ _) | (with_reducible refine bset ?_ ?_ _) | (with_reducible refine bstep ?_ (by assumption)) | go_size)))) HL2.out hn2').mono ?_); rintro e wb ⟨gb, rfl, ob, hbb⟩); (try (replace hbb := bdrew hbb)); have RB := Lib.hid (ArgRow.own ob); clear ob; (try (have hq_ := bltn hbb (b := w.heap.size) (by (first | omega | (simp only [World.size_alloc, World.size_setCell, World.size_drew, World.heap_drewN]; omega))); obtain ⟨uu, vv, zz, nn, mm⟩ := hq_)); (try (have hq_ := bltn hbb (b := w.heap.size + 1) (by (first | omega | (simp only [World.size_alloc, World.size_setCell, World.size_drew, World.heap_drewN]; omega))); obtain ⟨uu, vv, zz, nn, mm⟩ := hq_)))
      | (go_at_call 63; ((with_reducible refine (KS.out _ ga gb (by first | exact RA.out | exact RA.out.below hbb) (by first | exact RB.out | exact RB.out.below hba)).mono ?_); rintro e wd ⟨rfl, hbd⟩); (try (replace hbd := bdrew hbd))))
    all_goals
      go_wp2_with fail
      go_meet
      first
        | (have q := bstep (bstep (bstep (bstep hbx hby) hba) hbb) hbd
           simp only [World.size_alloc] at q
           exact ⟨rfl, q⟩)
        | (have q := bstep (bstep (bstep (bstep hbx hby) hbb) hba) hbd
           simp only [World.size_alloc] at q
           exact ⟨rfl, q⟩)
  case rest =>
    obtain ⟨rfl, HB⟩ := hcut
    have hz : w.heap.size + 1 + 1 ≤ wc.heap.size := by have := HB.out.size; simpa using this
    have B0 : Hid (Below w.heap.size w wc) := (balloc (balloc (Below.refl _ _) _) _).trans (HB.out.mono (by omega))
    have u0 (o : Nat) : wc.cell? ⟨w.heap.size, o, none⟩ = ((w.alloc (.cells #[.int .i64 N1, .int .i64 E1, .int .i64 S1, .slice a1 n1 c1] 60)).alloc (.cells #[.int .i64 N2, .int .i64 E2, .int .i64 S2, .slice a2 n2 c2] 60)).cell? ⟨w.heap.size, o, none⟩ :=
      HB.out.cell (p := ⟨w.heap.size, o, none⟩) (by show w.heap.size < _; omega)
    have u1 (o : Nat) : wc.cell? ⟨w.heap.size + 1, o, none⟩ = ((w.alloc (.cells #[.int .i64 N1, .int .i64 E1, .int .i64 S1, .slice a1 n1 c1] 60)).alloc (.cells #[.int .i64 N2, .int .i64 E2, .int .i64 S2, .slice a2 n2 c2] 60)).cell? ⟨w.heap.size + 1, o, none⟩ :=
      HB.out.cell (p := ⟨w.heap.size + 1, o, none⟩) (by show w.heap.size + 1 < _; omega)
    go_wp2_with fail
    refine (toNet N1 E1 S1 a1 n1 c1 l1 _ (HR1.out.below B0.out) HL1.out hn1').mono ?_
    rintro e w1 ⟨g1, rfl, o1, hb1⟩
    have R1 := Lib.hid (ArgRow.own o1)
    clear o1
    obtain ⟨uu1, vv1, zz1, nn1, mm1⟩ := bltn hb1 (b := w.heap.size) (by omega)
    obtain ⟨uv1, vw1, zy1, no1, mo1⟩ := bltn hb1 (b := w.heap.size + 1) (by omega)
    have B1 : Hid (Below w.heap.size w w1) := bstep B0.out hb1
    go_wp2_with fail
    refine (toNet N2 E2 S2 a2 n2 c2 l2 _ (HR2.out.below (balloc B1.out _)) HL2.out hn2').mono ?_
    rintro e w2 ⟨g2, rfl, o2, hb2⟩
    have R2 := Lib.hid (ArgRow.own o2)
    clear o2
    obtain ⟨uu2, vv2, zz2, nn2, mm2⟩ := bltn hb2 (b := w.heap.size) (by (first | omega | (simp only [World.size_alloc, World.size_setCell, World.size_drew, World.heap_drewN]; omega)))
    obtain ⟨uv2, vw2, zy2, no2, mo2⟩ := bltn hb2 (b := w.heap.size + 1) (by (first | omega | (simp only [World.size_alloc, World.size_setCell, World.size_drew, World.heap_drewN]; omega)))
    obtain ⟨uw2, vx2, zx2, np2, mp2⟩ := bltn hb2 (b := w1.heap.size) (by (first | omega | (simp only [World.size_alloc, World.size_setCell, World.size_drew, World.heap_drewN]; omega)))
    have B2 : Hid (Below w.heap.size w w2) := bstep (balloc B1.out _) hb2
    have R12 : Hid (ArgRow w2 (some ⟨g1, 0, none⟩) n1 n1 3 (wires l1)) := (R1.out.below (w' := w1.alloc _) (by (repeat' (first | (with_reducible exact Below.refl _ _) | (with_reducible assumption) | (with_reducible refine balloc ?_ _) | (with_reducible refine Below.drew ?_) | (with_reducible refine below_drewN ?_ _) | (with_reducible refine bset ?_ ?_ _) | (with_reducible refine bstep ?_ (by assumption)) | go_size)))).below hb2
    go_wp2_with fail
    refine (KI.out _ g1 g2 (R12.out.below (by (repeat' (first | (with_reducible exact Below.refl _ _) | (with_reducible assumption) | (with_reducible refine balloc ?_ _) | (with_reducible refine Below.drew ?_) | (with_reducible refine below_drewN ?_ _) | (with_reducible refine bset ?_ ?_ _) | (with_reducible refine bstep ?_ (by assumption)) | go_size)))) (R2.out.below (by (repeat' (first | (with_reducible exact Below.refl _ _) | (with_reducible assumption) | (with_reducible refine balloc ?_ _) | (with_reducible refine Below.drew ?_) | (with_reducible refine below_drewN ?_ _) | (with_reducible refine bset ?_ ?_ _) | (with_reducible refine bstep ?_ (by assumption)) | go_size))))).mono ?_
    rintro e w3 ⟨rfl, hb3⟩
    obtain ⟨uu3, vv3, zz3, nn3, mm3⟩ := bltn hb3 (b := w.heap.size) (by (first | omega | (simp only [World.size_alloc, World.size_setCell, World.size_drew, World.heap_drewN]; omega)))
    obtain ⟨uv3, vw3, zy3, no3, mo3⟩ := bltn hb3 (b := w.heap.size + 1) (by (first | omega | (simp only [World.size_alloc, World.size_setCell, World.size_drew, World.heap_drewN]; omega)))
    obtain ⟨uw3, vx3, zx3, np3, mp3⟩ := bltn hb3 (b := w1.heap.size) (by (first | omega | (simp only [World.size_alloc, World.size_setCell, World.size_drew, World.heap_drewN]; omega)))
    obtain ⟨ux3, vy3, zw3, nq3, mq3⟩ := bltn hb3 (b := w2.heap.size) (by (first | omega | (simp only [World.size_alloc, World.size_setCell, World.size_drew, World.heap_drewN]; omega)))
    have B3 : Hid (Below w.heap.size w w3) := bstep (balloc B2.out _) hb3
    have R13 : Hid (ArgRow w3 (some ⟨g1, 0, none⟩) n1 n1 3 (wires l1)) := (R12.out.below (w' := w2.alloc _) (by (repeat' (first | (with_reducible exact Below.refl _ _) | (with_reducible assumption) | (with_reducible refine balloc ?_ _) | (with_reducible refine Below.drew ?_) | (with_reducible refine below_drewN ?_ _) | (with_reducible refine bset ?_ ?_ _) | (with_reducible refine bstep ?_ (by assumption)) | go_size)))).below hb3
    have R23 : Hid (ArgRow w3 (some ⟨g2, 0, none⟩) n2 n2 3 (wires l2)) := (R2.out.below (w' := w2.alloc _) (by (repeat' (first | (with_reducible exact Below.refl _ _) | (with_reducible assumption) | (with_reducible refine balloc ?_ _) | (with_reducible refine Below.drew ?_) | (with_reducible refine below_drewN ?_ _) | (with_reducible refine bset ?_ ?_ _) | (with_reducible refine bstep ?_ (by assumption)) | go_size)))).below hb3
    go_upto_region 14 with fail
    go_cut [39] (fun s39 wq => s39 = .bool false ∧ Hid (Below w3.heap.size w3 wq))
    case first =>
      go_region_with (first
        | (go_at_call 45; ((with_reducible refine (toNet N1 E1 S1 a1 n1 c1 l1 _ (HR1.out.below (by first | exact B3.out | exact B3.out.drew | exact below_drewN B3.out _)) HL1.out hn1').mono ?_); rintro e w6 ⟨g6, rfl, o6, hb6⟩); (try (replace hb6 := bdrew hb6)); have R6 := Lib.hid (ArgRow.own o6); have R16 := Lib.hid (R13.out.below hb6); clear o6; (try (have hq_ := bltn hb6 (b := w.heap.size) (by (first | omega | (simp only [World.size_alloc, World.size_setCell, World.size_drew, World.heap_drewN]; omega))); obtain ⟨uu, vv, zz, nn, mm⟩ := hq_)); (try (have hq_ := bltn hb6 (b := w.heap.size + 1) (by (first | omega | (simp only [World.size_alloc, World.size_setCell, World.size_drew, World.heap_drewN]; omega))); obtain ⟨uu, vv, zz, nn, mm⟩ := hq_)); (try (have hq_ := bltn hb6 (b := w1.heap.size) (by (first | omega | (simp only [World.size_alloc, World.size_setCell, World.size_drew, World.heap_drewN]; omega))); obtain ⟨uu, vv, zz, nn, mm⟩ := hq_)); (try (have hq_ := bltn hb6 (b := w2.heap.size) (by (first | omega | (simp only [World.size_alloc, World.size_setCell, World.size_drew, World.heap_drewN]; omega))); obtain ⟨uu, vv, zz, nn, mm⟩ := hq_)))
        | (go_at_call 48; ((with_reducible refine (eqNet N1 E1 S1 (some ⟨g1, 0, none⟩) (some ⟨g6, 0, none⟩) n1 n1 n1 l1 _ (by exact R16.out) (by exact R6.out) HL1.out).mono ?_); rintro e w7 ⟨rfl, hb7⟩); (try (replace hb7 := bdrew hb7))))
      all_goals
        go_wp2_with fail
        go_meet
        exact ⟨rfl, bstep hb6 hb7⟩
    case rest =>
      obtain ⟨rfl, HQ⟩ := hcut
      have hq := Hid.out HQ
      obtain ⟨uu4, vv4, zz4, nn4, mm4⟩ := bltn hq (b := w.heap.size) (by (first | omega | (simp only [World.size_alloc, World.size_setCell, World.size_drew, World.heap_drewN]; omega)))
      obtain ⟨uv4, vw4, zy4, no4, mo4⟩ := bltn hq (b := w.heap.size + 1) (by (first | omega | (simp only [World.size_alloc, World.size_setCell, World.size_drew, World.heap_drewN]; omega)))
      obtain ⟨ux4, vy4, zw4, nq4, mq4⟩ := bltn hq (b := w2.heap.size) (by (first | omega | (simp only [World.size_alloc, World.size_setCell, World.size_drew, World.heap_drewN]; omega)))
      have B4 := Lib.hid (bstep B3.out hq)
      have R24 := Lib.hid (R23.out.below hq)
      clear HQ hq
      go_wp2_with fail
      go_region_with (first
        | (go_at_call 45; ((with_reducible refine (toNet N2 E2 S2 a2 n2 c2 l2 _ (HR2.out.below (by first | exact B4.out | exact B4.out.drew | exact below_drewN B4.out _)) HL2.out hn2').mono ?_); rintro e w8 ⟨g8, rfl, o8, hb8⟩); (try (replace hb8 := bdrew hb8)); have R8 := Lib.hid (ArgRow.own o8); have R28 := Lib.hid (R24.out.below hb8); clear o8; (try (have hq_ := bltn hb8 (b := w.heap.size) (by (first | omega | (simp only [World.size_alloc, World.size_setCell, World.size_drew, World.heap_drewN]; omega))); obtain ⟨uu, vv, zz, nn, mm⟩ := hq_)); (try (have hq_ := bltn hb8 (b := w.heap.size + 1) (by (first | omega | (simp only [World.size_alloc, World.size_setCell, World.size_drew, World.heap_drewN]; omega))); obtain ⟨uu, vv, zz, nn, mm⟩ := hq_)); (try (have hq_ := bltn hb8 (b := w2.heap.size) (by (first | omega | (simp only [World.size_alloc, World.size_setCell, World.size_drew, World.heap_drewN]; omega))); obtain ⟨uu, vv, zz, nn, mm⟩ := hq_)))
        | (go_at_call 48; ((with_reducible refine (eqNet N2 E2 S2 (some ⟨g2, 0, none⟩) (some ⟨g8, 0, none⟩) n2 n2 n2 l2 _ (by exact R28.out) (by exact R8.out) HL2.out).mono ?_); rintro e w9 ⟨rfl, hb9⟩); (try (replace hb9 := bdrew hb9))))
      all_goals
        go_wp2_with fail
        go_ret
        exact ⟨rfl, bstep (bstep B4.out hb8) hb9⟩
end Go.Proofs.Ytjchindjoailbaa

/- For every input the program's AreAlike returns what the reference's AreAlike returns: the law FnExactAreAlike answers true and leaves its arguments as they were. -/
namespace Go.Proofs.Ytjchindjoailbaa
set_option linter.unusedSimpArgs false
set_option linter.unusedVariables false
open Go.ChangeShapes Go.WideShapes Go.ChangeAt Go.RowKit
open Go.ChangeMaps (open_string shut_string)
set_option linter.unusedVariables false

set_option maxRecDepth 100000 in
theorem lifted_FnExactAreAlike (os : Os) (started : os.Started) (H : Type) (enc : TypeId × Value → H) :
    ReturnsInHanded {} Try.checked os 11 .any (Rows.fnExactAreAlikeSpec.pre6 enc Try.prog Try.f11 Rows.fnExactAreAlikeRow.domain false) (Rows.fnExactAreAlikeSpec.post enc Try.prog Try.f11 false true false false) := by
  refine returnsInHanded_of_change (C := Try.checked) own started (by kernel_rfl) Try.func11
    (ChangeSpec.witness6 (enc := enc) (C := Try.checked) false ⟨#[], #[.agg #[.int .i64 0, .int .i64 0, .int .i64 0, .slice none 0 0], .agg #[.int .i64 0, .int .i64 0, .int .i64 0, .slice none 0 0]], []⟩ 8 (by kernel_rfl) (by kernel_rfl) (by kernel_rfl) (by kernel_rfl)) ?_
  intro W base args ds gs before hval0 hW hcnd _
  have hval : ∀ (j : Nat) t v, Try.f11.params[j]? = some t → args[j]? = some v → Value.okWide Try.prog W .any base t v := hval0
  have hW' := hW
  obtain ⟨p, q, hA0, hV, rfl, hfz, hnd⟩ := hW
  have hA : DataW.TrodAll enc Try.prog W 0 (fun _ => true) true Try.f11.params.toList args.toList ds p := hA0
  rw [Try.params11] at hA hval
  obtain ⟨v0, vs0, d0, ds0, p0, q0, hargs, rfl, rfl, h0, r0⟩ := trodAll_cons hA
  obtain ⟨v1, vs1, d1, ds1, p1, q1, rfl, rfl, rfl, h1, r1⟩ := trodAll_cons r0
  obtain ⟨rfl, rfl, rfl⟩ := trodAll_nil r1
  obtain rfl : args = #[v0, v1] := by cases args; simp_all
  obtain ⟨rfl, rfl⟩ := trodVars_none hV
  have k0 := h0
  have lt0 : ∀ x ∈ p0, x.block < W.heap.size := by obtain ⟨m, hm⟩ := k0; exact DataW.trod_lt m _ _ _ hm
  obtain ⟨N0, E0, S0, a0, n0, c0, l0, e0a, w0⟩ := open_net (hval 0 60 v0 rfl rfl) h0
  subst e0a
  have k1 := h1
  have lt1 : ∀ x ∈ p1, x.block < W.heap.size := by obtain ⟨m, hm⟩ := k1; exact DataW.trod_lt m _ _ _ hm
  obtain ⟨N1, E1, S1, a1, n1, c1, l1, e1a, w1⟩ := open_net (hval 1 60 v1 rfl rfl) h1
  subst e1a
  clear hA0 hval0
  refine (walk_FnExactAreAlike N0 E0 S0 a0 n0 c0 l0 N1 E1 S1 a1 n1 c1 l1 W w0 w1).mono fun e W' ⟨he, bel⟩ => ?_
  subst he
  exact ⟨_, rfl, _, _, _, [], _, [], hW', trodAll_mk1 (shut_bool Try.underlying4 _), (trodAll_cons_mk (Below.trod laidOut (by kernel_rfl) (of_decide_eq_true (by kernel_rfl)) k0 bel lt0) (trodAll_cons_mk (Below.trod laidOut (by kernel_rfl) (of_decide_eq_true (by kernel_rfl)) k1 bel lt1) trodAll_mk0)), rfl, bel.frame _, fun h => by cases h⟩

set_option maxRecDepth 100000 in
set_option maxHeartbeats 8000000 in
theorem closed_FnExactAreAlike : joinedFacts Try.pinned.checked.prog 11 Try.f11 Rows.fnExactAreAlikeSpec Rows.fnExactAreAlikeRow = true := by
  unfold joinedFacts
  repeat' (with_reducible refine band ?_ ?_)
  all_goals first | (with_reducible exact mayEnter_p) | ((with_reducible refine bmake (finals_p.trans ?_)); rfl) | ((with_reducible refine beq_iff_eq.2 (make_p.trans ?_)); rfl) | (as_aux_lemma => kernel_rfl)

theorem fnExactAreAlike_holds : Rows.FnExactAreAlikeSaid :=
  OpenClaim.holds_of_wide 11 Try.f11 rfl rfl rfl rfl rfl rfl rfl ⟨rfl, rfl, rfl, rfl, rfl⟩ rfl rfl rfl rfl rfl (by kernel_rfl) Try.func11 closed_FnExactAreAlike
    (of_decide_eq_true (by kernel_rfl)) (by unfold Func.isWrapper; first | (rw [if_pos (by decide +kernel)]; kernel_rfl) | (rw [if_neg (by decide +kernel)]; exact ⟨rfl, rfl⟩))
    (fun os started H enc _ => lifted_FnExactAreAlike os started H enc)

end Go.Proofs.Ytjchindjoailbaa
