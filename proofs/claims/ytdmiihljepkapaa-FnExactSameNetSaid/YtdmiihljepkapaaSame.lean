/- SameNet: two networks with the same numbers and wires. -/
import Derived.Test.YtdmiihljepkapaaNets
namespace Go.Proofs.Ytdmiihljepkapaa
set_option linter.unusedSimpArgs false
set_option linter.unusedVariables false
open Go.RowKit

theorem take_same {l1 l2 : List Wz} {k : Nat} (h1 : k < l1.length) (h2 : k < l2.length) (h : l1.take k = l2.take k) (e : l1[k] = l2[k]) : l1.take (k + 1) = l2.take (k + 1) := by
  rw [List.take_succ_eq_append_getElem h1, List.take_succ_eq_append_getElem h2, h, e]

set_option maxHeartbeats 2000000 in
theorem equalWires (a1 a2 : Option Addr) (n1 c1 n2 c2 : Nat) (l1 l2 : List Wz) (w : World) (r1 : ArgRow w a1 n1 c1 3 (wires l1)) (r2 : ArgRow w a2 n2 c2 3 (wires l2)) (hl1 : l1.length = n1) (hl2 : l2.length = n2) :
    Calls Try.prog 119 #[.slice a1 n1 c1, .slice a2 n2 c2] w fun e w' => e = .returned (.bool (decide (l1 = l2))) ∧ Below w.heap.size w w' := by
  have hn := r1.le
  have hn2 := r2.le
  unfold maxLen at hn hn2
  by_cases hne : n1 = n2
  · subst hne
    by_cases h0 : n1 = 0
    · subst h0
      have e1 := List.length_eq_zero_iff.1 hl1
      have e2 := List.length_eq_zero_iff.1 hl2
      subst e1 e2
      clear r1 r2
      go_enter Try.func119, Try.ntmps119
      go_wp2_with fail
      go_rounds 1
      go_ret
      exact ⟨rfl, Below.refl _ _⟩
    · obtain ⟨b1, o1, rfl, hb1, _⟩ := r1.form (by omega)
      obtain ⟨b2, o2, rfl, hb2, _⟩ := r2.form (by omega)
      have R1 := Lib.hid r1
      have R2 := Lib.hid r2
      have HL1 := Lib.hid hl1
      have HL2 := Lib.hid hl2
      clear r1 r2 hl1 hl2
      go_enter Try.func119, Try.ntmps119
      go_wp2_with fail
      go_loopw [5, 13] (fun _ v wr => ∃ k : Nat, k ≤ n1 ∧ v = .int .i64 k ∧ Hid (l1.take k = l2.take k) ∧ ∃ n, wr = w.drewN n) (fun _ v _ => n1 - (intOf v).toNat)
      case atStart => exact ⟨0, by omega, rfl, by simp [Hid], 0, rfl⟩
      case round =>
        obtain ⟨k, hk, rfl, HT, m, rfl⟩ := hrel
        by_cases hlt : k < n1
        · have hk1 : k < l1.length := by rw [HL1.out]; exact hlt
          have hk2 : k < l2.length := by rw [HL2.out]; exact hlt
          obtain ⟨p0, p1, p2⟩ := wire_cells R1.out k hk1
          obtain ⟨q0, q1, q2⟩ := wire_cells R2.out k hk2
          by_cases he : l1[k] = l2[k]
          · have HT2 := Lib.hid (take_same hk1 hk2 HT.out he)
            rw [← he] at q0 q1 q2
            generalize l1[k] = x at p0 p1 p2 q0 q1 q2
            obtain ⟨x0, x1, x2⟩ := x
            clear hk1 hk2 he
            go_wp2_with fail
            go_quiet (fail)
            go_wp2_with fail
            go_roundw
            case rel => exact ⟨k + 1, by omega, by go_num, HT2.out, _, rfl⟩
            case measure => simp [intOf]; omega
          · have hd : Hid (decide (l1 = l2) = false) := by
              show _ = _
              apply decide_eq_false; intro h; subst h; exact he rfl
            generalize l1[k] = x at p0 p1 p2 he
            generalize l2[k] = y at q0 q1 q2 he
            obtain ⟨x0, x1, x2⟩ := x
            obtain ⟨y0, y1, y2⟩ := y
            clear hk1 hk2
            have hq : ((x0 == y0) = false) ∨ (x0 = y0 ∧ (x1 == y1) = false) ∨ (x0 = y0 ∧ x1 = y1 ∧ (x2 == y2) = false) := by
              by_cases h0 : x0 = y0
              · by_cases h1 : x1 = y1
                · refine .inr (.inr ⟨h0, h1, ?_⟩)
                  simp; intro h2; apply he; rw [h0, h1, h2]
                · exact .inr (.inl ⟨h0, by simp [h1]⟩)
              · exact .inl (by simp [h0])
            clear he
            rcases hq with hq | ⟨rfl, hq⟩ | ⟨rfl, rfl, hq⟩
            all_goals
              go_wp2_with fail
              go_quiet (fail)
              go_wp2_with fail
              go_ret
              exact ⟨by rw [hd.out]; rfl, below_drewN (below_drewN (Below.refl _ _) _) _⟩
        · go_wp2_with fail
          go_ret
          obtain rfl : k = n1 := by omega
          have := HT.out
          rw [List.take_of_length_le (by rw [HL1.out]; omega), List.take_of_length_le (by rw [HL2.out]; omega)] at this
          exact ⟨by rw [decide_eq_true this]; rfl, below_drewN (Below.refl _ _) _⟩
  · have hd : Hid (decide (l1 = l2) = false) := by
      show _ = _
      apply decide_eq_false; intro h; subst h; exact hne (hl1.symm.trans hl2)
    clear r1 r2
    go_enter Try.func119, Try.ntmps119
    go_wp2_with fail
    go_ret
    exact ⟨by rw [hd.out]; rfl, Below.refl _ _⟩
/-- the two networks are one -/
def sameB (N1 E1 S1 : Int) (l1 : List Wz) (N2 E2 S2 : Int) (l2 : List Wz) : Bool := (N1 == N2) && (E1 == E2) && (S1 == S2) && decide (l1 = l2)

set_option maxHeartbeats 4000000 in
theorem implSameNet (N1 E1 S1 N2 E2 S2 : Int) (a1 a2 : Option Addr) (n1 c1 n2 c2 : Nat) (l1 l2 : List Wz) (w : World) (r1 : ArgRow w a1 n1 c1 3 (wires l1)) (r2 : ArgRow w a2 n2 c2 3 (wires l2)) (hl1 : l1.length = n1) (hl2 : l2.length = n2) :
    Calls Try.prog 47 #[netV N1 E1 S1 a1 n1 c1, netV N2 E2 S2 a2 n2 c2] w fun e w' => e = .returned (.bool (sameB N1 E1 S1 l1 N2 E2 S2 l2)) ∧ Below w.heap.size w w' := by
  unfold sameB
  cases q1 : (N1 == N2)
  · go_enter Try.func47, Try.ntmps47
    go_wp2_with fail
    go_ret
    exact ⟨rfl, by (repeat' (first | (with_reducible exact Below.refl _ _) | (with_reducible assumption) | (with_reducible refine balloc ?_ _) | (with_reducible refine Below.drew ?_) | (with_reducible refine below_drewN ?_ _) | (with_reducible refine bset ?_ ?_ _) | (with_reducible refine bstep ?_ (by assumption)) | go_size))⟩
  cases q2 : (E1 == E2)
  · go_enter Try.func47, Try.ntmps47
    go_wp2_with fail
    go_ret
    exact ⟨rfl, by (repeat' (first | (with_reducible exact Below.refl _ _) | (with_reducible assumption) | (with_reducible refine balloc ?_ _) | (with_reducible refine Below.drew ?_) | (with_reducible refine below_drewN ?_ _) | (with_reducible refine bset ?_ ?_ _) | (with_reducible refine bstep ?_ (by assumption)) | go_size))⟩
  cases q3 : (S1 == S2)
  · go_enter Try.func47, Try.ntmps47
    go_wp2_with fail
    go_ret
    exact ⟨rfl, by (repeat' (first | (with_reducible exact Below.refl _ _) | (with_reducible assumption) | (with_reducible refine balloc ?_ _) | (with_reducible refine Below.drew ?_) | (with_reducible refine below_drewN ?_ _) | (with_reducible refine bset ?_ ?_ _) | (with_reducible refine bstep ?_ (by assumption)) | go_size))⟩
  go_enter Try.func47, Try.ntmps47
  go_wp2_with fail
  refine (equalWires a1 a2 n1 c1 n2 c2 l1 l2 _ (r1.below (by (repeat' (first | (with_reducible exact Below.refl _ _) | (with_reducible assumption) | (with_reducible refine balloc ?_ _) | (with_reducible refine Below.drew ?_) | (with_reducible refine below_drewN ?_ _) | (with_reducible refine bset ?_ ?_ _) | (with_reducible refine bstep ?_ (by assumption)) | go_size)))) (r2.below (by (repeat' (first | (with_reducible exact Below.refl _ _) | (with_reducible assumption) | (with_reducible refine balloc ?_ _) | (with_reducible refine Below.drew ?_) | (with_reducible refine below_drewN ?_ _) | (with_reducible refine bset ?_ ?_ _) | (with_reducible refine bstep ?_ (by assumption)) | go_size)))) hl1 hl2).mono ?_
  rintro e wx ⟨rfl, hbx⟩
  go_wp2_with fail
  go_ret
  exact ⟨by simp, bstep (by (repeat' (first | (with_reducible exact Below.refl _ _) | (with_reducible assumption) | (with_reducible refine balloc ?_ _) | (with_reducible refine Below.drew ?_) | (with_reducible refine below_drewN ?_ _) | (with_reducible refine bset ?_ ?_ _) | (with_reducible refine bstep ?_ (by assumption)) | go_size))) hbx⟩
end Go.Proofs.Ytdmiihljepkapaa
