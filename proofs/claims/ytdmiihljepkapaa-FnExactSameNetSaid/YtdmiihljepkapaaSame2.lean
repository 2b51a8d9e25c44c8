/- SameNet of the reference. -/
import Derived.Test.YtdmiihljepkapaaSame
namespace Go.Proofs.Ytdmiihljepkapaa
set_option linter.unusedSimpArgs false
set_option linter.unusedVariables false
open Go.RowKit

set_option maxRecDepth 100000 in
set_option maxHeartbeats 8000000 in
theorem specSameNet (N1 E1 S1 N2 E2 S2 : Int) (a1 a2 : Option Addr) (n1 c1 n2 c2 : Nat) (l1 l2 : List Wz) (w : World) (r1 : ArgRow w a1 n1 c1 3 (wires l1)) (r2 : ArgRow w a2 n2 c2 3 (wires l2)) (hl1 : l1.length = n1) (hl2 : l2.length = n2) :
    Calls Try.prog 46 #[netV N1 E1 S1 a1 n1 c1, netV N2 E2 S2 a2 n2 c2] w fun e w' => e = .returned (.bool (sameB N1 E1 S1 l1 N2 E2 S2 l2)) ∧ Below w.heap.size w w' := by
  have hn := r1.le
  have hn2 := r2.le
  unfold maxLen at hn hn2
  by_cases q1 : N1 = N2
  rotate_left
  · have hq : (N1 != N2) = true := by simp [q1]
    have hv : sameB N1 E1 S1 l1 N2 E2 S2 l2 = false := by simp [sameB, q1]
    have HV := Lib.hid hv
    clear q1 hv
    go_enter Try.func46, Try.ntmps46
    go_wp2_with fail
    go_ret
    exact ⟨by rw [HV.out]; rfl, by (repeat' (first | (with_reducible exact Below.refl _ _) | (with_reducible assumption) | (with_reducible refine balloc ?_ _) | (with_reducible refine Below.drew ?_) | (with_reducible refine below_drewN ?_ _) | (with_reducible refine bset ?_ ?_ _) | (with_reducible refine bstep ?_ (by assumption)) | go_size))⟩
  subst q1
  by_cases q2 : E1 = E2
  rotate_left
  · have hq : (E1 != E2) = true := by simp [q2]
    have hv : sameB N1 E1 S1 l1 N1 E2 S2 l2 = false := by simp [sameB, q2]
    have HV := Lib.hid hv
    clear q2 hv
    go_enter Try.func46, Try.ntmps46
    go_wp2_with fail
    go_ret
    exact ⟨by rw [HV.out]; rfl, by (repeat' (first | (with_reducible exact Below.refl _ _) | (with_reducible assumption) | (with_reducible refine balloc ?_ _) | (with_reducible refine Below.drew ?_) | (with_reducible refine below_drewN ?_ _) | (with_reducible refine bset ?_ ?_ _) | (with_reducible refine bstep ?_ (by assumption)) | go_size))⟩
  subst q2
  by_cases q3 : S1 = S2
  rotate_left
  · have hq : (S1 != S2) = true := by simp [q3]
    have hv : sameB N1 E1 S1 l1 N1 E1 S2 l2 = false := by simp [sameB, q3]
    have HV := Lib.hid hv
    clear q3 hv
    go_enter Try.func46, Try.ntmps46
    go_wp2_with fail
    go_ret
    exact ⟨by rw [HV.out]; rfl, by (repeat' (first | (with_reducible exact Below.refl _ _) | (with_reducible assumption) | (with_reducible refine balloc ?_ _) | (with_reducible refine Below.drew ?_) | (with_reducible refine below_drewN ?_ _) | (with_reducible refine bset ?_ ?_ _) | (with_reducible refine bstep ?_ (by assumption)) | go_size))⟩
  subst q3
  have hs : sameB N1 E1 S1 l1 N1 E1 S1 l2 = decide (l1 = l2) := by simp [sameB]
  rw [hs]
  clear hs
  by_cases hne : n1 = n2
  · subst hne
    by_cases h0 : n1 = 0
    · subst h0
      have e1 := List.length_eq_zero_iff.1 hl1
      have e2 := List.length_eq_zero_iff.1 hl2
      subst e1 e2
      clear r1 r2
      go_enter Try.func46, Try.ntmps46
      go_wp2_with fail
      go_rounds 1
      go_ret
      exact ⟨rfl, by (repeat' (first | (with_reducible exact Below.refl _ _) | (with_reducible assumption) | (with_reducible refine balloc ?_ _) | (with_reducible refine Below.drew ?_) | (with_reducible refine below_drewN ?_ _) | (with_reducible refine bset ?_ ?_ _) | (with_reducible refine bstep ?_ (by assumption)) | go_size))⟩
    · obtain ⟨b1, o1, rfl, hb1, _⟩ := r1.form (by omega)
      obtain ⟨b2, o2, rfl, hb2, _⟩ := r2.form (by omega)
      have R1 := Lib.hid r1
      have R2 := Lib.hid r2
      have HL1 := Lib.hid hl1
      have HL2 := Lib.hid hl2
      clear r1 r2 hl1 hl2
      go_enter Try.func46, Try.ntmps46
      go_wp2_with fail
      go_loopw [5, 6, 38] (fun _ _ v wr => ∃ k : Nat, k ≤ n1 ∧ v = .int .i64 k ∧ Hid (l1.take k = l2.take k) ∧ Hid (Below (w.heap.size + 1 + 1) ((w.alloc (.cells #[.int .i64 N1, .int .i64 E1, .int .i64 S1, .slice (some ⟨b1, o1, none⟩) n1 c1] 25)).alloc (.cells #[.int .i64 N1, .int .i64 E1, .int .i64 S1, .slice (some ⟨b2, o2, none⟩) n1 c2] 25)) wr)) (fun _ _ v _ => n1 - (intOf v).toNat)
      case atStart => exact ⟨0, by omega, rfl, by simp [Hid], Below.refl _ _⟩
      case round =>
        obtain ⟨k, hk, rfl, HT, HB⟩ := hrel
        have hz : w.heap.size + 1 + 1 ≤ wr.heap.size := by have := HB.out.size; simpa using this
        have u1 (o : Nat) : wr.cell? ⟨w.heap.size + 1, o, none⟩ = ((w.alloc (.cells #[.int .i64 N1, .int .i64 E1, .int .i64 S1, .slice (some ⟨b1, o1, none⟩) n1 c1] 25)).alloc (.cells #[.int .i64 N1, .int .i64 E1, .int .i64 S1, .slice (some ⟨b2, o2, none⟩) n1 c2] 25)).cell? ⟨w.heap.size + 1, o, none⟩ :=
          HB.out.cell (p := ⟨w.heap.size + 1, o, none⟩) (by show w.heap.size + 1 < _; omega)
        have hz1 : w.heap.size + 1 < wr.heap.size := by omega
        have hz2 : ¬ w.heap.size + 1 = wr.heap.size := by omega
        have hz3 : ¬ wr.heap.size = w.heap.size + 1 := by omega
        have hB : Below w.heap.size w wr := (balloc (balloc (Below.refl _ _) _) _).trans (HB.out.mono (by omega))
        by_cases hlt : k < n1
        · have hk1 : k < l1.length := by rw [HL1.out]; exact hlt
          have hk2 : k < l2.length := by rw [HL2.out]; exact hlt
          obtain ⟨p0, p1, p2⟩ := wire_cells R1.out k hk1
          obtain ⟨q0, q1, q2⟩ := wire_cells R2.out k hk2
          rw [← hB.cell (p := ⟨b1, _, none⟩) hb1] at p0 p1 p2
          rw [← hB.cell (p := ⟨b2, _, none⟩) hb2] at q0 q1 q2
          have hb1' : b1 < wr.heap.size := by omega
          have hb2' : b2 < wr.heap.size := by omega
          have hb3' : ¬ b2 = wr.heap.size := by omega
          have hb4' : ¬ wr.heap.size = b2 := by omega
          have hd : ¬ l1[k] = l2[k] → Hid (decide (l1 = l2) = false) := by
            intro he
            show _ = _
            apply decide_eq_false; intro h; subst h; exact he rfl
          have HS : l1[k] = l2[k] → Hid (l1.take (k + 1) = l2.take (k + 1)) := fun he => take_same hk1 hk2 HT.out he
          generalize l1[k] = x at p0 p1 p2 hd HS
          generalize l2[k] = y at q0 q1 q2 hd HS
          obtain ⟨x0, x1, x2⟩ := x
          obtain ⟨y0, y1, y2⟩ := y
          clear hk1 hk2
          have hq : (x0 = y0 ∧ x1 = y1 ∧ x2 = y2) ∨ ((x0 == y0) = false) ∨ (x0 = y0 ∧ (x1 == y1) = false) ∨ (x0 = y0 ∧ x1 = y1 ∧ (x2 == y2) = false) := by
            by_cases h0 : x0 = y0
            · by_cases h1 : x1 = y1
              · by_cases h2 : x2 = y2
                · exact .inl ⟨h0, h1, h2⟩
                · exact .inr (.inr (.inr ⟨h0, h1, by simp [h2]⟩))
              · exact .inr (.inr (.inl ⟨h0, by simp [h1]⟩))
            · exact .inr (.inl (by simp [h0]))
          have HB' := Lib.hid hB
          clear hB
          rcases hq with ⟨rfl, rfl, rfl⟩ | hq | ⟨rfl, hq⟩ | ⟨rfl, rfl, hq⟩
          · have HS2 := HS rfl
            clear hd HS
            go_wp2_with fail
            go_quiet (fail)
            go_wp2_with fail
            go_roundw
            case rel => exact ⟨k + 1, by omega, by go_num, HS2.out, below_drewN (HB.out.alloc hz _) _⟩
            case measure => simp [intOf]; omega
          all_goals
            have hd := hd (by intro h; simp at h; simp [h] at hq)
            clear HS
            go_wp2_with fail
            go_quiet (fail)
            go_wp2_with fail
            go_ret
            exact ⟨by rw [hd.out]; rfl, below_drewN (balloc HB'.out _) _⟩
        · go_wp2_with fail
          go_ret
          obtain rfl : k = n1 := by omega
          have := HT.out
          rw [List.take_of_length_le (by rw [HL1.out]; omega), List.take_of_length_le (by rw [HL2.out]; omega)] at this
          exact ⟨by rw [decide_eq_true this]; rfl, hB⟩
  · have hd : Hid (decide (l1 = l2) = false) := by
      show _ = _
      apply decide_eq_false; intro h; subst h; exact hne (hl1.symm.trans hl2)
    clear r1 r2
    go_enter Try.func46, Try.ntmps46
    go_wp2_with fail
    go_ret
    exact ⟨by rw [hd.out]; rfl, by (repeat' (first | (with_reducible exact Below.refl _ _) | (with_reducible assumption) | (with_reducible refine balloc ?_ _) | (with_reducible refine Below.drew ?_) | (with_reducible refine below_drewN ?_ _) | (with_reducible refine bset ?_ ?_ _) | (with_reducible refine bstep ?_ (by assumption)) | go_size))⟩
end Go.Proofs.Ytdmiihljepkapaa
