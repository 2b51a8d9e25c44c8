/- WeightAt: the weights at a node. -/
import Derived.Test.YtdmiihljepkapaaNets
namespace Go.Proofs.Ytdmiihljepkapaa
set_option linter.unusedSimpArgs false
set_option linter.unusedVariables false
open Go.RowKit

set_option maxHeartbeats 1000000 in
theorem eqNet (N E S : Int) (a1 a2 : Option Addr) (n c1 c2 : Nat) (l : List Wz) (w : World) (r1 : ArgRow w a1 n c1 3 (wires l)) (r2 : ArgRow w a2 n c2 3 (wires l)) (hl : l.length = n) :
    Calls Try.prog 45 #[netV N E S a1 n c1, netV N E S a2 n c2] w fun e w' => e = .returned (.bool true) ∧ Below w.heap.size w w' := by
  go_enter Try.func45, Try.ntmps45
  go_wp2_with fail
  refine (eqWires a1 a2 n c1 c2 l _ (r1.below (by (repeat' (first | (with_reducible exact Below.refl _ _) | (with_reducible assumption) | (with_reducible refine balloc ?_ _) | (with_reducible refine Below.drew ?_) | (with_reducible refine below_drewN ?_ _) | (with_reducible refine bset ?_ ?_ _) | (with_reducible refine bstep ?_ (by assumption)) | go_size)))) (r2.below (by (repeat' (first | (with_reducible exact Below.refl _ _) | (with_reducible assumption) | (with_reducible refine balloc ?_ _) | (with_reducible refine Below.drew ?_) | (with_reducible refine below_drewN ?_ _) | (with_reducible refine bset ?_ ?_ _) | (with_reducible refine bstep ?_ (by assumption)) | go_size)))) hl).mono ?_
  rintro e wx ⟨rfl, hbx⟩
  obtain ⟨hcx, hfx⟩ := bcell hbx
  have hzx := bsize hbx
  go_wp2_with fail
  go_ret
  exact ⟨rfl, by (repeat' (first | (with_reducible exact Below.refl _ _) | (with_reducible assumption) | (with_reducible refine balloc ?_ _) | (with_reducible refine Below.drew ?_) | (with_reducible refine below_drewN ?_ _) | (with_reducible refine bset ?_ ?_ _) | (with_reducible refine bstep ?_ (by assumption)) | go_size))⟩

/-- the sum of the weights at v, as far as the machine holds it -/
def atStep (v s : Int) (x : Wz) : Int := if x.1 = v ∨ x.2.1 = v then wrap64 (s + x.2.2) else s
def atSum (l : List Wz) (v : Int) : Int := l.foldl (atStep v) 0
theorem at_take (l : List Wz) (v : Int) (k : Nat) (h : k < l.length) : atSum (l.take (k + 1)) v = atStep v (atSum (l.take k) v) l[k] := by
  unfold atSum; rw [List.take_succ_eq_append_getElem h, List.foldl_append]; rfl
theorem atStep_yes {v s : Int} {x : Wz} (h : x.1 = v ∨ x.2.1 = v) : atStep v s x = wrap64 (s + x.2.2) := if_pos h
theorem atStep_no {v s : Int} {x : Wz} (h1 : ¬ x.1 = v) (h2 : ¬ x.2.1 = v) : atStep v s x = s := if_neg (by simp [h1, h2])

set_option maxHeartbeats 4000000 in
theorem implWeightAt (N E S : Int) (a : Option Addr) (n c : Nat) (l : List Wz) (v : Int) (w : World) (hr : ArgRow w a n c 3 (wires l)) (hl : l.length = n) :
    Calls Try.prog 44 #[netV N E S a n c, .int .i64 v] w fun e w' => e = .returned (.int .i64 (atSum l v)) ∧ Below w.heap.size w w' := by
  have hn := hr.le
  unfold maxLen at hn
  by_cases h0 : n = 0
  · subst h0
    have hnil := List.length_eq_zero_iff.1 hl
    subst hnil
    clear hr
    go_enter Try.func44, Try.ntmps44
    go_wp2_with fail
    go_rounds 1
    go_ret
    exact ⟨rfl, by (repeat' (first | (with_reducible exact Below.refl _ _) | (with_reducible assumption) | (with_reducible refine balloc ?_ _) | (with_reducible refine Below.drew ?_) | (with_reducible refine below_drewN ?_ _) | (with_reducible refine bset ?_ ?_ _) | (with_reducible refine bstep ?_ (by assumption)) | go_size))⟩
  · obtain ⟨b, o, rfl, hb, _⟩ := hr.form (by omega)
    have HR := Lib.hid hr
    have HL := Lib.hid hl
    clear hr hl
    go_enter Try.func44, Try.ntmps44
    go_wp2_with fail
    go_loopw [5, 11] (fun s u wr => ∃ k : Nat, k ≤ n ∧ u = .int .i64 k ∧ s = .int .i64 (atSum (l.take k) v) ∧ Hid (Below w.heap.size w wr)) (fun _ u _ => n - (intOf u).toNat)
    case atStart => exact ⟨0, by omega, rfl, rfl, by show Below _ _ _; (repeat' (first | (with_reducible exact Below.refl _ _) | (with_reducible assumption) | (with_reducible refine balloc ?_ _) | (with_reducible refine Below.drew ?_) | (with_reducible refine below_drewN ?_ _) | (with_reducible refine bset ?_ ?_ _) | (with_reducible refine bstep ?_ (by assumption)) | go_size))⟩
    case round =>
      obtain ⟨k, hk, rfl, rfl, HB⟩ := hrel
      by_cases hlt : k < n
      · have hli : k < l.length := by rw [HL.out]; exact hlt
        obtain ⟨p0, p1, p2⟩ := wire_cells HR.out k hli
        have hbl : b < wr.heap.size := Nat.lt_of_lt_of_le hb HB.out.size
        rw [← HB.out.cell (p := ⟨b, _, none⟩) hb] at p0 p1 p2
        have HT := Lib.hid (at_take l v k hli)
        generalize l[k] = x at p0 p1 p2 HT
        obtain ⟨x0, x1, x2⟩ := x
        generalize atSum (l.take k) v = s0 at HT
        clear hli
        by_cases q0 : x0 = v
        · have HE := Lib.hid (atStep_yes (s := s0) (x := (x0, x1, x2)) (.inl q0))
          subst q0
          go_wp2_with fail
          go_roundw
          case rel => exact ⟨k + 1, by omega, by go_num, by rw [HT.out, HE.out], by show Below _ _ _; exact balloc HB.out _⟩
          case measure => simp [intOf]; omega
        · by_cases q1 : x1 = v
          · have HE := Lib.hid (atStep_yes (s := s0) (x := (x0, x1, x2)) (.inr q1))
            have HQ : (x0 == v) = false := by simp [q0]
            subst q1
            go_wp2_with fail
            go_roundw
            case rel => exact ⟨k + 1, by omega, by go_num, by rw [HT.out, HE.out], by show Below _ _ _; exact balloc HB.out _⟩
            case measure => simp [intOf]; omega
          · have HE := Lib.hid (atStep_no (s := s0) (x := (x0, x1, x2)) q0 q1)
            have HQ : (x0 == v) = false := by simp [q0]
            have HQ1 : (x1 == v) = false := by simp [q1]
            clear q0 q1
            go_wp2_with fail
            go_roundw
            case rel => exact ⟨k + 1, by omega, by go_num, by rw [HT.out, HE.out], by show Below _ _ _; exact balloc HB.out _⟩
            case measure => simp [intOf]; omega
      · obtain rfl : k = n := by omega
        go_wp2_with fail
        go_ret
        exact ⟨by rw [List.take_of_length_le (by rw [HL.out]; omega)]; rfl, HB.out⟩

set_option maxHeartbeats 4000000 in
theorem specWeightAt (N E S : Int) (a : Option Addr) (n c : Nat) (l : List Wz) (v : Int) (w : World) (hr : ArgRow w a n c 3 (wires l)) (hl : l.length = n) :
    Calls Try.prog 42 #[netV N E S a n c, .int .i64 v] w fun e w' => e = .returned (.int .i64 (atSum l v)) ∧ Below w.heap.size w w' := by
  have hn := hr.le
  unfold maxLen at hn
  by_cases h0 : n = 0
  · subst h0
    have hnil := List.length_eq_zero_iff.1 hl
    subst hnil
    clear hr
    go_enter Try.func42, Try.ntmps42
    go_wp2_with fail
    go_rounds 1
    go_ret
    exact ⟨rfl, by (repeat' (first | (with_reducible exact Below.refl _ _) | (with_reducible assumption) | (with_reducible refine balloc ?_ _) | (with_reducible refine Below.drew ?_) | (with_reducible refine below_drewN ?_ _) | (with_reducible refine bset ?_ ?_ _) | (with_reducible refine bstep ?_ (by assumption)) | go_size))⟩
  · obtain ⟨b, o, rfl, hb, _⟩ := hr.form (by omega)
    have HR := Lib.hid hr
    have HL := Lib.hid hl
    clear hr hl
    go_enter Try.func42, Try.ntmps42
    go_wp2_with fail
    go_loopw [5, 11] (fun s u wr => ∃ k : Nat, k ≤ n ∧ u = .int .i64 k ∧ s = .int .i64 (atSum (l.take k) v) ∧ Hid (Below w.heap.size w wr)) (fun _ u _ => n - (intOf u).toNat)
    case atStart => exact ⟨0, by omega, rfl, rfl, by show Below _ _ _; (repeat' (first | (with_reducible exact Below.refl _ _) | (with_reducible assumption) | (with_reducible refine balloc ?_ _) | (with_reducible refine Below.drew ?_) | (with_reducible refine below_drewN ?_ _) | (with_reducible refine bset ?_ ?_ _) | (with_reducible refine bstep ?_ (by assumption)) | go_size))⟩
    case round =>
      obtain ⟨k, hk, rfl, rfl, HB⟩ := hrel
      by_cases hlt : k < n
      · have hli : k < l.length := by rw [HL.out]; exact hlt
        obtain ⟨p0, p1, p2⟩ := wire_cells HR.out k hli
        have hbl : b < wr.heap.size := Nat.lt_of_lt_of_le hb HB.out.size
        rw [← HB.out.cell (p := ⟨b, _, none⟩) hb] at p0 p1 p2
        have HT := Lib.hid (at_take l v k hli)
        generalize l[k] = x at p0 p1 p2 HT
        obtain ⟨x0, x1, x2⟩ := x
        generalize atSum (l.take k) v = s0 at HT
        clear hli
        by_cases q0 : x0 = v
        · have HE := Lib.hid (atStep_yes (s := s0) (x := (x0, x1, x2)) (.inl q0))
          subst q0
          go_wp2_with fail
          go_roundw
          case rel => exact ⟨k + 1, by omega, by go_num, by rw [HT.out, HE.out], by show Below _ _ _; exact balloc HB.out _⟩
          case measure => simp [intOf]; omega
        · by_cases q1 : x1 = v
          · have HE := Lib.hid (atStep_yes (s := s0) (x := (x0, x1, x2)) (.inr q1))
            have HQ : (x0 == v) = false := by simp [q0]
            subst q1
            go_wp2_with fail
            go_roundw
            case rel => exact ⟨k + 1, by omega, by go_num, by rw [HT.out, HE.out], by show Below _ _ _; exact balloc HB.out _⟩
            case measure => simp [intOf]; omega
          · have HE := Lib.hid (atStep_no (s := s0) (x := (x0, x1, x2)) q0 q1)
            have HQ : (x0 == v) = false := by simp [q0]
            have HQ1 : (x1 == v) = false := by simp [q1]
            clear q0 q1
            go_wp2_with fail
            go_roundw
            case rel => exact ⟨k + 1, by omega, by go_num, by rw [HT.out, HE.out], by show Below _ _ _; exact balloc HB.out _⟩
            case measure => simp [intOf]; omega
      · obtain rfl : k = n := by omega
        go_wp2_with fail
        go_ret
        exact ⟨by rw [List.take_of_length_le (by rw [HL.out]; omega)]; rfl, HB.out⟩

end Go.Proofs.Ytdmiihljepkapaa
