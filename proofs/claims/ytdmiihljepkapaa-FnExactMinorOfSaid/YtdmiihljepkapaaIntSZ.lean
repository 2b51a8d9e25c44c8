/- A table of numbers in the laws, weighed. -/
import Derived.Test.YtdmiihljepkapaaIntSS
namespace Go.Proofs.Ytdmiihljepkapaa
set_option linter.unusedSimpArgs false
set_option linter.unusedVariables false
open Go.RowKit

set_option maxHeartbeats 2000000 in
theorem szIntSS (a : Option Addr) (n c : Nat) (M : List (List Int)) (w : World) (hM : IGrid w a n c M) :
    Calls Try.prog 55 #[.slice a n c, .int .i64 1048576] w fun e w' => ∃ r : Int, e = .returned (.int .i64 r) ∧ (r < 0 ∨ (0 ≤ r ∧ r ≤ 1048576 ∧ n ≤ 1048576 ∧ ∀ x ∈ M, x.length ≤ 1048576)) ∧ w = w' := by
  have hl := hM.len
  have hn := hM.le
  unfold maxLen at hn
  have HM := Lib.hid hM
  have HL := Lib.hid hl
  clear hM hl
  by_cases hb : 1048576 < n
  · go_enter Try.func55, Try.ntmps55
    go_wp2_with fail
    go_ret
    exact ⟨-1, rfl, .inl (by omega), rfl⟩
  go_enter Try.func55, Try.ntmps55
  go_wp2_with fail
  go_loopw [1, 5] (fun s v wr => ∃ k q : Nat, k ≤ n ∧ q ≤ 1048576 ∧ v = .int .i64 k ∧ s = .int .i64 q ∧ Hid (∀ x ∈ M.take k, x.length ≤ 1048576) ∧ wr = w) (fun _ v _ => n - (intOf v).toNat)
  case atStart => exact ⟨0, 1048576 - n, by omega, by omega, rfl, by go_num, by simp [Hid], rfl⟩
  case round =>
    obtain ⟨k, q, hk, hq, rfl, rfl, HT, rfl⟩ := hrel
    by_cases hlt : k < n
    · obtain ⟨b1, o1, rfl, _⟩ := HM.out.form (by omega)
      have hli : k < M.length := by rw [HL.out]; exact hlt
      obtain ⟨d1, e1, p1, q1⟩ := HM.out.row k hli
      have hml := ArgRow.le q1
      have KS := Lib.hid (fun w => szInts d1 M[k].length e1 q w hml hq)
      have HST : Hid (M[k].length ≤ 1048576 → ∀ x ∈ M.take (k + 1), x.length ≤ 1048576) := by
        intro h x hx
        rw [List.take_succ_eq_append_getElem hli] at hx
        rcases List.mem_append.1 hx with hx | hx
        · exact HT.out x hx
        · simp at hx; subst hx; exact h
      generalize M[k].length = m at p1 KS HST hml
      clear hli q1
      by_cases hqm : q < m
      · simp only [if_pos hqm] at KS
        go_wp2_with fail
        refine (KS.out _).mono ?_
        rintro e w9 ⟨rfl, rfl⟩
        go_wp2_with fail
        go_ret
        exact ⟨-1, rfl, .inl (by omega), rfl⟩
      · simp only [if_neg hqm] at KS
        have HT2 := Lib.hid (HST.out (by omega))
        obtain ⟨q2, hq2⟩ : ∃ q2 : Nat, (q : Int) - m = q2 := ⟨q - m, by omega⟩
        simp only [hq2] at KS
        go_wp2_with fail
        refine (KS.out _).mono ?_
        rintro e w9 ⟨rfl, rfl⟩
        go_wp2_with fail
        go_roundw
        case rel => exact ⟨k + 1, q2, by omega, by omega, by go_num, rfl, HT2.out, by trivial⟩
        case measure => simp [intOf]; omega
    · obtain rfl : k = n := by omega
      go_wp2_with fail
      go_ret
      exact ⟨q, rfl, .inr ⟨by omega, by omega, by omega, by have := HT.out; rw [List.take_of_length_le (by rw [HL.out]; omega)] at this; exact this⟩, rfl⟩
end Go.Proofs.Ytdmiihljepkapaa
