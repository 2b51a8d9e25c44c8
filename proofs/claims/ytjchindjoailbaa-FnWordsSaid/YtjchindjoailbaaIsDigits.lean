/- IsDigits and IsName of the program and of the reference compute one Bool. -/
import Derived.Test.YtjchindjoailbaaBase
namespace Go.Proofs.Ytjchindjoailbaa
set_option linter.unusedSimpArgs false
set_option linter.unusedVariables false
open Go.RowKit

/-- the byte is a digit -/
def digB (c : UInt8) : Bool := decide (48 ≤ c.toNat) && decide (c.toNat ≤ 57)
def isDig (l : List UInt8) : Bool := l.all digB && !l.isEmpty



theorem digs_snoc (s : ByteArray) (k : Nat) (h : k < s.size) (ha : (s.data.toList.take k).all digB = true) (h1 : 48 ≤ s[k].toNat) (h2 : s[k].toNat ≤ 57) : (s.data.toList.take (k + 1)).all digB = true := by
  rw [take_snoc s k h]; simp_all [digB]
theorem digs_not (s : ByteArray) (k : Nat) (h : k < s.size) (h1 : s[k].toNat < 48 ∨ 57 < s[k].toNat) : isDig s.data.toList = false := by
  have hm : s[k] ∈ s.data.toList := by
    have : s[k] = s.data.toList[k]'(by simpa using h) := rfl
    rw [this]; exact List.getElem_mem _
  have : s.data.toList.all digB = false := by
    rw [List.all_eq_false]; exact ⟨_, hm, by simp [digB]; omega⟩
  simp [isDig, this]
theorem digs_all (s : ByteArray) (ha : (s.data.toList.take s.size).all digB = true) : isDig s.data.toList = !s.data.toList.isEmpty := by
  have : s.data.toList.take s.size = s.data.toList := List.take_of_length_le (by simp)
  rw [this] at ha; simp [isDig, ha]

theorem notEmpty (s : ByteArray) : (!s.data.toList.isEmpty) = decide (0 < s.size) := by
  rw [Bool.eq_iff_iff]
  have : s.data.toList.length = s.size := by simp
  cases hd : s.data.toList with
  | nil => rw [hd] at this; simp at this; simp [← this]
  | cons a l => rw [hd] at this; simp at this; simp; omega
theorem digs_end (s : ByteArray) (k : Nat) (hk : k ≤ s.size) (h : ¬ k < s.size) (H : Hid ((s.data.toList.take k).all digB = true)) : isDig s.data.toList = decide (0 < s.size) := by
  obtain rfl : k = s.size := by omega
  rw [digs_all s H.out]; exact notEmpty s

set_option maxHeartbeats 400000 in
theorem implIsDigits (s : ByteArray) (w : World) (hs : s.size ≤ maxLen) :
    Calls Try.prog 89 #[.string s] w fun e w' => e = .returned (.bool (isDig s.data.toList)) ∧ w = w' := by
  unfold maxLen at hs
  go_enter Try.func89, Try.ntmps89
  go_wp2
  go_loop [6] (fun i => ∃ k : Nat, k ≤ s.size ∧ i = .int .i64 k ∧ Hid ((s.data.toList.take k).all digB = true)) (fun i => s.size - (intOf i).toNat)
  case atStart => exact ⟨0, Nat.zero_le _, rfl, by simp [Hid]⟩
  case round =>
    obtain ⟨k, hk, rfl, H⟩ := hrel
    by_cases hlt : k < s.size
    · by_cases h1 : s[k].toNat < 48
      · go_wp2
        go_ret
        exact ⟨ret_bool (digs_not s k hlt (by omega)).symm, rfl⟩
      · by_cases h2 : 57 < s[k].toNat
        · go_wp2
          go_ret
          exact ⟨ret_bool (digs_not s k hlt (by omega)).symm, rfl⟩
        · go_wp2
          go_round
          case rel => exact ⟨k + 1, by omega, by go_num, digs_snoc s k hlt H.out (by omega) (by omega)⟩
          case measure => simp [intOf]; omega
    · go_wp2
      go_ret
      exact ⟨ret_bool (by rw [digs_end s k hk hlt H, ByteArray.toList_eq]; exact notEmpty s), rfl⟩
end Go.Proofs.Ytjchindjoailbaa
