/- IsName of the program and of the reference answer one Bool. -/
import Derived.Test.YtjchindjoailbaaBase
import Derived.Test.YtjchindjoailbaaIsDigits
namespace Go.Proofs.Ytjchindjoailbaa
set_option linter.unusedSimpArgs false
set_option linter.unusedVariables false
open Go.RowKit

theorem inRangeN (n lo hi : Int) (w : World) (b : Bool) (h : b = true ↔ lo ≤ n ∧ n ≤ hi) :
    Calls Try.prog 113 #[.int .i64 n, .int .i64 lo, .int .i64 hi] w fun e w' => e = .returned (.bool b) ∧ w = w' := by
  have H := Lib.hid h
  clear h
  by_cases h1 : lo ≤ n
  · by_cases h2 : n ≤ hi
    · go_enter Try.func113, Try.ntmps113
      go_wp2_with fail
      go_ret
      exact ⟨ret_bool (H.out.2 ⟨h1, h2⟩).symm, rfl⟩
    · have hb : b = false := by have := H.out; cases b <;> simp_all <;> omega
      have Hb := Lib.hid hb
      clear hb
      go_enter Try.func113, Try.ntmps113
      go_wp2_with fail
      go_ret
      exact ⟨ret_bool Hb.out.symm, rfl⟩
  · have hb : b = false := by have := H.out; cases b <;> simp_all <;> omega
    have Hb := Lib.hid hb
    clear hb
    go_enter Try.func113, Try.ntmps113
    go_wp2_with fail
    go_ret
    exact ⟨ret_bool Hb.out.symm, rfl⟩

def okAt (i c : Nat) : Prop := (97 ≤ c ∧ c ≤ 122) ∨ (i ≠ 0 ∧ 48 ≤ c ∧ c ≤ 57)
def GoodTo (s : ByteArray) (k : Nat) : Prop := ∀ i, i < k → (h : i < s.size) → okAt i s[i].toNat
def Good (s : ByteArray) : Prop := (1 ≤ s.size ∧ s.size ≤ 8) ∧ GoodTo s s.size

theorem good_zero (s : ByteArray) : GoodTo s 0 := fun i hi => by omega
theorem good_succ {s : ByteArray} {k : Nat} (h : GoodTo s k) (hk : k < s.size) (ho : okAt k s[k].toNat) : GoodTo s (k + 1) := by
  intro i hi hs
  by_cases e : i = k
  · subst e; exact ho
  · exact h i (by omega) hs
theorem not_good {s : ByteArray} {k : Nat} (hk : k < s.size) (ho : ¬ okAt k s[k].toNat) {b : Bool} (hb : b = true ↔ Good s) : b = false := by
  cases b with
  | false => rfl
  | true => exact absurd ((hb.1 rfl).2 k hk hk) ho

set_option maxHeartbeats 1000000 in
theorem implIsName (s : ByteArray) (w : World) (hs : s.size ≤ maxLen) (b : Bool) (hb : b = true ↔ Good s) :
    Calls Try.prog 40 #[.string s] w fun e w' => e = .returned (.bool b) ∧ w = w' := by
  unfold maxLen at hs
  have HB := Lib.hid hb
  clear hb
  by_cases z1 : s.size < 1
  · have HN : Hid (b = false) := by
      cases b with
      | false => exact rfl
      | true => have := (HB.out.1 rfl).1; omega
    go_enter Try.func40, Try.ntmps40
    go_wp2_with fail
    go_ret
    exact ⟨ret_bool HN.out.symm, rfl⟩
  by_cases z2 : 8 < s.size
  · have HN : Hid (b = false) := by
      cases b with
      | false => exact rfl
      | true => have := (HB.out.1 rfl).1; omega
    go_enter Try.func40, Try.ntmps40
    go_wp2_with fail
    go_ret
    exact ⟨ret_bool HN.out.symm, rfl⟩
  have z0 : 0 < s.size := by omega
  by_cases z3 : s[0].toNat < 97
  · have HN := Lib.hid (not_good z0 (by unfold okAt; omega) HB.out)
    go_enter Try.func40, Try.ntmps40
    go_wp2_with fail
    go_ret
    exact ⟨ret_bool HN.out.symm, rfl⟩
  by_cases z4 : 122 < s[0].toNat
  · have HN := Lib.hid (not_good z0 (by unfold okAt; omega) HB.out)
    go_enter Try.func40, Try.ntmps40
    go_wp2_with fail
    go_ret
    exact ⟨ret_bool HN.out.symm, rfl⟩
  go_enter Try.func40, Try.ntmps40
  go_wp2_with fail
  go_loop [24] (fun i => ∃ k : Nat, k ≤ s.size ∧ i = .int .i64 k ∧ Hid (GoodTo s k)) (fun i => s.size - (intOf i).toNat)
  case atStart => exact ⟨0, Nat.zero_le _, rfl, good_zero s⟩
  case round =>
    obtain ⟨k, hk, rfl, H⟩ := hrel
    have H0 : Hid (97 ≤ s[0].toNat ∧ s[0].toNat ≤ 122) := ⟨by omega, by omega⟩
    clear z3 z4
    by_cases hlt : k < s.size
    · by_cases h1 : 97 ≤ s[k].toNat
      · by_cases h2 : s[k].toNat ≤ 122
        · go_wp2_with fail
          go_round
          case rel => exact ⟨k + 1, by omega, by go_num, good_succ H.out hlt (Or.inl ⟨h1, h2⟩)⟩
          case measure => simp [intOf]; omega
        · have HN := Lib.hid (not_good hlt (by unfold okAt; omega) HB.out)
          go_wp2_with fail
          all_goals go_ret
          all_goals exact ⟨ret_bool HN.out.symm, rfl⟩
      · by_cases h3 : 48 ≤ s[k].toNat
        · by_cases h4 : s[k].toNat ≤ 57
          · have h0 : k ≠ 0 := by rintro rfl; have := H0.out; omega
            go_wp2_with fail
            go_round
            case rel => exact ⟨k + 1, by omega, by go_num, good_succ H.out hlt (Or.inr ⟨h0, h3, h4⟩)⟩
            case measure => simp [intOf]; omega
          · have HN := Lib.hid (not_good hlt (by unfold okAt; omega) HB.out)
            go_wp2_with fail
            all_goals go_ret
            all_goals exact ⟨ret_bool HN.out.symm, rfl⟩
        · have HN := Lib.hid (not_good hlt (by unfold okAt; omega) HB.out)
          go_wp2_with fail
          all_goals go_ret
          all_goals exact ⟨ret_bool HN.out.symm, rfl⟩
    · obtain rfl : k = s.size := by omega
      have HN : Hid (b = true) := HB.out.2 ⟨by omega, H.out⟩
      go_wp2_with fail
      go_ret
      exact ⟨ret_bool HN.out.symm, rfl⟩


end Go.Proofs.Ytjchindjoailbaa
