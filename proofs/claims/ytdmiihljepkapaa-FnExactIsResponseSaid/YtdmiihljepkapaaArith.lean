/- When four products of two fractions fit: the tests of the program and of the reference. -/
import Derived.Test.YtdmiihljepkapaaRatioOf
namespace Go.Proofs.Ytdmiihljepkapaa
set_option linter.unusedSimpArgs false
set_option linter.unusedVariables false
open Go.RowKit

/-- the product of two numbers is at most MaxNum -/
def fitsZ (a b : Int) : Prop := a = 0 ∨ b = 0 ∨ a.natAbs ≤ 1000000000000000000 / b.natAbs

theorem fits_mul {a b : Int} (h : fitsZ a b) : -1000000000000000000 ≤ a * b ∧ a * b ≤ 1000000000000000000 := by
  rcases h with h | h | h
  · subst h; simp
  · subst h; simp
  · have h1 : a.natAbs * b.natAbs ≤ 1000000000000000000 := by
      by_cases hb : b.natAbs = 0
      · rw [hb]; simp
      · exact (Nat.le_div_iff_mul_le (by omega)).1 h
    have := Int.natAbs_mul a b
    omega

theorem fits_comm {a b : Int} (h : fitsZ a b) : fitsZ b a := by
  by_cases ha : a = 0
  · exact .inr (.inl ha)
  by_cases hb : b = 0
  · exact .inl hb
  rcases h with h | h | h
  · exact absurd h ha
  · exact absurd h hb
  · exact .inr (.inr ((Nat.le_div_iff_mul_le (by omega)).2 (by rw [Nat.mul_comm]; exact (Nat.le_div_iff_mul_le (by omega)).1 h)))

set_option maxHeartbeats 400000 in
theorem implFits (a b : Int) (w : World) (ha1 : -1000000000000000000 ≤ a) (ha2 : a ≤ 1000000000000000000) (hb1 : -1000000000000000000 ≤ b) (hb2 : b ≤ 1000000000000000000)
    (f : Bool) (hf : f = true ↔ fitsZ a b) :
    Calls Try.prog 165 #[.int .i64 a, .int .i64 b] w fun e w' => e = .returned (.bool f) ∧ w = w' := by
  have HF := Lib.hid hf
  clear hf
  by_cases h1 : a = 0
  · have HT : Hid (f = true) := HF.out.2 (.inl h1)
    subst h1
    go_enter Try.func165, Try.ntmps165
    go_wp2_with fail
    go_ret
    exact ⟨ret_bool HT.out.symm, rfl⟩
  have h1' : (a == 0) = false := by simp [h1]
  by_cases h2 : b = 0
  · have HT : Hid (f = true) := HF.out.2 (.inr (.inl h2))
    subst h2
    go_enter Try.func165, Try.ntmps165
    go_wp2_with fail
    go_ret
    exact ⟨ret_bool HT.out.symm, rfl⟩
  have h2' : (b == 0) = false := by simp [h2]
  have h2'' : ((b.natAbs : Int) == 0) = false := by simp; omega
  obtain ⟨q, hq⟩ : ∃ q : Nat, 1000000000000000000 / b.natAbs = q := ⟨_, rfl⟩
  have hq' : (1000000000000000000 : Int) / (b.natAbs : Int) = (q : Int) := by rw [← hq]; rfl
  have hql : q ≤ 1000000000000000000 := by rw [← hq]; exact Nat.div_le_self _ _
  by_cases h3 : a.natAbs ≤ q
  · have HT : Hid (f = true) := HF.out.2 (.inr (.inr (by rw [hq]; exact h3)))
    clear hq h1
    go_enter Try.func165, Try.ntmps165
    go_wp2_with fail
    refine (implSize a _ (by omega) (by omega)).mono ?_
    rintro e w' ⟨rfl, rfl⟩
    go_wp2_with fail
    refine (implSize b _ (by omega) (by omega)).mono ?_
    rintro e w' ⟨rfl, rfl⟩
    go_wp2_with fail
    go_ret
    exact ⟨ret_bool HT.out.symm, rfl⟩
  · have HT : Hid (f = false) := bfalse HF.out (by unfold fitsZ; rw [hq]; omega)
    clear hq h1
    go_enter Try.func165, Try.ntmps165
    go_wp2_with fail
    refine (implSize a _ (by omega) (by omega)).mono ?_
    rintro e w' ⟨rfl, rfl⟩
    go_wp2_with fail
    refine (implSize b _ (by omega) (by omega)).mono ?_
    rintro e w' ⟨rfl, rfl⟩
    go_wp2_with fail
    go_ret
    exact ⟨ret_bool HT.out.symm, rfl⟩

/-- x, or 0 where it does not fit -/
def pz (f : Bool) (x : Int) : Int := if f = true then x else 0
theorem pz_true (x : Int) : pz true x = x := rfl
theorem pz_false (x : Int) : pz false x = 0 := rfl

set_option maxHeartbeats 1000000 in
theorem specProduct (a b : Int) (w : World) (ha1 : -1000000000000000000 ≤ a) (ha2 : a ≤ 1000000000000000000) (hb1 : -1000000000000000000 ≤ b) (hb2 : b ≤ 1000000000000000000)
    (f : Bool) (hf : f = true ↔ fitsZ a b) :
    Calls Try.prog 192 #[.int .i64 a, .int .i64 b] w fun e w' => e = .returned (.tuple #[.int .i64 (pz f (a * b)), .bool f]) ∧ w = w' := by
  have HF := Lib.hid hf
  clear hf
  by_cases h1 : a = 0
  · obtain rfl : f = true := HF.out.2 (.inl h1)
    subst h1
    go_enter Try.func192, Try.ntmps192
    go_wp2_with fail
    go_ret2
    exact ⟨ret_val (by simp [pz_true, pz_false]), rfl⟩
  have h1' : (a == 0) = false := by simp [h1]
  by_cases h2 : b = 0
  · obtain rfl : f = true := HF.out.2 (.inr (.inl h2))
    subst h2
    go_enter Try.func192, Try.ntmps192
    go_wp2_with fail
    go_ret2
    exact ⟨ret_val (by simp [pz_true, pz_false]), rfl⟩
  have h2' : (b == 0) = false := by simp [h2]
  obtain ⟨q, hq⟩ : ∃ q : Nat, 1000000000000000000 / b.natAbs = q := ⟨_, rfl⟩
  have hql : q ≤ 1000000000000000000 := by rw [← hq]; exact Nat.div_le_self _ _
  have hqa : 0 < b → (1000000000000000000 : Int) / b = (q : Int) := fun hb => by rw [← hq, show b = (b.natAbs : Int) by omega]; rfl
  have hqb : b < 0 → Int.tdiv 1000000000000000000 b = -(q : Int) := fun hb => by
    rw [← hq, show b = -(b.natAbs : Int) by omega, Int.tdiv_neg, Int.tdiv_eq_ediv_of_nonneg (by omega)]; simp
  by_cases h3 : a.natAbs ≤ q
  · have hfz : fitsZ a b := .inr (.inr (by rw [hq]; exact h3))
    obtain rfl : f = true := HF.out.2 hfz
    have hm := fits_mul hfz
    clear HF hfz hq
    by_cases s1 : a < 0
    · by_cases s2 : b < 0
      · have hz := hqb s2
        have hz' : (-b == 0) = false := by simp; omega
        clear hqa hqb
        go_enter Try.func192, Try.ntmps192
        go_wp2_with fail
        go_ret2
        exact ⟨ret_val (by simp [pz_true, pz_false]), rfl⟩
      · have hz := hqa (by omega)
        clear hqa hqb
        go_enter Try.func192, Try.ntmps192
        go_wp2_with fail
        go_ret2
        exact ⟨ret_val (by simp [pz_true, pz_false]), rfl⟩
    · by_cases s2 : b < 0
      · have hz := hqb s2
        have hz' : (-b == 0) = false := by simp; omega
        clear hqa hqb
        go_enter Try.func192, Try.ntmps192
        go_wp2_with fail
        go_ret2
        exact ⟨ret_val (by simp [pz_true, pz_false]), rfl⟩
      · have hz := hqa (by omega)
        clear hqa hqb
        go_enter Try.func192, Try.ntmps192
        go_wp2_with fail
        go_ret2
        exact ⟨ret_val (by simp [pz_true, pz_false]), rfl⟩
  · obtain rfl : f = false := bfalse HF.out (by unfold fitsZ; rw [hq]; omega)
    clear HF hq
    by_cases s1 : a < 0
    · by_cases s2 : b < 0
      · have hz := hqb s2
        have hz' : (-b == 0) = false := by simp; omega
        clear hqa hqb
        go_enter Try.func192, Try.ntmps192
        go_wp2_with fail
        go_ret2
        exact ⟨ret_val (by simp [pz_true, pz_false]), rfl⟩
      · have hz := hqa (by omega)
        clear hqa hqb
        go_enter Try.func192, Try.ntmps192
        go_wp2_with fail
        go_ret2
        exact ⟨ret_val (by simp [pz_true, pz_false]), rfl⟩
    · by_cases s2 : b < 0
      · have hz := hqb s2
        have hz' : (-b == 0) = false := by simp; omega
        clear hqa hqb
        go_enter Try.func192, Try.ntmps192
        go_wp2_with fail
        go_ret2
        exact ⟨ret_val (by simp [pz_true, pz_false]), rfl⟩
      · have hz := hqa (by omega)
        clear hqa hqb
        go_enter Try.func192, Try.ntmps192
        go_wp2_with fail
        go_ret2
        exact ⟨ret_val (by simp [pz_true, pz_false]), rfl⟩

end Go.Proofs.Ytdmiihljepkapaa
