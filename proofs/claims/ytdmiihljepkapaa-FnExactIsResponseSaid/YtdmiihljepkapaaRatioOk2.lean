/- RatioOk of the reference answers the same Bool; toRatio copies a fraction. -/
import Derived.Test.YtdmiihljepkapaaRatioOk
import Derived.Test.YtdmiihljepkapaaNetOk2
namespace Go.Proofs.Ytdmiihljepkapaa
set_option linter.unusedSimpArgs false
set_option linter.unusedVariables false
open Go.RowKit

theorem inRange (n lo hi : Int) (w : World) (b : Bool) (h : b = true ↔ lo ≤ n ∧ n ≤ hi) :
    Calls Try.prog 123 #[.int .i64 n, .int .i64 lo, .int .i64 hi] w fun e w' => e = .returned (.bool b) ∧ w = w' := specIn n lo hi b h w

set_option maxHeartbeats 400000 in
theorem specRatioOk (n d : Int) (w : World) (b : Bool) (h : b = true ↔ okZ n d) :
    Calls Try.prog 134 #[ratV n d] w fun e w' => e = .returned (.bool b) ∧ Below w.heap.size w w' := by
  have HB := Lib.hid h
  clear h
  by_cases h1 : 1 ≤ d ∧ d ≤ 1000000000000000
  · by_cases h2 : -1000000000000000000 ≤ n ∧ n ≤ 1000000000000000000
    · obtain ⟨h1a, h1b⟩ := h1
      obtain ⟨h2a, h2b⟩ := h2
      have H5 : Hid (b = (gcdZ n d == 1)) := by
        have := HB.out
        show b = _
        rw [Bool.eq_iff_iff, this]; unfold okZ; simp; omega
      have h5 : (gcdZ n d == 1) = true ∨ (gcdZ n d == 1) = false := by cases (gcdZ n d == 1) <;> simp
      rcases h5 with h5 | h5
      all_goals
        go_enter Try.func134, Try.ntmps134
        go_wp2_with fail
        refine (inRange _ _ _ _ true (by simp; omega)).mono ?_
        rintro e w' ⟨rfl, rfl⟩
        go_wp2_with fail
        refine (inRange _ _ _ _ true (by simp; omega)).mono ?_
        rintro e w' ⟨rfl, rfl⟩
        go_wp2_with fail
        refine (specGcd n d _ (by omega) (by omega) (by omega) (by omega)).mono ?_
        rintro e w' ⟨rfl, m, rfl⟩
        go_wp2_with fail
        go_ret
        exact ⟨ret_bool (by rw [H5.out, h5]), below_drewN ((Below.refl _ _).alloc (Nat.le_refl _) _) _⟩
    · have HN : Hid (b = false) := bfalse HB.out (by unfold okZ; omega)
      go_enter Try.func134, Try.ntmps134
      go_wp2_with fail
      refine (inRange _ _ _ _ true (by simp; omega)).mono ?_
      rintro e w' ⟨rfl, rfl⟩
      go_wp2_with fail
      refine (inRange _ _ _ _ false (by simp; omega)).mono ?_
      rintro e w' ⟨rfl, rfl⟩
      go_wp2_with fail
      go_ret
      exact ⟨ret_bool HN.out.symm, by go_grown⟩
  · have HN : Hid (b = false) := bfalse HB.out (by unfold okZ; omega)
    go_enter Try.func134, Try.ntmps134
    go_wp2_with fail
    refine (inRange _ _ _ _ false (by simp; omega)).mono ?_
    rintro e w' ⟨rfl, rfl⟩
    go_wp2_with fail
    go_ret
    exact ⟨ret_bool HN.out.symm, by go_grown⟩


set_option maxHeartbeats 400000 in
theorem toRatio (n d : Int) (w : World) :
    Calls Try.prog 157 #[ratV n d] w fun e w' => e = .returned (ratV n d) ∧ Below w.heap.size w w' := by
  go_enter Try.func157, Try.ntmps157
  go_wp2_with fail
  go_returns
  exact ⟨rfl, by go_grown⟩


end Go.Proofs.Ytdmiihljepkapaa
