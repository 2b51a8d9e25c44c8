/- RatioOk of the program and of the reference answer one Bool; toRatio copies. -/
import Derived.Test.YtdmiihljepkapaaBase
import Derived.Test.YtdmiihljepkapaaGcd
import Derived.Test.YtdmiihljepkapaaNetOk2
namespace Go.Proofs.Ytdmiihljepkapaa
set_option linter.unusedSimpArgs false
set_option linter.unusedVariables false
open Go.RowKit

/-- a fraction's value in a slot -/
abbrev ratV (n d : Int) : Value := .agg #[.int .i64 n, .int .i64 d]

/-- it is a valid fraction -/
def okZ (n d : Int) : Prop := (1 ≤ d ∧ d ≤ 1000000000000000) ∧ (-1000000000000000000 ≤ n ∧ n ≤ 1000000000000000000) ∧ gcdZ n d = 1


set_option maxHeartbeats 400000 in
theorem implRatioOk (n d : Int) (w : World) (b : Bool) (h : b = true ↔ okZ n d) :
    Calls Try.prog 114 #[ratV n d] w fun e w' => e = .returned (.bool b) ∧ Below w.heap.size w w' := by
  have HB := Lib.hid h
  clear h
  by_cases h1 : 1 ≤ d
  · by_cases h2 : d ≤ 1000000000000000
    · by_cases h3 : -1000000000000000000 ≤ n
      · by_cases h4 : n ≤ 1000000000000000000
        · by_cases h5 : gcdZ n d = 1
          · have HN : Hid (b = true) := HB.out.2 ⟨⟨h1, h2⟩, ⟨h3, h4⟩, h5⟩
            have h5' : (gcdZ n d == 1) = true := by simp [h5]
            clear h5
            go_enter Try.func114, Try.ntmps114
            go_wp2_with fail
            refine (implGcd n d _ (by omega) (by omega) (by omega) (by omega)).mono ?_
            rintro e w' ⟨rfl, m, rfl⟩
            go_wp2_with fail
            go_ret
            exact ⟨ret_bool HN.out.symm, by go_grown; exact below_drewN ((Below.refl _ _).alloc (Nat.le_refl _) _) _⟩
          · have HN : Hid (b = false) := bfalse HB.out (by unfold okZ; omega)
            have h5' : (gcdZ n d == 1) = false := by simp [h5]
            clear h5
            go_enter Try.func114, Try.ntmps114
            go_wp2_with fail
            refine (implGcd n d _ (by omega) (by omega) (by omega) (by omega)).mono ?_
            rintro e w' ⟨rfl, m, rfl⟩
            go_wp2_with fail
            go_ret
            exact ⟨ret_bool HN.out.symm, below_drewN ((Below.refl _ _).alloc (Nat.le_refl _) _) _⟩
        · have HN : Hid (b = false) := bfalse HB.out (by unfold okZ; omega)
          go_enter Try.func114, Try.ntmps114
          go_wp2_with fail
          go_ret
          exact ⟨ret_bool HN.out.symm, by go_grown⟩
      · have HN : Hid (b = false) := bfalse HB.out (by unfold okZ; omega)
        go_enter Try.func114, Try.ntmps114
        go_wp2_with fail
        go_ret
        exact ⟨ret_bool HN.out.symm, by go_grown⟩
    · have HN : Hid (b = false) := bfalse HB.out (by unfold okZ; omega)
      go_enter Try.func114, Try.ntmps114
      go_wp2_with fail
      go_ret
      exact ⟨ret_bool HN.out.symm, by go_grown⟩
  · have HN : Hid (b = false) := bfalse HB.out (by unfold okZ; omega)
    go_enter Try.func114, Try.ntmps114
    go_wp2_with fail
    go_ret
    exact ⟨ret_bool HN.out.symm, by go_grown⟩

end Go.Proofs.Ytdmiihljepkapaa
