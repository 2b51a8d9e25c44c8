/- RatioOk of the reference answers the same Bool; toRatio copies a fraction. -/
import Derived.Test.YticfjfdfgcfnnaaRatioOk
import Derived.Test.YticfjfdfgcfnnaaIsName
namespace Go.Proofs.Yticfjfdfgcfnnaa
set_option linter.unusedSimpArgs false
set_option linter.unusedVariables false
open Go.RowKit

set_option maxHeartbeats 400000 in
theorem specRatioOk (n d : Int) (w : World) (b : Bool) (h : b = true ↔ okZ n d) :
    Calls Try.prog 35 #[ratV n d] w fun e w' => e = .returned (.bool b) ∧ Below w.heap.size w w' := by
  have HB := Lib.hid h
  clear h
  by_cases h1 : 1 ≤ d ∧ d ≤ 1000000000000000
  · by_cases h2 : -1000000000000000000 ≤ n ∧ n ≤ 1000000000000000000
    · obtain ⟨h1a, h1b⟩ := h1
      obtain ⟨h2a, h2b⟩ := h2
      have H5 : Hid (b = (gcdZ n d == 1)) := by
        have := HB.out
        show b = _
        rw [Bool.eq_iff_iff, this]; unfold okZ; simp; omega
      have h5 : (gcdZ n d == 1) = true ∨ (gcdZ n d == 1) = false := by cases (gcdZ n d == 1) <;> simp
      rcases h5 with h5 | h5
      all_goals
        go_enter Try.func35, Try.ntmps35
        go_wp2_with fail
        refine (inRange _ _ _ _ true (by simp; omega)).mono ?_
        rintro e w' ⟨rfl, rfl⟩
        go_wp2_with fail
        refine (inRange _ _ _ _ true (by simp; omega)).mono ?_
        rintro e w' ⟨rfl, rfl⟩
        go_wp2_with fail
        refine (specGcd n d _ (by omega) (by omega) (by omega) (by omega)).mono ?_
        rintro e w' ⟨rfl, m, rfl⟩
        go_wp2_with fail
        go_ret
        exact ⟨ret_bool (by rw [H5.out, h5]), below_drewN ((Below.refl _ _).alloc (Nat.le_refl _) _) _⟩
    · have HN : Hid (b = false) := bfalse HB.out (by unfold okZ; omega)
      go_enter Try.func35, Try.ntmps35
      go_wp2_with fail
      refine (inRange _ _ _ _ true (by simp; omega)).mono ?_
      rintro e w' ⟨rfl, rfl⟩
      go_wp2_with fail
      refine (inRange _ _ _ _ false (by simp; omega)).mono ?_
      rintro e w' ⟨rfl, rfl⟩
      go_wp2_with fail
      go_ret
      exact ⟨ret_bool HN.out.symm, by go_grown⟩
  · have HN : Hid (b = false) := bfalse HB.out (by unfold okZ; omega)
    go_enter Try.func35, Try.ntmps35
    go_wp2_with fail
    refine (inRange _ _ _ _ false (by simp; omega)).mono ?_
    rintro e w' ⟨rfl, rfl⟩
    go_wp2_with fail
    go_ret
    exact ⟨ret_bool HN.out.symm, by go_grown⟩


set_option maxHeartbeats 400000 in
theorem toRatio (n d : Int) (w : World) :
    Calls Try.prog 36 #[ratV n d] w fun e w' => e = .returned (ratV n d) ∧ Below w.heap.size w w' := by
  go_enter Try.func36, Try.ntmps36
  go_wp2_with fail
  go_returns
  exact ⟨rfl, by go_grown⟩

set_option maxHeartbeats 400000 in
theorem walk_FnExactRatioOk (n d : Int) (w : World) (_ : (Lit.int .i64 n).wf = true) (_ : (Lit.int .i64 d).wf = true) :
    Calls Try.prog 8 #[ratV n d] w fun e w' => e = .returned (.bool true) ∧ Below w.heap.size w w' := by
  obtain ⟨b, hb⟩ : ∃ b : Bool, b = true ↔ okZ n d := bool_of _
  have HB := Lib.hid hb
  clear hb
  go_enter Try.func8, Try.ntmps8
  go_wp2_with fail
  refine (toRatio n d _).mono ?_
  rintro e w1 ⟨rfl, hb1⟩
  obtain ⟨hc1, hf1⟩ := bcell hb1
  have hz1 := bsize hb1
  have g1 := hb1
  go_wp2_with fail
  refine (specRatioOk n d _ b HB.out).mono ?_
  rintro e w2 ⟨rfl, hb2⟩
  obtain ⟨hc2, hf2⟩ := bcell hb2
  have hz2 := bsize hb2
  have g2 := bjoin g1 (by (repeat' (first | (with_reducible exact Below.refl _ _) | (with_reducible assumption) | (with_reducible refine balloc ?_ _) | (with_reducible refine Below.drew ?_) | (with_reducible refine below_drewN ?_ _) | (with_reducible refine bset ?_ ?_ _) | (with_reducible refine bstep ?_ (by assumption)) | go_size))) hb2
  clear g1
  obtain ⟨gc2, gf2⟩ := bcell g2
  have gz2 := bsize g2
  go_wp2_with fail
  refine (toRatio n d _).mono ?_
  rintro e w3 ⟨rfl, hb3⟩
  obtain ⟨hc3, hf3⟩ := bcell hb3
  have hz3 := bsize hb3
  have g3 := bjoin g2 (by (repeat' (first | (with_reducible exact Below.refl _ _) | (with_reducible assumption) | (with_reducible refine balloc ?_ _) | (with_reducible refine Below.drew ?_) | (with_reducible refine below_drewN ?_ _) | (with_reducible refine bset ?_ ?_ _) | (with_reducible refine bstep ?_ (by assumption)) | go_size))) hb3
  clear g2
  obtain ⟨gc3, gf3⟩ := bcell g3
  have gz3 := bsize g3
  clear gc2 gf2 gz2
  go_wp2_with fail
  refine (implRatioOk n d _ b HB.out).mono ?_
  rintro e w4 ⟨rfl, hb4⟩
  obtain ⟨hc4, hf4⟩ := bcell hb4
  have hz4 := bsize hb4
  have g4 := bjoin g3 (by (repeat' (first | (with_reducible exact Below.refl _ _) | (with_reducible assumption) | (with_reducible refine balloc ?_ _) | (with_reducible refine Below.drew ?_) | (with_reducible refine below_drewN ?_ _) | (with_reducible refine bset ?_ ?_ _) | (with_reducible refine bstep ?_ (by assumption)) | go_size))) hb4
  clear g3
  obtain ⟨gc4, gf4⟩ := bcell g4
  have gz4 := bsize g4
  clear gc3 gf3 gz3
  go_wp2_with fail
  go_ret
  exact ⟨rfl, by (repeat' (first | (with_reducible exact Below.refl _ _) | (with_reducible assumption) | (with_reducible refine balloc ?_ _) | (with_reducible refine Below.drew ?_) | (with_reducible refine below_drewN ?_ _) | (with_reducible refine bset ?_ ?_ _) | (with_reducible refine bstep ?_ (by assumption)) | go_size))⟩

end Go.Proofs.Yticfjfdfgcfnnaa
