/- For every input the program's RatioMin returns what the reference's RatioMin returns: the law FnExactRatioMin answers true and leaves its arguments as they were. -/
import Derived.Test.YticfjfdfgcfnnaaLawCmp
import Derived.Test.YticfjfdfgcfnnaaRowHd
import Derived.WalkKit
import Derived.ProofKit
import Derived.OpenShut
import Derived.ShutString
import Derived.ChangeOld
import Derived.Below
import Derived.Lib.SmallJoins
namespace Go.Proofs.Yticfjfdfgcfnnaa
set_option linter.unusedSimpArgs false
set_option linter.unusedVariables false
open Go.ChangeShapes Go.WideShapes Go.ChangeAt Go.RowKit
open Go.ChangeMaps (open_string shut_string)
set_option linter.unusedVariables false

set_option maxRecDepth 100000 in
theorem lifted_FnExactRatioMin (os : Os) (started : os.Started) (H : Type) (enc : TypeId × Value → H) :
    ReturnsInHanded {} Try.checked os 22 .any (Rows.fnExactRatioMinSpec.pre6 enc Try.prog Try.f22 Rows.fnExactRatioMinRow.domain false) (Rows.fnExactRatioMinSpec.post enc Try.prog Try.f22 false true false false) := by
  refine returnsInHanded_of_change (C := Try.checked) own started (by kernel_rfl) Try.func22
    (ChangeSpec.witness6 (enc := enc) (C := Try.checked) false ⟨#[], #[.agg #[.int .i64 0, .int .i64 0], .agg #[.int .i64 0, .int .i64 0]], []⟩ 8 (by kernel_rfl) (by kernel_rfl) (by kernel_rfl) (by kernel_rfl)) ?_
  intro W base args ds gs before hval0 hW hcnd _
  have hval : ∀ (j : Nat) t v, Try.f22.params[j]? = some t → args[j]? = some v → Value.okWide Try.prog W .any base t v := hval0
  have hW' := hW
  obtain ⟨p, q, hA0, hV, rfl, hfz, hnd⟩ := hW
  have hA : DataW.TrodAll enc Try.prog W 0 (fun _ => true) true Try.f22.params.toList args.toList ds p := hA0
  rw [Try.params22] at hA hval
  obtain ⟨v0, vs0, d0, ds0, p0, q0, hargs, rfl, rfl, h0, r0⟩ := trodAll_cons hA
  obtain ⟨v1, vs1, d1, ds1, p1, q1, rfl, rfl, rfl, h1, r1⟩ := trodAll_cons r0
  obtain ⟨rfl, rfl, rfl⟩ := trodAll_nil r1
  obtain rfl : args = #[v0, v1] := by cases args; simp_all
  obtain ⟨rfl, rfl⟩ := trodVars_none hV
  have k0 := h0
  have lt0 : ∀ x ∈ p0, x.block < W.heap.size := by obtain ⟨m, hm⟩ := k0; exact DataW.trod_lt m _ _ _ hm
  obtain ⟨c0, y0, z0, u0, m0, e0a, e0b, e0c, x0, x0'⟩ := Joins.open_agg2 Try.underlying29 (by kernel_rfl) (by kernel_rfl : Try.prog.cellsOf 29 = 2) (hval 0 29 v0 rfl rfl) h0
  subst e0a
  obtain ⟨n0, f0a, -, wn0⟩ := DataW.trod_int Try.underlying3 x0
  obtain ⟨d0', g0a, -, wd0⟩ := DataW.trod_int Try.underlying3 x0'
  simp at f0a g0a; subst f0a g0a
  have k1 := h1
  have lt1 : ∀ x ∈ p1, x.block < W.heap.size := by obtain ⟨m, hm⟩ := k1; exact DataW.trod_lt m _ _ _ hm
  obtain ⟨c1, y1, z1, u1, m1, e1a, e1b, e1c, x1, x1'⟩ := Joins.open_agg2 Try.underlying29 (by kernel_rfl) (by kernel_rfl : Try.prog.cellsOf 29 = 2) (hval 1 29 v1 rfl rfl) h1
  subst e1a
  obtain ⟨n1, f1a, -, wn1⟩ := DataW.trod_int Try.underlying3 x1
  obtain ⟨d1', g1a, -, wd1⟩ := DataW.trod_int Try.underlying3 x1'
  simp at f1a g1a; subst f1a g1a
  clear hA0 hval0
  refine (walk_FnExactRatioMin n0 d0' n1 d1' W wn0 wd0 wn1 wd1).mono fun e W' ⟨he, bel⟩ => ?_
  subst he
  exact ⟨_, rfl, _, _, _, [], _, [], hW', trodAll_mk1 (shut_bool Try.underlying4 _), (trodAll_cons_mk (Below.trod laidOut (by kernel_rfl) (of_decide_eq_true (by kernel_rfl)) k0 bel lt0) (trodAll_cons_mk (Below.trod laidOut (by kernel_rfl) (of_decide_eq_true (by kernel_rfl)) k1 bel lt1) trodAll_mk0)), rfl, bel.frame _, fun h => by cases h⟩

set_option maxRecDepth 100000 in
theorem closed_FnExactRatioMin : joinedFacts Try.pinned.checked.prog 22 Try.f22 Rows.fnExactRatioMinSpec Rows.fnExactRatioMinRow = true := by
  unfold joinedFacts
  repeat' (with_reducible refine band ?_ ?_)
  all_goals first | (with_reducible exact mayEnter_p) | ((with_reducible refine bmake (finals_p.trans ?_)); rfl) | ((with_reducible refine beq_iff_eq.2 (make_p.trans ?_)); rfl) | (as_aux_lemma => kernel_rfl)

theorem fnExactRatioMin_holds : Rows.FnExactRatioMinSaid :=
  OpenClaim.holds_of_wide 22 Try.f22 rfl rfl rfl rfl rfl rfl rfl ⟨rfl, rfl, rfl, rfl, rfl⟩ rfl rfl rfl rfl rfl (by kernel_rfl) Try.func22 closed_FnExactRatioMin
    (of_decide_eq_true (by kernel_rfl)) (by unfold Func.isWrapper; first | (rw [if_pos (by decide +kernel)]; kernel_rfl) | (rw [if_neg (by decide +kernel)]; exact ⟨rfl, rfl⟩))
    (fun os started H enc _ => lifted_FnExactRatioMin os started H enc)

end Go.Proofs.Yticfjfdfgcfnnaa
