/- The laws' arguments of fractions in rows, and in rows of rows, opened. -/
import Derived.Test.YtdmiihljepkapaaRatS
import Derived.Test.YtdmiihljepkapaaOpenI
import Derived.ChangeSame
namespace Go.Proofs.Ytdmiihljepkapaa
set_option linter.unusedSimpArgs false
set_option linter.unusedVariables false
open Go.RowKit Go.ChangeShapes Go.WideShapes Go.ChangeAt

section
variable {H : Type} {enc : TypeId × Value → H} {w : World} {base : Nat} {spare : Nat → Bool} {held : Bool}
def wfR (x : Rz) : Prop := (Lit.int .i64 x.1).wf = true ∧ (Lit.int .i64 x.2).wf = true
set_option maxRecDepth 100000 in
theorem dec_rat (n : Nat) (cs : List Value) (y : DataW H × List MemPlace) (h : DataW.trod enc Try.prog w base spare held n 131 cs = some y) : ∃ z : Rz, cs = ratC z ∧ wfR z := by
  obtain ⟨y0, y1, m, _, hl, h0, h1⟩ := Go.ChangeShapes.trod_struct2 Try.underlying131 h
  have hl : cs.length = 2 := hl.trans (by kernel_rfl)
  obtain ⟨a, b, rfl⟩ : ∃ a b, cs = [a, b] := by
    match cs, hl with
    | [a, b], _ => exact ⟨a, b, rfl⟩
  obtain ⟨z0, e0, _, w0⟩ := DataW.trod_int Try.underlying3 h0
  obtain ⟨z1, e1, _, w1⟩ := DataW.trod_int Try.underlying3 h1
  simp [one_int] at e0 e1
  exact ⟨(z0, z1), by simp [ratC, e0, e1], w0, w1⟩
theorem two_rat : Try.prog.cellsOf 131 = 2 := by kernel_rfl
theorem open_rats1 {fuel : Nat} {cs : List Value} {x : DataW H × List MemPlace} (h : DataW.trod enc Try.prog w base spare held fuel 81 cs = some x) :
    ∃ (a : Option Addr) (n c : Nat) (l : List Rz), cs = [.slice a n c] ∧ ArgRow w a n c 2 (rats l) ∧ ∀ x ∈ l, wfR x := by
  obtain ⟨a, n, c, l, e, _, hr, hp⟩ := open_rows Try.underlying81 two_rat (by omega) ratC wfR (fun _ => rfl) dec_rat h
  exact ⟨a, n, c, l, e, hr, hp⟩
theorem flat_slR : ∀ l : List (Option Addr × Nat × List Rz), l.flatMap (fun z => [slV z]) = l.map slV
  | [] => rfl
  | a :: l => by rw [List.flatMap_cons, flat_slR l]; rfl
theorem one_slR : Try.prog.cellsOf 81 = 1 := by kernel_rfl
theorem open_rats2 {fuel : Nat} {cs : List Value} {x : DataW H × List MemPlace} (h : DataW.trod enc Try.prog w base spare held fuel 51 cs = some x) :
    ∃ (a : Option Addr) (n c : Nat) (M : List (List Rz)), cs = [.slice a n c] ∧ Grid ratC 2 w a n c M ∧ ∀ r ∈ M, ∀ x ∈ r, wfR x := by
  obtain ⟨a, n, c, l, e, _, hr, hp⟩ := open_rows Try.underlying51 one_slR (by omega) (fun z : Option Addr × Nat × List Rz => [slV z]) (fun z => ArgRow w z.1 z.2.2.length z.2.1 2 (rats z.2.2) ∧ ∀ x ∈ z.2.2, wfR x) (fun _ => rfl)
    (fun n cs y h => by
      obtain ⟨a, n, c, l, e, hr, hw⟩ := open_rats1 h
      have hl := hr.rats_len
      subst hl
      exact ⟨(a, c, l), e, hr, hw⟩) h
  refine ⟨a, n, c, l.map fun z => z.2.2, e, ⟨l, rfl, ?_, fun x hx => (hp x hx).1⟩, fun r hr x hx => ?_⟩
  · rw [← flat_slR]; exact hr
  · obtain ⟨z, hz, rfl⟩ := List.mem_map.1 hr
    exact (hp z hz).2 x hx
end
end Go.Proofs.Ytdmiihljepkapaa
