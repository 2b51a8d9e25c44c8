/- The laws' arguments of numbers in rows, and in rows of rows, opened. -/
import Derived.Test.YtdmiihljepkapaaDet
namespace Go.Proofs.Ytdmiihljepkapaa
set_option linter.unusedSimpArgs false
set_option linter.unusedVariables false
open Go.RowKit Go.ChangeShapes Go.WideShapes Go.ChangeAt

section
variable {H : Type} {enc : TypeId × Value → H} {w : World} {base : Nat} {spare : Nat → Bool} {held : Bool}
theorem open_ints1 {fuel : Nat} {cs : List Value} {x : DataW H × List MemPlace} (h : DataW.trod enc Try.prog w base spare held fuel 60 cs = some x) :
    ∃ (a : Option Addr) (n c : Nat) (l : List Int), cs = [.slice a n c] ∧ ArgRow w a n c 1 (ints l) := by
  obtain ⟨a, n, c, l, e, _, hr, _⟩ := open_rows Try.underlying60 one_int (by omega) (fun z => [.int .i64 z]) (fun _ => True) (fun _ => rfl) (fun n cs y h => by obtain ⟨z, h1, _⟩ := dec_int n cs y h; exact ⟨z, h1, trivial⟩) h
  exact ⟨a, n, c, l, e, hr⟩
theorem flat_slV : ∀ l : List (Option Addr × Nat × List Int), l.flatMap (fun z => [slV z]) = l.map slV
  | [] => rfl
  | a :: l => by rw [List.flatMap_cons, flat_slV l]; rfl
theorem one_sl : Try.prog.cellsOf 60 = 1 := by kernel_rfl
theorem open_ints2 {fuel : Nat} {cs : List Value} {x : DataW H × List MemPlace} (h : DataW.trod enc Try.prog w base spare held fuel 59 cs = some x) :
    ∃ (a : Option Addr) (n c : Nat) (M : List (List Int)), cs = [.slice a n c] ∧ IGrid w a n c M := by
  obtain ⟨a, n, c, l, e, _, hr, hp⟩ := open_rows Try.underlying59 one_sl (by omega) (fun z : Option Addr × Nat × List Int => [slV z]) (fun z => ArgRow w z.1 z.2.2.length z.2.1 1 (ints z.2.2)) (fun _ => rfl)
    (fun n cs y h => by
      obtain ⟨a, n, c, l, e, hr⟩ := open_ints1 h
      have hl := hr.ints_len
      subst hl
      exact ⟨(a, c, l), e, hr⟩) h
  refine ⟨a, n, c, l.map fun z => z.2.2, e, l, rfl, ?_, hp⟩
  rw [← flat_slV]; exact hr
end
end Go.Proofs.Ytdmiihljepkapaa
