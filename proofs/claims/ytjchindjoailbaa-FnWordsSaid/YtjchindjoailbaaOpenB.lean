/- A caller's bytes, opened. -/
import Derived.Test.YtjchindjoailbaaOpen
import Derived.Test.YtjchindjoailbaaCode
namespace Go.Proofs.Ytjchindjoailbaa
set_option linter.unusedSimpArgs false
set_option linter.unusedVariables false
set_option maxRecDepth 100000
open Go.RowKit Go.ChangeShapes Go.WideShapes Go.ChangeAt

theorem flat_u8 : ∀ l : List Int, l.flatMap (fun z => [Value.int .u8 z]) = u8s l
  | [] => rfl
  | a :: l => by rw [List.flatMap_cons, flat_u8 l]; rfl
section
variable {H : Type} {enc : TypeId × Value → H} {w : World} {base : Nat} {spare : Nat → Bool} {held : Bool}
theorem open_bytes {fuel : Nat} {cs : List Value} {x : DataW H × List MemPlace} (h : DataW.trod enc Try.prog w base spare held fuel 22 cs = some x) :
    ∃ (a : Option Addr) (n c : Nat) (l : List Int), cs = [.slice a n c] ∧ ArgRow w a n c 1 (u8s l) := by
  obtain ⟨a, n, c, l, e, _, hr, _⟩ := open_rows Try.underlying22 (by kernel_rfl) (Nat.zero_lt_one) (fun z : Int => [.int .u8 z]) (fun _ => True) (fun _ => rfl)
    (fun n cs y h => by obtain ⟨z, h1, _, _⟩ := DataW.trod_int Try.underlying5 h; exact ⟨z, h1, trivial⟩) h
  rw [flat_u8] at hr
  exact ⟨a, n, c, l, e, hr⟩
end
end Go.Proofs.Ytjchindjoailbaa
