/- A caller's strings, opened. -/
import Derived.Test.YtjchindjoailbaaOpen
import Derived.Test.YtjchindjoailbaaStrs
namespace Go.Proofs.Ytjchindjoailbaa
set_option linter.unusedSimpArgs false
set_option linter.unusedVariables false
set_option maxRecDepth 100000
open Go.RowKit Go.ChangeShapes Go.WideShapes Go.ChangeAt

section
variable {H : Type} {enc : TypeId × Value → H} {w : World} {base : Nat} {spare : Nat → Bool} {held : Bool}
theorem open_strs {r : Reach} {b0 : Nat} {v : Value} {d : DataW H} {p : List MemPlace} (hv : Value.okWide Try.prog w r b0 42 v) (h : DataW.Trod enc Try.prog w base spare held 42 v d p) :
    ∃ (a : Option Addr) (n c : Nat) (l : List ByteArray), v = .slice a n c ∧ l.length = n ∧ ArgRow w a n c 1 (strs l) ∧ ∀ s ∈ l, s.size ≤ maxLen := by
  obtain ⟨a, n, c, rfl⟩ := okWide_slice Try.underlying42 hv
  obtain ⟨fuel, hf⟩ := h
  obtain ⟨a', n', c', l, e, hl, hr, hp⟩ := open_rows Try.underlying42 (by kernel_rfl) (Nat.zero_lt_one) (fun s : ByteArray => [.string s]) (fun s => s.size ≤ maxLen) (fun _ => rfl)
    (fun n cs y h => by obtain ⟨s, h1, _, h2⟩ := DataW.trod_string Try.underlying9 h; exact ⟨s, h1, h2⟩) hf
  simp [Value.cells] at e
  obtain ⟨rfl, rfl, rfl⟩ := e
  refine ⟨_, _, _, l, rfl, hl, ?_, hp⟩
  have : l.flatMap (fun s => [Value.string s]) = strs l := by
    clear hr hl hp; unfold strs; induction l with
    | nil => rfl
    | cons a l ih => rw [List.flatMap_cons, ih]; rfl
  rw [← this]; exact hr

end
end Go.Proofs.Ytjchindjoailbaa
