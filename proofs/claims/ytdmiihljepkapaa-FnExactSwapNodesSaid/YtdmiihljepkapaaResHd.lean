/- A network's box carried through a law's walk. -/
import Derived.Test.YtdmiihljepkapaaCount
import Derived.Test.YtdmiihljepkapaaMarkN
namespace Go.Proofs.Ytdmiihljepkapaa
set_option linter.unusedSimpArgs false
set_option linter.unusedVariables false
open Go.RowKit

theorem bx_new (w : World) (x0 x1 x2 x3 : Value) (t : TypeId) : Bx (w.alloc (.cells #[x0, x1, x2, x3] t)) w.heap.size x0 x1 x2 x3 := by
  have h := heap_alloc_new w (.cells #[x0, x1, x2, x3] t)
  refine ⟨?_, ?_, ?_, ?_⟩ <;> (simp only [World.cell?, h]; rfl)
theorem Bx.below {w w' : World} {b : Nat} {x0 x1 x2 x3 : Value} (h : Bx w b x0 x1 x2 x3) (hb : b < w.heap.size) (k : Below w.heap.size w w') : Bx w' b x0 x1 x2 x3 :=
  ⟨(k.cell (p := ⟨b, 0, none⟩) hb).trans h.1, (k.cell (p := ⟨b, 1, none⟩) hb).trans h.2.1, (k.cell (p := ⟨b, 2, none⟩) hb).trans h.2.2.1, (k.cell (p := ⟨b, 3, none⟩) hb).trans h.2.2.2⟩
theorem Bx.grown {w w' : World} {b : Nat} {x0 x1 x2 x3 : Value} {r : Option Nat} (h : Bx w b x0 x1 x2 x3) (k : w.grownBy w' r) (hb : b < w.heap.size) (hr : r = some b → False) : Bx w' b x0 x1 x2 x3 := by
  have e : w'.heap[b]? = w.heap[b]? := k.block b hb (fun e => hr e.symm)
  exact ⟨(World.cell?_of_block (a := ⟨b, 0, none⟩) e).trans h.1, (World.cell?_of_block (a := ⟨b, 1, none⟩) e).trans h.2.1, (World.cell?_of_block (a := ⟨b, 2, none⟩) e).trans h.2.2.1, (World.cell?_of_block (a := ⟨b, 3, none⟩) e).trans h.2.2.2⟩
end Go.Proofs.Ytdmiihljepkapaa
