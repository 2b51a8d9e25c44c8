/- Regions that draw their order and hold calls that make memory: what each call leaves of the blocks that were there. -/
import Derived.Test.YtjchindjoailbaaRow
import Derived.Deep.RegionHeld3
import Derived.Deep.DeepCutAuto
namespace Go.Proofs.Ytjchindjoailbaa
set_option linter.unusedSimpArgs false
set_option linter.unusedVariables false
open Go.RowKit

/-- of one block below: it reads as it did, is there still, and is not the next one -/
theorem bltn {W w1 : World} (hb : Below W.heap.size W w1) {b : Nat} (h : b < W.heap.size) :
    (∀ o, w1.cell? ⟨b, o, none⟩ = W.cell? ⟨b, o, none⟩) ∧ (∀ o, w1.frozen? ⟨b, o, none⟩ = W.frozen? ⟨b, o, none⟩) ∧ b < w1.heap.size ∧ ¬ b = w1.heap.size ∧ ¬ w1.heap.size = b :=
  have h1 := Nat.lt_of_lt_of_le h hb.size
  ⟨fun o => hb.cell (p := ⟨b, o, none⟩) h, fun o => hb.frozen (p := ⟨b, o, none⟩) h, h1, Nat.ne_of_lt h1, Nat.ne_of_gt h1⟩

end Go.Proofs.Ytjchindjoailbaa
