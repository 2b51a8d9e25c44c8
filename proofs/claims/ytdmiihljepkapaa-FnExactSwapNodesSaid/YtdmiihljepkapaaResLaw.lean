/- What netOf gives, as the laws ask for it. -/
import Derived.Test.YtdmiihljepkapaaNetOf
import Derived.Test.YtdmiihljepkapaaBound
import Derived.Test.YtdmiihljepkapaaResHd
namespace Go.Proofs.Ytdmiihljepkapaa
set_option linter.unusedSimpArgs false
set_option linter.unusedVariables false
open Go.RowKit

theorem NetRes.law {e : Ending} {w w' : World} {ok : Bool} {M E S : Int} {L : List Wz} (h : NetRes e w w' ok M E S L) : ∃ a' c', e = .returned (.tuple #[netV (if ok = true then M else 0) (if ok = true then E else 0) (if ok = true then S else 0) a' (if ok = true then L else []).length c', .bool ok]) ∧ w'.ownsRow w.heap.size 104 3 (.slice a' (if ok = true then L else []).length c') (if ok = true then L else []).length (wires (if ok = true then L else [])) := by
  unfold NetRes at h
  cases ok
  · rw [if_neg (by simp)] at h
    subst h
    exact ⟨none, 0, by simp, World.ownsRow_nil _ _ _ _⟩
  · rw [if_pos rfl] at h
    simpa using h
theorem NetRes.bad {e : Ending} {w w' : World} (h : e = .returned (.tuple #[netV 0 0 0 none 0 0, .bool false])) : NetRes e w w' false 0 0 0 [] := by
  unfold NetRes; rw [if_neg (by simp)]; exact h
end Go.Proofs.Ytdmiihljepkapaa
