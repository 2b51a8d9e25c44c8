/- A network's box; its first wires in order. -/
import Derived.Test.YtdmiihljepkapaaByEnds
import Derived.Test.YtdmiihljepkapaaHeld
namespace Go.Proofs.Ytdmiihljepkapaa
set_option linter.unusedSimpArgs false
set_option linter.unusedVariables false
open Go.RowKit

/-- the first k wires are in order -/
def WOk (N : Int) (l : List Wz) (k : Nat) : Prop := ∀ (j : Nat) (h : j < l.length), j < k → good N l[j] ∧ (∀ h0 : 0 < j, lexlt (l[j - 1]'(by omega)) l[j])
theorem WOk.next {N : Int} {l : List Wz} {k : Nat} (h : WOk N l k) (hk : k < l.length) (hg : good N l[k]) (ho : ∀ h0 : 0 < k, lexlt (l[k - 1]'(by omega)) l[k]) : WOk N l (k + 1) := by
  intro j hj hjk
  by_cases e : j = k
  · subst e; exact ⟨hg, ho⟩
  · exact h j hj (by omega)
theorem NetOk.wok {N E S : Int} {l : List Wz} (h : NetOk N E S l) (k : Nat) (hk : k < l.length) : good N l[k] ∧ (∀ h0 : 0 < k, lexlt (l[k - 1]'(by omega)) l[k]) := by
  refine ⟨h.w k hk, fun h0 => ?_⟩
  have := h.o (k - 1) (by omega)
  simp only [show k - 1 + 1 = k from by omega] at this
  exact this
theorem netOk_of {N E S : Int} {l : List Wz} (hh : Hdr N E S) (hw : WOk N l l.length) : NetOk N E S l ↔ ∀ v : Nat, (v : Int) < N → Rch l v :=
  ⟨fun h => h.c, fun hc => ⟨hh, fun k hk => (hw k hk hk).1, fun k hk => by have := (hw (k + 1) hk hk).2 (by omega); simpa using this, hc⟩⟩
theorem WOk.all {N : Int} {l : List Wz} (h : WOk N l l.length) : ∀ x ∈ l, good N x := by
  intro x hx
  obtain ⟨k, hk, rfl⟩ := List.getElem_of_mem hx
  exact (h k hk hk).1
/-- a network's box -/
abbrev NBox (N E S : Int) (a : Option Addr) (n c : Nat) (w : World) : World := w.alloc (.cells #[.int .i64 N, .int .i64 E, .int .i64 S, .slice a n c] 25)
theorem nbox_cells {N E S : Int} {a : Option Addr} {n c : Nat} {w wr : World} (h : Below (w.heap.size + 1) (NBox N E S a n c w) wr) :
    Below w.heap.size w wr ∧ w.heap.size < wr.heap.size ∧ (∀ o, wr.cell? ⟨w.heap.size, o, none⟩ = (NBox N E S a n c w).cell? ⟨w.heap.size, o, none⟩) ∧ ¬ w.heap.size = wr.heap.size ∧ ¬ wr.heap.size = w.heap.size := by
  have h1 : w.heap.size + 1 ≤ wr.heap.size := by have := h.size; simpa using this
  exact ⟨(balloc (Below.refl _ _) _).trans (h.mono (by omega)), by omega, fun o => h.cell (p := ⟨w.heap.size, o, none⟩) (by show w.heap.size < _; omega), by omega, by omega⟩

end Go.Proofs.Ytdmiihljepkapaa
