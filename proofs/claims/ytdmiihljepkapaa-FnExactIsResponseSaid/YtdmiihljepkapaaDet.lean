/- Determinants by the first row, as far as the machine holds them. -/
import Derived.Test.YtdmiihljepkapaaOpen
namespace Go.Proofs.Ytdmiihljepkapaa
set_option linter.unusedSimpArgs false
set_option linter.unusedVariables false
open Go.RowKit

/-- a table's entry -/
def ent (M : List (List Int)) (r c : Int) : Int := (M.getD r.toNat []).getD c.toNat 0
def sgn (k : Nat) : Int := if k % 2 = 0 then 1 else -1
theorem sgn_next (k : Nat) : sgn (k + 1) = -sgn k := by unfold sgn; split <;> split <;> omega
theorem sgn_cases (k : Nat) : sgn k = 1 ∨ sgn k = -1 := by unfold sgn; split <;> simp
/-- the first k columns' part -/
def dsum (e : Int → Int → Int) (f : List Int → Int) (r : Int) (cols : List Int) : Nat → Int
  | 0 => 0
  | k + 1 => if e r (cols.getD k 0) = 0 then dsum e f r cols k else wrap64 (dsum e f r cols k + wrap64 (wrap64 (sgn k * e r (cols.getD k 0)) * f (cols.eraseIdx k)))
def detW (e : Int → Int → Int) : List Int → List Int → Int
  | [], _ => 1
  | r :: rs, cols => dsum e (detW e rs) r cols cols.length
theorem dsum_zero {e : Int → Int → Int} {f : List Int → Int} {r : Int} {cols : List Int} {k : Nat} {x : Int} (hx : e r (cols.getD k 0) = x) (h : x = 0) : dsum e f r cols (k + 1) = dsum e f r cols k := by
  rw [dsum, if_pos (hx.trans h)]
theorem dsum_step {e : Int → Int → Int} {f : List Int → Int} {r : Int} {cols : List Int} {k : Nat} {x : Int} (hx : e r (cols.getD k 0) = x) (h : ¬ x = 0) : dsum e f r cols (k + 1) = wrap64 (dsum e f r cols k + wrap64 (wrap64 (sgn k * x) * f (cols.eraseIdx k))) := by
  rw [dsum, if_neg (by rw [hx]; exact h), hx]

/-! a table in memory, to be read: rows of elements of 's' cells, 'f' an element's cells -/
section
variable {α : Type} {f : α → List Value} {s : Nat}
def slV (x : Option Addr × Nat × List α) : Value := .slice x.1 x.2.2.length x.2.1
def Grid (f : α → List Value) (s : Nat) (w : World) (a : Option Addr) (n c : Nat) (M : List (List α)) : Prop :=
  ∃ rs : List (Option Addr × Nat × List α), rs.map (fun x => x.2.2) = M ∧ ArgRow w a n c 1 (rs.map slV) ∧ ∀ x ∈ rs, ArgRow w x.1 x.2.2.length x.2.1 s (x.2.2.flatMap f)
theorem Grid.below {w w' : World} {a : Option Addr} {n c : Nat} {M : List (List α)} (h : Grid f s w a n c M) (hb : Below w.heap.size w w') : Grid f s w' a n c M := by
  obtain ⟨rs, h1, h2, h3⟩ := h
  exact ⟨rs, h1, h2.below hb, fun x hx => (h3 x hx).below hb⟩
theorem Grid.len {w : World} {a : Option Addr} {n c : Nat} {M : List (List α)} (h : Grid f s w a n c M) : M.length = n := by
  obtain ⟨rs, h1, h2, h3⟩ := h
  have := h2.1
  rw [← h1]; simp at this ⊢; omega
theorem Grid.le {w : World} {a : Option Addr} {n c : Nat} {M : List (List α)} (h : Grid f s w a n c M) : n ≤ maxLen := by
  obtain ⟨rs, h1, h2, h3⟩ := h; exact h2.le
theorem Grid.form {w : World} {a : Option Addr} {n c : Nat} {M : List (List α)} (h : Grid f s w a n c M) (hn : 0 < n) : ∃ b o, a = some ⟨b, o, none⟩ ∧ b < w.heap.size := by
  obtain ⟨rs, h1, h2, h3⟩ := h
  obtain ⟨b, o, h4, h5, _⟩ := h2.form hn
  exact ⟨b, o, h4, h5⟩
/-- row i of a table: where it lies -/
theorem Grid.row {w : World} {b o n c : Nat} {M : List (List α)} (h : Grid f s w (some ⟨b, o, none⟩) n c M) (i : Nat) (hi : i < M.length) :
    ∃ a' c', w.cell? ⟨b, o + i, none⟩ = some (.slice a' M[i].length c') ∧ ArgRow w a' M[i].length c' s (M[i].flatMap f) := by
  have hl := h.len
  obtain ⟨rs, h1, h2, h3⟩ := h
  subst h1
  simp only [List.length_map] at hi
  have hlen := h2.1
  simp at hlen
  obtain ⟨b', o', e, _, hc⟩ := h2.form (by omega)
  cases e
  have hx := hc i (by simpa using hi)
  simp only [List.getElem_map] at hx ⊢
  exact ⟨rs[i].1, rs[i].2.1, hx, h3 _ (List.getElem_mem _)⟩
end
abbrev intV (z : Int) : List Value := [.int .i64 z]
abbrev IGrid := Grid intV 1
/-- one cell of a row of numbers -/
theorem int_cell {w : World} {b o n c : Nat} {l : List Int} (h : ArgRow w (some ⟨b, o, none⟩) n c 1 (ints l)) (i : Nat) (hi : i < l.length) : w.cell? ⟨b, o + i, none⟩ = some (.int .i64 l[i]) := by
  have hl := ints_len l
  have hn : 0 < n := by have := h.1; omega
  obtain ⟨b', o', e, _, hc⟩ := h.form hn
  cases e
  rw [hc i (by omega), ints_at]
theorem ArgRow.ints_len {w : World} {a : Option Addr} {n c : Nat} {l : List Int} (h : ArgRow w a n c 1 (ints l)) : l.length = n := by
  have h1 := h.1
  rw [Proofs.Ytdmiihljepkapaa.ints_len] at h1; omega
theorem ints_cons (x : Int) (l : List Int) : ints (x :: l) = .int .i64 x :: ints l := rfl
theorem ints_append (l m : List Int) : ints (l ++ m) = ints l ++ ints m := by simp [ints]
/-- the row behind its first element -/
theorem ArgRow.tail {w : World} {b o n c : Nat} {x : Int} {l : List Int} (h : ArgRow w (some ⟨b, o, none⟩) (n + 1) c 1 (ints (x :: l))) : ArgRow w (some ⟨b, o + 1, none⟩) n (c - 1) 1 (ints l) := by
  obtain ⟨h1, h2, h3, h4⟩ := h
  rw [ints_cons] at h1 h4
  refine ⟨by simpa using h1, by omega, by omega, ?_⟩
  rcases h4 with h4 | ⟨b', o', e, h5, h6⟩
  · omega
  · cases e
    refine .inr ⟨b, o + 1, rfl, h5, fun j hj => ?_⟩
    have := h6 (j + 1) (by simpa using hj)
    rw [show o + 1 + j = o + (j + 1) from by omega, this]; rfl
end Go.Proofs.Ytdmiihljepkapaa
