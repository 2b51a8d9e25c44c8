/- Tables of fractions that are responses. Plain Lean, and the helpers of both sides. -/
import Derived.Test.YtdmiihljepkapaaRatSS
import Derived.Test.YtdmiihljepkapaaRatioArith2
import Derived.Test.YtdmiihljepkapaaRatioOk2
namespace Go.Proofs.Ytdmiihljepkapaa
set_option linter.unusedSimpArgs false
set_option linter.unusedVariables false
open Go.RowKit

instance (a b : Int) : Decidable (fitsZ a b) := by unfold fitsZ; exact inferInstance
instance (n d : Int) : Decidable (okZ n d) := by unfold okZ; exact inferInstance
instance (a b c d : Int) : Decidable (calcZ a b c d) := by unfold calcZ; exact inferInstance
def addR (s x : Rz) : Rz := sel (decide (calcZ s.1 s.2 x.1 x.2)) (Gn.rat (s.1 * x.2 + x.1 * s.2) (s.2 * x.2))
def sumR (l : List Rz) : Rz := l.foldl addR (0, 1)
theorem sumR_snoc {l : List Rz} {k : Nat} (h : k < l.length) : sumR (l.take (k + 1)) = addR (sumR (l.take k)) l[k] := by
  rw [List.take_succ_eq_append_getElem h, sumR, List.foldl_append]; rfl
def atM (M : List (List Rz)) (i j : Nat) : Rz := (M.getD i []).getD j (0, 0)
theorem atM_eq {M : List (List Rz)} {i j : Nat} (hi : i < M.length) (hj : j < M[i].length) : atM M i j = M[i][j] := by
  unfold atM
  have e : M.getD i [] = M[i] := by rw [List.getD_eq_getElem?_getD, List.getElem?_eq_getElem hi, Option.getD_some]
  rw [e, List.getD_eq_getElem?_getD, List.getElem?_eq_getElem hj, Option.getD_some]
/-- entry (i, j) may stand in a response -/
def EntR (M : List (List Rz)) (i j : Nat) : Prop := atM M i j = atM M j i ∧ (i = j ∨ (atM M i j).1 ≤ 0)
def RowR (M : List (List Rz)) (n i : Nat) : Prop := (∀ j, j < n → EntR M i j) ∧ sumR (M.getD i []) = (0, 1)
structure RespOk (M : List (List Rz)) (n : Nat) : Prop where
  n1 : 1 ≤ n
  n5 : n ≤ 5
  len : ∀ k (h : k < M.length), M[k].length = n
  ok : ∀ k (h : k < M.length), ∀ x ∈ M[k], okZ x.1 x.2
  row : ∀ k, k < M.length → RowR M n k
/-- a fraction's own box -/
def ratAt (x : Rz) (i : Nat) : Value := if i = 0 then .int .i64 x.1 else .int .i64 x.2
theorem ratAt_new (w : World) (a b : Int) (t : TypeId) : (w.alloc (.cells #[.int .i64 a, .int .i64 b] t)).rowIs w.heap.size t 2 (ratAt (a, b)) :=
  World.rowIs_alloc w _ t _ (fun i hi => by
    have : i = 0 ∨ i = 1 := by simp at hi; omega
    rcases this with rfl | rfl <;> rfl)
theorem ratAt_cells {w : World} {b : Nat} {t : TypeId} {x : Rz} (h : w.rowIs b t 2 (ratAt x)) : w.cell? ⟨b, 0, none⟩ = some (.int .i64 x.1) ∧ w.cell? ⟨b, 1, none⟩ = some (.int .i64 x.2) :=
  ⟨h.cell (i := 0) (by omega), h.cell (i := 1) (by omega)⟩
theorem ratAt_set {w : World} {b : Nat} {t : TypeId} {x : Rz} (h : w.rowIs b t 2 (ratAt x)) (y : Rz) : ((w.setCell ⟨b, 0, none⟩ (.int .i64 y.1)).setCell ⟨b, 1, none⟩ (.int .i64 y.2)).rowIs b t 2 (ratAt y) :=
  ((h.set 0 _).set 1 _).congr (fun i hi => by
    have : i = 0 ∨ i = 1 := by omega
    rcases this with rfl | rfl <;> rfl)
theorem bne_pair {x y : Rz} (h : ¬ x = y) : ((x.1 == y.1) = false) ∨ (x.1 = y.1 ∧ (x.2 == y.2) = false) := by
  obtain ⟨a, b⟩ := x
  obtain ⟨c, d⟩ := y
  simp only
  by_cases e : a = c
  · exact .inr ⟨e, by simp; intro e2; exact h (by rw [e, e2])⟩
  · exact .inl (by simp [e])
end Go.Proofs.Ytdmiihljepkapaa
