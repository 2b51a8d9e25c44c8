/- The table of a network, in plain Lean. -/
import Derived.Test.YtdmiihljepkapaaDet
import Derived.Test.YtdmiihljepkapaaConn
import Derived.Test.YtdmiihljepkapaaWeight
namespace Go.Proofs.Ytdmiihljepkapaa
set_option linter.unusedSimpArgs false
set_option linter.unusedVariables false
open Go.RowKit

/-- the wire x joins a and b -/
def joins (x : Wz) (a b : Int) : Prop := (x.1 = a ∧ x.2.1 = b) ∨ (x.1 = b ∧ x.2.1 = a)
instance (x : Wz) (a b : Int) : Decidable (joins x a b) := by unfold joins; exact inferInstance
/-- the weight between two nodes -/
def wbF : List Wz → Int → Int → Int
  | [], _, _ => 0
  | x :: t, a, b => if joins x a b then x.2.2 else wbF t a b
/-- every wire's nodes in order -/
def Asc (l : List Wz) : Prop := ∀ x ∈ l, x.1 < x.2.1
theorem wbF_same {l : List Wz} (h : Asc l) (a : Int) : wbF l a a = 0 := by
  induction l with
  | nil => rfl
  | cons x t ih =>
    have h1 := h x (by simp)
    rw [wbF, if_neg (by unfold joins; omega)]
    exact ih (fun y hy => h y (by simp [hy]))
theorem wbF_yes {l : List Wz} {a b : Int} {k : Nat} (h : k < l.length) (hj : joins l[k] a b) : wbF (l.drop k) a b = l[k].2.2 := by
  rw [List.drop_eq_getElem_cons h, wbF, if_pos hj]
theorem wbF_no {l : List Wz} {a b : Int} {k : Nat} (h : k < l.length) (hj : ¬ joins l[k] a b) : wbF (l.drop k) a b = wbF (l.drop (k + 1)) a b := by
  rw [List.drop_eq_getElem_cons h, wbF, if_neg hj]
theorem wbF_comm (l : List Wz) (a b : Int) : wbF l a b = wbF l b a := by
  induction l with
  | nil => rfl
  | cons x t ih =>
    rw [wbF, wbF, ih]
    by_cases h : joins x a b
    · rw [if_pos h, if_pos (by unfold joins at h ⊢; omega)]
    · rw [if_neg h, if_neg (by unfold joins at h ⊢; omega)]
theorem NetOk.asc {N E S : Int} {l : List Wz} (h : NetOk N E S l) : Asc l := by
  intro x hx
  obtain ⟨k, hk, rfl⟩ := List.getElem_of_mem hx
  exact (h.w k hk).2.1
theorem wbF_bd {l : List Wz} (h : ∀ x ∈ l, 1 ≤ x.2.2 ∧ x.2.2 ≤ 200) (a b : Int) : 0 ≤ wbF l a b ∧ wbF l a b ≤ 200 := by
  induction l with
  | nil => simp [wbF]
  | cons x t ih =>
    rw [wbF]
    split
    · have := h x (by simp); omega
    · exact ih (fun y hy => h y (by simp [hy]))
theorem NetOk.wb {N E S : Int} {l : List Wz} (h : NetOk N E S l) (a b : Int) : 0 ≤ wbF l a b ∧ wbF l a b ≤ 200 := by
  apply wbF_bd
  intro x hx
  obtain ⟨k, hk, rfl⟩ := List.getElem_of_mem hx
  exact (h.w k hk).2.2.2
/-- an entry of the table -/
def lapE (l : List Wz) (i j : Int) : Int := if i = j then atSum l i else -(wbF l i j)
def tab (N : Nat) (f : Int → Int → Int) : List (List Int) := (upto N).map fun i => (upto N).map fun j => f i j
theorem upto_at (n i : Nat) (h : i < (upto n).length) : (upto n)[i] = i := by simp [upto]
theorem tab_len (N : Nat) (f : Int → Int → Int) : (tab N f).length = N := by simp [tab, upto_len]
theorem tab_row (N : Nat) (f : Int → Int → Int) (i : Nat) (h : i < (tab N f).length) : (tab N f)[i] = (upto N).map fun j => f i j := by
  simp [tab, upto_at]
theorem tab_ent (N : Nat) (f : Int → Int → Int) (i j : Int) (hi : 0 ≤ i ∧ i < N) (hj : 0 ≤ j ∧ j < N) : ent (tab N f) i j = f i j := by
  unfold ent
  have h1 : i.toNat < (tab N f).length := by rw [tab_len]; omega
  have e1 : (tab N f).getD i.toNat [] = (upto N).map fun j => f i.toNat j := by
    rw [List.getD_eq_getElem?_getD, List.getElem?_eq_getElem h1, Option.getD_some, tab_row]
  rw [e1]
  have h2 : j.toNat < ((upto N).map fun j => f i.toNat j).length := by rw [List.length_map, upto_len]; omega
  rw [List.getD_eq_getElem?_getD, List.getElem?_eq_getElem h2, Option.getD_some]
  simp only [List.getElem_map, upto_at]
  rw [show ((i.toNat : Nat) : Int) = i from by omega, show ((j.toNat : Nat) : Int) = j from by omega]
/-- the nodes that the list has not -/
def others (N : Nat) (q : List Int) : List Int := (upto N).filter fun v => !q.contains v
theorem upto_succ (n : Nat) : upto (n + 1) = upto n ++ [(n : Int)] := by simp [upto, List.range_succ]
theorem others_succ (N : Nat) (q : List Int) (b : Bool) (h : q.contains (N : Int) = b) : others (N + 1) q = if b = true then others N q else others N q ++ [(N : Int)] := by
  unfold others
  rw [upto_succ, List.filter_append]
  have h' : List.contains q (N : Int) = b := h
  cases b <;> simp only [List.filter_cons, List.filter_nil, h', Bool.not_true, Bool.not_false, if_true, Bool.false_eq_true, if_false, List.append_nil]
theorem others_len (N : Nat) (q : List Int) : (others N q).length ≤ N := by
  have := List.length_filter_le (fun v => !q.contains v) (upto N)
  rw [upto_len] at this; exact this
theorem others_mem {N : Nat} {q : List Int} {v : Int} (h : v ∈ others N q) : 0 ≤ v ∧ v < N := by
  unfold others at h
  rw [List.mem_filter] at h
  exact (upto_mem N v).1 h.1
/-- the minor without these rows and columns -/
def leftW (N : Nat) (l : List Wz) (rows cols : List Int) : Int := detW (ent (tab N (lapE l))) (others N rows) (others N cols)
end Go.Proofs.Ytdmiihljepkapaa
