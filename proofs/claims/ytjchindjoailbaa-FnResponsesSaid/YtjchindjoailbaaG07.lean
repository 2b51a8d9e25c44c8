/- The table of a network, in plain Lean. -/
import Derived.Test.YtjchindjoailbaaG01
import Derived.Test.YtjchindjoailbaaG03
import Derived.StillTail
import Derived.StillTailTactics
import Derived.Test.YtjchindjoailbaaG02
import Derived.Test.YtjchindjoailbaaG06
import Derived.Test.YtjchindjoailbaaG04
namespace Go.Proofs.Ytjchindjoailbaa
set_option linter.unusedSimpArgs false
set_option linter.unusedVariables false
open Go.RowKit

/-- the wire x joins a and b -/
def joins (x : Wz) (a b : Int) : Prop := (x.1 = a ∧ x.2.1 = b) ∨ (x.1 = b ∧ x.2.1 = a)
instance (x : Wz) (a b : Int) : Decidable (joins x a b) := by unfold joins; exact inferInstance
/-- the weight between two nodes -/
def wbF : List Wz → Int → Int → Int
  | [], _, _ => 0
  | x :: t, a, b => if joins x a b then x.2.2 else wbF t a b
/-- every wire's nodes in order -/
def Asc (l : List Wz) : Prop := ∀ x ∈ l, x.1 < x.2.1
theorem wbF_same {l : List Wz} (h : Asc l) (a : Int) : wbF l a a = 0 := by
  induction l with
  | nil => rfl
  | cons x t ih =>
    have h1 := h x (by simp)
    rw [wbF, if_neg (by unfold joins; omega)]
    exact ih (fun y hy => h y (by simp [hy]))
theorem wbF_yes {l : List Wz} {a b : Int} {k : Nat} (h : k < l.length) (hj : joins l[k] a b) : wbF (l.drop k) a b = l[k].2.2 := by
  rw [List.drop_eq_getElem_cons h, wbF, if_pos hj]
theorem wbF_no {l : List Wz} {a b : Int} {k : Nat} (h : k < l.length) (hj : ¬ joins l[k] a b) : wbF (l.drop k) a b = wbF (l.drop (k + 1)) a b := by
  rw [List.drop_eq_getElem_cons h, wbF, if_neg hj]
theorem wbF_comm (l : List Wz) (a b : Int) : wbF l a b = wbF l b a := by
  induction l with
  | nil => rfl
  | cons x t ih =>
    rw [wbF, wbF, ih]
    by_cases h : joins x a b
    · rw [if_pos h, if_pos (by unfold joins at h ⊢; omega)]
    · rw [if_neg h, if_neg (by unfold joins at h ⊢; omega)]
theorem NetOk.asc {N E S : Int} {l : List Wz} (h : NetOk N E S l) : Asc l := by
  intro x hx
  obtain ⟨k, hk, rfl⟩ := List.getElem_of_mem hx
  exact (h.w k hk).2.1
theorem wbF_bd {l : List Wz} (h : ∀ x ∈ l, 1 ≤ x.2.2 ∧ x.2.2 ≤ 200) (a b : Int) : 0 ≤ wbF l a b ∧ wbF l a b ≤ 200 := by
  induction l with
  | nil => simp [wbF]
  | cons x t ih =>
    rw [wbF]
    split
    · have := h x (by simp); omega
    · exact ih (fun y hy => h y (by simp [hy]))
theorem NetOk.wb {N E S : Int} {l : List Wz} (h : NetOk N E S l) (a b : Int) : 0 ≤ wbF l a b ∧ wbF l a b ≤ 200 := by
  apply wbF_bd
  intro x hx
  obtain ⟨k, hk, rfl⟩ := List.getElem_of_mem hx
  exact (h.w k hk).2.2.2
/-- an entry of the table -/
def lapE (l : List Wz) (i j : Int) : Int := if i = j then atSum l i else -(wbF l i j)
def tab (N : Nat) (f : Int → Int → Int) : List (List Int) := (upto N).map fun i => (upto N).map fun j => f i j
theorem upto_at (n i : Nat) (h : i < (upto n).length) : (upto n)[i] = i := by simp [upto]
theorem tab_len (N : Nat) (f : Int → Int → Int) : (tab N f).length = N := by simp [tab, upto_len]
theorem tab_row (N : Nat) (f : Int → Int → Int) (i : Nat) (h : i < (tab N f).length) : (tab N f)[i] = (upto N).map fun j => f i j := by
  simp [tab, upto_at]
theorem tab_ent (N : Nat) (f : Int → Int → Int) (i j : Int) (hi : 0 ≤ i ∧ i < N) (hj : 0 ≤ j ∧ j < N) : ent (tab N f) i j = f i j := by
  unfold ent
  have h1 : i.toNat < (tab N f).length := by rw [tab_len]; omega
  have e1 : (tab N f).getD i.toNat [] = (upto N).map fun j => f i.toNat j := by
    rw [List.getD_eq_getElem?_getD, List.getElem?_eq_getElem h1, Option.getD_some, tab_row]
  rw [e1]
  have h2 : j.toNat < ((upto N).map fun j => f i.toNat j).length := by rw [List.length_map, upto_len]; omega
  rw [List.getD_eq_getElem?_getD, List.getElem?_eq_getElem h2, Option.getD_some]
  simp only [List.getElem_map, upto_at]
  rw [show ((i.toNat : Nat) : Int) = i from by omega, show ((j.toNat : Nat) : Int) = j from by omega]
/-- the nodes that the list has not -/
def others (N : Nat) (q : List Int) : List Int := (upto N).filter fun v => !q.contains v
theorem upto_succ (n : Nat) : upto (n + 1) = upto n ++ [(n : Int)] := by simp [upto, List.range_succ]
theorem others_succ (N : Nat) (q : List Int) (b : Bool) (h : q.contains (N : Int) = b) : others (N + 1) q = if b = true then others N q else others N q ++ [(N : Int)] := by
  unfold others
  rw [upto_succ, List.filter_append]
  have h' : List.contains q (N : Int) = b := h
  cases b <;> simp only [List.filter_cons, List.filter_nil, h', Bool.not_true, Bool.not_false, if_true, Bool.false_eq_true, if_false, List.append_nil]
theorem others_len (N : Nat) (q : List Int) : (others N q).length ≤ N := by
  have := List.length_filter_le (fun v => !q.contains v) (upto N)
  rw [upto_len] at this; exact this
theorem others_mem {N : Nat} {q : List Int} {v : Int} (h : v ∈ others N q) : 0 ≤ v ∧ v < N := by
  unfold others at h
  rw [List.mem_filter] at h
  exact (upto_mem N v).1 h.1
/-- the minor without these rows and columns -/
def leftW (N : Nat) (l : List Wz) (rows cols : List Int) : Int := detW (ent (tab N (lapE l))) (others N rows) (others N cols)
end Go.Proofs.Ytjchindjoailbaa

/- Lists of wires in order: put, dropped, told by their members. Plain Lean. -/
namespace Go.Proofs.Ytjchindjoailbaa
set_option linter.unusedSimpArgs false
set_option linter.unusedVariables false
open Go.RowKit

/-- strictly in order -/
def Srt (l : List Wz) : Prop := l.Pairwise lexlt
theorem lexlt_irrefl (x : Wz) : ¬ lexlt x x := by unfold lexlt; omega
theorem lexlt_trans {x y z : Wz} (h : lexlt x y) (k : lexlt y z) : lexlt x z := by unfold lexlt at *; omega
theorem lexlt_tri (x y : Wz) : lexlt x y ∨ lexlt y x ∨ (x.1 = y.1 ∧ x.2.1 = y.2.1) := by unfold lexlt; omega
instance (x y : Wz) : Decidable (lexlt x y) := by unfold lexlt; exact inferInstance
/-- lists in order with the same members are the same -/
theorem srt_eq : ∀ {l m : List Wz}, Srt l → Srt m → (∀ y, y ∈ l ↔ y ∈ m) → l = m
  | [], [], _, _, _ => rfl
  | [], b :: m, _, _, h => by have := (h b).2 (by simp); simp at this
  | a :: l, [], _, _, h => by have := (h a).1 (by simp); simp at this
  | a :: l, b :: m, hl, hm, h => by
    have hl' := List.pairwise_cons.1 hl
    have hm' := List.pairwise_cons.1 hm
    have hab : a = b := by
      rcases List.mem_cons.1 ((h a).1 (by simp)) with e | e
      · exact e
      · rcases List.mem_cons.1 ((h b).2 (by simp)) with e' | e'
        · exact e'.symm
        · exact absurd (lexlt_trans (hl'.1 b e') (hm'.1 a e)) (lexlt_irrefl _)
    subst hab
    rw [srt_eq hl'.2 hm'.2 (fun y => ?_)]
    constructor
    · intro hy
      rcases List.mem_cons.1 ((h y).1 (by simp [hy])) with e | e
      · subst e; exact absurd (hl'.1 y hy) (lexlt_irrefl _)
      · exact e
    · intro hy
      rcases List.mem_cons.1 ((h y).2 (by simp [hy])) with e | e
      · subst e; exact absurd (hm'.1 y hy) (lexlt_irrefl _)
      · exact e
/-- of two members with the same nodes -/
theorem srt_key : ∀ {l : List Wz}, Srt l → ∀ {x y : Wz}, x ∈ l → y ∈ l → x.1 = y.1 → x.2.1 = y.2.1 → x = y
  | [], _, x, y, hx, _, _, _ => by simp at hx
  | a :: l, h, x, y, hx, hy, e1, e2 => by
    have h' := List.pairwise_cons.1 h
    rcases List.mem_cons.1 hx with ex | hx'
    · subst ex
      rcases List.mem_cons.1 hy with ey | hy'
      · exact ey.symm
      · have := h'.1 y hy'; unfold lexlt at this; omega
    · rcases List.mem_cons.1 hy with ey | hy'
      · subst ey; have := h'.1 x hx'; unfold lexlt at this; omega
      · exact srt_key h'.2 hx' hy' e1 e2
theorem pair_of_next : ∀ {l : List Wz}, (∀ (k : Nat) (h : k + 1 < l.length), lexlt (l[k]'(by omega)) l[k + 1]) → Srt l
  | [], _ => List.Pairwise.nil
  | [a], _ => List.pairwise_singleton _ _
  | a :: b :: l, h => by
    have ih : Srt (b :: l) := pair_of_next (fun k hk => by have := h (k + 1) (by simpa using hk); simpa using this)
    have h0 : lexlt a b := by have := h 0 (by simp); simpa using this
    refine List.pairwise_cons.2 ⟨fun y hy => ?_, ih⟩
    rcases List.mem_cons.1 hy with rfl | hy
    · exact h0
    · exact lexlt_trans h0 ((List.pairwise_cons.1 ih).1 y hy)
theorem NetOk.srt {N E S : Int} {l : List Wz} (h : NetOk N E S l) : Srt l := pair_of_next h.o
theorem NetOk.good {N E S : Int} {l : List Wz} (h : NetOk N E S l) {x : Wz} (hx : x ∈ l) : Proofs.Ytjchindjoailbaa.good N x := by
  obtain ⟨k, hk, rfl⟩ := List.getElem_of_mem hx
  exact h.w k hk

/-- the wires without those between p and q -/
def rest (l : List Wz) (p q : Int) : List Wz := l.filter fun e => !decide (e.1 = p ∧ e.2.1 = q)
theorem rest_mem {l : List Wz} {p q : Int} {y : Wz} : y ∈ rest l p q ↔ y ∈ l ∧ ¬ (y.1 = p ∧ y.2.1 = q) := by simp only [rest, List.mem_filter, Bool.not_eq_true', decide_eq_false_iff_not]
theorem rest_srt {l : List Wz} (h : Srt l) (p q : Int) : Srt (rest l p q) := List.Pairwise.filter _ h
theorem rest_yes {l : List Wz} {p q : Int} {k : Nat} (h : k < l.length) (e : l[k].1 = p ∧ l[k].2.1 = q) : rest (l.take (k + 1)) p q = rest (l.take k) p q := by
  rw [List.take_succ_eq_append_getElem h, rest, List.filter_append]
  simp [rest, e]
theorem rest_no {l : List Wz} {p q : Int} {k : Nat} (h : k < l.length) (e : ¬ (l[k].1 = p ∧ l[k].2.1 = q)) : rest (l.take (k + 1)) p q = rest (l.take k) p q ++ [l[k]] := by
  rw [List.take_succ_eq_append_getElem h, rest, List.filter_append]
  congr 1
  simp only [List.filter_cons, List.filter_nil]
  rw [decide_eq_false e]; rfl
/-- the weights between p and q summed -/
def addS : List Wz → Int → Int → Int
  | [], _, _ => 0
  | e :: t, p, q => (if e.1 = p ∧ e.2.1 = q then e.2.2 else 0) + addS t p q
theorem addS_app (l m : List Wz) (p q : Int) : addS (l ++ m) p q = addS l p q + addS m p q := by
  induction l with
  | nil => simp [addS]
  | cons e t ih => simp only [List.cons_append, addS, ih]; omega
theorem addS_yes {l : List Wz} {p q : Int} {k : Nat} (h : k < l.length) (e : l[k].1 = p ∧ l[k].2.1 = q) : addS (l.take (k + 1)) p q = addS (l.take k) p q + l[k].2.2 := by
  rw [List.take_succ_eq_append_getElem h, addS_app]; simp only [addS, if_pos e]; omega
theorem addS_no {l : List Wz} {p q : Int} {k : Nat} (h : k < l.length) (e : ¬ (l[k].1 = p ∧ l[k].2.1 = q)) : addS (l.take (k + 1)) p q = addS (l.take k) p q := by
  rw [List.take_succ_eq_append_getElem h, addS_app]; simp only [addS, if_neg e]; omega
theorem addS_bd {l : List Wz} {B : Int} (hB : 0 ≤ B) (h : ∀ x ∈ l, 0 ≤ x.2.2 ∧ x.2.2 ≤ B) (p q : Int) : 0 ≤ addS l p q ∧ addS l p q ≤ l.length * B := by
  induction l with
  | nil => simp [addS]
  | cons e t ih =>
    have h1 := h e (by simp)
    have h2 := ih (fun x hx => h x (by simp [hx]))
    have e3 : ((e :: t).length : Int) * B = t.length * B + B := by simp [Int.add_mul]
    rw [e3]
    simp only [addS]
    split <;> omega
theorem addS_mem : ∀ {l : List Wz}, Srt l → ∀ {y : Wz}, y ∈ l → addS l y.1 y.2.1 = y.2.2
  | [], _, y, hy => by simp at hy
  | a :: l, h, y, hy => by
    have h' := List.pairwise_cons.1 h
    rcases List.mem_cons.1 hy with rfl | hy
    · have : addS l y.1 y.2.1 = 0 := by
        have key : ∀ m : List Wz, (∀ z ∈ m, lexlt y z) → addS m y.1 y.2.1 = 0 := by
          intro m
          induction m with
          | nil => intro _; rfl
          | cons z m ih =>
            intro hz
            have h1 := hz z (by simp)
            simp only [addS]
            rw [if_neg (by unfold lexlt at h1; omega), ih (fun z' h' => hz z' (by simp [h']))]; rfl
        exact key l h'.1
      simp only [addS, this]; simp
    · have h1 := h'.1 y hy
      simp only [addS]
      rw [if_neg (by unfold lexlt at h1; omega), addS_mem h'.2 hy]; omega
theorem addS_zero {l : List Wz} {p q : Int} (h : ∀ x ∈ l, ¬ (x.1 = p ∧ x.2.1 = q)) : addS l p q = 0 := by
  induction l with
  | nil => rfl
  | cons e t ih =>
    simp only [addS]
    rw [if_neg (h e (by simp)), ih (fun x hx => h x (by simp [hx]))]; rfl
/-- a wire put in -/
def insL (x : Wz) : List Wz → List Wz
  | [] => [x]
  | e :: t => if lexlt x e then x :: e :: t else e :: insL x t
theorem insL_none {x : Wz} : ∀ {l : List Wz}, (∀ e ∈ l, ¬ lexlt x e) → insL x l = l ++ [x]
  | [], _ => rfl
  | e :: t, h => by rw [insL, if_neg (h e (by simp)), insL_none (fun z hz => h z (by simp [hz]))]; rfl
theorem insL_new {x e' : Wz} : ∀ {l : List Wz}, (∀ e ∈ l, ¬ lexlt x e) → lexlt x e' → insL x (l ++ [e']) = l ++ [x] ++ [e']
  | [], _, h' => by simp [insL, h']
  | e :: t, h, h' => by rw [List.cons_append, insL, if_neg (h e (by simp)), insL_new (fun z hz => h z (by simp [hz])) h']; rfl
theorem insL_more {x e' : Wz} : ∀ {l : List Wz}, (∃ e ∈ l, lexlt x e) → insL x (l ++ [e']) = insL x l ++ [e']
  | [], h => by obtain ⟨e, he, _⟩ := h; simp at he
  | a :: t, h => by
    rw [List.cons_append, insL, insL]
    by_cases ha : lexlt x a
    · rw [if_pos ha, if_pos ha]; rfl
    · rw [if_neg ha, if_neg ha, insL_more]
      · rfl
      · obtain ⟨e, he, h2⟩ := h
        rcases List.mem_cons.1 he with rfl | he
        · exact absurd h2 ha
        · exact ⟨e, he, h2⟩
theorem insL_mem {x : Wz} : ∀ {l : List Wz} {y : Wz}, y ∈ insL x l ↔ y = x ∨ y ∈ l
  | [], y => by simp [insL]
  | e :: t, y => by
    rw [insL]
    split
    · simp
    · rw [List.mem_cons, insL_mem, List.mem_cons]
      constructor
      · rintro (h | h | h) <;> simp [h]
      · rintro (h | h | h) <;> simp [h]
theorem insL_srt {x : Wz} : ∀ {l : List Wz}, Srt l → (∀ e ∈ l, ¬ (e.1 = x.1 ∧ e.2.1 = x.2.1)) → Srt (insL x l)
  | [], _, _ => List.pairwise_singleton _ _
  | e :: t, h, hk => by
    have h' := List.pairwise_cons.1 h
    rw [insL]
    split
    · rename_i hx
      refine List.pairwise_cons.2 ⟨fun y hy => ?_, h⟩
      rcases List.mem_cons.1 hy with rfl | hy
      · exact hx
      · exact lexlt_trans hx (h'.1 y hy)
    · rename_i hx
      refine List.pairwise_cons.2 ⟨fun y hy => ?_, insL_srt h'.2 (fun z hz => hk z (by simp [hz]))⟩
      rcases insL_mem.1 hy with rfl | hy
      · rcases lexlt_tri e y with h1 | h1 | h1
        · exact h1
        · exact absurd h1 hx
        · exact absurd h1 (hk e (by simp))
      · exact h'.1 y hy
/-- wires with the weight w put between p and q, in its place or (add) on top of what is there -/
def putL (l : List Wz) (p q w : Int) (add : Bool) : List Wz := insL (p, q, if add = true then w + addS l p q else w) (rest l p q)
theorem putL_srt {l : List Wz} (h : Srt l) (p q w : Int) (add : Bool) : Srt (putL l p q w add) :=
  insL_srt (rest_srt h p q) (fun e he => (rest_mem.1 he).2)
theorem putL_mem {l : List Wz} {p q w : Int} {add : Bool} {y : Wz} : y ∈ putL l p q w add ↔ y = (p, q, if add = true then w + addS l p q else w) ∨ (y ∈ l ∧ ¬ (y.1 = p ∧ y.2.1 = q)) := by
  rw [putL, insL_mem, rest_mem]
/-- wires without those of weight 0 -/
def dropL (l : List Wz) : List Wz := l.filter fun e => !decide (e.2.2 = 0)
theorem dropL_mem {l : List Wz} {y : Wz} : y ∈ dropL l ↔ y ∈ l ∧ ¬ y.2.2 = 0 := by simp [dropL, List.mem_filter]
theorem dropL_srt {l : List Wz} (h : Srt l) : Srt (dropL l) := List.Pairwise.filter _ h
theorem dropL_yes {l : List Wz} {k : Nat} (h : k < l.length) (e : l[k].2.2 = 0) : dropL (l.take (k + 1)) = dropL (l.take k) := by
  rw [List.take_succ_eq_append_getElem h, dropL, List.filter_append]
  simp [dropL, e]
theorem dropL_no {l : List Wz} {k : Nat} (h : k < l.length) (e : ¬ l[k].2.2 = 0) : dropL (l.take (k + 1)) = dropL (l.take k) ++ [l[k]] := by
  rw [List.take_succ_eq_append_getElem h, dropL, List.filter_append]
  congr 1
  simp only [List.filter_cons, List.filter_nil]
  rw [decide_eq_false e]; rfl

/-! the wires of a table -/
/-- row i's wires from column j up to column N -/
def rowL (f : Int → Int → Int) (N i : Nat) : List Wz := ((List.range N).filter fun j => decide (i < j) && !decide (f i j = 0)).map fun (j : Nat) => ((i : Int), (j : Int), f i j)
def tabL (f : Int → Int → Int) (N : Nat) : Nat → List Wz
  | 0 => []
  | i + 1 => tabL f N i ++ rowL f N i
theorem rowL_mem {f : Int → Int → Int} {N i : Nat} {y : Wz} : y ∈ rowL f N i ↔ y.1 = i ∧ (i : Int) < y.2.1 ∧ y.2.1 < N ∧ y.2.2 = f y.1 y.2.1 ∧ ¬ f y.1 y.2.1 = 0 := by
  obtain ⟨a, b, c⟩ := y
  simp only [rowL, List.mem_map, List.mem_filter, List.mem_range, Bool.and_eq_true, decide_eq_true_eq, Bool.not_eq_true', decide_eq_false_iff_not, Prod.mk.injEq]
  constructor
  · rintro ⟨j, ⟨h1, h2, h3⟩, rfl, rfl, rfl⟩
    exact ⟨rfl, by omega, by omega, rfl, h3⟩
  · rintro ⟨rfl, h2, h3, rfl, h5⟩
    have e : ((b.toNat : Nat) : Int) = b := by omega
    exact ⟨b.toNat, ⟨by omega, by omega, by rw [e]; exact h5⟩, rfl, e, by rw [e]⟩
theorem tabL_mem {f : Int → Int → Int} {N : Nat} {y : Wz} : ∀ {k : Nat}, y ∈ tabL f N k ↔ 0 ≤ y.1 ∧ y.1 < k ∧ y.1 < y.2.1 ∧ y.2.1 < N ∧ y.2.2 = f y.1 y.2.1 ∧ ¬ f y.1 y.2.1 = 0
  | 0 => by simp [tabL]; omega
  | k + 1 => by
    rw [tabL, List.mem_append, tabL_mem, rowL_mem]
    constructor
    · rintro (⟨h1, h2, h3⟩ | ⟨h1, h2, h3⟩)
      · exact ⟨h1, by omega, h3⟩
      · exact ⟨by omega, by omega, by omega, h3⟩
    · rintro ⟨h1, h2, h3⟩
      by_cases e : y.1 = k
      · exact .inr ⟨e, by omega, h3.2⟩
      · exact .inl ⟨h1, by omega, h3⟩
theorem rowL_srt (f : Int → Int → Int) (N i : Nat) : Srt (rowL f N i) := by
  unfold Srt rowL
  rw [List.pairwise_map]
  refine List.Pairwise.imp ?_ (List.Pairwise.filter _ (List.pairwise_lt_range (n := N)))
  intro a b h
  exact .inr ⟨rfl, by show (a : Int) < b; omega⟩
theorem tabL_srt (f : Int → Int → Int) (N : Nat) : ∀ k, Srt (tabL f N k)
  | 0 => List.Pairwise.nil
  | k + 1 => by
    rw [tabL]
    refine List.pairwise_append.2 ⟨tabL_srt f N k, rowL_srt f N k, fun x hx y hy => ?_⟩
    have h1 := tabL_mem.1 hx
    have h2 := rowL_mem.1 hy
    exact .inl (by omega)
/-- a network's wires told by its weights -/
theorem wbF_mem {l : List Wz} (hs : Srt l) (ha : Asc l) {y : Wz} (hy : y ∈ l) : wbF l y.1 y.2.1 = y.2.2 := by
  induction l with
  | nil => simp at hy
  | cons e t ih =>
    have h' := List.pairwise_cons.1 hs
    have hay := ha y hy
    have hae := ha e (by simp)
    rw [wbF]
    rcases List.mem_cons.1 hy with rfl | hy
    · rw [if_pos (.inl ⟨rfl, rfl⟩)]
    · rw [if_neg, ih h'.2 (fun x hx => ha x (by simp [hx])) hy]
      have := h'.1 y hy
      unfold lexlt at this; unfold joins; omega
theorem wbF_find {l : List Wz} (ha : Asc l) {p q : Int} (hpq : p < q) (h : ¬ wbF l p q = 0) : (p, q, wbF l p q) ∈ l := by
  induction l with
  | nil => simp [wbF] at h
  | cons e t ih =>
    have hae := ha e (by simp)
    rw [wbF] at h ⊢
    by_cases hj : joins e p q
    · rw [if_pos hj]
      have e1 : e.1 = p ∧ e.2.1 = q := by unfold joins at hj; omega
      rw [← e1.1, ← e1.2]
      exact List.mem_cons_self
    · rw [if_neg hj] at h ⊢
      exact List.mem_cons_of_mem _ (ih (fun x hx => ha x (by simp [hx])) h)
/-- a network in order is its table's -/
theorem NetOk.tabL {N E S : Int} {l : List Wz} {M : Nat} (h : NetOk N E S l) (hM : N = M) : tabL (wbF l) M M = l := by
  refine srt_eq (tabL_srt _ _ _) h.srt (fun y => ?_)
  rw [tabL_mem]
  constructor
  · rintro ⟨h1, h2, h3, h4, h5, h6⟩
    have := wbF_find h.asc h3 h6
    rw [← h5] at this; exact this
  · intro hy
    obtain ⟨g1, g2, g3, g4, g5⟩ := h.good hy
    have := wbF_mem h.srt h.asc hy
    exact ⟨g1, by omega, g2, by omega, this.symm, by omega⟩
end Go.Proofs.Ytjchindjoailbaa

/- A network's box; its first wires in order. -/
namespace Go.Proofs.Ytjchindjoailbaa
set_option linter.unusedSimpArgs false
set_option linter.unusedVariables false
open Go.RowKit

/-- the first k wires are in order -/
def WOk (N : Int) (l : List Wz) (k : Nat) : Prop := ∀ (j : Nat) (h : j < l.length), j < k → good N l[j] ∧ (∀ h0 : 0 < j, lexlt (l[j - 1]'(by omega)) l[j])
theorem WOk.next {N : Int} {l : List Wz} {k : Nat} (h : WOk N l k) (hk : k < l.length) (hg : good N l[k]) (ho : ∀ h0 : 0 < k, lexlt (l[k - 1]'(by omega)) l[k]) : WOk N l (k + 1) := by
  intro j hj hjk
  by_cases e : j = k
  · subst e; exact ⟨hg, ho⟩
  · exact h j hj (by omega)
theorem NetOk.wok {N E S : Int} {l : List Wz} (h : NetOk N E S l) (k : Nat) (hk : k < l.length) : Go.Proofs.Ytjchindjoailbaa.good N l[k] ∧ (∀ h0 : 0 < k, lexlt (l[k - 1]'(by omega)) l[k]) := by
  refine ⟨h.w k hk, fun h0 => ?_⟩
  have := h.o (k - 1) (by omega)
  simp only [show k - 1 + 1 = k from by omega] at this
  exact this
theorem netOk_of {N E S : Int} {l : List Wz} (hh : Hdr N E S) (hw : WOk N l l.length) : NetOk N E S l ↔ ∀ v : Nat, (v : Int) < N → Rch l v :=
  ⟨fun h => h.c, fun hc => ⟨hh, fun k hk => (hw k hk hk).1, fun k hk => by have := (hw (k + 1) hk hk).2 (by omega); simpa using this, hc⟩⟩
theorem WOk.all {N : Int} {l : List Wz} (h : WOk N l l.length) : ∀ x ∈ l, good N x := by
  intro x hx
  obtain ⟨k, hk, rfl⟩ := List.getElem_of_mem hx
  exact (h k hk hk).1
/-- a network's box -/
abbrev NBox (N E S : Int) (a : Option Addr) (n c : Nat) (w : World) : World := w.alloc (.cells #[.int .i64 N, .int .i64 E, .int .i64 S, .slice a n c] 25)
theorem nbox_cells {N E S : Int} {a : Option Addr} {n c : Nat} {w wr : World} (h : Below (w.heap.size + 1) (NBox N E S a n c w) wr) :
    Below w.heap.size w wr ∧ w.heap.size < wr.heap.size ∧ (∀ o, wr.cell? ⟨w.heap.size, o, none⟩ = (NBox N E S a n c w).cell? ⟨w.heap.size, o, none⟩) ∧ ¬ w.heap.size = wr.heap.size ∧ ¬ wr.heap.size = w.heap.size := by
  have h1 : w.heap.size + 1 ≤ wr.heap.size := by have := h.size; simpa using this
  exact ⟨(balloc (Below.refl _ _) _).trans (h.mono (by omega)), by omega, fun o => h.cell (p := ⟨w.heap.size, o, none⟩) (by show w.heap.size < _; omega), by omega, by omega⟩

end Go.Proofs.Ytjchindjoailbaa

/- A region that draws its order: what only reads, and calls that leave the world, in any order; then, one after the other, what waits for all of them. -/
namespace Go.Proofs.Ytjchindjoailbaa
set_option linter.unusedSimpArgs false
set_option linter.unusedVariables false
open Go.RowKit

section
variable {P : Program} {ops : Array Oper} {md : Region.Mode} {C : World → Prop}
/-- the head's operations, in whatever order, each quiet in the class C; L when n of them are done -/
def qHead (P : Program) (md : Region.Mode) (ops : Array Oper) (C : World → Prop) (n : Nat) (L : Array Bool → Act → Prop) : Nat → Array Bool → Act → Prop
  | 0, listed, a => L listed a
  | f + 1, listed, a => Region.ready md ops listed ≠ [] ∧ ∀ i ∈ Region.ready md ops listed, i < n ∧ qOp P ops C i (qHead P md ops C n L f (listed.setIfInBounds i true)) a
theorem any_of_qHead {n g : Nat} {L : Array Bool → Act → Prop} {Q' : Exit → Act → World → Prop} (hL : ∀ listed a w, C w → L listed a → wpAny P md ops Q' g listed a w) (f : Nat) : ∀ (listed : Array Bool) (a : Act) (w : World), C w → qHead P md ops C n L f listed a → wpAny P md ops Q' (f + g) listed a w := by
  induction f with
  | zero => intro listed a w hw h; rw [Nat.zero_add]; exact hL _ _ _ hw h
  | succ f ih =>
    intro listed a w hw h
    rw [Nat.succ_add]
    exact ⟨fun h0 => absurd h0 h.1, fun i hi => wpOp_of_qOp hw (fun a' w' hw' h' => ih _ a' w' hw' h') (h.2 i hi).2⟩
theorem qHead_first {n i : Nat} {oi : Oper} {v : Value} {L : Array Bool → Act → Prop} (hi : ops[i]? = some oi) (hsel : ∀ (j : Nat) (o : Oper) cs b, ops[j]? = some o → o.op ≠ .select cs b)
    (hs : Region.sinkB md ops n = true) (hc : Region.chainB md ops n = true) (hn : n < ops.size) (hin : i < n) (hL : ∀ listed a, L listed a → ∀ j ∈ Region.ready md ops listed, n ≤ j) (f : Nat) :
    ∀ (listed : Array Bool) (a : Act), HeadInv md ops n listed →
      (∀ j oj, ops[j]? = some oj → j ≠ i → listed.getD j true = false → (∀ e ∈ oj.after, Region.binds md e = true → e.on ≠ i) → oi.apart ops oj = true) →
      i ∈ Region.ready md ops listed → YieldsIn P ops C oi v a → qHead P md ops C n L f (listed.setIfInBounds i true) (a.put oi.dst v) → qHead P md ops C n L (f + 1) listed a := by
  induction f with
  | zero =>
    intro listed a inv _ hr hy H
    refine ⟨List.ne_nil_of_mem hr, fun j hj => ?_⟩
    have hjn : j < n := Nat.lt_of_not_le fun h => tail_waits hs hc hn inv _ i rfl hin (mem_ready.1 hr).1 j h hj
    refine ⟨hjn, ?_⟩
    by_cases e : j = i
    · subst e; exact hy.qOp hi H
    · exact absurd (hL _ _ H j (ready_mono hj e)) (by omega)
  | succ f ih =>
    intro listed a inv hfree hr hy H
    refine ⟨List.ne_nil_of_mem hr, fun j hj => ?_⟩
    have hun := (mem_ready.1 hr).1
    have hjn : j < n := Nat.lt_of_not_le fun h => tail_waits hs hc hn inv _ i rfl hin hun j h hj
    refine ⟨hjn, ?_⟩
    by_cases e : j = i
    · subst e; exact hy.qOp hi H
    · obtain ⟨hjun, oj, hoj, hall⟩ := mem_ready.1 hj
      have hno : ∀ d ∈ oj.after, Region.binds md d = true → d.on ≠ i := fun d hd hb he => by
        have h1 := hall d hd hb
        rw [he, getD_both hun] at h1
        exact absurd h1 (by simp)
      have h2 := qOp_put hoj (hfree j oj hoj e hjun hno) (fun cs b => hsel i oi cs b hi) (fun cs b => hsel j oj cs b hoj) hy (H.2 j (ready_mono hj e)).2
      refine qOp_mono (fun a' h3 => ih (listed.setIfInBounds j true) a' (inv.set hj hjn) ?_ (ready_mono hr (Ne.symm e)) h3.1 ?_) h2
      · intro k ok hk hki hku hkn
        refine hfree k ok hk hki ?_ hkn
        by_cases e2 : j = k
        · subst e2; exact hjun
        · rwa [getD_set_ne true e2] at hku
      · rw [Array.setIfInBounds_comm _ _ e]; exact h3.2
theorem qHead_lex {n g : Nat} {R : Act → Prop} (hsel : Region.noSelect ops = true) (hs : Region.sinkB md ops n = true) (hc : Region.chainB md ops n = true) (hn : n < ops.size) (l : List Oper) :
    ∀ (k : Nat) (listed : Array Bool) (a : Act), (∀ j, j < l.length → l[j]? = ops[k + j]?) → k + l.length = n → HeadInv md ops n listed → Region.lexHead md ops g l.length k listed = true → wpQuiet P ops C R l a →
      qHead P md ops C n (fun listed' a' => Region.seqB md ops g n listed' = true ∧ R a') l.length listed a := by
  induction l with
  | nil =>
    intro k listed a _ hk _ hB h
    obtain rfl : k = n := hk
    exact ⟨hB, h⟩
  | cons o l ih =>
    intro k listed a hl hk inv hB h
    have h0 : ops[k]? = some o := (hl 0 (by simp)).symm
    simp only [List.length_cons, Region.lexHead, Bool.and_eq_true] at hB
    have hkn : k < n := by simp only [List.length_cons] at hk; omega
    have hr : k ∈ Region.ready md ops listed := by simpa using hB.1.1
    have hq : qOp P ops C k (wpQuiet P ops C R l) a := by unfold qOp; rw [h0]; exact h
    obtain ⟨v, hy, hK⟩ := yieldsIn_of_qOp h0 hq
    refine qHead_first h0 (Region.noSelect_spec hsel) hs hc hn hkn (fun _ _ hL => seqB_ready hL.1) l.length listed a inv (Region.free_spec h0 hB.1.2) hr hy ?_
    refine ih (k + 1) _ _ (fun j hj => ?_) (by simp only [List.length_cons] at hk; omega) (inv.set hr hkn) hB.2 hK
    have := hl (j + 1) (by simp; omega)
    simpa [Nat.add_assoc, Nat.add_comm 1 j] using this
end
/-- n operations in any order, each quiet in the class C, then the rest in their order -/
theorem region_quiet_tail_in {P : Program} {id : Nat} {Q : Exit → Act → World → Prop} {a : Act} {w : World} {l : List Oper} (C : World → Prop) (n : Nat) (hm : P.follows .mixedOrders = true) (hB : Region.lexTailB .any l.toArray n = true) (hC : C { w with drawn := w.drawn + 1 })
    (h : wpQuiet P l.toArray C (fun a' => ∀ w', C w' → wpList P l.toArray Q (l.drop n) a' w') (l.take n) a) : (Code.region id l.toArray true).wp P Q a w := by
  simp only [Region.lexTailB, Bool.and_eq_true, decide_eq_true_eq] at hB
  obtain ⟨⟨⟨⟨hsel, hn⟩, hs⟩, hc⟩, hlex⟩ := hB
  have hn' : n < l.length := by simpa using hn
  have ht : (l.take n).length = n := by rw [List.length_take]; omega
  have inv : HeadInv .any l.toArray n (Array.replicate l.toArray.size false) :=
    ⟨by simp, fun j oj _ hl => by rw [getD_replicate_false] at hl; exact absurd hl (by simp), fun t _ h2 => getD_in (by simpa using h2) (getD_replicate_false _ _)⟩
  have H := qHead_lex (md := .any) (g := l.toArray.size - n) hsel hs hc hn (l.take n) 0 _ a (fun j hj => by
    rw [ht] at hj
    simp [hj]) (by omega) inv (by rw [ht]; exact hlex) h
  refine wp_region_any hm ?_
  have hd : (l.drop n).length = l.toArray.size - n := by simp
  have key := any_of_qHead (Q' := Q) (g := l.toArray.size - n) (fun listed a' w' hw' hL => by
    have h9 := wpAny_of_seq (md := .any) (Q' := Q) (l.drop n) n listed a' w' (fun j => by simp [List.getElem?_drop]) (by rw [hd]; exact hL.1) (hL.2 w' hw')
    rwa [hd] at h9) _ _ _ { w with drawn := w.drawn + 1 } hC H
  rw [ht, show n + (l.toArray.size - n) = l.toArray.size from by simp at hn ⊢; omega] at key
  exact key
/-- the same where the head's calls leave the world -/
theorem region_quiet_tail {P : Program} {id : Nat} {Q : Exit → Act → World → Prop} {a : Act} {w : World} {l : List Oper} (n : Nat) (hm : P.follows .mixedOrders = true) (hB : Region.lexTailB .any l.toArray n = true)
    (h : wpQuiet P l.toArray (fun w' => ∃ k, w' = w.drewN k) (fun a' => ∀ w', (∃ k, w' = w.drewN k) → wpList P l.toArray Q (l.drop n) a' w') (l.take n) a) : (Code.region id l.toArray true).wp P Q a w :=
  region_quiet_tail_in (fun w' => ∃ k, w' = w.drewN k) n hm hB ⟨1, rfl⟩ h
end Go.Proofs.Ytjchindjoailbaa

/- Tables of fractions that are responses. Plain Lean, and the helpers of both sides. -/
namespace Go.Proofs.Ytjchindjoailbaa
set_option linter.unusedSimpArgs false
set_option linter.unusedVariables false
open Go.RowKit

instance (a b : Int) : Decidable (fitsZ a b) := by unfold fitsZ; exact inferInstance
instance (n d : Int) : Decidable (okZ n d) := by unfold okZ; exact inferInstance
instance (a b c d : Int) : Decidable (calcZ a b c d) := by unfold calcZ; exact inferInstance
def addR (s x : Rz) : Rz := sel (decide (calcZ s.1 s.2 x.1 x.2)) (Gn.rat (s.1 * x.2 + x.1 * s.2) (s.2 * x.2))
def sumR (l : List Rz) : Rz := l.foldl addR (0, 1)
theorem sumR_snoc {l : List Rz} {k : Nat} (h : k < l.length) : sumR (l.take (k + 1)) = addR (sumR (l.take k)) l[k] := by
  rw [List.take_succ_eq_append_getElem h, sumR, List.foldl_append]; rfl
def atM (M : List (List Rz)) (i j : Nat) : Rz := (M.getD i []).getD j (0, 0)
theorem atM_eq {M : List (List Rz)} {i j : Nat} (hi : i < M.length) (hj : j < M[i].length) : atM M i j = M[i][j] := by
  unfold atM
  have e : M.getD i [] = M[i] := by rw [List.getD_eq_getElem?_getD, List.getElem?_eq_getElem hi, Option.getD_some]
  rw [e, List.getD_eq_getElem?_getD, List.getElem?_eq_getElem hj, Option.getD_some]
/-- entry (i, j) may stand in a response -/
def EntR (M : List (List Rz)) (i j : Nat) : Prop := atM M i j = atM M j i ∧ (i = j ∨ (atM M i j).1 ≤ 0)
def RowR (M : List (List Rz)) (n i : Nat) : Prop := (∀ j, j < n → EntR M i j) ∧ sumR (M.getD i []) = (0, 1)
structure RespOk (M : List (List Rz)) (n : Nat) : Prop where
  n1 : 1 ≤ n
  n5 : n ≤ 5
  len : ∀ k (h : k < M.length), M[k].length = n
  ok : ∀ k (h : k < M.length), ∀ x ∈ M[k], okZ x.1 x.2
  row : ∀ k, k < M.length → RowR M n k
/-- a fraction's own box -/
def ratAt (x : Rz) (i : Nat) : Value := if i = 0 then .int .i64 x.1 else .int .i64 x.2
theorem ratAt_new (w : World) (a b : Int) (t : TypeId) : (w.alloc (.cells #[.int .i64 a, .int .i64 b] t)).rowIs w.heap.size t 2 (ratAt (a, b)) :=
  World.rowIs_alloc w _ t _ (fun i hi => by
    have : i = 0 ∨ i = 1 := by simp at hi; omega
    rcases this with rfl | rfl <;> rfl)
theorem ratAt_cells {w : World} {b : Nat} {t : TypeId} {x : Rz} (h : w.rowIs b t 2 (ratAt x)) : w.cell? ⟨b, 0, none⟩ = some (.int .i64 x.1) ∧ w.cell? ⟨b, 1, none⟩ = some (.int .i64 x.2) :=
  ⟨h.cell (i := 0) (by omega), h.cell (i := 1) (by omega)⟩
theorem ratAt_set {w : World} {b : Nat} {t : TypeId} {x : Rz} (h : w.rowIs b t 2 (ratAt x)) (y : Rz) : ((w.setCell ⟨b, 0, none⟩ (.int .i64 y.1)).setCell ⟨b, 1, none⟩ (.int .i64 y.2)).rowIs b t 2 (ratAt y) :=
  ((h.set 0 _).set 1 _).congr (fun i hi => by
    have : i = 0 ∨ i = 1 := by omega
    rcases this with rfl | rfl <;> rfl)
theorem bne_pair {x y : Rz} (h : ¬ x = y) : ((x.1 == y.1) = false) ∨ (x.1 = y.1 ∧ (x.2 == y.2) = false) := by
  obtain ⟨a, b⟩ := x
  obtain ⟨c, d⟩ := y
  simp only
  by_cases e : a = c
  · exact .inr ⟨e, by simp; intro e2; exact h (by rw [e, e2])⟩
  · exact .inl (by simp [e])
end Go.Proofs.Ytjchindjoailbaa

/- The power of potentials, in plain Lean. -/
namespace Go.Proofs.Ytjchindjoailbaa
set_option linter.unusedSimpArgs false
set_option linter.unusedVariables false
open Go.RowKit

def diffR (a b : Rz) : Rz := sel (decide (calcZ a.1 a.2 b.1 b.2)) (Gn.rat (a.1 * b.2 - b.1 * a.2) (a.2 * b.2))
def timesR (a b : Rz) : Rz := sel (decide (calcZ a.1 a.2 b.1 b.2)) (Gn.rat (a.1 * b.1) (a.2 * b.2))
theorem implDiffR (a b : Rz) (w : World) :
    Calls Try.prog 20 #[ratV a.1 a.2, ratV b.1 b.2] w fun e w' => e = .returned (ratV (diffR a b).1 (diffR a b).2) ∧ Below w.heap.size w w' :=
  implDiff a.1 a.2 b.1 b.2 w _ (decide_eq_true_iff)
theorem implTimesR (a b : Rz) (w : World) :
    Calls Try.prog 19 #[ratV a.1 a.2, ratV b.1 b.2] w fun e w' => e = .returned (ratV (timesR a b).1 (timesR a b).2) ∧ Below w.heap.size w w' :=
  implTimes a.1 a.2 b.1 b.2 w _ (decide_eq_true_iff)
theorem implSumR (a b : Rz) (w : World) :
    Calls Try.prog 23 #[ratV a.1 a.2, ratV b.1 b.2] w fun e w' => e = .returned (ratV (addR a b).1 (addR a b).2) ∧ Below w.heap.size w w' :=
  implSum a.1 a.2 b.1 b.2 w _ (decide_eq_true_iff)
theorem specDiffR (a b : Rz) (w : World) :
    Calls Try.prog 95 #[ratV a.1 a.2, ratV b.1 b.2] w fun e w' => e = .returned (ratV (diffR a b).1 (diffR a b).2) ∧ Below w.heap.size w w' :=
  specDiff a.1 a.2 b.1 b.2 w _ (decide_eq_true_iff)
theorem specTimesR (a b : Rz) (w : World) :
    Calls Try.prog 97 #[ratV a.1 a.2, ratV b.1 b.2] w fun e w' => e = .returned (ratV (timesR a b).1 (timesR a b).2) ∧ Below w.heap.size w w' :=
  specTimes a.1 a.2 b.1 b.2 w _ (decide_eq_true_iff)
theorem specSumR (a b : Rz) (w : World) :
    Calls Try.prog 96 #[ratV a.1 a.2, ratV b.1 b.2] w fun e w' => e = .returned (ratV (addR a b).1 (addR a b).2) ∧ Below w.heap.size w w' :=
  specSum a.1 a.2 b.1 b.2 w _ (decide_eq_true_iff)
def getR (Q : List Rz) (x : Int) : Rz := Q.getD x.toNat (0, 0)
theorem getR_eq {Q : List Rz} {i : Nat} (h : i < Q.length) : getR Q i = Q[i] := by
  unfold getR
  rw [Int.toNat_natCast, List.getD_eq_getElem?_getD, List.getElem?_eq_getElem h, Option.getD_some]
def powStep (S : Int) (Q : List Rz) (s : Rz) (e : Wz) : Rz :=
  addR s (timesR (timesR (diffR (getR Q e.1) (getR Q e.2.1)) (diffR (getR Q e.1) (getR Q e.2.1))) (Gn.rat e.2.2 S))
def powL (S : Int) (Q : List Rz) (l : List Wz) : Rz := l.foldl (powStep S Q) (0, 1)
theorem powL_snoc {S : Int} {Q : List Rz} {l : List Wz} {k : Nat} (h : k < l.length) : powL S Q (l.take (k + 1)) = powStep S Q (powL S Q (l.take k)) l[k] := by
  rw [List.take_succ_eq_append_getElem h, powL, List.foldl_append]; rfl
theorem addR_bad {s x : Rz} (h : ¬ okZ s.1 s.2) : ¬ okZ (addR s x).1 (addR s x).2 := by
  unfold addR
  rw [show decide (calcZ s.1 s.2 x.1 x.2) = false from decide_eq_false (fun c => h c.1)]
  show ¬ okZ 0 0
  intro c
  have := c.1.1
  omega
theorem pow_bad {S : Int} {Q : List Rz} : ∀ (l : List Wz) (s : Rz), ¬ okZ s.1 s.2 → ¬ okZ (l.foldl (powStep S Q) s).1 (l.foldl (powStep S Q) s).2
  | [], _, h => h
  | e :: l, s, h => pow_bad l _ (addR_bad h)
theorem powL_bad {S : Int} {Q : List Rz} {l : List Wz} {k : Nat} (h : ¬ okZ (powL S Q (l.take k)).1 (powL S Q (l.take k)).2) : ¬ okZ (powL S Q l).1 (powL S Q l).2 := by
  have e : powL S Q l = (l.drop k).foldl (powStep S Q) (powL S Q (l.take k)) := by
    conv => lhs; rw [← List.take_append_drop k l]
    unfold powL; rw [List.foldl_append]
  rw [e]; exact pow_bad _ _ h
structure PowOk (N E S : Int) (l : List Wz) (Q : List Rz) : Prop where
  net : NetOk N E S l
  len : (Q.length : Int) = N
  ok : ∀ x ∈ Q, okZ x.1 x.2
  pow : okZ (powL S Q l).1 (powL S Q l).2
/-- what 'x := f(..)' leaves, f giving a fraction: a variable of its own -/
def MadeQ (W0 : World) (g : Nat) (n d : Int) (wx : World) : Prop :=
  (W0.heap.size ≤ g ∧ g < wx.heap.size) ∧ (wx.cell? ⟨g, 0, none⟩ = some (.int .i64 n) ∧ wx.cell? ⟨g, 1, none⟩ = some (.int .i64 d)) ∧ Below W0.heap.size W0 wx
theorem madeq_alloc {W0 wc : World} (t : TypeId) (h : Below W0.heap.size W0 wc) (n d : Int) : MadeQ W0 wc.heap.size n d (wc.alloc (.cells #[.int .i64 n, .int .i64 d] t)) :=
  ⟨⟨h.size, by simp⟩, ⟨by simp [go_sem], by simp [go_sem]⟩, balloc h _⟩
theorem madeq_set {W0 wc : World} {g : Nat} (h : Below W0.heap.size W0 wc) (hg : W0.heap.size ≤ g) {u v : Value} (h0 : wc.cell? ⟨g, 0, none⟩ = some u) (h1 : wc.cell? ⟨g, 1, none⟩ = some v) (n d : Int) :
    MadeQ W0 g n d ((wc.setCell ⟨g, 0, none⟩ (.int .i64 n)).setCell ⟨g, 1, none⟩ (.int .i64 d)) := by
  have hs := World.block_lt_of_cell? wc _ h0
  refine ⟨⟨hg, by simpa using hs⟩, ⟨by simp [go_sem, h0], ?_⟩, bset (bset h hg _) hg _⟩
  have e := (World.cell?_setCell_other (w := wc) (a := ⟨g, 0, none⟩) (b := ⟨g, 1, none⟩) (v := .int .i64 n) (by simp)).trans h1
  rw [World.cell?_setCell_same' _ _ _ (by rw [e]; rfl)]
end Go.Proofs.Ytjchindjoailbaa
