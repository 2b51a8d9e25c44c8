/- Lists of wires in order: put, dropped, told by their members. Plain Lean. -/
import Derived.Test.YtdmiihljepkapaaLap
namespace Go.Proofs.Ytdmiihljepkapaa
set_option linter.unusedSimpArgs false
set_option linter.unusedVariables false
open Go.RowKit

/-- strictly in order -/
def Srt (l : List Wz) : Prop := l.Pairwise lexlt
theorem lexlt_irrefl (x : Wz) : ¬ lexlt x x := by unfold lexlt; omega
theorem lexlt_trans {x y z : Wz} (h : lexlt x y) (k : lexlt y z) : lexlt x z := by unfold lexlt at *; omega
theorem lexlt_tri (x y : Wz) : lexlt x y ∨ lexlt y x ∨ (x.1 = y.1 ∧ x.2.1 = y.2.1) := by unfold lexlt; omega
instance (x y : Wz) : Decidable (lexlt x y) := by unfold lexlt; exact inferInstance
/-- lists in order with the same members are the same -/
theorem srt_eq : ∀ {l m : List Wz}, Srt l → Srt m → (∀ y, y ∈ l ↔ y ∈ m) → l = m
  | [], [], _, _, _ => rfl
  | [], b :: m, _, _, h => by have := (h b).2 (by simp); simp at this
  | a :: l, [], _, _, h => by have := (h a).1 (by simp); simp at this
  | a :: l, b :: m, hl, hm, h => by
    have hl' := List.pairwise_cons.1 hl
    have hm' := List.pairwise_cons.1 hm
    have hab : a = b := by
      rcases List.mem_cons.1 ((h a).1 (by simp)) with e | e
      · exact e
      · rcases List.mem_cons.1 ((h b).2 (by simp)) with e' | e'
        · exact e'.symm
        · exact absurd (lexlt_trans (hl'.1 b e') (hm'.1 a e)) (lexlt_irrefl _)
    subst hab
    rw [srt_eq hl'.2 hm'.2 (fun y => ?_)]
    constructor
    · intro hy
      rcases List.mem_cons.1 ((h y).1 (by simp [hy])) with e | e
      · subst e; exact absurd (hl'.1 y hy) (lexlt_irrefl _)
      · exact e
    · intro hy
      rcases List.mem_cons.1 ((h y).2 (by simp [hy])) with e | e
      · subst e; exact absurd (hm'.1 y hy) (lexlt_irrefl _)
      · exact e
/-- of two members with the same nodes -/
theorem srt_key : ∀ {l : List Wz}, Srt l → ∀ {x y : Wz}, x ∈ l → y ∈ l → x.1 = y.1 → x.2.1 = y.2.1 → x = y
  | [], _, x, y, hx, _, _, _ => by simp at hx
  | a :: l, h, x, y, hx, hy, e1, e2 => by
    have h' := List.pairwise_cons.1 h
    rcases List.mem_cons.1 hx with ex | hx'
    · subst ex
      rcases List.mem_cons.1 hy with ey | hy'
      · exact ey.symm
      · have := h'.1 y hy'; unfold lexlt at this; omega
    · rcases List.mem_cons.1 hy with ey | hy'
      · subst ey; have := h'.1 x hx'; unfold lexlt at this; omega
      · exact srt_key h'.2 hx' hy' e1 e2
theorem pair_of_next : ∀ {l : List Wz}, (∀ (k : Nat) (h : k + 1 < l.length), lexlt (l[k]'(by omega)) l[k + 1]) → Srt l
  | [], _ => List.Pairwise.nil
  | [a], _ => List.pairwise_singleton _ _
  | a :: b :: l, h => by
    have ih : Srt (b :: l) := pair_of_next (fun k hk => by have := h (k + 1) (by simpa using hk); simpa using this)
    have h0 : lexlt a b := by have := h 0 (by simp); simpa using this
    refine List.pairwise_cons.2 ⟨fun y hy => ?_, ih⟩
    rcases List.mem_cons.1 hy with rfl | hy
    · exact h0
    · exact lexlt_trans h0 ((List.pairwise_cons.1 ih).1 y hy)
theorem NetOk.srt {N E S : Int} {l : List Wz} (h : NetOk N E S l) : Srt l := pair_of_next h.o
theorem NetOk.good {N E S : Int} {l : List Wz} (h : NetOk N E S l) {x : Wz} (hx : x ∈ l) : Proofs.Ytdmiihljepkapaa.good N x := by
  obtain ⟨k, hk, rfl⟩ := List.getElem_of_mem hx
  exact h.w k hk

/-- the wires without those between p and q -/
def rest (l : List Wz) (p q : Int) : List Wz := l.filter fun e => !decide (e.1 = p ∧ e.2.1 = q)
theorem rest_mem {l : List Wz} {p q : Int} {y : Wz} : y ∈ rest l p q ↔ y ∈ l ∧ ¬ (y.1 = p ∧ y.2.1 = q) := by simp only [rest, List.mem_filter, Bool.not_eq_true', decide_eq_false_iff_not]
theorem rest_srt {l : List Wz} (h : Srt l) (p q : Int) : Srt (rest l p q) := List.Pairwise.filter _ h
theorem rest_yes {l : List Wz} {p q : Int} {k : Nat} (h : k < l.length) (e : l[k].1 = p ∧ l[k].2.1 = q) : rest (l.take (k + 1)) p q = rest (l.take k) p q := by
  rw [List.take_succ_eq_append_getElem h, rest, List.filter_append]
  simp [rest, e]
theorem rest_no {l : List Wz} {p q : Int} {k : Nat} (h : k < l.length) (e : ¬ (l[k].1 = p ∧ l[k].2.1 = q)) : rest (l.take (k + 1)) p q = rest (l.take k) p q ++ [l[k]] := by
  rw [List.take_succ_eq_append_getElem h, rest, List.filter_append]
  congr 1
  simp only [List.filter_cons, List.filter_nil]
  rw [decide_eq_false e]; rfl
/-- the weights between p and q summed -/
def addS : List Wz → Int → Int → Int
  | [], _, _ => 0
  | e :: t, p, q => (if e.1 = p ∧ e.2.1 = q then e.2.2 else 0) + addS t p q
theorem addS_app (l m : List Wz) (p q : Int) : addS (l ++ m) p q = addS l p q + addS m p q := by
  induction l with
  | nil => simp [addS]
  | cons e t ih => simp only [List.cons_append, addS, ih]; omega
theorem addS_yes {l : List Wz} {p q : Int} {k : Nat} (h : k < l.length) (e : l[k].1 = p ∧ l[k].2.1 = q) : addS (l.take (k + 1)) p q = addS (l.take k) p q + l[k].2.2 := by
  rw [List.take_succ_eq_append_getElem h, addS_app]; simp only [addS, if_pos e]; omega
theorem addS_no {l : List Wz} {p q : Int} {k : Nat} (h : k < l.length) (e : ¬ (l[k].1 = p ∧ l[k].2.1 = q)) : addS (l.take (k + 1)) p q = addS (l.take k) p q := by
  rw [List.take_succ_eq_append_getElem h, addS_app]; simp only [addS, if_neg e]; omega
theorem addS_bd {l : List Wz} {B : Int} (hB : 0 ≤ B) (h : ∀ x ∈ l, 0 ≤ x.2.2 ∧ x.2.2 ≤ B) (p q : Int) : 0 ≤ addS l p q ∧ addS l p q ≤ l.length * B := by
  induction l with
  | nil => simp [addS]
  | cons e t ih =>
    have h1 := h e (by simp)
    have h2 := ih (fun x hx => h x (by simp [hx]))
    have e3 : ((e :: t).length : Int) * B = t.length * B + B := by simp [Int.add_mul]
    rw [e3]
    simp only [addS]
    split <;> omega
theorem addS_mem : ∀ {l : List Wz}, Srt l → ∀ {y : Wz}, y ∈ l → addS l y.1 y.2.1 = y.2.2
  | [], _, y, hy => by simp at hy
  | a :: l, h, y, hy => by
    have h' := List.pairwise_cons.1 h
    rcases List.mem_cons.1 hy with rfl | hy
    · have : addS l y.1 y.2.1 = 0 := by
        have key : ∀ m : List Wz, (∀ z ∈ m, lexlt y z) → addS m y.1 y.2.1 = 0 := by
          intro m
          induction m with
          | nil => intro _; rfl
          | cons z m ih =>
            intro hz
            have h1 := hz z (by simp)
            simp only [addS]
            rw [if_neg (by unfold lexlt at h1; omega), ih (fun z' h' => hz z' (by simp [h']))]; rfl
        exact key l h'.1
      simp only [addS, this]; simp
    · have h1 := h'.1 y hy
      simp only [addS]
      rw [if_neg (by unfold lexlt at h1; omega), addS_mem h'.2 hy]; omega
theorem addS_zero {l : List Wz} {p q : Int} (h : ∀ x ∈ l, ¬ (x.1 = p ∧ x.2.1 = q)) : addS l p q = 0 := by
  induction l with
  | nil => rfl
  | cons e t ih =>
    simp only [addS]
    rw [if_neg (h e (by simp)), ih (fun x hx => h x (by simp [hx]))]; rfl
/-- a wire put in -/
def insL (x : Wz) : List Wz → List Wz
  | [] => [x]
  | e :: t => if lexlt x e then x :: e :: t else e :: insL x t
theorem insL_none {x : Wz} : ∀ {l : List Wz}, (∀ e ∈ l, ¬ lexlt x e) → insL x l = l ++ [x]
  | [], _ => rfl
  | e :: t, h => by rw [insL, if_neg (h e (by simp)), insL_none (fun z hz => h z (by simp [hz]))]; rfl
theorem insL_new {x e' : Wz} : ∀ {l : List Wz}, (∀ e ∈ l, ¬ lexlt x e) → lexlt x e' → insL x (l ++ [e']) = l ++ [x] ++ [e']
  | [], _, h' => by simp [insL, h']
  | e :: t, h, h' => by rw [List.cons_append, insL, if_neg (h e (by simp)), insL_new (fun z hz => h z (by simp [hz])) h']; rfl
theorem insL_more {x e' : Wz} : ∀ {l : List Wz}, (∃ e ∈ l, lexlt x e) → insL x (l ++ [e']) = insL x l ++ [e']
  | [], h => by obtain ⟨e, he, _⟩ := h; simp at he
  | a :: t, h => by
    rw [List.cons_append, insL, insL]
    by_cases ha : lexlt x a
    · rw [if_pos ha, if_pos ha]; rfl
    · rw [if_neg ha, if_neg ha, insL_more]
      · rfl
      · obtain ⟨e, he, h2⟩ := h
        rcases List.mem_cons.1 he with rfl | he
        · exact absurd h2 ha
        · exact ⟨e, he, h2⟩
theorem insL_mem {x : Wz} : ∀ {l : List Wz} {y : Wz}, y ∈ insL x l ↔ y = x ∨ y ∈ l
  | [], y => by simp [insL]
  | e :: t, y => by
    rw [insL]
    split
    · simp
    · rw [List.mem_cons, insL_mem, List.mem_cons]
      constructor
      · rintro (h | h | h) <;> simp [h]
      · rintro (h | h | h) <;> simp [h]
theorem insL_srt {x : Wz} : ∀ {l : List Wz}, Srt l → (∀ e ∈ l, ¬ (e.1 = x.1 ∧ e.2.1 = x.2.1)) → Srt (insL x l)
  | [], _, _ => List.pairwise_singleton _ _
  | e :: t, h, hk => by
    have h' := List.pairwise_cons.1 h
    rw [insL]
    split
    · rename_i hx
      refine List.pairwise_cons.2 ⟨fun y hy => ?_, h⟩
      rcases List.mem_cons.1 hy with rfl | hy
      · exact hx
      · exact lexlt_trans hx (h'.1 y hy)
    · rename_i hx
      refine List.pairwise_cons.2 ⟨fun y hy => ?_, insL_srt h'.2 (fun z hz => hk z (by simp [hz]))⟩
      rcases insL_mem.1 hy with rfl | hy
      · rcases lexlt_tri e y with h1 | h1 | h1
        · exact h1
        · exact absurd h1 hx
        · exact absurd h1 (hk e (by simp))
      · exact h'.1 y hy
/-- wires with the weight w put between p and q, in its place or (add) on top of what is there -/
def putL (l : List Wz) (p q w : Int) (add : Bool) : List Wz := insL (p, q, if add = true then w + addS l p q else w) (rest l p q)
theorem putL_srt {l : List Wz} (h : Srt l) (p q w : Int) (add : Bool) : Srt (putL l p q w add) :=
  insL_srt (rest_srt h p q) (fun e he => (rest_mem.1 he).2)
theorem putL_mem {l : List Wz} {p q w : Int} {add : Bool} {y : Wz} : y ∈ putL l p q w add ↔ y = (p, q, if add = true then w + addS l p q else w) ∨ (y ∈ l ∧ ¬ (y.1 = p ∧ y.2.1 = q)) := by
  rw [putL, insL_mem, rest_mem]
/-- wires without those of weight 0 -/
def dropL (l : List Wz) : List Wz := l.filter fun e => !decide (e.2.2 = 0)
theorem dropL_mem {l : List Wz} {y : Wz} : y ∈ dropL l ↔ y ∈ l ∧ ¬ y.2.2 = 0 := by simp [dropL, List.mem_filter]
theorem dropL_srt {l : List Wz} (h : Srt l) : Srt (dropL l) := List.Pairwise.filter _ h
theorem dropL_yes {l : List Wz} {k : Nat} (h : k < l.length) (e : l[k].2.2 = 0) : dropL (l.take (k + 1)) = dropL (l.take k) := by
  rw [List.take_succ_eq_append_getElem h, dropL, List.filter_append]
  simp [dropL, e]
theorem dropL_no {l : List Wz} {k : Nat} (h : k < l.length) (e : ¬ l[k].2.2 = 0) : dropL (l.take (k + 1)) = dropL (l.take k) ++ [l[k]] := by
  rw [List.take_succ_eq_append_getElem h, dropL, List.filter_append]
  congr 1
  simp only [List.filter_cons, List.filter_nil]
  rw [decide_eq_false e]; rfl

/-! the wires of a table -/
/-- row i's wires from column j up to column N -/
def rowL (f : Int → Int → Int) (N i : Nat) : List Wz := ((List.range N).filter fun j => decide (i < j) && !decide (f i j = 0)).map fun (j : Nat) => ((i : Int), (j : Int), f i j)
def tabL (f : Int → Int → Int) (N : Nat) : Nat → List Wz
  | 0 => []
  | i + 1 => tabL f N i ++ rowL f N i
theorem rowL_mem {f : Int → Int → Int} {N i : Nat} {y : Wz} : y ∈ rowL f N i ↔ y.1 = i ∧ (i : Int) < y.2.1 ∧ y.2.1 < N ∧ y.2.2 = f y.1 y.2.1 ∧ ¬ f y.1 y.2.1 = 0 := by
  obtain ⟨a, b, c⟩ := y
  simp only [rowL, List.mem_map, List.mem_filter, List.mem_range, Bool.and_eq_true, decide_eq_true_eq, Bool.not_eq_true', decide_eq_false_iff_not, Prod.mk.injEq]
  constructor
  · rintro ⟨j, ⟨h1, h2, h3⟩, rfl, rfl, rfl⟩
    exact ⟨rfl, by omega, by omega, rfl, h3⟩
  · rintro ⟨rfl, h2, h3, rfl, h5⟩
    have e : ((b.toNat : Nat) : Int) = b := by omega
    exact ⟨b.toNat, ⟨by omega, by omega, by rw [e]; exact h5⟩, rfl, e, by rw [e]⟩
theorem tabL_mem {f : Int → Int → Int} {N : Nat} {y : Wz} : ∀ {k : Nat}, y ∈ tabL f N k ↔ 0 ≤ y.1 ∧ y.1 < k ∧ y.1 < y.2.1 ∧ y.2.1 < N ∧ y.2.2 = f y.1 y.2.1 ∧ ¬ f y.1 y.2.1 = 0
  | 0 => by simp [tabL]; omega
  | k + 1 => by
    rw [tabL, List.mem_append, tabL_mem, rowL_mem]
    constructor
    · rintro (⟨h1, h2, h3⟩ | ⟨h1, h2, h3⟩)
      · exact ⟨h1, by omega, h3⟩
      · exact ⟨by omega, by omega, by omega, h3⟩
    · rintro ⟨h1, h2, h3⟩
      by_cases e : y.1 = k
      · exact .inr ⟨e, by omega, h3.2⟩
      · exact .inl ⟨h1, by omega, h3⟩
theorem rowL_srt (f : Int → Int → Int) (N i : Nat) : Srt (rowL f N i) := by
  unfold Srt rowL
  rw [List.pairwise_map]
  refine List.Pairwise.imp ?_ (List.Pairwise.filter _ (List.pairwise_lt_range (n := N)))
  intro a b h
  exact .inr ⟨rfl, by show (a : Int) < b; omega⟩
theorem tabL_srt (f : Int → Int → Int) (N : Nat) : ∀ k, Srt (tabL f N k)
  | 0 => List.Pairwise.nil
  | k + 1 => by
    rw [tabL]
    refine List.pairwise_append.2 ⟨tabL_srt f N k, rowL_srt f N k, fun x hx y hy => ?_⟩
    have h1 := tabL_mem.1 hx
    have h2 := rowL_mem.1 hy
    exact .inl (by omega)
/-- a network's wires told by its weights -/
theorem wbF_mem {l : List Wz} (hs : Srt l) (ha : Asc l) {y : Wz} (hy : y ∈ l) : wbF l y.1 y.2.1 = y.2.2 := by
  induction l with
  | nil => simp at hy
  | cons e t ih =>
    have h' := List.pairwise_cons.1 hs
    have hay := ha y hy
    have hae := ha e (by simp)
    rw [wbF]
    rcases List.mem_cons.1 hy with rfl | hy
    · rw [if_pos (.inl ⟨rfl, rfl⟩)]
    · rw [if_neg, ih h'.2 (fun x hx => ha x (by simp [hx])) hy]
      have := h'.1 y hy
      unfold lexlt at this; unfold joins; omega
theorem wbF_find {l : List Wz} (ha : Asc l) {p q : Int} (hpq : p < q) (h : ¬ wbF l p q = 0) : (p, q, wbF l p q) ∈ l := by
  induction l with
  | nil => simp [wbF] at h
  | cons e t ih =>
    have hae := ha e (by simp)
    rw [wbF] at h ⊢
    by_cases hj : joins e p q
    · rw [if_pos hj]
      have e1 : e.1 = p ∧ e.2.1 = q := by unfold joins at hj; omega
      rw [← e1.1, ← e1.2]
      exact List.mem_cons_self
    · rw [if_neg hj] at h ⊢
      exact List.mem_cons_of_mem _ (ih (fun x hx => ha x (by simp [hx])) h)
/-- a network in order is its table's -/
theorem NetOk.tabL {N E S : Int} {l : List Wz} {M : Nat} (h : NetOk N E S l) (hM : N = M) : tabL (wbF l) M M = l := by
  refine srt_eq (tabL_srt _ _ _) h.srt (fun y => ?_)
  rw [tabL_mem]
  constructor
  · rintro ⟨h1, h2, h3, h4, h5, h6⟩
    have := wbF_find h.asc h3 h6
    rw [← h5] at this; exact this
  · intro hy
    obtain ⟨g1, g2, g3, g4, g5⟩ := h.good hy
    have := wbF_mem h.srt h.asc hy
    exact ⟨g1, by omega, g2, by omega, this.symm, by omega⟩
end Go.Proofs.Ytdmiihljepkapaa
