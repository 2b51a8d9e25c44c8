/- Nodes exchanged and joined, told by lists of wires. Plain Lean. -/
import Derived.Test.YtdmiihljepkapaaPut
namespace Go.Proofs.Ytdmiihljepkapaa
set_option linter.unusedSimpArgs false
set_option linter.unusedVariables false
open Go.RowKit

/-! exchanged -/
def sw (a b v : Int) : Int := if v = a then b else if v = b then a else v
theorem sw_sw (a b v : Int) : sw a b (sw a b v) = v := by unfold sw; split <;> split <;> (try split) <;> omega
theorem sw_inj {a b u v : Int} (h : sw a b u = sw a b v) : u = v := by have := congrArg (sw a b) h; rwa [sw_sw, sw_sw] at this
theorem sw_bd {a b v N : Int} (ha : 0 ≤ a ∧ a < N) (hb : 0 ≤ b ∧ b < N) (h : 0 ≤ v ∧ v < N) : 0 ≤ sw a b v ∧ sw a b v < N := by unfold sw; split <;> (try split) <;> omega
def swI (a b : Int) (e : Wz) : Wz := (min (sw a b e.1) (sw a b e.2.1), max (sw a b e.1) (sw a b e.2.1), e.2.2)
def swapL (a b : Int) (l : List Wz) : List Wz := l.foldl (fun out e => putL out (min (sw a b e.1) (sw a b e.2.1)) (max (sw a b e.1) (sw a b e.2.1)) e.2.2 false) []
theorem swapL_snoc {a b : Int} {l : List Wz} {k : Nat} (h : k < l.length) : swapL a b (l.take (k + 1)) = putL (swapL a b (l.take k)) (min (sw a b l[k].1) (sw a b l[k].2.1)) (max (sw a b l[k].1) (sw a b l[k].2.1)) l[k].2.2 false := by
  rw [List.take_succ_eq_append_getElem h, swapL, List.foldl_append]; rfl
theorem swI_key {a b : Int} {x y : Wz} (hx : x.1 < x.2.1) (hy : y.1 < y.2.1) (h1 : (swI a b x).1 = (swI a b y).1) (h2 : (swI a b x).2.1 = (swI a b y).2.1) : x.1 = y.1 ∧ x.2.1 = y.2.1 := by
  simp only [swI] at h1 h2
  have key : (sw a b x.1 = sw a b y.1 ∧ sw a b x.2.1 = sw a b y.2.1) ∨ (sw a b x.1 = sw a b y.2.1 ∧ sw a b x.2.1 = sw a b y.1) := by omega
  rcases key with ⟨e1, e2⟩ | ⟨e1, e2⟩
  · exact ⟨sw_inj e1, sw_inj e2⟩
  · have := sw_inj e1; have := sw_inj e2; omega
theorem swapL_told {a b : Int} {l : List Wz} (hs : Srt l) (ha : Asc l) : ∀ k, k ≤ l.length → Srt (swapL a b (l.take k)) ∧ ∀ y, y ∈ swapL a b (l.take k) ↔ ∃ e ∈ l.take k, y = swI a b e
  | 0, _ => by simp [swapL, Srt]
  | k + 1, hk => by
    obtain ⟨h1, h2⟩ := swapL_told hs ha k (by omega)
    rw [swapL_snoc (by omega)]
    refine ⟨putL_srt h1 _ _ _ _, fun y => ?_⟩
    have hte := List.take_succ_eq_append_getElem (show k < l.length by omega)
    rw [putL_mem, h2]
    simp only [Bool.false_eq_true, if_false]
    constructor
    · rintro (rfl | ⟨⟨e, he, rfl⟩, _⟩)
      · exact ⟨l[k], by rw [hte]; exact List.mem_append_right _ (List.mem_singleton.2 rfl), rfl⟩
      · exact ⟨e, by rw [hte]; exact List.mem_append_left _ he, rfl⟩
    · rintro ⟨e, he, rfl⟩
      rw [hte] at he
      rcases List.mem_append.1 he with he | he
      · refine .inr ⟨⟨e, he, rfl⟩, fun hkey => ?_⟩
        have hm : e ∈ l := List.mem_of_mem_take he
        have hx := swI_key (y := l[k]) (ha e hm) (ha _ (List.getElem_mem _)) hkey.1 hkey.2
        have hee := srt_key hs hm (List.getElem_mem _) hx.1 hx.2
        obtain ⟨i, hi, hie⟩ := List.getElem_of_mem he
        rw [List.length_take] at hi
        rw [List.getElem_take] at hie
        have hp := List.pairwise_iff_getElem.1 hs i k (by omega) (by omega) (by omega)
        rw [hie, hee] at hp
        exact lexlt_irrefl _ hp
      · simp at he; subst he; exact .inl rfl
theorem swapL_tab {a b : Int} {l : List Wz} {M : Nat} (hs : Srt l) (ha : Asc l) (hg : ∀ x ∈ l, 0 ≤ x.1 ∧ x.2.1 < M ∧ ¬ x.2.2 = 0) (h1 : 0 ≤ a ∧ a < M) (h2 : 0 ≤ b ∧ b < M) : tabL (fun i j => wbF l (sw a b i) (sw a b j)) M M = swapL a b l := by
  obtain ⟨t1, t2⟩ := swapL_told (a := a) (b := b) hs ha l.length (Nat.le_refl _)
  rw [List.take_length] at t1 t2
  refine srt_eq (tabL_srt _ _ _) t1 (fun y => ?_)
  rw [t2, tabL_mem]
  constructor
  · rintro ⟨g1, g2, g3, g4, g5, g6⟩
    have hne : ¬ sw a b y.1 = sw a b y.2.1 := fun e => by have := sw_inj e; omega
    obtain ⟨y1, y2, y3⟩ := y
    simp only at g1 g2 g3 g4 g5 g6 hne
    have e1 := sw_sw a b y1
    have e2 := sw_sw a b y2
    by_cases hlt : sw a b y1 < sw a b y2
    · refine ⟨_, wbF_find ha hlt g6, ?_⟩
      simp only [swI, e1, e2]
      rw [g5, show min y1 y2 = y1 from by omega, show max y1 y2 = y2 from by omega]
    · rw [wbF_comm] at g6
      refine ⟨_, wbF_find ha (show sw a b y2 < sw a b y1 by omega) g6, ?_⟩
      simp only [swI, e1, e2]
      rw [g5, wbF_comm l (sw a b y1), show min y2 y1 = y1 from by omega, show max y2 y1 = y2 from by omega]
  · rintro ⟨e, he, rfl⟩
    have hae := ha e he
    obtain ⟨p1, p2, p3⟩ := hg e he
    have hm := wbF_mem hs ha he
    have b1 := sw_bd h1 h2 (v := e.1) ⟨p1, by omega⟩
    have b2 := sw_bd h1 h2 (v := e.2.1) ⟨by omega, p2⟩
    have hne : ¬ sw a b e.1 = sw a b e.2.1 := fun e' => by have := sw_inj e'; omega
    have hw : wbF l (sw a b (min (sw a b e.1) (sw a b e.2.1))) (sw a b (max (sw a b e.1) (sw a b e.2.1))) = e.2.2 := by
      by_cases hlt : sw a b e.1 < sw a b e.2.1
      · rw [show min (sw a b e.1) (sw a b e.2.1) = sw a b e.1 from by omega, show max (sw a b e.1) (sw a b e.2.1) = sw a b e.2.1 from by omega, sw_sw, sw_sw, hm]
      · rw [show min (sw a b e.1) (sw a b e.2.1) = sw a b e.2.1 from by omega, show max (sw a b e.1) (sw a b e.2.1) = sw a b e.1 from by omega, sw_sw, sw_sw, wbF_comm, hm]
    simp only [swI]
    rw [hw]
    exact ⟨by omega, by omega, by omega, by omega, rfl, p3⟩

/-! bound nodes -/
inductive Con (l : List Wz) (u : Int) : Int → Prop
  | refl : Con l u u
  | fwd {x : Wz} : x ∈ l → Con l u x.1 → Con l u x.2.1
  | bwd {x : Wz} : x ∈ l → Con l u x.2.1 → Con l u x.1
theorem Con.trans {l : List Wz} {u v t : Int} (h : Con l u v) (k : Con l v t) : Con l u t := by
  induction k with
  | refl => exact h
  | fwd hx _ ih => exact .fwd hx ih
  | bwd hx _ ih => exact .bwd hx ih
theorem Con.symm {l : List Wz} {u v : Int} (h : Con l u v) : Con l v u := by
  induction h with
  | refl => exact .refl
  | fwd hx _ ih => exact (Con.bwd hx .refl).trans ih
  | bwd hx _ ih => exact (Con.fwd hx .refl).trans ih
theorem Rch.con {l : List Wz} {v : Int} (h : Rch l v) : Con l 0 v := by
  induction h with
  | zero => exact .refl
  | fwd hx _ ih => exact .fwd hx ih
  | bwd hx _ ih => exact .bwd hx ih
theorem Con.rch {l : List Wz} {v : Int} (h : Con l 0 v) : Rch l v := by
  induction h with
  | refl => exact .zero
  | fwd hx _ ih => exact .fwd hx ih
  | bwd hx _ ih => exact .bwd hx ih
theorem next_of_srt {l : List Wz} (h : Srt l) : ∀ (k : Nat) (hk : k + 1 < l.length), lexlt (l[k]'(by omega)) l[k + 1] :=
  fun k hk => List.pairwise_iff_getElem.1 h k (k + 1) (by omega) hk (by omega)
theorem NetOk.swap {N E S : Int} {l : List Wz} (h : NetOk N E S l) {a b : Int} (h1 : 0 ≤ a ∧ a < N) (h2 : 0 ≤ b ∧ b < N) : NetOk N E S (swapL a b l) := by
  obtain ⟨t1, t2⟩ := swapL_told (a := a) (b := b) h.srt h.asc l.length (Nat.le_refl _)
  rw [List.take_length] at t1 t2
  have hn1 := h.h.n1
  refine ⟨h.h, fun k hk => ?_, next_of_srt t1, ?_⟩
  · obtain ⟨e, he, hy⟩ := (t2 _).1 (List.getElem_mem hk)
    rw [hy]
    obtain ⟨g1, g2, g3, g4, g5⟩ := h.good he
    have b1 := sw_bd h1 h2 (v := e.1) ⟨g1, by omega⟩
    have b2 := sw_bd h1 h2 (v := e.2.1) ⟨by omega, g3⟩
    have hne : ¬ sw a b e.1 = sw a b e.2.1 := fun e' => by have := sw_inj e'; omega
    exact ⟨by simp only [swI]; omega, by simp only [swI]; omega, by simp only [swI]; omega, g4, g5⟩
  · have step : ∀ e ∈ l, Con (swapL a b l) (sw a b e.1) (sw a b e.2.1) := by
      intro e he
      have hm : swI a b e ∈ swapL a b l := (t2 _).2 ⟨e, he, rfl⟩
      by_cases hlt : sw a b e.1 < sw a b e.2.1
      · have := Con.fwd hm (u := (swI a b e).1) .refl
        simp only [swI] at this
        rwa [show min (sw a b e.1) (sw a b e.2.1) = sw a b e.1 from by omega, show max (sw a b e.1) (sw a b e.2.1) = sw a b e.2.1 from by omega] at this
      · have := Con.bwd hm (u := (swI a b e).2.1) .refl
        simp only [swI] at this
        rwa [show min (sw a b e.1) (sw a b e.2.1) = sw a b e.2.1 from by omega, show max (sw a b e.1) (sw a b e.2.1) = sw a b e.1 from by omega] at this
    have all : ∀ {v : Int}, Con l 0 v → Con (swapL a b l) (sw a b 0) (sw a b v) := by
      intro v hv
      induction hv with
      | refl => exact .refl
      | fwd hx _ ih => exact ih.trans (step _ hx)
      | bwd hx _ ih => exact ih.trans (step _ hx).symm
    have at' : ∀ v : Int, 0 ≤ v → v < N → Con (swapL a b l) (sw a b 0) v := by
      intro v hv0 hvN
      have hb := sw_bd h1 h2 (v := v) ⟨hv0, hvN⟩
      have := h.c (sw a b v).toNat (by omega)
      rw [show (((sw a b v).toNat : Nat) : Int) = sw a b v from by omega] at this
      have := all this.con
      rwa [sw_sw] at this
    intro v hv
    exact ((at' 0 (by omega) (by omega)).symm.trans (at' v (by omega) hv)).rch

/-! joined -/
def jn (a b v : Int) : Int := if v = b then a else if b < v then v - 1 else v
def jnMin (a b : Int) (e : Wz) : Int := min (jn a b e.1) (jn a b e.2.1)
def jnMax (a b : Int) (e : Wz) : Int := max (jn a b e.1) (jn a b e.2.1)
def joinL (a b : Int) (l : List Wz) : List Wz := l.foldl (fun out e => if jn a b e.1 = jn a b e.2.1 then out else putL out (jnMin a b e) (jnMax a b e) e.2.2 true) []
theorem joinL_snoc {a b : Int} {l : List Wz} {k : Nat} (h : k < l.length) : joinL a b (l.take (k + 1)) = if jn a b l[k].1 = jn a b l[k].2.1 then joinL a b (l.take k) else putL (joinL a b (l.take k)) (jnMin a b l[k]) (jnMax a b l[k]) l[k].2.2 true := by
  rw [List.take_succ_eq_append_getElem h, joinL, List.foldl_append]; rfl
/-- the weights that come to lie between p and q -/
def jSum (a b : Int) : List Wz → Int → Int → Int
  | [], _, _ => 0
  | e :: t, p, q => (if ¬ jn a b e.1 = jn a b e.2.1 ∧ jnMin a b e = p ∧ jnMax a b e = q then e.2.2 else 0) + jSum a b t p q
theorem jSum_app (a b : Int) (l m : List Wz) (p q : Int) : jSum a b (l ++ m) p q = jSum a b l p q + jSum a b m p q := by
  induction l with
  | nil => simp [jSum]
  | cons e t ih => simp only [List.cons_append, jSum, ih]; omega
theorem jSum_nn {a b : Int} {l : List Wz} (h : ∀ x ∈ l, 1 ≤ x.2.2) (p q : Int) : 0 ≤ jSum a b l p q := by
  induction l with
  | nil => simp [jSum]
  | cons e t ih =>
    have h1 := h e (by simp)
    have h2 := ih (fun x hx => h x (by simp [hx]))
    simp only [jSum]
    split <;> omega
theorem joinL_told {a b : Int} {l : List Wz} (hw : ∀ x ∈ l, 1 ≤ x.2.2) : ∀ k, k ≤ l.length → Srt (joinL a b (l.take k)) ∧ ∀ y, y ∈ joinL a b (l.take k) ↔ y.1 < y.2.1 ∧ y.2.2 = jSum a b (l.take k) y.1 y.2.1 ∧ ¬ jSum a b (l.take k) y.1 y.2.1 = 0
  | 0, _ => by
    refine ⟨List.Pairwise.nil, fun y => ?_⟩
    simp [joinL, jSum]
  | k + 1, hk => by
    obtain ⟨h1, h2⟩ := joinL_told hw k (by omega)
    rw [joinL_snoc (by omega)]
    have hsum : ∀ p q, jSum a b (l.take (k + 1)) p q = jSum a b (l.take k) p q + if ¬ jn a b l[k].1 = jn a b l[k].2.1 ∧ jnMin a b l[k] = p ∧ jnMax a b l[k] = q then l[k].2.2 else 0 := by
      intro p q
      rw [List.take_succ_eq_append_getElem (by omega), jSum_app]; simp [jSum]
    have hwk := hw l[k] (List.getElem_mem _)
    have hnn := fun p q => jSum_nn (a := a) (b := b) (l := l.take k) (fun x hx => hw x (List.mem_of_mem_take hx)) p q
    by_cases hj : jn a b l[k].1 = jn a b l[k].2.1
    · rw [if_pos hj]
      refine ⟨h1, fun y => ?_⟩
      rw [hsum, if_neg (by simp [hj]), Int.add_zero, h2]
    · rw [if_neg hj]
      refine ⟨putL_srt h1 _ _ _ _, fun y => ?_⟩
      have hmm : jnMin a b l[k] < jnMax a b l[k] := by unfold jnMin jnMax; omega
      have hadd : addS (joinL a b (l.take k)) (jnMin a b l[k]) (jnMax a b l[k]) = jSum a b (l.take k) (jnMin a b l[k]) (jnMax a b l[k]) := by
        by_cases h0 : jSum a b (l.take k) (jnMin a b l[k]) (jnMax a b l[k]) = 0
        · rw [h0]
          apply addS_zero
          intro x hx hkey
          have := ((h2 x).1 hx).2.2
          rw [hkey.1, hkey.2] at this; exact this h0
        · exact addS_mem h1 (y := (jnMin a b l[k], jnMax a b l[k], jSum a b (l.take k) (jnMin a b l[k]) (jnMax a b l[k]))) ((h2 _).2 ⟨hmm, rfl, h0⟩)
      rw [putL_mem, h2, hadd, hsum]
      simp only [if_true]
      have hn := hnn (jnMin a b l[k]) (jnMax a b l[k])
      constructor
      · rintro (rfl | ⟨⟨g1, g2, g3⟩, g4⟩)
        · simp only [hj, not_false_iff, and_self, if_true]
          exact ⟨hmm, by omega, by omega⟩
        · rw [if_neg (by intro h; exact g4 ⟨h.2.1.symm, h.2.2.symm⟩), Int.add_zero]
          exact ⟨g1, g2, g3⟩
      · rintro ⟨g1, g2, g3⟩
        by_cases hkey : y.1 = jnMin a b l[k] ∧ y.2.1 = jnMax a b l[k]
        · left
          rw [hkey.1, hkey.2, if_pos ⟨hj, rfl, rfl⟩] at g2
          obtain ⟨y1, y2, y3⟩ := y
          simp only at hkey g2
          rw [hkey.1, hkey.2, g2, Int.add_comm]
        · rw [if_neg (by intro h; exact hkey ⟨h.2.1.symm, h.2.2.symm⟩), Int.add_zero] at g2 g3
          exact .inr ⟨⟨g1, g2, g3⟩, hkey⟩
/-- the weights that join two nodes, summed -/
def wbS : List Wz → Int → Int → Int
  | [], _, _ => 0
  | e :: t, p, q => (if joins e p q then e.2.2 else 0) + wbS t p q
theorem wbS_zero {l : List Wz} {p q : Int} (h : ∀ x ∈ l, ¬ joins x p q) : wbS l p q = 0 := by
  induction l with
  | nil => rfl
  | cons e t ih => rw [wbS, if_neg (h e (by simp)), ih (fun x hx => h x (by simp [hx]))]; rfl
theorem wbS_eq {l : List Wz} (hs : Srt l) (ha : Asc l) (p q : Int) : wbS l p q = wbF l p q := by
  induction l with
  | nil => rfl
  | cons e t ih =>
    have h' := List.pairwise_cons.1 hs
    rw [wbS, wbF]
    by_cases hj : joins e p q
    · rw [if_pos hj, if_pos hj, wbS_zero, Int.add_zero]
      intro x hx hjx
      have h1 := h'.1 x hx
      have h2 := ha e (by simp)
      have h3 := ha x (by simp [hx])
      unfold lexlt at h1; unfold joins at hj hjx; omega
    · rw [if_neg hj, if_neg hj, Int.zero_add]
      exact ih h'.2 (fun x hx => ha x (by simp [hx]))
/-- the node that was v's before b was taken out -/
def skip (b v : Int) : Int := if v < b then v else v + 1
/-- the weights when node b's have been put on node a's -/
def jT (l : List Wz) (a b p q : Int) : Int :=
  if p = a then (if q = a ∨ q = b then wbF l p q else wbF l a q + wbF l b q)
  else if q = a then (if p = b then wbF l p q else wbF l a p + wbF l b p)
  else wbF l p q
theorem jSum_eq {l : List Wz} {a b p q N : Int} (hs : Srt l) (ha : Asc l) (hg : ∀ x ∈ l, 0 ≤ x.1 ∧ x.2.1 < N) (hab : 0 ≤ a ∧ a < b ∧ b < N) (hpq : 0 ≤ p ∧ p < q) : jSum a b l p q = jT l a b (skip b p) (skip b q) := by
  have hjT : jT l a b (skip b p) (skip b q) = if p = a then wbS l a (skip b q) + wbS l b (skip b q) else if q = a then wbS l a (skip b p) + wbS l b (skip b p) else wbS l (skip b p) (skip b q) := by
    unfold jT
    rw [wbS_eq hs ha, wbS_eq hs ha, wbS_eq hs ha, wbS_eq hs ha, wbS_eq hs ha]
    have e1 : skip b p = a ↔ p = a := by unfold skip; split <;> omega
    have e2 : skip b q = a ↔ q = a := by unfold skip; split <;> omega
    have e3 : ¬ skip b q = b := by unfold skip; split <;> omega
    have e4 : ¬ skip b p = b := by unfold skip; split <;> omega
    by_cases h1 : p = a
    · rw [if_pos (e1.2 h1), if_neg (by rw [e2]; omega), if_pos h1]
    · rw [if_neg (fun h => h1 (e1.1 h)), if_neg h1]
      by_cases h2 : q = a
      · rw [if_pos (e2.2 h2), if_neg e4, if_pos h2]
      · rw [if_neg (fun h => h2 (e2.1 h)), if_neg h2]
  rw [hjT]
  clear hjT hs
  induction l with
  | nil => simp [jSum, wbS]
  | cons e t ih =>
    have ih := ih (fun x hx => ha x (by simp [hx])) (fun x hx => hg x (by simp [hx]))
    have h1 := ha e (by simp)
    have h2 := hg e (by simp)
    obtain ⟨x, y, z⟩ := e
    simp only at h1 h2
    simp only [jSum, wbS]
    rw [ih]
    have key : (if ¬ jn a b x = jn a b y ∧ jnMin a b (x, y, z) = p ∧ jnMax a b (x, y, z) = q then z else 0) = if p = a then (if joins (x, y, z) a (skip b q) then z else 0) + (if joins (x, y, z) b (skip b q) then z else 0) else if q = a then (if joins (x, y, z) a (skip b p) then z else 0) + (if joins (x, y, z) b (skip b p) then z else 0) else (if joins (x, y, z) (skip b p) (skip b q) then z else 0) := by
      have hsp : (p < b ∧ skip b p = p) ∨ (b ≤ p ∧ skip b p = p + 1) := by unfold skip; split <;> omega
      have hsq : (q < b ∧ skip b q = q) ∨ (b ≤ q ∧ skip b q = q + 1) := by unfold skip; split <;> omega
      have hjx : (x = b ∧ jn a b x = a) ∨ (b < x ∧ jn a b x = x - 1) ∨ (x < b ∧ jn a b x = x) := by unfold jn; split <;> (try split) <;> omega
      have hjy : (y = b ∧ jn a b y = a) ∨ (b < y ∧ jn a b y = y - 1) ∨ (y < b ∧ jn a b y = y) := by unfold jn; split <;> (try split) <;> omega
      have J : ∀ u v, joins (x, y, z) u v ↔ ((x = u ∧ y = v) ∨ (x = v ∧ y = u)) := fun u v => Iff.rfl
      unfold jnMin jnMax
      simp only
      generalize skip b p = sp at *
      generalize skip b q = sq at *
      generalize jn a b x = jx at *
      generalize jn a b y = jy at *
      by_cases c0 : p = a
      · rw [if_pos c0]
        by_cases c1 : (¬ jx = jy ∧ min jx jy = p ∧ max jx jy = q)
        · rw [if_pos c1]
          by_cases c2 : joins (x, y, z) a sq
          · have c3 := (J _ _).1 c2
            rw [if_pos c2, if_neg (fun h => by have := (J _ _).1 h; omega)]; omega
          · have c3 : ¬ ((x = a ∧ y = sq) ∨ (x = sq ∧ y = a)) := fun h => c2 ((J _ _).2 h)
            rw [if_neg c2, if_pos ((J _ _).2 (by omega))]; omega
        · rw [if_neg c1, if_neg (fun h => by have := (J _ _).1 h; omega), if_neg (fun h => by have := (J _ _).1 h; omega)]; rfl
      · rw [if_neg c0]
        by_cases c9 : q = a
        · rw [if_pos c9]
          by_cases c1 : (¬ jx = jy ∧ min jx jy = p ∧ max jx jy = q)
          · rw [if_pos c1]
            by_cases c2 : joins (x, y, z) a sp
            · have c3 := (J _ _).1 c2
              rw [if_pos c2, if_neg (fun h => by have := (J _ _).1 h; omega)]; omega
            · have c3 : ¬ ((x = a ∧ y = sp) ∨ (x = sp ∧ y = a)) := fun h => c2 ((J _ _).2 h)
              rw [if_neg c2, if_pos ((J _ _).2 (by omega))]; omega
          · rw [if_neg c1, if_neg (fun h => by have := (J _ _).1 h; omega), if_neg (fun h => by have := (J _ _).1 h; omega)]; rfl
        · rw [if_neg c9]
          by_cases c1 : (¬ jx = jy ∧ min jx jy = p ∧ max jx jy = q)
          · rw [if_pos c1, if_pos ((J _ _).2 (by omega))]
          · rw [if_neg c1, if_neg (fun h => by have := (J _ _).1 h; omega)]
    rw [key]
    split
    · omega
    · split <;> omega
theorem joinL_tab {l : List Wz} {a b : Int} {M : Nat} (hs : Srt l) (ha : Asc l) (hg : ∀ x ∈ l, 0 ≤ x.1 ∧ x.2.1 < (M : Int) + 1) (hw : ∀ x ∈ l, 1 ≤ x.2.2) (hab : 0 ≤ a ∧ a < b ∧ b < (M : Int) + 1) : tabL (fun i j => jT l a b (skip b i) (skip b j)) M M = joinL a b l := by
  obtain ⟨t1, t2⟩ := joinL_told (a := a) (b := b) hw l.length (Nat.le_refl _)
  rw [List.take_length] at t1 t2
  refine srt_eq (tabL_srt _ _ _) t1 (fun y => ?_)
  rw [t2, tabL_mem]
  constructor
  · rintro ⟨g1, g2, g3, g4, g5, g6⟩
    rw [jSum_eq hs ha hg hab ⟨g1, g3⟩]
    exact ⟨g3, g5, g6⟩
  · rintro ⟨g1, g2, g3⟩
    -- a weight between p and q: both are nodes
    have hpq : 0 ≤ y.1 ∧ y.2.1 < M := by
      have : ∀ m : List Wz, (∀ x ∈ m, 0 ≤ x.1 ∧ x.2.1 < (M : Int) + 1) → Asc m → ¬ jSum a b m y.1 y.2.1 = 0 → 0 ≤ y.1 ∧ y.2.1 < M := by
        intro m
        induction m with
        | nil => intro _ _ h; simp [jSum] at h
        | cons e t ih =>
          intro hm hma h
          have e1 := hm e (by simp)
          have e2 := hma e (by simp)
          simp only [jSum] at h
          by_cases hc : ¬ jn a b e.1 = jn a b e.2.1 ∧ jnMin a b e = y.1 ∧ jnMax a b e = y.2.1
          · obtain ⟨_, c2, c3⟩ := hc
            unfold jnMin jn at c2
            unfold jnMax jn at c3
            split at c2 <;> split at c2 <;> (try split at c2) <;> (try split at c2) <;> simp_all <;> omega
          · rw [if_neg hc, Int.zero_add] at h
            exact ih (fun x hx => hm x (by simp [hx])) (fun x hx => hma x (by simp [hx])) h
      exact this l hg ha g3
    rw [← jSum_eq hs ha hg hab ⟨hpq.1, g1⟩]
    exact ⟨hpq.1, by omega, g1, hpq.2, g2, g3⟩
end Go.Proofs.Ytdmiihljepkapaa
