/- When a network is in order, in plain Lean: its numbers, its wires' order, its nodes bound to node 0. -/
import Derived.Test.YtdmiihljepkapaaOpen
namespace Go.Proofs.Ytdmiihljepkapaa
set_option linter.unusedSimpArgs false
set_option linter.unusedVariables false
open Go.RowKit

theorem nodup_le : ∀ (l1 l2 : List Int), l1.Nodup → (∀ x ∈ l1, x ∈ l2) → l1.length ≤ l2.length
  | [], l2, _, _ => Nat.zero_le _
  | a :: t, l2, h, hs => by
    have ha := hs a (by simp)
    have h' := List.nodup_cons.1 h
    have h1 := nodup_le t (l2.erase a) h'.2 (fun x hx => by
      have hne : x ≠ a := fun e => h'.1 (e ▸ hx)
      exact (List.mem_erase_of_ne hne).2 (hs x (by simp [hx])))
    rw [List.length_erase_of_mem ha] at h1
    have h2 : 0 < l2.length := List.length_pos_of_mem ha
    simp; omega

def upto (n : Nat) : List Int := (List.range n).map (fun (i : Nat) => (i : Int))
theorem upto_len (n : Nat) : (upto n).length = n := by simp [upto]
theorem upto_mem (n : Nat) (x : Int) : x ∈ upto n ↔ 0 ≤ x ∧ x < n := by
  simp only [upto, List.mem_map, List.mem_range]
  constructor
  · rintro ⟨i, hi, rfl⟩; omega
  · intro h; exact ⟨x.toNat, by omega, by omega⟩
theorem upto_nodup (n : Nat) : (upto n).Nodup := by
  unfold upto List.Nodup
  rw [List.pairwise_map]
  exact (List.nodup_range (n := n)).imp (fun h e => h (by omega))

/-- node v is bound to node 0 -/
inductive Rch (l : List Wz) : Int → Prop
  | zero : Rch l 0
  | fwd {x : Wz} : x ∈ l → Rch l x.1 → Rch l x.2.1
  | bwd {x : Wz} : x ∈ l → Rch l x.2.1 → Rch l x.1

def good (N : Int) (x : Wz) : Prop := 0 ≤ x.1 ∧ x.1 < x.2.1 ∧ x.2.1 < N ∧ 1 ≤ x.2.2 ∧ x.2.2 ≤ 200
def lexlt (p x : Wz) : Prop := p.1 < x.1 ∨ p.1 = x.1 ∧ p.2.1 < x.2.1

structure Hdr (N E S : Int) : Prop where
  n1 : 1 ≤ N
  n5 : N ≤ 5
  e1 : 1 ≤ E
  eN : E ≤ N
  s1 : 1 ≤ S
  s2 : S ≤ 1000
structure NetOk (N E S : Int) (l : List Wz) : Prop where
  h : Hdr N E S
  w : ∀ (k : Nat) (h : k < l.length), good N l[k]
  o : ∀ (k : Nat) (h : k + 1 < l.length), lexlt (l[k]'(by omega)) l[k + 1]
  c : ∀ v : Nat, (v : Int) < N → Rch l v

theorem not_hdr {N E S : Int} (h : ¬ Hdr N E S) : N < 1 ∨ (1 ≤ N ∧ 5 < N) ∨ (1 ≤ N ∧ N ≤ 5 ∧ E < 1) ∨ (1 ≤ N ∧ N ≤ 5 ∧ 1 ≤ E ∧ N < E) ∨ (1 ≤ N ∧ N ≤ 5 ∧ 1 ≤ E ∧ E ≤ N ∧ S < 1) ∨ (1 ≤ N ∧ N ≤ 5 ∧ 1 ≤ E ∧ E ≤ N ∧ 1 ≤ S ∧ 1000 < S) := by
  have : ¬ (1 ≤ N ∧ N ≤ 5 ∧ 1 ≤ E ∧ E ≤ N ∧ 1 ≤ S ∧ S ≤ 1000) := fun ⟨a, b, c, d, e, f⟩ => h ⟨a, b, c, d, e, f⟩
  omega
theorem not_good {N : Int} {x : Wz} (h : ¬ good N x) : x.1 < 0 ∨ (0 ≤ x.1 ∧ x.2.1 ≤ x.1) ∨ (0 ≤ x.1 ∧ x.1 < x.2.1 ∧ N ≤ x.2.1) ∨ (0 ≤ x.1 ∧ x.1 < x.2.1 ∧ x.2.1 < N ∧ x.2.2 < 1) ∨ (0 ≤ x.1 ∧ x.1 < x.2.1 ∧ x.2.1 < N ∧ 1 ≤ x.2.2 ∧ 200 < x.2.2) := by
  unfold good at h; omega

/-! the queue of the reference -/
structure Queue (N : Int) (l : List Wz) (q : List Int) : Prop where
  nd : q.Nodup
  rg : ∀ x ∈ q, 0 ≤ x ∧ x < N
  rc : ∀ x ∈ q, Rch l x
  z : (0 : Int) ∈ q
theorem Queue.le {N : Int} {l : List Wz} {q : List Int} (h : Queue N l q) : (q.length : Int) ≤ N := by
  have h0 := h.rg 0 h.z
  have h1 := nodup_le q (upto N.toNat) h.nd (fun x hx => by rw [upto_mem]; have := h.rg x hx; omega)
  rw [upto_len] at h1
  omega
theorem Queue.start {N : Int} {l : List Wz} (h : 1 ≤ N) : Queue N l [0] :=
  ⟨by simp, by intro x hx; simp at hx; omega, by intro x hx; simp at hx; subst hx; exact .zero, by simp⟩
theorem Queue.add {N : Int} {l : List Wz} {q : List Int} (h : Queue N l q) {x : Int} (hx : ¬ x ∈ q) (hr : 0 ≤ x ∧ x < N) (hc : Rch l x) : Queue N l (q ++ [x]) := by
  refine ⟨?_, ?_, ?_, ?_⟩
  · rw [List.nodup_append]
    refine ⟨h.nd, by simp, ?_⟩
    intro a ha b hb e
    simp at hb
    subst hb e
    exact hx ha
  · intro y hy; simp at hy; rcases hy with hy | rfl; exact h.rg y hy; exact hr
  · intro y hy; simp at hy; rcases hy with hy | rfl; exact h.rc y hy; exact hc
  · simp [h.z]
/-- node u's neighbours by the wires l are all in the queue -/
def Done (l : List Wz) (q : List Int) (u : Int) : Prop := ∀ x ∈ l, (x.1 = u → x.2.1 ∈ q) ∧ (x.2.1 = u → x.1 ∈ q)
theorem Done.more {l : List Wz} {q : List Int} {u y : Int} (h : Done l q u) : Done l (q ++ [y]) u :=
  fun x hx => ⟨fun e => by simp [(h x hx).1 e], fun e => by simp [(h x hx).2 e]⟩
theorem Queue.all {N : Int} {l : List Wz} {q : List Int} (h : Queue N l q) (hd : ∀ u ∈ q, Done l q u) {v : Int} (hv : Rch l v) : v ∈ q := by
  induction hv with
  | zero => exact h.z
  | fwd hx _ ih => exact (hd _ ih _ hx).1 rfl
  | bwd hx _ ih => exact (hd _ ih _ hx).2 rfl
theorem Queue.iff {N : Int} {l : List Wz} {q : List Int} (h : Queue N l q) (hd : ∀ u ∈ q, Done l q u) : (q.length : Int) = N ↔ ∀ v : Nat, (v : Int) < N → Rch l v := by
  have h0 := h.rg 0 h.z
  constructor
  · intro e v hv
    by_cases hq : (v : Int) ∈ q
    · exact h.rc _ hq
    · have h1 := nodup_le ((v : Int) :: q) (upto N.toNat) (List.nodup_cons.2 ⟨hq, h.nd⟩) (fun x hx => by
        rw [upto_mem]
        rcases List.mem_cons.1 hx with rfl | hx
        · omega
        · have := h.rg x hx; omega)
      rw [upto_len] at h1
      simp at h1
      omega
  · intro hall
    have h1 := nodup_le (upto N.toNat) q (upto_nodup _) (fun x hx => by
      rw [upto_mem] at hx
      have := hall x.toNat (by omega)
      rw [show ((x.toNat : Nat) : Int) = x from by omega] at this
      exact h.all hd this)
    rw [upto_len] at h1
    have := h.le
    omega

/-! the marks of the program -/
structure Met (N : Int) (l : List Wz) (m : List Bool) : Prop where
  len : (m.length : Int) = N
  rc : ∀ i : Nat, m[i]? = some true → Rch l i
  z : m[0]? = some true
def Cl (m : List Bool) (x : Wz) : Prop := m[x.1.toNat]? = m[x.2.1.toNat]?
def Round (r k : Nat) (l : List Wz) (m : List Bool) : Prop := (∀ x ∈ l, Cl m x) ∨ (r + 1 ≤ m.count true ∧ ∀ x ∈ l.take k, Cl m x) ∨ r + 2 ≤ m.count true
theorem count_set (m : List Bool) : ∀ (b : Nat), m[b]? = some false → (m.set b true).count true = m.count true + 1 := by
  induction m with
  | nil => intro b h; simp at h
  | cons a m ih =>
    intro b h
    cases b with
    | zero => simp at h; subst h; simp
    | succ b =>
      have := ih b (by simpa using h)
      simp only [List.set_cons_succ, List.count_cons, this]; omega
theorem set_same (m : List Bool) (b : Nat) (h : m[b]? = some true) : m.set b true = m := by
  apply List.ext_getElem?
  intro i
  rw [List.getElem?_set]
  by_cases e : b = i
  · subst e; rw [if_pos rfl, h]; have := (List.getElem?_eq_some_iff.1 h).1; simp [this]
  · rw [if_neg e]
theorem Round.next {r : Nat} {l : List Wz} {m : List Bool} (h : Round r l.length l m) : Round (r + 1) 0 l m := by
  rcases h with h | ⟨_, h⟩ | h
  · exact .inl h
  · rw [List.take_of_length_le (Nat.le_refl _)] at h; exact .inl h
  · exact .inr (.inl ⟨by omega, by simp⟩)
theorem take_mem {l : List Wz} {k : Nat} (h : k < l.length) {x : Wz} (hx : x ∈ l.take (k + 1)) : x ∈ l.take k ∨ x = l[k] := by
  rw [List.take_succ_eq_append_getElem h] at hx
  rcases List.mem_append.1 hx with hx | hx
  · exact .inl hx
  · exact .inr (by simpa using hx)
/-- a wire at a round: both marked, none marked, one marked -/
theorem Round.same {r k : Nat} {l : List Wz} {m : List Bool} (hk : k < l.length) (h : Round r k l m) (hc : Cl m l[k]) : Round r (k + 1) l m := by
  rcases h with h | ⟨h1, h⟩ | h
  · exact .inl h
  · refine .inr (.inl ⟨h1, fun x hx => ?_⟩)
    rcases take_mem hk hx with hx | rfl
    · exact h x hx
    · exact hc
  · exact .inr (.inr h)
theorem Round.more {r k : Nat} {l : List Wz} {m m' : List Bool} (hk : k < l.length) (h : Round r k l m) (hc : ¬ Cl m l[k]) (e : m'.count true = m.count true + 1) : Round r (k + 1) l m' := by
  rcases h with h | ⟨h1, h⟩ | h
  · exact absurd (h _ (List.getElem_mem _)) hc
  · exact .inr (.inr (by omega))
  · exact .inr (.inr (by omega))
def both (m : List Bool) (x : Wz) : List Bool := (m.set x.1.toNat true).set x.2.1.toNat true
theorem both_len (m : List Bool) (x : Wz) : (both m x).length = m.length := by simp [both]
theorem Met.step {N : Int} {l : List Wz} {m : List Bool} (h : Met N l m) {r k : Nat} (hk : k < l.length) (hg : good N l[k]) (hR : Round r k l m)
    (ht : m[l[k].1.toNat]? = some true ∨ m[l[k].2.1.toNat]? = some true) : Met N l (both m l[k]) ∧ Round r (k + 1) l (both m l[k]) := by
  obtain ⟨g0, g1, g2, _, _⟩ := hg
  have hl := h.len
  have ha : l[k].1.toNat < m.length := by omega
  have hb : l[k].2.1.toNat < m.length := by omega
  have hmem : l[k] ∈ l := List.getElem_mem _
  have hsame := hR.same hk
  have hmore := fun m' => hR.more (m' := m') hk
  generalize l[k] = x at *
  have hrA : Rch l x.1 := by
    rcases ht with ht | ht
    · have := h.rc _ ht; rwa [show ((x.1.toNat : Nat) : Int) = x.1 from by omega] at this
    · have := h.rc _ ht; rw [show ((x.2.1.toNat : Nat) : Int) = x.2.1 from by omega] at this; exact .bwd hmem this
  have hrB : Rch l x.2.1 := .fwd hmem hrA
  refine ⟨⟨by rw [both_len]; exact hl, ?_, ?_⟩, ?_⟩
  · intro i hi
    unfold both at hi
    rw [List.getElem?_set] at hi
    by_cases e : x.2.1.toNat = i
    · rw [show (i : Int) = x.2.1 from by omega]; exact hrB
    · rw [if_neg e, List.getElem?_set] at hi
      by_cases e' : x.1.toNat = i
      · rw [show (i : Int) = x.1 from by omega]; exact hrA
      · rw [if_neg e'] at hi; exact h.rc i hi
  · have hA : ∀ (m : List Bool) (j : Nat), m[0]? = some true → (m.set j true)[0]? = some true := by
      intro m j h
      cases m with
      | nil => simp at h
      | cons a m => cases j <;> simp_all
    exact hA _ _ (hA _ _ h.z)
  · obtain ⟨va, hva⟩ : ∃ va, m[x.1.toNat]? = some va := ⟨_, List.getElem?_eq_getElem ha⟩
    obtain ⟨vb, hvb⟩ : ∃ vb, m[x.2.1.toNat]? = some vb := ⟨_, List.getElem?_eq_getElem hb⟩
    have hne : ¬ x.1.toNat = x.2.1.toNat := by omega
    cases va <;> cases vb
    · rw [hva, hvb] at ht; simp at ht
    · have e : both m x = m.set x.1.toNat true := by
        unfold both
        apply set_same
        rw [List.getElem?_set, if_neg hne, hvb]
      rw [e]
      exact hmore _ (by unfold Cl; rw [hva, hvb]; simp) (count_set m _ hva)
    · have e : both m x = m.set x.2.1.toNat true := by
        unfold both; rw [set_same m _ hva]
      rw [e]
      exact hmore _ (by unfold Cl; rw [hva, hvb]; simp) (count_set m _ hvb)
    · have e : both m x = m := by
        unfold both; rw [set_same m _ hva, set_same m _ hvb]
      rw [e]
      exact hsame (by unfold Cl; rw [hva, hvb])
theorem met_iff {N : Int} {l : List Wz} {m : List Bool} (hw : ∀ x ∈ l, good N x) (h : Met N l m) (hc : ∀ x ∈ l, Cl m x) : (∀ i : Nat, i < m.length → m[i]? = some true) ↔ ∀ v : Nat, (v : Int) < N → Rch l v := by
  have hl := h.len
  constructor
  · intro ha v hv; exact h.rc v (ha v (by omega))
  · intro ha i hi
    have key : ∀ v : Int, Rch l v → m[v.toNat]? = some true := by
      intro v hv
      induction hv with
      | zero => exact h.z
      | fwd hx _ ih => rw [← hc _ hx]; exact ih
      | bwd hx _ ih => rw [hc _ hx]; exact ih
    have := key i (ha i (by omega))
    simpa using this
end Go.Proofs.Ytdmiihljepkapaa
