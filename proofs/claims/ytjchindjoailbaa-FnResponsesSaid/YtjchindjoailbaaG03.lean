/- When a network is in order, in plain Lean: its numbers, its wires' order, its nodes bound to node 0. -/
import Derived.Test.YtjchindjoailbaaG01
namespace Go.Proofs.Ytjchindjoailbaa
set_option linter.unusedSimpArgs false
set_option linter.unusedVariables false
open Go.RowKit

theorem nodup_le : ∀ (l1 l2 : List Int), l1.Nodup → (∀ x ∈ l1, x ∈ l2) → l1.length ≤ l2.length
  | [], l2, _, _ => Nat.zero_le _
  | a :: t, l2, h, hs => by
    have ha := hs a (by simp)
    have h' := List.nodup_cons.1 h
    have h1 := nodup_le t (l2.erase a) h'.2 (fun x hx => by
      have hne : x ≠ a := fun e => h'.1 (e ▸ hx)
      exact (List.mem_erase_of_ne hne).2 (hs x (by simp [hx])))
    rw [List.length_erase_of_mem ha] at h1
    have h2 : 0 < l2.length := List.length_pos_of_mem ha
    simp; omega

def upto (n : Nat) : List Int := (List.range n).map (fun (i : Nat) => (i : Int))
theorem upto_len (n : Nat) : (upto n).length = n := by simp [upto]
theorem upto_mem (n : Nat) (x : Int) : x ∈ upto n ↔ 0 ≤ x ∧ x < n := by
  simp only [upto, List.mem_map, List.mem_range]
  constructor
  · rintro ⟨i, hi, rfl⟩; omega
  · intro h; exact ⟨x.toNat, by omega, by omega⟩
theorem upto_nodup (n : Nat) : (upto n).Nodup := by
  unfold upto List.Nodup
  rw [List.pairwise_map]
  exact (List.nodup_range (n := n)).imp (fun h e => h (by omega))

/-- node v is bound to node 0 -/
inductive Rch (l : List Wz) : Int → Prop
  | zero : Rch l 0
  | fwd {x : Wz} : x ∈ l → Rch l x.1 → Rch l x.2.1
  | bwd {x : Wz} : x ∈ l → Rch l x.2.1 → Rch l x.1

def good (N : Int) (x : Wz) : Prop := 0 ≤ x.1 ∧ x.1 < x.2.1 ∧ x.2.1 < N ∧ 1 ≤ x.2.2 ∧ x.2.2 ≤ 200
def lexlt (p x : Wz) : Prop := p.1 < x.1 ∨ p.1 = x.1 ∧ p.2.1 < x.2.1

structure Hdr (N E S : Int) : Prop where
  n1 : 1 ≤ N
  n5 : N ≤ 5
  e1 : 1 ≤ E
  eN : E ≤ N
  s1 : 1 ≤ S
  s2 : S ≤ 1000
structure NetOk (N E S : Int) (l : List Wz) : Prop where
  h : Hdr N E S
  w : ∀ (k : Nat) (h : k < l.length), good N l[k]
  o : ∀ (k : Nat) (h : k + 1 < l.length), lexlt (l[k]'(by omega)) l[k + 1]
  c : ∀ v : Nat, (v : Int) < N → Rch l v

theorem not_hdr {N E S : Int} (h : ¬ Hdr N E S) : N < 1 ∨ (1 ≤ N ∧ 5 < N) ∨ (1 ≤ N ∧ N ≤ 5 ∧ E < 1) ∨ (1 ≤ N ∧ N ≤ 5 ∧ 1 ≤ E ∧ N < E) ∨ (1 ≤ N ∧ N ≤ 5 ∧ 1 ≤ E ∧ E ≤ N ∧ S < 1) ∨ (1 ≤ N ∧ N ≤ 5 ∧ 1 ≤ E ∧ E ≤ N ∧ 1 ≤ S ∧ 1000 < S) := by
  have : ¬ (1 ≤ N ∧ N ≤ 5 ∧ 1 ≤ E ∧ E ≤ N ∧ 1 ≤ S ∧ S ≤ 1000) := fun ⟨a, b, c, d, e, f⟩ => h ⟨a, b, c, d, e, f⟩
  omega
theorem not_good {N : Int} {x : Wz} (h : ¬ good N x) : x.1 < 0 ∨ (0 ≤ x.1 ∧ x.2.1 ≤ x.1) ∨ (0 ≤ x.1 ∧ x.1 < x.2.1 ∧ N ≤ x.2.1) ∨ (0 ≤ x.1 ∧ x.1 < x.2.1 ∧ x.2.1 < N ∧ x.2.2 < 1) ∨ (0 ≤ x.1 ∧ x.1 < x.2.1 ∧ x.2.1 < N ∧ 1 ≤ x.2.2 ∧ 200 < x.2.2) := by
  unfold good at h; omega

/-! the queue of the reference -/
structure Queue (N : Int) (l : List Wz) (q : List Int) : Prop where
  nd : q.Nodup
  rg : ∀ x ∈ q, 0 ≤ x ∧ x < N
  rc : ∀ x ∈ q, Rch l x
  z : (0 : Int) ∈ q
theorem Queue.le {N : Int} {l : List Wz} {q : List Int} (h : Queue N l q) : (q.length : Int) ≤ N := by
  have h0 := h.rg 0 h.z
  have h1 := nodup_le q (upto N.toNat) h.nd (fun x hx => by rw [upto_mem]; have := h.rg x hx; omega)
  rw [upto_len] at h1
  omega
theorem Queue.start {N : Int} {l : List Wz} (h : 1 ≤ N) : Queue N l [0] :=
  ⟨by simp, by intro x hx; simp at hx; omega, by intro x hx; simp at hx; subst hx; exact .zero, by simp⟩
theorem Queue.add {N : Int} {l : List Wz} {q : List Int} (h : Queue N l q) {x : Int} (hx : ¬ x ∈ q) (hr : 0 ≤ x ∧ x < N) (hc : Rch l x) : Queue N l (q ++ [x]) := by
  refine ⟨?_, ?_, ?_, ?_⟩
  · rw [List.nodup_append]
    refine ⟨h.nd, by simp, ?_⟩
    intro a ha b hb e
    simp at hb
    subst hb e
    exact hx ha
  · intro y hy; simp at hy; rcases hy with hy | rfl; exact h.rg y hy; exact hr
  · intro y hy; simp at hy; rcases hy with hy | rfl; exact h.rc y hy; exact hc
  · simp [h.z]
/-- node u's neighbours by the wires l are all in the queue -/
def Done (l : List Wz) (q : List Int) (u : Int) : Prop := ∀ x ∈ l, (x.1 = u → x.2.1 ∈ q) ∧ (x.2.1 = u → x.1 ∈ q)
theorem Done.more {l : List Wz} {q : List Int} {u y : Int} (h : Done l q u) : Done l (q ++ [y]) u :=
  fun x hx => ⟨fun e => by simp [(h x hx).1 e], fun e => by simp [(h x hx).2 e]⟩
theorem Queue.all {N : Int} {l : List Wz} {q : List Int} (h : Queue N l q) (hd : ∀ u ∈ q, Done l q u) {v : Int} (hv : Rch l v) : v ∈ q := by
  induction hv with
  | zero => exact h.z
  | fwd hx _ ih => exact (hd _ ih _ hx).1 rfl
  | bwd hx _ ih => exact (hd _ ih _ hx).2 rfl
theorem Queue.iff {N : Int} {l : List Wz} {q : List Int} (h : Queue N l q) (hd : ∀ u ∈ q, Done l q u) : (q.length : Int) = N ↔ ∀ v : Nat, (v : Int) < N → Rch l v := by
  have h0 := h.rg 0 h.z
  constructor
  · intro e v hv
    by_cases hq : (v : Int) ∈ q
    · exact h.rc _ hq
    · have h1 := nodup_le ((v : Int) :: q) (upto N.toNat) (List.nodup_cons.2 ⟨hq, h.nd⟩) (fun x hx => by
        rw [upto_mem]
        rcases List.mem_cons.1 hx with rfl | hx
        · omega
        · have := h.rg x hx; omega)
      rw [upto_len] at h1
      simp at h1
      omega
  · intro hall
    have h1 := nodup_le (upto N.toNat) q (upto_nodup _) (fun x hx => by
      rw [upto_mem] at hx
      have := hall x.toNat (by omega)
      rw [show ((x.toNat : Nat) : Int) = x from by omega] at this
      exact h.all hd this)
    rw [upto_len] at h1
    have := h.le
    omega

/-! the marks of the program -/
structure Met (N : Int) (l : List Wz) (m : List Bool) : Prop where
  len : (m.length : Int) = N
  rc : ∀ i : Nat, m[i]? = some true → Rch l i
  z : m[0]? = some true
def Cl (m : List Bool) (x : Wz) : Prop := m[x.1.toNat]? = m[x.2.1.toNat]?
def Round (r k : Nat) (l : List Wz) (m : List Bool) : Prop := (∀ x ∈ l, Cl m x) ∨ (r + 1 ≤ m.count true ∧ ∀ x ∈ l.take k, Cl m x) ∨ r + 2 ≤ m.count true
theorem count_set (m : List Bool) : ∀ (b : Nat), m[b]? = some false → (m.set b true).count true = m.count true + 1 := by
  induction m with
  | nil => intro b h; simp at h
  | cons a m ih =>
    intro b h
    cases b with
    | zero => simp at h; subst h; simp
    | succ b =>
      have := ih b (by simpa using h)
      simp only [List.set_cons_succ, List.count_cons, this]; omega
theorem set_same (m : List Bool) (b : Nat) (h : m[b]? = some true) : m.set b true = m := by
  apply List.ext_getElem?
  intro i
  rw [List.getElem?_set]
  by_cases e : b = i
  · subst e; rw [if_pos rfl, h]; have := (List.getElem?_eq_some_iff.1 h).1; simp [this]
  · rw [if_neg e]
theorem Round.next {r : Nat} {l : List Wz} {m : List Bool} (h : Round r l.length l m) : Round (r + 1) 0 l m := by
  rcases h with h | ⟨_, h⟩ | h
  · exact .inl h
  · rw [List.take_of_length_le (Nat.le_refl _)] at h; exact .inl h
  · exact .inr (.inl ⟨by omega, by simp⟩)
theorem take_mem {l : List Wz} {k : Nat} (h : k < l.length) {x : Wz} (hx : x ∈ l.take (k + 1)) : x ∈ l.take k ∨ x = l[k] := by
  rw [List.take_succ_eq_append_getElem h] at hx
  rcases List.mem_append.1 hx with hx | hx
  · exact .inl hx
  · exact .inr (by simpa using hx)
/-- a wire at a round: both marked, none marked, one marked -/
theorem Round.same {r k : Nat} {l : List Wz} {m : List Bool} (hk : k < l.length) (h : Round r k l m) (hc : Cl m l[k]) : Round r (k + 1) l m := by
  rcases h with h | ⟨h1, h⟩ | h
  · exact .inl h
  · refine .inr (.inl ⟨h1, fun x hx => ?_⟩)
    rcases take_mem hk hx with hx | rfl
    · exact h x hx
    · exact hc
  · exact .inr (.inr h)
theorem Round.more {r k : Nat} {l : List Wz} {m m' : List Bool} (hk : k < l.length) (h : Round r k l m) (hc : ¬ Cl m l[k]) (e : m'.count true = m.count true + 1) : Round r (k + 1) l m' := by
  rcases h with h | ⟨h1, h⟩ | h
  · exact absurd (h _ (List.getElem_mem _)) hc
  · exact .inr (.inr (by omega))
  · exact .inr (.inr (by omega))
def both (m : List Bool) (x : Wz) : List Bool := (m.set x.1.toNat true).set x.2.1.toNat true
theorem both_len (m : List Bool) (x : Wz) : (both m x).length = m.length := by simp [both]
theorem Met.step {N : Int} {l : List Wz} {m : List Bool} (h : Met N l m) {r k : Nat} (hk : k < l.length) (hg : good N l[k]) (hR : Round r k l m)
    (ht : m[l[k].1.toNat]? = some true ∨ m[l[k].2.1.toNat]? = some true) : Met N l (both m l[k]) ∧ Round r (k + 1) l (both m l[k]) := by
  obtain ⟨g0, g1, g2, _, _⟩ := hg
  have hl := h.len
  have ha : l[k].1.toNat < m.length := by omega
  have hb : l[k].2.1.toNat < m.length := by omega
  have hmem : l[k] ∈ l := List.getElem_mem _
  have hsame := hR.same hk
  have hmore := fun m' => hR.more (m' := m') hk
  generalize l[k] = x at *
  have hrA : Rch l x.1 := by
    rcases ht with ht | ht
    · have := h.rc _ ht; rwa [show ((x.1.toNat : Nat) : Int) = x.1 from by omega] at this
    · have := h.rc _ ht; rw [show ((x.2.1.toNat : Nat) : Int) = x.2.1 from by omega] at this; exact .bwd hmem this
  have hrB : Rch l x.2.1 := .fwd hmem hrA
  refine ⟨⟨by rw [both_len]; exact hl, ?_, ?_⟩, ?_⟩
  · intro i hi
    unfold both at hi
    rw [List.getElem?_set] at hi
    by_cases e : x.2.1.toNat = i
    · rw [show (i : Int) = x.2.1 from by omega]; exact hrB
    · rw [if_neg e, List.getElem?_set] at hi
      by_cases e' : x.1.toNat = i
      · rw [show (i : Int) = x.1 from by omega]; exact hrA
      · rw [if_neg e'] at hi; exact h.rc i hi
  · have hA : ∀ (m : List Bool) (j : Nat), m[0]? = some true → (m.set j true)[0]? = some true := by
      intro m j h
      cases m with
      | nil => simp at h
      | cons a m => cases j <;> simp_all
    exact hA _ _ (hA _ _ h.z)
  · obtain ⟨va, hva⟩ : ∃ va, m[x.1.toNat]? = some va := ⟨_, List.getElem?_eq_getElem ha⟩
    obtain ⟨vb, hvb⟩ : ∃ vb, m[x.2.1.toNat]? = some vb := ⟨_, List.getElem?_eq_getElem hb⟩
    have hne : ¬ x.1.toNat = x.2.1.toNat := by omega
    cases va <;> cases vb
    · rw [hva, hvb] at ht; simp at ht
    · have e : both m x = m.set x.1.toNat true := by
        unfold both
        apply set_same
        rw [List.getElem?_set, if_neg hne, hvb]
      rw [e]
      exact hmore _ (by unfold Cl; rw [hva, hvb]; simp) (count_set m _ hva)
    · have e : both m x = m.set x.2.1.toNat true := by
        unfold both; rw [set_same m _ hva]
      rw [e]
      exact hmore _ (by unfold Cl; rw [hva, hvb]; simp) (count_set m _ hvb)
    · have e : both m x = m := by
        unfold both; rw [set_same m _ hva, set_same m _ hvb]
      rw [e]
      exact hsame (by unfold Cl; rw [hva, hvb])
theorem met_iff {N : Int} {l : List Wz} {m : List Bool} (hw : ∀ x ∈ l, good N x) (h : Met N l m) (hc : ∀ x ∈ l, Cl m x) : (∀ i : Nat, i < m.length → m[i]? = some true) ↔ ∀ v : Nat, (v : Int) < N → Rch l v := by
  have hl := h.len
  constructor
  · intro ha v hv; exact h.rc v (ha v (by omega))
  · intro ha i hi
    have key : ∀ v : Int, Rch l v → m[v.toNat]? = some true := by
      intro v hv
      induction hv with
      | zero => exact h.z
      | fwd hx _ ih => rw [← hc _ hx]; exact ih
      | bwd hx _ ih => rw [hc _ hx]; exact ih
    have := key i (ha i (by omega))
    simpa using this
end Go.Proofs.Ytjchindjoailbaa

/- The order of wires; small readers of the library and of the reference. -/
namespace Go.Proofs.Ytjchindjoailbaa
set_option linter.unusedSimpArgs false
set_option linter.unusedVariables false
open Go.RowKit

def cmpZ (x y : Int) : Int := if x < y then -1 else if y < x then 1 else 0
theorem isNaN (x : Int) (w : World) : Calls Try.prog 168 #[.int .i64 x] w fun e w' => e = .returned (.bool false) ∧ w = w' := by
  go_enter Try.func168, Try.ntmps168
  go_wp2_with fail
  go_ret
  exact ⟨by simp, rfl⟩
theorem compare (x y : Int) (w : World) : Calls Try.prog 154 #[.int .i64 x, .int .i64 y] w fun e w' => e = .returned (.int .i64 (cmpZ x y)) ∧ w = w' := by
  unfold cmpZ
  by_cases h1 : x < y
  · rw [if_pos h1]
    go_enter Try.func154, Try.ntmps154
    go_wp2_with fail
    refine (isNaN _ _).mono ?_
    rintro e w' ⟨rfl, rfl⟩
    go_wp2_with fail
    refine (isNaN _ _).mono ?_
    rintro e w' ⟨rfl, rfl⟩
    go_wp2_with fail
    go_ret
    exact ⟨rfl, rfl⟩
  · rw [if_neg h1]
    by_cases h2 : y < x
    · rw [if_pos h2]
      go_enter Try.func154, Try.ntmps154
      go_wp2_with fail
      refine (isNaN _ _).mono ?_
      rintro e w' ⟨rfl, rfl⟩
      go_wp2_with fail
      refine (isNaN _ _).mono ?_
      rintro e w' ⟨rfl, rfl⟩
      go_wp2_with fail
      go_ret
      exact ⟨rfl, rfl⟩
    · rw [if_neg h2]
      go_enter Try.func154, Try.ntmps154
      go_wp2_with fail
      refine (isNaN _ _).mono ?_
      rintro e w' ⟨rfl, rfl⟩
      go_wp2_with fail
      refine (isNaN _ _).mono ?_
      rintro e w' ⟨rfl, rfl⟩
      go_wp2_with fail
      go_ret
      exact ⟨rfl, rfl⟩

/-- cmp.Or of two numbers that lie side by side -/
theorem or2 (b : Nat) (x y v : Int) (hv : v = if x = 0 then y else x) (w : World) (h0 : w.cell? ⟨b, 0, none⟩ = some (.int .i64 x)) (h1 : w.cell? ⟨b, 1, none⟩ = some (.int .i64 y)) :
    Calls Try.prog 153 #[.slice (some ⟨b, 0, none⟩) 2 2] w fun e w' => e = .returned (.int .i64 v) ∧ w = w' := by
  subst hv
  by_cases hx : x = 0
  · subst hx
    rw [if_pos rfl]
    by_cases hy : y = 0
    · subst hy
      go_enter Try.func153, Try.ntmps153
      go_wp2_with fail
      go_rounds 3
      go_ret
      exact ⟨rfl, rfl⟩
    · have hy' : (y != 0) = true := by simp [hy]
      go_enter Try.func153, Try.ntmps153
      go_wp2_with fail
      go_rounds 2
      go_ret
      exact ⟨rfl, rfl⟩
  · rw [if_neg hx]
    have hx' : (x != 0) = true := by simp [hx]
    go_enter Try.func153, Try.ntmps153
    go_wp2_with fail
    go_rounds 1
    go_ret
    exact ⟨rfl, rfl⟩
def lexZ (p x : Wz) : Int := if cmpZ p.1 x.1 = 0 then cmpZ p.2.1 x.2.1 else cmpZ p.1 x.1
theorem lexZ_iff (p x : Wz) : lexlt p x ↔ lexZ p x < 0 := by
  unfold lexlt lexZ cmpZ
  by_cases h1 : p.1 < x.1
  · simp [h1]
  · by_cases h2 : x.1 < p.1
    · simp [h1, h2]; omega
    · have : p.1 = x.1 := by omega
      by_cases h3 : p.2.1 < x.2.1
      · simp [this, h3]
      · by_cases h4 : x.2.1 < p.2.1
        · simp [this, h3, h4]
        · simp [this, h3, h4]
set_option maxHeartbeats 2000000 in
theorem byEnds (p x : Wz) (w : World) : Calls Try.prog 124 #[wireA p, wireA x] w fun e w' => e = .returned (.int .i64 (lexZ p x)) ∧ Below w.heap.size w w' := by
  obtain ⟨p0, p1, p2⟩ := p
  obtain ⟨x0, x1, x2⟩ := x
  have hz : lexZ (p0, p1, p2) (x0, x1, x2) = if cmpZ p0 x0 = 0 then cmpZ p1 x1 else cmpZ p0 x0 := rfl
  have K0 := fun w => compare p0 x0 w
  have K1 := fun w => compare p1 x1 w
  generalize lexZ (p0, p1, p2) (x0, x1, x2) = z at hz
  generalize cmpZ p0 x0 = u at hz K0
  generalize cmpZ p1 x1 = v at hz K1
  have HZ := Lib.hid hz
  have KO := Lib.hid (fun (b : Nat) (w : World) h0 h1 => or2 b u v z HZ.out w h0 h1)
  have K0 := Lib.hid K0
  have K1 := Lib.hid K1
  clear hz
  go_enter Try.func124, Try.ntmps124
  go_wp2_with fail
  go_region_held3 (fun w' => w'.cell? ⟨w.heap.size, 0, none⟩ = some (.int .i64 p0) ∧ w'.cell? ⟨w.heap.size, 1, none⟩ = some (.int .i64 p1) ∧ w'.cell? ⟨w.heap.size + 1, 0, none⟩ = some (.int .i64 x0) ∧ w'.cell? ⟨w.heap.size + 1, 1, none⟩ = some (.int .i64 x1)) (go_keep)
    ((first
    | (go_at_call_of 154 p0; (with_reducible refine (K0.out _).mono ?_); rintro e w1 ⟨rfl, rfl⟩)
    | (go_at_call_of 154 p1; (with_reducible refine (K1.out _).mono ?_); rintro e w1 ⟨rfl, rfl⟩)
    | (go_at_call 153; (with_reducible refine (KO.out _ _ (by simp [go_sem]) (by simp [go_sem])).mono ?_); rintro e w1 ⟨rfl, rfl⟩)))
  all_goals
    go_wp2_with fail
    go_ret
    exact ⟨rfl, by (repeat' (first | (with_reducible exact Below.refl _ _) | (with_reducible assumption) | (with_reducible refine balloc ?_ _) | (with_reducible refine Below.drew ?_) | (with_reducible refine below_drewN ?_ _) | (with_reducible refine bset ?_ ?_ _) | (with_reducible refine bstep ?_ (by assumption)) | go_size))⟩
end Go.Proofs.Ytjchindjoailbaa

/- GcdOf of the program and of the reference compute the greatest common divisor. -/
namespace Go.Proofs.Ytjchindjoailbaa
set_option linter.unusedSimpArgs false
set_option linter.unusedVariables false
open Go.RowKit





theorem gcd_step (x y : Nat) : Nat.gcd y (x % y) = Nat.gcd x y := by
  rw [Nat.gcd_comm x y, Nat.gcd_rec y x, Nat.gcd_comm]

set_option maxHeartbeats 400000 in
theorem implCommon (a b : Nat) (w : World) (ha : a ≤ 9223372036854775808) (hb : b ≤ 9223372036854775808) :
    Calls Try.prog 80 #[.int .u64 a, .int .u64 b] w fun e w' => e = .returned (.int .u64 (Nat.gcd a b : Nat)) ∧ ∃ n, w' = w.drewN n := by
  go_enter Try.func80, Try.ntmps80
  go_wp2_with fail
  go_loopw [0, 1] (fun u v wr => ∃ x y : Nat, x ≤ 9223372036854775808 ∧ y ≤ 9223372036854775808 ∧ u = .int .u64 x ∧ v = .int .u64 y ∧ Hid (Nat.gcd x y = Nat.gcd a b) ∧ ∃ n, wr = w.drewN n) (fun _ v _ => (intOf v).toNat)
  case atStart => exact ⟨a, b, ha, hb, rfl, rfl, rfl, 0, rfl⟩
  case round =>
    obtain ⟨x, y, hx, hy, rfl, rfl, H, n, rfl⟩ := hrel
    by_cases h0 : y = 0
    · subst h0
      go_wp2_with fail
      go_ret
      exact ⟨ret_int (by rw [← H.out]; simp), n, rfl⟩
    · have h0' : ((y : Int) != 0) = true := by simp; omega
      have hlt : x % y < y := Nat.mod_lt _ (by omega)
      have H' := Lib.hid (gcd_step x y)
      go_wp2_with fail
      go_quiet (fail)
      go_wp2_with fail
      go_roundw
      case rel => exact ⟨y, x % y, hy, by omega, rfl, by go_num, H'.out.trans H.out, _, World.drewN_drewN _ _ _⟩
      case measure => simp [intOf]; omega

set_option maxHeartbeats 400000 in
theorem implSize (n : Int) (w : World) (h1 : -9223372036854775808 ≤ n) (h2 : n ≤ 9223372036854775807) :
    Calls Try.prog 81 #[.int .i64 n] w fun e w' => e = .returned (.int .u64 (n.natAbs : Nat)) ∧ w = w' := by
  by_cases h : n < 0
  · go_enter Try.func81, Try.ntmps81
    go_wp2_with fail
    go_ret
    refine ⟨ret_int ?_, rfl⟩
    go_arith
  · go_enter Try.func81, Try.ntmps81
    go_wp2_with fail
    go_ret
    refine ⟨ret_int ?_, rfl⟩
    go_arith

/-- what GcdOf computes -/
def gcdZ (a b : Int) : Int := if a = -9223372036854775808 ∨ b = -9223372036854775808 then 0 else (Nat.gcd a.natAbs b.natAbs : Nat)

theorem gcd_le (a b : Int) (ha1 : -9223372036854775807 ≤ a) (ha2 : a ≤ 9223372036854775807) (hb1 : -9223372036854775807 ≤ b) (hb2 : b ≤ 9223372036854775807) : Nat.gcd a.natAbs b.natAbs ≤ 9223372036854775807 := by
  by_cases h : a.natAbs = 0
  · rw [h]; simp; omega
  · have := Nat.gcd_le_left b.natAbs (show 0 < a.natAbs by omega); omega

set_option maxHeartbeats 400000 in
theorem implGcd (a b : Int) (w : World) (ha1 : -9223372036854775808 ≤ a) (ha2 : a ≤ 9223372036854775807) (hb1 : -9223372036854775808 ≤ b) (hb2 : b ≤ 9223372036854775807) :
    Calls Try.prog 87 #[.int .i64 a, .int .i64 b] w fun e w' => e = .returned (.int .i64 (gcdZ a b)) ∧ ∃ n, w' = w.drewN n := by
  by_cases h1 : a = -9223372036854775808
  · subst h1
    go_enter Try.func87, Try.ntmps87
    go_wp2_with fail
    go_ret
    exact ⟨ret_int (by simp [gcdZ]), 0, rfl⟩
  by_cases h2 : b = -9223372036854775808
  · subst h2
    have h1' : (a == -9223372036854775808) = false := by simp; omega
    go_enter Try.func87, Try.ntmps87
    go_wp2_with fail
    go_ret
    exact ⟨ret_int (by simp [gcdZ]), 0, rfl⟩
  have h1' : (a == -9223372036854775808) = false := by simp; omega
  have h2' : (b == -9223372036854775808) = false := by simp; omega
  have hg := gcd_le a b (by omega) (by omega) (by omega) (by omega)
  have HE : Hid (gcdZ a b = (Nat.gcd a.natAbs b.natAbs : Nat)) := by unfold gcdZ; exact if_neg (by omega)
  have hz1 : a.natAbs ≤ 9223372036854775808 := by omega
  have hz2 : b.natAbs ≤ 9223372036854775808 := by omega
  go_enter Try.func87, Try.ntmps87
  go_wp2_with fail
  refine (implSize a _ ha1 ha2).mono ?_
  rintro e w' ⟨rfl, rfl⟩
  go_wp2_with fail
  refine (implSize b _ hb1 hb2).mono ?_
  rintro e w' ⟨rfl, rfl⟩
  go_wp2_with fail
  refine (implCommon a.natAbs b.natAbs _ hz1 hz2).mono ?_
  rintro e w' ⟨rfl, n, rfl⟩
  go_wp2_with fail
  go_ret
  refine ⟨ret_int ?_, n, rfl⟩
  rw [HE.out]

set_option maxHeartbeats 400000 in
theorem specTurn (x y : Nat) (w : World) (hx : x ≤ 9223372036854775807) (hy : y ≤ 9223372036854775807) (h0 : y ≠ 0) :
    Calls Try.prog 158 #[.int .i64 x, .int .i64 y] w fun e w' => e = .returned (.tuple #[.int .i64 y, .int .i64 ((x : Int) % (y : Int))]) ∧ ∃ n, w' = w.drewN n := by
  have hlt : x % y < y := Nat.mod_lt _ (by omega)
  have h0' : ((y : Int) == 0) = false := by simp; omega
  have hw1 : (x : Int).tmod y = (x : Int) % (y : Int) := by rw [Int.tmod_eq_emod_of_nonneg (by omega)]
  have hw2 : IntKind.i64.wrap ((x : Int) % (y : Int)) = (x : Int) % (y : Int) := IntWalk.i64_in _ (by omega)
  go_enter Try.func158, Try.ntmps158
  go_wp2_with fail
  go_quiet (fail)
  go_wp2_with fail
  go_ret2
  exact ⟨rfl, _, rfl⟩

set_option maxHeartbeats 400000 in
theorem specGcd (a b : Int) (w : World) (ha1 : -9223372036854775808 ≤ a) (ha2 : a ≤ 9223372036854775807) (hb1 : -9223372036854775808 ≤ b) (hb2 : b ≤ 9223372036854775807) :
    Calls Try.prog 131 #[.int .i64 a, .int .i64 b] w fun e w' => e = .returned (.int .i64 (gcdZ a b)) ∧ ∃ n, w' = w.drewN n := by
  by_cases h1 : a = -9223372036854775808
  · subst h1
    go_enter Try.func131, Try.ntmps131
    go_wp2_with fail
    go_ret
    exact ⟨ret_int (by simp [gcdZ]), 0, rfl⟩
  by_cases h2 : b = -9223372036854775808
  · subst h2
    have h1' : ¬ a < -9223372036854775807 := by omega
    go_enter Try.func131, Try.ntmps131
    go_wp2_with fail
    go_ret
    exact ⟨ret_int (by simp [gcdZ]), 0, rfl⟩
  have h1' : ¬ a < -9223372036854775807 := by omega
  have h2' : ¬ b < -9223372036854775807 := by omega
  have hg := gcd_le a b (by omega) (by omega) (by omega) (by omega)
  have HE : Hid (gcdZ a b = (Nat.gcd a.natAbs b.natAbs : Nat)) := by unfold gcdZ; exact if_neg (by omega)
  have hz1 : a.natAbs ≤ 9223372036854775807 := by omega
  have hz2 : b.natAbs ≤ 9223372036854775807 := by omega
  go_enter Try.func131, Try.ntmps131
  go_wp2_with fail
  all_goals
    go_loopw [0, 1] (fun u v wr => ∃ x y : Nat, x ≤ 9223372036854775807 ∧ y ≤ 9223372036854775807 ∧ u = .int .i64 x ∧ v = .int .i64 y ∧ Hid (Nat.gcd x y = Nat.gcd a.natAbs b.natAbs) ∧ ∃ n, wr = w.drewN n) (fun _ v _ => (intOf v).toNat)
    case atStart => exact ⟨a.natAbs, b.natAbs, hz1, hz2, int_eq (by omega), int_eq (by omega), rfl, 0, rfl⟩
    case round =>
      obtain ⟨x, y, hx, hy, rfl, rfl, H, n, rfl⟩ := hrel
      by_cases h0 : y = 0
      · subst h0
        go_wp2_with fail
        go_ret
        exact ⟨ret_int (by rw [HE.out, ← H.out]; simp), n, rfl⟩
      · have h0' : ((y : Int) != 0) = true := by simp; omega
        have hlt : x % y < y := Nat.mod_lt _ (by omega)
        have H' := Lib.hid (gcd_step x y)
        go_wp2_with fail
        refine (specTurn x y _ hx hy h0).mono ?_
        rintro e w' ⟨rfl, m, rfl⟩
        go_wp2_with fail
        go_roundw
        case rel => exact ⟨y, x % y, hy, by omega, rfl, by go_num, H'.out.trans H.out, _, rfl⟩
        case measure => simp [intOf]; omega


end Go.Proofs.Ytjchindjoailbaa

/- RatioOk of the program and of the reference answer one Bool; toRatio copies. -/
namespace Go.Proofs.Ytjchindjoailbaa
set_option linter.unusedSimpArgs false
set_option linter.unusedVariables false
open Go.RowKit

/-- a fraction's value in a slot -/
abbrev ratV (n d : Int) : Value := .agg #[.int .i64 n, .int .i64 d]

/-- it is a valid fraction -/
def okZ (n d : Int) : Prop := (1 ≤ d ∧ d ≤ 1000000000000000) ∧ (-1000000000000000000 ≤ n ∧ n ≤ 1000000000000000000) ∧ gcdZ n d = 1


set_option maxHeartbeats 400000 in
theorem implRatioOk (n d : Int) (w : World) (b : Bool) (h : b = true ↔ okZ n d) :
    Calls Try.prog 34 #[ratV n d] w fun e w' => e = .returned (.bool b) ∧ Below w.heap.size w w' := by
  have HB := Lib.hid h
  clear h
  by_cases h1 : 1 ≤ d
  · by_cases h2 : d ≤ 1000000000000000
    · by_cases h3 : -1000000000000000000 ≤ n
      · by_cases h4 : n ≤ 1000000000000000000
        · by_cases h5 : gcdZ n d = 1
          · have HN : Hid (b = true) := HB.out.2 ⟨⟨h1, h2⟩, ⟨h3, h4⟩, h5⟩
            have h5' : (gcdZ n d == 1) = true := by simp [h5]
            clear h5
            go_enter Try.func34, Try.ntmps34
            go_wp2_with fail
            refine (implGcd n d _ (by omega) (by omega) (by omega) (by omega)).mono ?_
            rintro e w' ⟨rfl, m, rfl⟩
            go_wp2_with fail
            go_ret
            exact ⟨ret_bool HN.out.symm, by go_grown; exact below_drewN ((Below.refl _ _).alloc (Nat.le_refl _) _) _⟩
          · have HN : Hid (b = false) := bfalse HB.out (by unfold okZ; omega)
            have h5' : (gcdZ n d == 1) = false := by simp [h5]
            clear h5
            go_enter Try.func34, Try.ntmps34
            go_wp2_with fail
            refine (implGcd n d _ (by omega) (by omega) (by omega) (by omega)).mono ?_
            rintro e w' ⟨rfl, m, rfl⟩
            go_wp2_with fail
            go_ret
            exact ⟨ret_bool HN.out.symm, below_drewN ((Below.refl _ _).alloc (Nat.le_refl _) _) _⟩
        · have HN : Hid (b = false) := bfalse HB.out (by unfold okZ; omega)
          go_enter Try.func34, Try.ntmps34
          go_wp2_with fail
          go_ret
          exact ⟨ret_bool HN.out.symm, by go_grown⟩
      · have HN : Hid (b = false) := bfalse HB.out (by unfold okZ; omega)
        go_enter Try.func34, Try.ntmps34
        go_wp2_with fail
        go_ret
        exact ⟨ret_bool HN.out.symm, by go_grown⟩
    · have HN : Hid (b = false) := bfalse HB.out (by unfold okZ; omega)
      go_enter Try.func34, Try.ntmps34
      go_wp2_with fail
      go_ret
      exact ⟨ret_bool HN.out.symm, by go_grown⟩
  · have HN : Hid (b = false) := bfalse HB.out (by unfold okZ; omega)
    go_enter Try.func34, Try.ntmps34
    go_wp2_with fail
    go_ret
    exact ⟨ret_bool HN.out.symm, by go_grown⟩

end Go.Proofs.Ytjchindjoailbaa
