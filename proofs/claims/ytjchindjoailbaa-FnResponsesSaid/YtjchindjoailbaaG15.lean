/- Determinants as polynomials, and a network's table. Plain Lean, no program in sight. -/
import Derived.WalkKit
import Derived.Test.YtjchindjoailbaaG07
import Derived.Test.YtjchindjoailbaaG14
namespace Gn
set_option linter.unusedSimpArgs false
set_option linter.unusedVariables false

def sgn (k : Nat) : Int := if k % 2 = 0 then 1 else -1
def upto (n : Nat) : List Int := (List.range n).map (fun (i : Nat) => (i : Int))
def others (N : Nat) (q : List Int) : List Int := (upto N).filter fun v => !q.contains v
def dsumP (e : Int → Int → Int) (f : List Int → Int) (r : Int) (cols : List Int) : Nat → Int
  | 0 => 0
  | k + 1 => dsumP e f r cols k + sgn k * e r (cols.getD k 0) * f (cols.eraseIdx k)
def detP (e : Int → Int → Int) : List Int → List Int → Int
  | [], _ => 1
  | r :: rs, cols => dsumP e (detP e rs) r cols cols.length
theorem dsumP_congr {e e' : Int → Int → Int} {f f' : List Int → Int} {r : Int} {cols : List Int} (he : ∀ j ∈ cols, e r j = e' r j) (hf : ∀ k, k < cols.length → f (cols.eraseIdx k) = f' (cols.eraseIdx k)) : ∀ k, k ≤ cols.length → dsumP e f r cols k = dsumP e' f' r cols k
  | 0, _ => rfl
  | k + 1, h => by
    rw [dsumP, dsumP, dsumP_congr he hf k (by omega), hf k (by omega)]
    have : cols.getD k 0 ∈ cols := by
      rw [List.getD_eq_getElem?_getD, List.getElem?_eq_getElem (by omega), Option.getD_some]
      exact List.getElem_mem _
    rw [he _ this]
theorem detP_congr {e e' : Int → Int → Int} : ∀ {rows cols : List Int}, (∀ i ∈ rows, ∀ j ∈ cols, e i j = e' i j) → detP e rows cols = detP e' rows cols
  | [], _, _ => rfl
  | r :: rs, cols, h => by
    rw [detP, detP]
    refine dsumP_congr (fun j hj => h r (by simp) j hj) (fun k hk => detP_congr (fun i hi j hj => h i (by simp [hi]) j ?_)) _ (Nat.le_refl _)
    exact List.mem_of_mem_eraseIdx hj
/-- a row's sum without its own node -/
def rowS (M : Nat) (f : Int → Int → Int) (i : Int) : Int := ((upto M).map fun k => if k = i then 0 else f i k).sum
/-- the table of weights f -/
def lapW (M : Nat) (f : Int → Int → Int) (i j : Int) : Int := if i = j then rowS M f i else -(f i j)
def fo (M : Nat) (e : Int → Int → Int) (p q : Int) : Int := if p = q then 0 else detP e (others M [p, q]) (others M [p, q])
def idx (v b : Int) : Int := if b < v then v - 1 else v
def srt2 (a b : Int) : List Int := if b < a then [b, a] else [a, b]
/-- a potential, as the reference has it: a minor with a sign -/
def potS (M : Nat) (e : Int → Int → Int) (a b v : Int) : Int :=
  if v = b then 0 else if (idx a b + idx v b) % 2 ≠ 0 then -(detP e (others M (srt2 a b)) (others M (srt2 v b))) else detP e (others M (srt2 a b)) (others M (srt2 v b))
/-- the sum over trees -/
def trS (M : Nat) (e : Int → Int → Int) : Int := detP e (others M [0]) (others M [0])
theorem sym2 {f : Int → Int → Int} (h : ∀ i j, f i j = f j i) : f 1 0 = f 0 1 := h _ _
theorem sym3 {f : Int → Int → Int} (h : ∀ i j, f i j = f j i) : f 1 0 = f 0 1 ∧ f 2 0 = f 0 2 ∧ f 2 1 = f 1 2 := ⟨h _ _, h _ _, h _ _⟩
theorem sym4 {f : Int → Int → Int} (h : ∀ i j, f i j = f j i) : f 1 0 = f 0 1 ∧ f 2 0 = f 0 2 ∧ f 3 0 = f 0 3 ∧ f 2 1 = f 1 2 ∧ f 3 1 = f 1 3 ∧ f 3 2 = f 2 3 := ⟨h _ _, h _ _, h _ _, h _ _, h _ _, h _ _⟩
theorem sym5 {f : Int → Int → Int} (h : ∀ i j, f i j = f j i) : f 1 0 = f 0 1 ∧ f 2 0 = f 0 2 ∧ f 3 0 = f 0 3 ∧ f 4 0 = f 0 4 ∧ f 2 1 = f 1 2 ∧ f 3 1 = f 1 3 ∧ f 4 1 = f 1 4 ∧ f 3 2 = f 2 3 ∧ f 4 2 = f 2 4 ∧ f 4 3 = f 3 4 := ⟨h _ _, h _ _, h _ _, h _ _, h _ _, h _ _, h _ _, h _ _, h _ _, h _ _⟩
end Gn

/- The potentials: forests' sums and minors agree. Plain Lean, no program in sight. -/
namespace Gn
set_option linter.unusedSimpArgs false
set_option linter.unusedVariables false
set_option maxRecDepth 10000 in
set_option maxHeartbeats 16000000 in
theorem pot2 (f : Int → Int → Int) (h : ∀ i j, f i j = f j i) (a b x : Int) (ha : 0 ≤ a ∧ a < 2) (hb : 0 ≤ b ∧ b < 2) (hx : 0 ≤ x ∧ x < 2) (hab : a ≠ b) : fo 2 (lapW 2 f) a b + fo 2 (lapW 2 f) x b - fo 2 (lapW 2 f) a x = 2 * potS 2 (lapW 2 f) a b x := by
  obtain h01 := sym2 h
  (obtain rfl | rfl : a = 0 ∨ a = 1 := by omega) <;> (obtain rfl | rfl : b = 0 ∨ b = 1 := by omega) <;> (obtain rfl | rfl : x = 0 ∨ x = 1 := by omega)
  all_goals try exact absurd rfl hab
  all_goals clear ha hb hx hab
  all_goals
    simp [fo, potS, trS, detP, dsumP, lapW, others, upto, List.range_succ, rowS, idx, sgn, srt2, h01]
    try clear h h01
    try (generalize f 0 1 = a01; grind)
set_option maxRecDepth 10000 in
set_option maxHeartbeats 16000000 in
theorem pot3 (f : Int → Int → Int) (h : ∀ i j, f i j = f j i) (a b x : Int) (ha : 0 ≤ a ∧ a < 3) (hb : 0 ≤ b ∧ b < 3) (hx : 0 ≤ x ∧ x < 3) (hab : a ≠ b) : fo 3 (lapW 3 f) a b + fo 3 (lapW 3 f) x b - fo 3 (lapW 3 f) a x = 2 * potS 3 (lapW 3 f) a b x := by
  obtain ⟨h01,h02,h12⟩ := sym3 h
  (obtain rfl | rfl | rfl : a = 0 ∨ a = 1 ∨ a = 2 := by omega) <;> (obtain rfl | rfl | rfl : b = 0 ∨ b = 1 ∨ b = 2 := by omega) <;> (obtain rfl | rfl | rfl : x = 0 ∨ x = 1 ∨ x = 2 := by omega)
  all_goals try exact absurd rfl hab
  all_goals clear ha hb hx hab
  all_goals
    simp [fo, potS, trS, detP, dsumP, lapW, others, upto, List.range_succ, rowS, idx, sgn, srt2, h01, h02, h12]
    try clear h h01 h02 h12
    try (generalize f 0 1 = a01; generalize f 0 2 = a02; generalize f 1 2 = a12; grind)
set_option maxRecDepth 10000 in
set_option maxHeartbeats 16000000 in
theorem pot4 (f : Int → Int → Int) (h : ∀ i j, f i j = f j i) (a b x : Int) (ha : 0 ≤ a ∧ a < 4) (hb : 0 ≤ b ∧ b < 4) (hx : 0 ≤ x ∧ x < 4) (hab : a ≠ b) : fo 4 (lapW 4 f) a b + fo 4 (lapW 4 f) x b - fo 4 (lapW 4 f) a x = 2 * potS 4 (lapW 4 f) a b x := by
  obtain ⟨h01,h02,h03,h12,h13,h23⟩ := sym4 h
  (obtain rfl | rfl | rfl | rfl : a = 0 ∨ a = 1 ∨ a = 2 ∨ a = 3 := by omega) <;> (obtain rfl | rfl | rfl | rfl : b = 0 ∨ b = 1 ∨ b = 2 ∨ b = 3 := by omega) <;> (obtain rfl | rfl | rfl | rfl : x = 0 ∨ x = 1 ∨ x = 2 ∨ x = 3 := by omega)
  all_goals try exact absurd rfl hab
  all_goals clear ha hb hx hab
  all_goals
    simp [fo, potS, trS, detP, dsumP, lapW, others, upto, List.range_succ, rowS, idx, sgn, srt2, h01, h02, h03, h12, h13, h23]
    try clear h h01 h02 h03 h12 h13 h23
    try (generalize f 0 1 = a01; generalize f 0 2 = a02; generalize f 0 3 = a03; generalize f 1 2 = a12; generalize f 1 3 = a13; generalize f 2 3 = a23; grind)
set_option maxRecDepth 10000 in
set_option maxHeartbeats 16000000 in
theorem pot5 (f : Int → Int → Int) (h : ∀ i j, f i j = f j i) (a b x : Int) (ha : 0 ≤ a ∧ a < 5) (hb : 0 ≤ b ∧ b < 5) (hx : 0 ≤ x ∧ x < 5) (hab : a ≠ b) : fo 5 (lapW 5 f) a b + fo 5 (lapW 5 f) x b - fo 5 (lapW 5 f) a x = 2 * potS 5 (lapW 5 f) a b x := by
  obtain ⟨h01,h02,h03,h04,h12,h13,h14,h23,h24,h34⟩ := sym5 h
  (obtain rfl | rfl | rfl | rfl | rfl : a = 0 ∨ a = 1 ∨ a = 2 ∨ a = 3 ∨ a = 4 := by omega) <;> (obtain rfl | rfl | rfl | rfl | rfl : b = 0 ∨ b = 1 ∨ b = 2 ∨ b = 3 ∨ b = 4 := by omega) <;> (obtain rfl | rfl | rfl | rfl | rfl : x = 0 ∨ x = 1 ∨ x = 2 ∨ x = 3 ∨ x = 4 := by omega)
  all_goals try exact absurd rfl hab
  all_goals clear ha hb hx hab
  all_goals
    simp [fo, potS, trS, detP, dsumP, lapW, others, upto, List.range_succ, rowS, idx, sgn, srt2, h01, h02, h03, h04, h12, h13, h14, h23, h24, h34]
    try clear h h01 h02 h03 h04 h12 h13 h14 h23 h24 h34
    try (generalize f 0 1 = a01; generalize f 0 2 = a02; generalize f 0 3 = a03; generalize f 0 4 = a04; generalize f 1 2 = a12; generalize f 1 3 = a13; generalize f 1 4 = a14; generalize f 2 3 = a23; generalize f 2 4 = a24; generalize f 3 4 = a34; grind)
/-- the program's potential is twice the reference's -/
theorem pot_twice {M : Nat} (hM : M ≤ 5) (f : Int → Int → Int) (h : ∀ i j, f i j = f j i) (a b x : Int) (ha : 0 ≤ a ∧ a < M) (hb : 0 ≤ b ∧ b < M) (hx : 0 ≤ x ∧ x < M) (hab : a ≠ b) : fo M (lapW M f) a b + fo M (lapW M f) x b - fo M (lapW M f) a x = 2 * potS M (lapW M f) a b x := by
  have : M = 2 ∨ M = 3 ∨ M = 4 ∨ M = 5 := by omega
  rcases this with rfl | rfl | rfl | rfl
  · exact pot2 f h a b x ha hb hx hab
  · exact pot3 f h a b x ha hb hx hab
  · exact pot4 f h a b x ha hb hx hab
  · exact pot5 f h a b x ha hb hx hab
end Gn

/- A connected network's parts have positive determinants. Plain Lean, no program in sight. -/
namespace Gn
set_option linter.unusedSimpArgs false
set_option linter.unusedVariables false
/-! a table without a node: the pivot's row and column worked out -/
def elim (e : Int → Int → Int) (v : Int) (i j : Int) : Int := e v v * e i j - e i v * e v j
theorem mul_nn {a b : Int} (ha : a ≤ 0) (hb : b ≤ 0) : 0 ≤ a * b := by
  have := Int.mul_nonneg (show 0 ≤ -a by omega) (show 0 ≤ -b by omega)
  rwa [Int.neg_mul_neg] at this
theorem mul_pn {a b : Int} (ha : 0 < a) (hb : b ≤ 0) : a * b ≤ 0 := by
  have := Int.mul_nonneg (show 0 ≤ a by omega) (show 0 ≤ -b by omega)
  rw [Int.mul_neg] at this; omega
theorem mul_neg' {a b : Int} (ha : a < 0) (hb : b < 0) : 0 < a * b := by
  have := Int.mul_pos (show 0 < -a by omega) (show 0 < -b by omega)
  rwa [Int.neg_mul_neg] at this
theorem pos_of_mul {a b : Int} (ha : 0 < a) (h : 0 < a * b) : 0 < b := by
  by_cases hb : b ≤ 0
  · have := mul_pn ha hb; omega
  · omega
theorem neg_of_mul {a b : Int} (ha : 0 < a) (h : a * b ≤ 0) : b ≤ 0 := by
  by_cases hb : 0 < b
  · have := Int.mul_pos ha hb; omega
  · omega
theorem zero_of_mul {a b : Int} (ha : 0 < a) (h : a * b = 0) : b = 0 := by
  rcases Int.mul_eq_zero.1 h with h | h
  · omega
  · exact h
theorem elim_sum (e : Int → Int → Int) (v i : Int) (t : List Int) : (t.map (elim e v i)).sum = e v v * (t.map (e i)).sum - e i v * (t.map (e v)).sum := by
  induction t with
  | nil => simp
  | cons a t ih => simp only [List.map_cons, List.sum_cons, ih, elim]; grind
theorem sum_np {t : List Int} {g : Int → Int} (h : ∀ j ∈ t, g j ≤ 0) : (t.map g).sum ≤ 0 := by
  induction t with
  | nil => simp
  | cons a t ih =>
    have := ih (fun j hj => h j (by simp [hj]))
    have := h a (by simp)
    simp only [List.map_cons, List.sum_cons]; omega
theorem sum_neg {t : List Int} {g : Int → Int} (h : ∀ j ∈ t, g j ≤ 0) (h2 : ∃ j ∈ t, g j < 0) : (t.map g).sum < 0 := by
  induction t with
  | nil => obtain ⟨j, hj, _⟩ := h2; simp at hj
  | cons a t ih =>
    have h3 := h a (by simp)
    have h4 := sum_np (t := t) (g := g) (fun j hj => h j (by simp [hj]))
    simp only [List.map_cons, List.sum_cons]
    obtain ⟨j, hj, hl⟩ := h2
    rcases List.mem_cons.1 hj with rfl | hj
    · omega
    · have := ih (fun j hj => h j (by simp [hj])) ⟨j, hj, hl⟩; omega
theorem sum_nn {t : List Int} {g : Int → Int} (h : ∀ j ∈ t, 0 ≤ g j) : 0 ≤ (t.map g).sum := by
  induction t with
  | nil => simp
  | cons a t ih =>
    have := ih (fun j hj => h j (by simp [hj]))
    have := h a (by simp)
    simp only [List.map_cons, List.sum_cons]; omega
theorem sum_pos {t : List Int} {g : Int → Int} (h : ∀ j ∈ t, 0 ≤ g j) {j : Int} (hj : j ∈ t) (hl : 0 < g j) : 0 < (t.map g).sum := by
  induction t with
  | nil => simp at hj
  | cons a t ih =>
    have h3 := h a (by simp)
    have h4 := sum_nn (t := t) (g := g) (fun j hj => h j (by simp [hj]))
    simp only [List.map_cons, List.sum_cons]
    rcases List.mem_cons.1 hj with rfl | hj
    · omega
    · have := ih (fun j hj => h j (by simp [hj])) hj; omega
/-- what makes a part of a network's table positive -/
structure Nice (e : Int → Int → Int) (q : List Int) : Prop where
  nd : q.Nodup
  off : ∀ i ∈ q, ∀ j ∈ q, i ≠ j → e i j ≤ 0
  row : ∀ i ∈ q, 0 ≤ (q.map (e i)).sum
  esc : ∀ S : Int → Prop, (∃ i ∈ q, S i) → ∃ i ∈ q, S i ∧ (0 < (q.map (e i)).sum ∨ ∃ j ∈ q, ¬ S j ∧ e i j < 0)
theorem Nice.diag {e : Int → Int → Int} {v : Int} {t : List Int} (h : Nice e (v :: t)) : 0 < e v v := by
  obtain ⟨i, hi, rfl, h2⟩ := h.esc (fun x => x = v) ⟨v, by simp, rfl⟩
  have hv := (List.nodup_cons.1 h.nd).1
  have ho : ∀ j ∈ t, e i j ≤ 0 := fun j hj => h.off i (by simp) j (by simp [hj]) (fun e => hv (e ▸ hj))
  have hr := h.row i (by simp)
  have hs := sum_np ho
  simp only [List.map_cons, List.sum_cons] at hr h2
  rcases h2 with h2 | ⟨j, hj, hne, hl⟩
  · omega
  · rcases List.mem_cons.1 hj with rfl | hj
    · exact absurd rfl hne
    · have := sum_neg ho ⟨j, hj, hl⟩; omega
theorem Nice.elim {e : Int → Int → Int} {v : Int} {t : List Int} (h : Nice e (v :: t)) : Nice (elim e v) t := by
  have hd := h.diag
  have hn := List.nodup_cons.1 h.nd
  have hiv : ∀ i ∈ t, e i v ≤ 0 := fun i hi => h.off i (by simp [hi]) v (by simp) (fun e => hn.1 (e ▸ hi))
  have hvj : ∀ j ∈ t, e v j ≤ 0 := fun j hj => h.off v (by simp) j (by simp [hj]) (fun e => hn.1 (e ▸ hj))
  have hsum : ∀ i, (t.map (Gn.elim e v i)).sum = e v v * ((v :: t).map (e i)).sum - e i v * ((v :: t).map (e v)).sum := by
    intro i
    rw [elim_sum]; simp only [List.map_cons, List.sum_cons]; grind
  have hrv := h.row v (by simp)
  have hneg : ∀ i ∈ t, e i v * ((v :: t).map (e v)).sum ≤ 0 := fun i hi => by
    have := Int.mul_nonneg (show 0 ≤ -(e i v) by have := hiv i hi; omega) hrv
    rw [Int.neg_mul] at this; omega
  refine ⟨hn.2, fun i hi j hj hij => ?_, fun i hi => ?_, fun S hS => ?_⟩
  · have h1 := mul_pn hd (h.off i (by simp [hi]) j (by simp [hj]) hij)
    have h2 := mul_nn (hiv i hi) (hvj j hj)
    show e v v * e i j - e i v * e v j ≤ 0
    omega
  · rw [hsum]
    have h1 := Int.mul_nonneg (show 0 ≤ e v v by omega) (h.row i (by simp [hi]))
    have h2 := hneg i hi
    omega
  · obtain ⟨i0, hi0, hs0⟩ := hS
    have hne : ∀ {i}, i ∈ t → i ≠ v := fun hi e => hn.1 (e ▸ hi)
    have fin1 : ∀ i ∈ t, 0 < ((v :: t).map (e i)).sum → 0 < (t.map (Gn.elim e v i)).sum := fun i hi hp => by
      rw [hsum]; have := Int.mul_pos hd hp; have := hneg i hi; omega
    have fin2 : ∀ i ∈ t, ∀ j ∈ t, i ≠ j → e i j < 0 → Gn.elim e v i j < 0 := fun i hi j hj hij hl => by
      show e v v * e i j - e i v * e v j < 0
      have h1 := Int.mul_pos hd (show 0 < -(e i j) by omega)
      rw [Int.mul_neg] at h1
      have h2 := mul_nn (hiv i hi) (hvj j hj)
      omega
    obtain ⟨i, hi, ⟨hs, hiv'⟩, h2⟩ := h.esc (fun x => S x ∧ x ≠ v) ⟨i0, by simp [hi0], hs0, hne hi0⟩
    have hit : i ∈ t := (List.mem_cons.1 hi).resolve_left hiv'
    rcases h2 with h2 | ⟨j, hj, hnj, hl⟩
    · exact ⟨i, hit, hs, .inl (fin1 i hit h2)⟩
    · rcases List.mem_cons.1 hj with rfl | hjt
      · -- i is bound to v
        obtain ⟨i2, hi2, hs2, h3⟩ := h.esc (fun x => S x ∨ x = j) ⟨i0, by simp [hi0], .inl hs0⟩
        rcases List.mem_cons.1 hi2 with rfl | hi2t
        · rcases h3 with h3 | ⟨k, hk, hnk, hl3⟩
          · refine ⟨i, hit, hs, .inl ?_⟩
            rw [hsum]
            have h4 := Int.mul_nonneg (show 0 ≤ e i2 i2 by omega) (h.row i (by simp [hit]))
            have h5 := Int.mul_pos (show 0 < -(e i i2) by omega) h3
            rw [Int.neg_mul] at h5
            omega
          · have hkv : k ≠ i2 := fun e => hnk (.inr e)
            have hkt : k ∈ t := (List.mem_cons.1 hk).resolve_left hkv
            have hks : ¬ S k := fun e => hnk (.inl e)
            refine ⟨i, hit, hs, .inr ⟨k, hkt, hks, ?_⟩⟩
            show e i2 i2 * e i k - e i i2 * e i2 k < 0
            have h4 := mul_pn hd (h.off i (by simp [hit]) k (by simp [hkt]) (fun e => hks (e ▸ hs)))
            have h5 := mul_neg' hl hl3
            omega
        · have hs2' : S i2 := hs2.resolve_right (hne hi2t)
          rcases h3 with h3 | ⟨k, hk, hnk, hl3⟩
          · exact ⟨i2, hi2t, hs2', .inl (fin1 i2 hi2t h3)⟩
          · have hkv : k ≠ j := fun e => hnk (.inr e)
            have hkt : k ∈ t := (List.mem_cons.1 hk).resolve_left hkv
            have hks : ¬ S k := fun e => hnk (.inl e)
            exact ⟨i2, hi2t, hs2', .inr ⟨k, hkt, hks, fin2 i2 hi2t k hkt (fun e => hks (e ▸ hs2')) hl3⟩⟩
      · have hjs : ¬ S j := fun h => hnj ⟨h, hne hjt⟩
        exact ⟨i, hit, hs, .inr ⟨j, hjt, hjs, fin2 i hit j hjt (fun e => hjs (e ▸ hs)) hl⟩⟩
end Gn
namespace Gn
set_option linter.unusedSimpArgs false
set_option linter.unusedVariables false
set_option maxRecDepth 10000 in
set_option maxHeartbeats 4000000 in
theorem chioP2 (e : Int → Int → Int) (v a : Int) : detP (elim e v) [a] [a] = detP e [v, a] [v, a] := by
  simp [detP, dsumP, elim, sgn]
  generalize e v v = q0
  generalize e v a = q1
  generalize e a v = q2
  generalize e a a = q3
  grind
set_option maxRecDepth 10000 in
set_option maxHeartbeats 4000000 in
theorem chioP3 (e : Int → Int → Int) (v a b : Int) : detP (elim e v) [a, b] [a, b] = e v v * detP e [v, a, b] [v, a, b] := by
  simp [detP, dsumP, elim, sgn]
  generalize e v v = q0
  generalize e v a = q1
  generalize e v b = q2
  generalize e a v = q3
  generalize e a a = q4
  generalize e a b = q5
  generalize e b v = q6
  generalize e b a = q7
  generalize e b b = q8
  grind
set_option maxRecDepth 10000 in
set_option maxHeartbeats 4000000 in
theorem chioP4 (e : Int → Int → Int) (v a b c : Int) : detP (elim e v) [a, b, c] [a, b, c] = e v v * e v v * detP e [v, a, b, c] [v, a, b, c] := by
  simp [detP, dsumP, elim, sgn]
  generalize e v v = q0
  generalize e v a = q1
  generalize e v b = q2
  generalize e v c = q3
  generalize e a v = q4
  generalize e a a = q5
  generalize e a b = q6
  generalize e a c = q7
  generalize e b v = q8
  generalize e b a = q9
  generalize e b b = q10
  generalize e b c = q11
  generalize e c v = q12
  generalize e c a = q13
  generalize e c b = q14
  generalize e c c = q15
  grind
set_option maxRecDepth 10000 in
set_option maxHeartbeats 4000000 in
theorem chioT1 (e : Int → Int → Int) (v x y : Int) : detP (elim e v) [x] [y] = detP e [x, v] [y, v] := by
  simp [detP, dsumP, elim, sgn]
  generalize e v v = q0
  generalize e x v = q1
  generalize e v y = q2
  generalize e x y = q3
  grind
set_option maxRecDepth 10000 in
set_option maxHeartbeats 4000000 in
theorem chioT2 (e : Int → Int → Int) (v a x y : Int) : detP (elim e v) [x, a] [y, a] = e v v * detP e [x, v, a] [y, v, a] := by
  simp [detP, dsumP, elim, sgn]
  generalize e v v = q0
  generalize e v a = q1
  generalize e a v = q2
  generalize e a a = q3
  generalize e x v = q4
  generalize e v y = q5
  generalize e x a = q6
  generalize e a y = q7
  generalize e x y = q8
  grind
set_option maxRecDepth 10000 in
set_option maxHeartbeats 4000000 in
theorem chioT3 (e : Int → Int → Int) (v a b x y : Int) : detP (elim e v) [x, a, b] [y, a, b] = e v v * e v v * detP e [x, v, a, b] [y, v, a, b] := by
  simp [detP, dsumP, elim, sgn]
  generalize e v v = q0
  generalize e v a = q1
  generalize e v b = q2
  generalize e a v = q3
  generalize e a a = q4
  generalize e a b = q5
  generalize e b v = q6
  generalize e b a = q7
  generalize e b b = q8
  generalize e x v = q9
  generalize e v y = q10
  generalize e x a = q11
  generalize e a y = q12
  generalize e x b = q13
  generalize e b y = q14
  generalize e x y = q15
  grind
set_option maxRecDepth 10000 in
set_option maxHeartbeats 4000000 in
theorem chioT4 (e : Int → Int → Int) (v a b c x y : Int) : detP (elim e v) [x, a, b, c] [y, a, b, c] = e v v * e v v * e v v * detP e [x, v, a, b, c] [y, v, a, b, c] := by
  simp [detP, dsumP, elim, sgn]
  generalize e v v = q0
  generalize e v a = q1
  generalize e v b = q2
  generalize e v c = q3
  generalize e a v = q4
  generalize e a a = q5
  generalize e a b = q6
  generalize e a c = q7
  generalize e b v = q8
  generalize e b a = q9
  generalize e b b = q10
  generalize e b c = q11
  generalize e c v = q12
  generalize e c a = q13
  generalize e c b = q14
  generalize e c c = q15
  generalize e x v = q16
  generalize e v y = q17
  generalize e x a = q18
  generalize e a y = q19
  generalize e x b = q20
  generalize e b y = q21
  generalize e x c = q22
  generalize e c y = q23
  generalize e x y = q24
  grind
/-- a nice part's determinant is positive -/
theorem det_pos : ∀ (q : List Int) (e : Int → Int → Int), q.length ≤ 4 → Nice e q → 0 < detP e q q
  | [], _, _, _ => by simp [detP]
  | [v], e, _, h => by
    have := h.diag
    simp [detP, dsumP, sgn]; exact this
  | [v, a], e, hl, h => by
    have h1 := det_pos [a] _ (by simp) h.elim
    rwa [chioP2] at h1
  | [v, a, b], e, hl, h => by
    have h1 := det_pos [a, b] _ (by simp) h.elim
    rw [chioP3] at h1
    exact pos_of_mul h.diag h1
  | [v, a, b, c], e, hl, h => by
    have h1 := det_pos [a, b, c] _ (by simp) h.elim
    rw [chioP4, Int.mul_assoc] at h1
    exact pos_of_mul h.diag (pos_of_mul h.diag h1)
  | _ :: _ :: _ :: _ :: _ :: _, _, hl, _ => by simp at hl
theorem chioT {e : Int → Int → Int} {v : Int} {t : List Int} (h : t.length ≤ 3) (hd : 0 < e v v) : ∃ c : Int, 0 < c ∧ ∀ x y, detP (elim e v) (x :: t) (y :: t) = c * detP e (x :: v :: t) (y :: v :: t) := by
  match t, h with
  | [], _ => exact ⟨1, by omega, fun x y => by rw [chioT1, Int.one_mul]⟩
  | [a], _ => exact ⟨e v v, hd, fun x y => by rw [chioT2]⟩
  | [a, b], _ => exact ⟨_, Int.mul_pos hd hd, fun x y => by rw [chioT3]⟩
  | [a, b, c], _ => exact ⟨_, Int.mul_pos (Int.mul_pos hd hd) hd, fun x y => by rw [chioT4]⟩
  | _ :: _ :: _ :: _ :: _, h => simp at h
theorem det_one (e : Int → Int → Int) (x y : Int) : detP e [x] [y] = e x y := by simp [detP, dsumP, sgn]
/-- what two nodes beside a nice part have of each other -/
theorem top_neg : ∀ (q : List Int) (e : Int → Int → Int) (x y : Int), q.length ≤ 4 → Nice e q → (∀ j ∈ q, e x j ≤ 0) → (∀ i ∈ q, e i y ≤ 0) → e x y ≤ 0 → detP e (x :: q) (y :: q) ≤ 0
  | [], e, x, y, _, _, _, _, h => by rw [det_one]; exact h
  | v :: t, e, x, y, hl, h, hx, hy, hxy => by
    have hd := h.diag
    have hn := List.nodup_cons.1 h.nd
    obtain ⟨c, hc, hT⟩ := chioT (e := e) (v := v) (t := t) (by simp at hl; omega) hd
    have h1 := top_neg t (Gn.elim e v) x y (by simp at hl; omega) h.elim
      (fun j hj => by
        have a1 := mul_pn hd (hx j (by simp [hj]))
        have a2 := mul_nn (hx v (by simp)) (h.off v (by simp) j (by simp [hj]) (fun e => hn.1 (e ▸ hj)))
        show e v v * e x j - e x v * e v j ≤ 0
        omega)
      (fun i hi => by
        have a1 := mul_pn hd (hy i (by simp [hi]))
        have a2 := mul_nn (h.off i (by simp [hi]) v (by simp) (fun e => hn.1 (e ▸ hi))) (hy v (by simp))
        show e v v * e i y - e i v * e v y ≤ 0
        omega)
      (by
        have a1 := mul_pn hd hxy
        have a2 := mul_nn (hx v (by simp)) (hy v (by simp))
        show e v v * e x y - e x v * e v y ≤ 0
        omega)
    rw [hT] at h1
    exact neg_of_mul hc h1
theorem mul_sum (c : Int) (g : Int → Int) (E : List Int) : (E.map fun y => c * g y).sum = c * (E.map g).sum := by
  induction E with
  | nil => simp
  | cons a E ih => simp only [List.map_cons, List.sum_cons, ih]; rw [Int.mul_add]
/-- rows add up to zero -/
theorem top_sum : ∀ (q : List Int) (e : Int → Int → Int) (x : Int) (E : List Int), q.length ≤ 4 → Nice e q → (∀ i ∈ x :: q, (E.map (e i)).sum + (q.map (e i)).sum = 0) → (E.map fun y => detP e (x :: q) (y :: q)).sum = 0
  | [], e, x, E, _, _, h => by
    have := h x (by simp)
    simp only [List.map_nil, List.sum_nil, Int.add_zero] at this
    simp only [det_one]; exact this
  | v :: t, e, x, E, hl, h, h0 => by
    have hd := h.diag
    obtain ⟨c, hc, hT⟩ := chioT (e := e) (v := v) (t := t) (by simp at hl; omega) hd
    have h1 := top_sum t (Gn.elim e v) x E (by simp at hl; omega) h.elim (fun i hi => by
      rw [elim_sum, elim_sum]
      have a1 := h0 i (by rcases List.mem_cons.1 hi with rfl | hi <;> simp_all)
      have a2 := h0 v (by simp)
      simp only [List.map_cons, List.sum_cons] at a1 a2
      generalize (E.map (e i)).sum = s1 at *
      generalize (t.map (e i)).sum = s2 at *
      generalize (E.map (e v)).sum = s3 at *
      generalize (t.map (e v)).sum = s4 at *
      have e1 : s1 = -(e i v + s2) := by omega
      have e2 : s3 = -(e v v + s4) := by omega
      rw [e1, e2]; grind)
    have e1 : (E.map fun y => detP (Gn.elim e v) (x :: t) (y :: t)).sum = c * (E.map fun y => detP e (x :: v :: t) (y :: v :: t)).sum := by
      simp only [hT]; exact mul_sum c _ E
    rw [e1] at h1
    exact zero_of_mul hc h1
/-- the same the other way round -/
theorem top_sym : ∀ (q : List Int) (e : Int → Int → Int) (x y : Int), q.length ≤ 4 → Nice e q → (∀ i j, e i j = e j i) → detP e (x :: q) (y :: q) = detP e (y :: q) (x :: q)
  | [], e, x, y, _, _, h => by rw [det_one, det_one, h]
  | v :: t, e, x, y, hl, h, hs => by
    have hd := h.diag
    obtain ⟨c, hc, hT⟩ := chioT (e := e) (v := v) (t := t) (by simp at hl; omega) hd
    have h1 := top_sym t (Gn.elim e v) x y (by simp at hl; omega) h.elim (fun i j => by
      show e v v * e i j - e i v * e v j = e v v * e j i - e j v * e v i
      rw [hs i j, hs i v, hs v j]; grind)
    rw [hT, hT] at h1
    exact Int.eq_of_mul_eq_mul_left (by omega) h1
end Gn

/- A network's table is its weights' table; its parts' determinants, without the machine's bounds. Plain Lean. -/
namespace Gn
theorem perm_sum {g : Int → Int} {l m : List Int} (h : l.Perm m) : (l.map g).sum = (m.map g).sum := by
  induction h with
  | nil => rfl
  | cons x _ ih => simp only [List.map_cons, List.sum_cons, ih]
  | swap x y l => simp only [List.map_cons, List.sum_cons]; omega
  | trans _ _ ih1 ih2 => exact ih1.trans ih2
theorem filter_sum (g : Int → Int) (p : Int → Bool) (l : List Int) : (l.map g).sum = ((l.filter p).map g).sum + ((l.filter fun k => !p k).map g).sum := by
  induction l with
  | nil => rfl
  | cons a l ih =>
    simp only [List.map_cons, List.sum_cons, List.filter_cons, ih]
    cases p a <;> simp <;> omega
theorem nodup_filter {l : List Int} (p : Int → Bool) (h : l.Nodup) : (l.filter p).Nodup := List.Pairwise.filter _ h
theorem sub_sum {g : Int → Int} {q L : List Int} (hq : q.Nodup) (hL : L.Nodup) (hs : ∀ x ∈ q, x ∈ L) : (L.map g).sum = (q.map g).sum + ((L.filter fun k => !q.contains k).map g).sum := by
  rw [filter_sum g (fun k => q.contains k) L]
  congr 1
  apply perm_sum
  rw [List.perm_ext_iff_of_nodup (nodup_filter _ hL) hq]
  intro x
  simp only [List.mem_filter, List.contains_iff_mem]
  exact ⟨fun h => h.2, fun h => ⟨hs x h, h⟩⟩
theorem lap_sum (M : Nat) (f : Int → Int → Int) (i : Int) : ∀ q : List Int, q.Nodup → (q.map (lapW M f i)).sum = (if i ∈ q then rowS M f i else 0) - (q.map fun k => if k = i then 0 else f i k).sum
  | [], _ => by simp
  | a :: q, h => by
    have h' := List.nodup_cons.1 h
    simp only [List.map_cons, List.sum_cons, lap_sum M f i q h'.2, lapW]
    by_cases e : i = a
    · subst e
      simp only [h'.1, List.mem_cons, true_or, if_true, if_false]; omega
    · have e2 : ¬ a = i := fun h => e h.symm
      by_cases hm : i ∈ q
      · simp only [e, e2, hm, List.mem_cons, or_true, if_true, if_false]; omega
      · simp only [e, e2, hm, List.mem_cons, or_self, if_false]; omega
theorem upto_mem (n : Nat) (x : Int) : x ∈ upto n ↔ 0 ≤ x ∧ x < n := by
  simp only [upto, List.mem_map, List.mem_range]
  constructor
  · rintro ⟨i, hi, rfl⟩; omega
  · intro h; exact ⟨x.toNat, by omega, by omega⟩
theorem upto_nodup (n : Nat) : (upto n).Nodup := by
  unfold upto List.Nodup
  rw [List.pairwise_map]
  exact (List.nodup_range (n := n)).imp (fun h e => h (by omega))
/-- a row's sum over a part: what goes to the others -/
theorem part_sum {M : Nat} {f : Int → Int → Int} {i : Int} {q : List Int} (hq : q.Nodup) (hs : ∀ x ∈ q, 0 ≤ x ∧ x < M) (hi : i ∈ q) : (q.map (lapW M f i)).sum = (((upto M).filter fun k => !q.contains k).map fun k => if k = i then 0 else f i k).sum := by
  rw [lap_sum M f i q hq, if_pos hi, rowS, sub_sum (g := fun k => if k = i then 0 else f i k) hq (upto_nodup M) (fun x hx => (upto_mem M x).2 (hs x hx))]
  omega
theorem whole_sum {M : Nat} {f : Int → Int → Int} {i : Int} (hi : 0 ≤ i ∧ i < M) : ((upto M).map (lapW M f i)).sum = 0 := by
  rw [lap_sum M f i _ (upto_nodup M), if_pos ((upto_mem M i).2 hi), rowS]; omega
/-- a part that has not node 0, in a network where every set without node 0 is bound to the rest -/
theorem nice_of {M : Nat} {f : Int → Int → Int} {q : List Int} (hf : ∀ i j, 0 ≤ f i j) (hq : q.Nodup) (hs : ∀ x ∈ q, 0 ≤ x ∧ x < M)
    (hc : ∀ S : Int → Prop, ¬ S 0 → (∃ i : Int, 0 ≤ i ∧ i < M ∧ S i) → ∃ i j : Int, 0 ≤ i ∧ i < M ∧ 0 ≤ j ∧ j < M ∧ S i ∧ ¬ S j ∧ 0 < f i j) (h0 : ¬ (0 : Int) ∈ q) : Nice (lapW M f) q := by
  refine ⟨hq, fun i _ j _ hij => ?_, fun i hi => ?_, fun S hS => ?_⟩
  · have := hf i j; unfold lapW; rw [if_neg hij]; omega
  · rw [part_sum hq hs hi]
    apply sum_nn
    intro j _
    have := hf i j
    show 0 ≤ if j = i then 0 else f i j
    split <;> omega
  · obtain ⟨i0, hi0, hs0⟩ := hS
    obtain ⟨i, j, a1, a2, a3, a4, ⟨b1, b2⟩, b3, b4⟩ := hc (fun x => x ∈ q ∧ S x) (fun h => h0 h.1) ⟨i0, (hs _ hi0).1, (hs _ hi0).2, hi0, hs0⟩
    refine ⟨i, b1, b2, ?_⟩
    have hij : i ≠ j := fun e => b3 (e ▸ ⟨b1, b2⟩)
    by_cases hj : j ∈ q
    · refine .inr ⟨j, hj, fun h => b3 ⟨hj, h⟩, ?_⟩
      unfold lapW; rw [if_neg hij]; omega
    · refine .inl ?_
      rw [part_sum hq hs b1]
      refine sum_pos (fun k _ => ?_) (j := j) ?_ ?_
      · have := hf i k
        show 0 ≤ if k = i then 0 else f i k
        split <;> omega
      · simp only [List.mem_filter, Bool.not_eq_true']
        refine ⟨(upto_mem M j).2 ⟨a3, a4⟩, ?_⟩
        cases hb : q.contains j with
        | false => rfl
        | true => exact absurd (List.contains_iff_mem.1 hb) hj
      · show 0 < if j = i then 0 else f i j
        rw [if_neg (fun e => hij e.symm)]; exact b4
theorem sum_ind {L : List Int} (h : L.Nodup) (b w : Int) : (L.map fun k => if k = b then w else 0).sum = if b ∈ L then w else 0 := by
  induction L with
  | nil => rfl
  | cons a L ih =>
    have h' := List.nodup_cons.1 h
    simp only [List.map_cons, List.sum_cons, ih h'.2]
    by_cases e : a = b
    · subst e; rw [if_pos rfl, if_neg h'.1, if_pos (by simp)]; omega
    · rw [if_neg e]
      by_cases hb : b ∈ L
      · rw [if_pos hb, if_pos (by simp [hb])]; omega
      · rw [if_neg hb, if_neg (by intro h; rcases List.mem_cons.1 h with h | h; exact e h.symm; exact hb h)]; rfl
theorem add_sum (L : List Int) (g h : Int → Int) : (L.map fun k => g k + h k).sum = (L.map g).sum + (L.map h).sum := by
  induction L with
  | nil => rfl
  | cons a L ih => simp only [List.map_cons, List.sum_cons, ih]; omega
set_option maxRecDepth 10000 in
theorem row_bd {M : Nat} (hM : M ≤ 5) {f : Int → Int → Int} (hf : ∀ i j, 0 ≤ f i j ∧ f i j ≤ 200) {i : Int} (hi : 0 ≤ i ∧ i < M) : 0 ≤ rowS M f i ∧ rowS M f i ≤ 800 := by
  have h0 := hf i ((0 : Nat) : Int)
  have h1 := hf i ((1 : Nat) : Int)
  have h2 := hf i ((2 : Nat) : Int)
  have h3 := hf i ((3 : Nat) : Int)
  have h4 := hf i ((4 : Nat) : Int)
  have : M = 1 ∨ M = 2 ∨ M = 3 ∨ M = 4 ∨ M = 5 := by omega
  rcases this with rfl | rfl | rfl | rfl | rfl <;> simp only [rowS, upto, List.range_succ, List.range_zero, List.nil_append, List.cons_append, List.map_cons, List.map_nil, List.sum_cons, List.sum_nil] <;> (repeat' split) <;> omega
end Gn
namespace Go.Proofs.Ytjchindjoailbaa
set_option linter.unusedSimpArgs false
set_option linter.unusedVariables false
open Go.RowKit
theorem sgn_gn (k : Nat) : Gn.sgn k = sgn k := rfl
def bn : Nat → Int
  | 0 => 1
  | n + 1 => ((n + 1 : Nat) : Int) * (800 * bn n)
theorem bn_pos : ∀ n, 0 ≤ bn n
  | 0 => by decide
  | n + 1 => by
    rw [bn]
    exact Int.mul_nonneg (by omega) (Int.mul_nonneg (by decide) (bn_pos n))
/-- no bound is met -/
theorem det_eq {e : Int → Int → Int} (he : ∀ i j, -800 ≤ e i j ∧ e i j ≤ 800) : ∀ (rows cols : List Int), rows.length ≤ 5 → cols.length ≤ rows.length → detW e rows cols = Gn.detP e rows cols ∧ -(bn rows.length) ≤ detW e rows cols ∧ detW e rows cols ≤ bn rows.length
  | [], cols, _, _ => by simp [detW, Gn.detP, bn]
  | r :: rs, cols, h4, hc => by
    simp only [List.length_cons] at h4 hc
    have hbig : bn (rs.length + 1) ≤ 50000000000000000 := by
      have : rs.length ≤ 4 := by omega
      match hq : rs.length, this with
      | 0, _ => decide
      | 1, _ => decide
      | 2, _ => decide
      | 3, _ => decide
      | 4, _ => decide
    have hp := bn_pos rs.length
    have hbs : bn (rs.length + 1) = ((rs.length + 1 : Nat) : Int) * (800 * bn rs.length) := rfl
    have key : ∀ k : Nat, k ≤ cols.length → dsum e (detW e rs) r cols k = Gn.dsumP e (Gn.detP e rs) r cols k ∧ -((k : Int) * (800 * bn rs.length)) ≤ dsum e (detW e rs) r cols k ∧ dsum e (detW e rs) r cols k ≤ (k : Int) * (800 * bn rs.length) := by
      intro k
      induction k with
      | zero => intro _; simp [dsum, Gn.dsumP]
      | succ k ih =>
        intro hk
        have h1 := ih (by omega)
        have hT : ((k + 1 : Nat) : Int) * (800 * bn rs.length) ≤ bn (rs.length + 1) := by
          rw [hbs]
          exact Int.mul_le_mul_of_nonneg_right (by omega) (by omega)
        have hS : ((k + 1 : Nat) : Int) * (800 * bn rs.length) = (k : Int) * (800 * bn rs.length) + 800 * bn rs.length := by
          rw [show ((k + 1 : Nat) : Int) = (k : Int) + 1 from by omega, Int.add_mul, Int.one_mul]
        have h2 := he r (cols.getD k 0)
        have h3 := det_eq he rs (cols.eraseIdx k) (by omega) (by rw [List.length_eraseIdx]; split <;> omega)
        have hkp : 0 ≤ (k : Int) * (800 * bn rs.length) := Int.mul_nonneg (by omega) (by omega)
        rw [dsum, Gn.dsumP, ← h3.1, ← h1.1, sgn_gn]
        replace h1 := h1.2
        replace h3 := h3.2
        generalize e r (cols.getD k 0) = x at h2 ⊢
        generalize detW e rs (cols.eraseIdx k) = y at h3 ⊢
        generalize dsum e (detW e rs) r cols k = z at h1 ⊢
        rw [hS]
        clear ih
        by_cases hx : x = 0
        · rw [if_pos hx, hx]
          exact ⟨by simp, by omega, by omega⟩
        · rw [if_neg hx]
          have h5 : -800 ≤ sgn k * x ∧ sgn k * x ≤ 800 := by rcases sgn_cases k with h | h <;> rw [h] <;> omega
          have h6 : wrap64 (sgn k * x) = sgn k * x := by unfold wrap64; omega
          rw [h6]
          have h7 := mul_bd h5 h3
          generalize sgn k * x * y = t at h7
          have h8 : wrap64 t = t := by unfold wrap64; omega
          rw [h8]
          have h9 : wrap64 (z + t) = z + t := by unfold wrap64; omega
          rw [h9]
          omega
    have h1 := key cols.length (Nat.le_refl _)
    have hT : ((cols.length : Nat) : Int) * (800 * bn rs.length) ≤ bn (rs.length + 1) := by
      rw [hbs]
      exact Int.mul_le_mul_of_nonneg_right (by omega) (by omega)
    simp only [detW, Gn.detP, List.length_cons]
    omega
theorem wb_app {l : List Wz} {x : Wz} (a b : Int) : wbF (l ++ [x]) a b = if wbF l a b = 0 then (if ∃ y ∈ l, joins y a b then 0 else if joins x a b then x.2.2 else 0) else wbF l a b := by
  induction l with
  | nil => simp [wbF]
  | cons y t ih =>
    rw [List.cons_append, wbF, wbF, ih]
    by_cases hj : joins y a b
    · rw [if_pos hj, if_pos hj]
      split
      · rename_i h; rw [if_pos ⟨y, by simp, hj⟩, h]
      · rfl
    · rw [if_neg hj, if_neg hj]
      congr 1
      have : (∃ z ∈ y :: t, joins z a b) ↔ ∃ z ∈ t, joins z a b := by simp [hj]
      simp only [this]
/-- the weights at a node are its row's -/
theorem at_row {M : Nat} {E S : Int} {l : List Wz} (h : NetOk M E S l) (v : Int) (hv : 0 ≤ v ∧ v < M) : ∀ k : Nat, k ≤ l.length → atSum (l.take k) v = Gn.rowS M (wbF (l.take k)) v
  | 0, _ => by
    simp only [List.take_zero, atSum, List.foldl_nil, Gn.rowS, wbF]
    have : ∀ L : List Int, (L.map fun k => if k = v then (0 : Int) else 0).sum = 0 := by
      intro L; induction L with
      | nil => rfl
      | cons a L ih => simp only [List.map_cons, List.sum_cons, ih]; simp
    rw [this]
  | k + 1, hk => by
    have ih := at_row h v hv k (by omega)
    have h1 := at_bd h v k (by omega)
    have h2 := at_bd h v (k + 1) (by omega)
    have hw := h.w k (by omega)
    have hf := h.few
    rw [at_take l v k (by omega), ih]
    rw [at_take l v k (by omega)] at h2
    have hno : ∀ a b, joins l[k] a b → ∀ y ∈ l.take k, ¬ joins y a b := by
      intro a b hj y hy hj2
      obtain ⟨i, hi, rfl⟩ := List.getElem_of_mem hy
      rw [List.length_take] at hi
      simp only [List.getElem_take] at hj2
      have hwi := h.w i (by omega)
      have hp := List.pairwise_iff_getElem.1 h.srt i k (by omega) (by omega) (by omega)
      unfold lexlt at hp
      unfold good at hw hwi
      unfold joins at hj hj2
      omega
    have hz : ∀ (m : List Wz) a b, (∀ y ∈ m, ¬ joins y a b) → wbF m a b = 0 := by
      intro m a b
      induction m with
      | nil => intro _; rfl
      | cons y t ih => intro hm; rw [wbF, if_neg (hm y (by simp))]; exact ih (fun z hz => hm z (by simp [hz]))
    have hpt : ∀ j, (if j = v then (0 : Int) else wbF (l.take (k + 1)) v j) = (if j = v then 0 else wbF (l.take k) v j) + (if j = (if l[k].1 = v then l[k].2.1 else l[k].1) then (if l[k].1 = v ∨ l[k].2.1 = v then l[k].2.2 else 0) else 0) := by
      intro j
      rw [List.take_succ_eq_append_getElem (show k < l.length by omega), wb_app]
      unfold good at hw
      by_cases hj : joins l[k] v j
      · have hq := hz _ _ _ (hno v j hj)
        have hnx : ¬ ∃ y ∈ l.take k, joins y v j := fun ⟨y, hy, hh⟩ => hno v j hj y hy hh
        rw [hq, if_pos rfl, if_neg hnx, if_pos hj]
        unfold joins at hj
        split <;> (repeat' split) <;> omega
      · have hq : (if ∃ y ∈ l.take k, joins y v j then (0 : Int) else if joins l[k] v j then l[k].2.2 else 0) = 0 := by
          rw [if_neg hj]; split <;> rfl
        rw [hq]
        unfold joins at hj
        generalize wbF (l.take k) v j = z
        (repeat' split) <;> omega
    have hs : Gn.rowS M (wbF (l.take (k + 1))) v = Gn.rowS M (wbF (l.take k)) v + (if l[k].1 = v ∨ l[k].2.1 = v then l[k].2.2 else 0) := by
      unfold Gn.rowS
      rw [show (fun j => if j = v then (0 : Int) else wbF (l.take (k + 1)) v j) = (fun j => (if j = v then 0 else wbF (l.take k) v j) + (if j = (if l[k].1 = v then l[k].2.1 else l[k].1) then (if l[k].1 = v ∨ l[k].2.1 = v then l[k].2.2 else 0) else 0)) from funext hpt]
      rw [Gn.add_sum, Gn.sum_ind (Gn.upto_nodup M), if_pos ((Gn.upto_mem M _).2 (by unfold good at hw; split <;> omega))]
    rw [hs, ← ih]
    unfold atStep at h2 ⊢
    unfold good at hw
    split
    · unfold wrap64; omega
    · omega
theorem NetOk.at_row {M : Nat} {E S : Int} {l : List Wz} (h : NetOk M E S l) {v : Int} (hv : 0 ≤ v ∧ v < M) : atSum l v = Gn.rowS M (wbF l) v := by
  have := Proofs.Ytjchindjoailbaa.at_row h v hv l.length (Nat.le_refl _)
  rwa [List.take_of_length_le (Nat.le_refl _)] at this
theorem NetOk.lap {M : Nat} {E S : Int} {l : List Wz} (h : NetOk M E S l) {i : Int} (hi : 0 ≤ i ∧ i < M) (j : Int) : lapE l i j = Gn.lapW M (wbF l) i j := by
  unfold lapE Gn.lapW
  rw [h.at_row hi]
theorem NetOk.lap_bd {M : Nat} {E S : Int} {l : List Wz} (h : NetOk M E S l) {i : Int} (hi : 0 ≤ i ∧ i < M) (j : Int) : -800 ≤ lapE l i j ∧ lapE l i j ≤ 800 := by
  rw [h.lap hi]
  have h1 := Gn.row_bd (M := M) (by have := h.h.n5; omega) (h.wb) hi
  have h2 := h.wb i j
  unfold Gn.lapW
  split <;> omega
theorem NetOk.ent_bd {M : Nat} {E S : Int} {l : List Wz} (h : NetOk M E S l) (i j : Int) : -800 ≤ ent (tab M (lapE l)) i j ∧ ent (tab M (lapE l)) i j ≤ 800 :=
  Proofs.Ytjchindjoailbaa.ent_bd (by omega) (fun r hr x hx => by
    simp only [tab, List.mem_map] at hr
    obtain ⟨i, hi, rfl⟩ := hr
    simp only [List.mem_map] at hx
    obtain ⟨j, _, rfl⟩ := hx
    exact h.lap_bd ((upto_mem M i).1 hi) j) i j
/-- a minor of a network's table -/
theorem NetOk.det {M : Nat} {E S : Int} {l : List Wz} (h : NetOk M E S l) {rows cols : List Int} (h5 : rows.length ≤ 5) (hc : cols.length ≤ rows.length) (hr : ∀ x ∈ rows, 0 ≤ x ∧ x < M) (hcm : ∀ x ∈ cols, 0 ≤ x ∧ x < M) :
    detW (ent (tab M (lapE l))) rows cols = Gn.detP (Gn.lapW M (wbF l)) rows cols := by
  rw [(det_eq h.ent_bd rows cols h5 hc).1]
  exact Gn.detP_congr (fun i hi j hj => by rw [tab_ent M _ i j (hr i hi) (hcm j hj), h.lap (hr i hi)])
theorem NetOk.det_bd {M : Nat} {E S : Int} {l : List Wz} (h : NetOk M E S l) {rows cols : List Int} (h5 : rows.length ≤ 5) (hc : cols.length ≤ rows.length) :
    -(bn rows.length) ≤ detW (ent (tab M (lapE l))) rows cols ∧ detW (ent (tab M (lapE l))) rows cols ≤ bn rows.length := (det_eq h.ent_bd rows cols h5 hc).2
/-- every set of nodes without node 0 is bound to the rest -/
theorem NetOk.cut {M : Nat} {E S : Int} {l : List Wz} (h : NetOk M E S l) (P : Int → Prop) (h0 : ¬ P 0) (hi : ∃ i : Int, 0 ≤ i ∧ i < M ∧ P i) : ∃ i j : Int, 0 ≤ i ∧ i < M ∧ 0 ≤ j ∧ j < M ∧ P i ∧ ¬ P j ∧ 0 < wbF l i j := by
  obtain ⟨i, h1, h2, h3⟩ := hi
  have hr : Rch l i := by
    have := h.c i.toNat (by omega)
    rwa [show ((i.toNat : Nat) : Int) = i from by omega] at this
  clear h1 h2
  induction hr with
  | zero => exact absurd h3 h0
  | fwd hx _ ih =>
    rename_i x _
    obtain ⟨g1, g2, g3, g4, g5⟩ := h.good hx
    by_cases hp : P x.1
    · exact ih hp
    · exact ⟨x.2.1, x.1, by omega, by omega, by omega, by omega, h3, hp, by rw [wbF_comm, wbF_mem h.srt h.asc hx]; omega⟩
  | bwd hx _ ih =>
    rename_i x _
    obtain ⟨g1, g2, g3, g4, g5⟩ := h.good hx
    by_cases hp : P x.2.1
    · exact ih hp
    · exact ⟨x.1, x.2.1, by omega, by omega, by omega, by omega, h3, hp, by rw [wbF_mem h.srt h.asc hx]; omega⟩
theorem NetOk.nice {M : Nat} {E S : Int} {l : List Wz} (h : NetOk M E S l) {q : List Int} (hq : q.Nodup) (hs : ∀ x ∈ q, 0 ≤ x ∧ x < M) (h0 : ¬ (0 : Int) ∈ q) : Gn.Nice (Gn.lapW M (wbF l)) q :=
  Gn.nice_of (fun i j => (h.wb i j).1) hq hs (fun P => h.cut P) h0
end Go.Proofs.Ytjchindjoailbaa
