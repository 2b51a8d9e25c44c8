/- Kirchhoff's current law for the potentials by minors. Plain Lean, no program in sight. -/
import Derived.Test.YtjchindjoailbaaG15
import Derived.Test.YtjchindjoailbaaG22
import Derived.Test.YtjchindjoailbaaG20
import Derived.Test.YtjchindjoailbaaG19
namespace Gn
set_option linter.unusedSimpArgs false
set_option linter.unusedVariables false
/-- what flows from v to the first k nodes -/
def flow (M : Nat) (f : Int → Int → Int) (a b v : Int) (k : Nat) : Int := ((upto k).map fun w => f v w * (potS M (lapW M f) a b v - potS M (lapW M f) a b w)).sum
set_option maxRecDepth 10000 in
set_option maxHeartbeats 16000000 in
theorem kcl2 (f : Int → Int → Int) (h : ∀ i j, f i j = f j i) (a b v : Int) (ha : 0 ≤ a ∧ a < 2) (hb : 0 ≤ b ∧ b < 2) (hv : 0 ≤ v ∧ v < 2) (hab : a ≠ b) : flow 2 f a b v 2 = (if v = a then trS 2 (lapW 2 f) else 0) - (if v = b then trS 2 (lapW 2 f) else 0) := by
  obtain h01 := sym2 h
  (obtain rfl | rfl : a = 0 ∨ a = 1 := by omega) <;> (obtain rfl | rfl : b = 0 ∨ b = 1 := by omega) <;> (obtain rfl | rfl : v = 0 ∨ v = 1 := by omega)
  all_goals try exact absurd rfl hab
  all_goals clear ha hb hv hab
  all_goals
    simp [fo, potS, trS, detP, dsumP, lapW, others, upto, List.range_succ, rowS, idx, sgn, srt2, flow, h01]
    try clear h h01
    try (generalize f 0 1 = a01; grind)
set_option maxRecDepth 10000 in
set_option maxHeartbeats 16000000 in
theorem kcl3 (f : Int → Int → Int) (h : ∀ i j, f i j = f j i) (a b v : Int) (ha : 0 ≤ a ∧ a < 3) (hb : 0 ≤ b ∧ b < 3) (hv : 0 ≤ v ∧ v < 3) (hab : a ≠ b) : flow 3 f a b v 3 = (if v = a then trS 3 (lapW 3 f) else 0) - (if v = b then trS 3 (lapW 3 f) else 0) := by
  obtain ⟨h01,h02,h12⟩ := sym3 h
  (obtain rfl | rfl | rfl : a = 0 ∨ a = 1 ∨ a = 2 := by omega) <;> (obtain rfl | rfl | rfl : b = 0 ∨ b = 1 ∨ b = 2 := by omega) <;> (obtain rfl | rfl | rfl : v = 0 ∨ v = 1 ∨ v = 2 := by omega)
  all_goals try exact absurd rfl hab
  all_goals clear ha hb hv hab
  all_goals
    simp [fo, potS, trS, detP, dsumP, lapW, others, upto, List.range_succ, rowS, idx, sgn, srt2, flow, h01, h02, h12]
    try clear h h01 h02 h12
    try (generalize f 0 1 = a01; generalize f 0 2 = a02; generalize f 1 2 = a12; grind)
set_option maxRecDepth 10000 in
set_option maxHeartbeats 16000000 in
theorem kcl4 (f : Int → Int → Int) (h : ∀ i j, f i j = f j i) (a b v : Int) (ha : 0 ≤ a ∧ a < 4) (hb : 0 ≤ b ∧ b < 4) (hv : 0 ≤ v ∧ v < 4) (hab : a ≠ b) : flow 4 f a b v 4 = (if v = a then trS 4 (lapW 4 f) else 0) - (if v = b then trS 4 (lapW 4 f) else 0) := by
  obtain ⟨h01,h02,h03,h12,h13,h23⟩ := sym4 h
  (obtain rfl | rfl | rfl | rfl : a = 0 ∨ a = 1 ∨ a = 2 ∨ a = 3 := by omega) <;> (obtain rfl | rfl | rfl | rfl : b = 0 ∨ b = 1 ∨ b = 2 ∨ b = 3 := by omega) <;> (obtain rfl | rfl | rfl | rfl : v = 0 ∨ v = 1 ∨ v = 2 ∨ v = 3 := by omega)
  all_goals try exact absurd rfl hab
  all_goals clear ha hb hv hab
  all_goals
    simp [fo, potS, trS, detP, dsumP, lapW, others, upto, List.range_succ, rowS, idx, sgn, srt2, flow, h01, h02, h03, h12, h13, h23]
    try clear h h01 h02 h03 h12 h13 h23
    try (generalize f 0 1 = a01; generalize f 0 2 = a02; generalize f 0 3 = a03; generalize f 1 2 = a12; generalize f 1 3 = a13; generalize f 2 3 = a23; grind)
set_option maxRecDepth 10000 in
set_option maxHeartbeats 16000000 in
theorem kcl5 (f : Int → Int → Int) (h : ∀ i j, f i j = f j i) (a b v : Int) (ha : 0 ≤ a ∧ a < 5) (hb : 0 ≤ b ∧ b < 5) (hv : 0 ≤ v ∧ v < 5) (hab : a ≠ b) : flow 5 f a b v 5 = (if v = a then trS 5 (lapW 5 f) else 0) - (if v = b then trS 5 (lapW 5 f) else 0) := by
  obtain ⟨h01,h02,h03,h04,h12,h13,h14,h23,h24,h34⟩ := sym5 h
  (obtain rfl | rfl | rfl | rfl | rfl : a = 0 ∨ a = 1 ∨ a = 2 ∨ a = 3 ∨ a = 4 := by omega) <;> (obtain rfl | rfl | rfl | rfl | rfl : b = 0 ∨ b = 1 ∨ b = 2 ∨ b = 3 ∨ b = 4 := by omega) <;> (obtain rfl | rfl | rfl | rfl | rfl : v = 0 ∨ v = 1 ∨ v = 2 ∨ v = 3 ∨ v = 4 := by omega)
  all_goals try exact absurd rfl hab
  all_goals clear ha hb hv hab
  all_goals
    simp [fo, potS, trS, detP, dsumP, lapW, others, upto, List.range_succ, rowS, idx, sgn, srt2, flow, h01, h02, h03, h04, h12, h13, h14, h23, h24, h34]
    try clear h h01 h02 h03 h04 h12 h13 h14 h23 h24 h34
    try (generalize f 0 1 = a01; generalize f 0 2 = a02; generalize f 0 3 = a03; generalize f 0 4 = a04; generalize f 1 2 = a12; generalize f 1 3 = a13; generalize f 1 4 = a14; generalize f 2 3 = a23; generalize f 2 4 = a24; generalize f 3 4 = a34; grind)
theorem kcl {M : Nat} (hM : M ≤ 5) (f : Int → Int → Int) (h : ∀ i j, f i j = f j i) (a b v : Int) (ha : 0 ≤ a ∧ a < M) (hb : 0 ≤ b ∧ b < M) (hv : 0 ≤ v ∧ v < M) (hab : a ≠ b) : flow M f a b v M = (if v = a then trS M (lapW M f) else 0) - (if v = b then trS M (lapW M f) else 0) := by
  have : M = 2 ∨ M = 3 ∨ M = 4 ∨ M = 5 := by omega
  rcases this with rfl | rfl | rfl | rfl
  · exact kcl2 f h a b v ha hb hv hab
  · exact kcl3 f h a b v ha hb hv hab
  · exact kcl4 f h a b v ha hb hv hab
  · exact kcl5 f h a b v ha hb hv hab
end Gn

/- The currents and potentials of a network that a code draws, as fractions. Plain Lean. -/
namespace Gn
def bb (B : Int) : Nat → Int
  | 0 => 1
  | n + 1 => ((n + 1 : Nat) : Int) * (B * bb B n)
theorem bb_pos {B : Int} (hB : 0 ≤ B) : ∀ n, 0 ≤ bb B n
  | 0 => by simp [bb]
  | n + 1 => by
    rw [bb]
    exact Int.mul_nonneg (by omega) (Int.mul_nonneg hB (bb_pos hB n))
theorem detP_bd {e : Int → Int → Int} {B : Int} (hB : 0 ≤ B) : ∀ (rows cols : List Int), cols.length ≤ rows.length → (∀ i ∈ rows, ∀ j ∈ cols, -B ≤ e i j ∧ e i j ≤ B) → -(bb B rows.length) ≤ detP e rows cols ∧ detP e rows cols ≤ bb B rows.length
  | [], cols, _, _ => by simp [detP, bb]
  | r :: rs, cols, hc, he => by
    simp only [List.length_cons] at hc
    have hp := bb_pos hB rs.length
    have key : ∀ k : Nat, k ≤ cols.length → -((k : Int) * (B * bb B rs.length)) ≤ dsumP e (detP e rs) r cols k ∧ dsumP e (detP e rs) r cols k ≤ (k : Int) * (B * bb B rs.length) := by
      intro k
      induction k with
      | zero => intro _; simp [dsumP]
      | succ k ih =>
        intro hk
        have h1 := ih (by omega)
        have hS : ((k + 1 : Nat) : Int) * (B * bb B rs.length) = (k : Int) * (B * bb B rs.length) + B * bb B rs.length := by
          rw [show ((k + 1 : Nat) : Int) = (k : Int) + 1 from by omega, Int.add_mul, Int.one_mul]
        have hm : cols.getD k 0 ∈ cols := by
          rw [List.getD_eq_getElem?_getD, List.getElem?_eq_getElem (by omega), Option.getD_some]
          exact List.getElem_mem _
        have h2 := he r (by simp) _ hm
        have h3 := detP_bd hB rs (cols.eraseIdx k) (by rw [List.length_eraseIdx]; split <;> omega) (fun i hi j hj => he i (by simp [hi]) j (List.mem_of_mem_eraseIdx hj))
        rw [dsumP]
        generalize e r (cols.getD k 0) = x at h2 ⊢
        generalize detP e rs (cols.eraseIdx k) = y at h3 ⊢
        generalize dsumP e (detP e rs) r cols k = z at h1 ⊢
        rw [hS]
        clear ih
        have h5 : -B ≤ sgn k * x ∧ sgn k * x ≤ B := by
          have : sgn k = 1 ∨ sgn k = -1 := by unfold sgn; split <;> simp
          rcases this with h | h <;> rw [h] <;> omega
        have h7 := mul_bd' h5 h3
        omega
    have h1 := key cols.length (Nat.le_refl _)
    have hT : ((cols.length : Nat) : Int) * (B * bb B rs.length) ≤ bb B (rs.length + 1) := by
      rw [bb]
      exact Int.mul_le_mul_of_nonneg_right (by omega) (Int.mul_nonneg hB hp)
    simp only [detP, List.length_cons]
    omega
set_option maxRecDepth 10000 in
theorem row_bd6 {M : Nat} (hM : M ≤ 5) {f : Int → Int → Int} (hf : ∀ i j, 0 ≤ f i j ∧ f i j ≤ 6) {i : Int} (hi : 0 ≤ i ∧ i < M) : 0 ≤ rowS M f i ∧ rowS M f i ≤ 24 := by
  have h0 := hf i ((0 : Nat) : Int)
  have h1 := hf i ((1 : Nat) : Int)
  have h2 := hf i ((2 : Nat) : Int)
  have h3 := hf i ((3 : Nat) : Int)
  have h4 := hf i ((4 : Nat) : Int)
  have : M = 1 ∨ M = 2 ∨ M = 3 ∨ M = 4 ∨ M = 5 := by omega
  rcases this with rfl | rfl | rfl | rfl | rfl <;> simp only [rowS, upto, List.range_succ, List.range_zero, List.nil_append, List.cons_append, List.map_cons, List.map_nil, List.sum_cons, List.sum_nil] <;> (repeat' split) <;> omega
end Gn
namespace Go.Proofs.Ytjchindjoailbaa
set_option linter.unusedSimpArgs false
set_option linter.unusedVariables false
open Go.RowKit
theorem wbF_bd6 {l : List Wz} (h : ∀ x ∈ l, 1 ≤ x.2.2 ∧ x.2.2 ≤ 6) (a b : Int) : 0 ≤ wbF l a b ∧ wbF l a b ≤ 6 := by
  induction l with
  | nil => simp [wbF]
  | cons x t ih =>
    rw [wbF]
    split
    · have := h x (by simp); omega
    · exact ih (fun y hy => h y (by simp [hy]))
theorem Drawn.wb {most M E S : Int} {l : List Wz} (h : Drawn most M E S l) (a b : Int) : 0 ≤ wbF l a b ∧ wbF l a b ≤ 6 :=
  wbF_bd6 (fun x hx => ⟨(h.ok.good hx).2.2.2.1, h.w6 x hx⟩) a b
theorem Drawn.lap_bd {most : Int} {M : Nat} {E S : Int} {l : List Wz} (h : Drawn most M E S l) {i : Int} (hi : 0 ≤ i ∧ i < M) (j : Int) : -24 ≤ Gn.lapW M (wbF l) i j ∧ Gn.lapW M (wbF l) i j ≤ 24 := by
  have h1 := Gn.row_bd6 (M := M) (by have := h.ok.h.n5; omega) h.wb hi
  have h2 := h.wb i j
  unfold Gn.lapW
  split <;> omega
theorem others_nodup (M : Nat) (q : List Int) : (others M q).Nodup := List.Pairwise.filter _ (upto_nodup M)
theorem others_not {M : Nat} {q : List Int} {v : Int} (h : v ∈ others M q) : ¬ v ∈ q := by
  unfold others at h
  rw [List.mem_filter] at h
  have := h.2
  simp only [Bool.not_eq_true'] at this
  intro hv
  rw [List.contains_iff_mem.2 hv] at this
  cases this
/-- a network's sum over trees is positive -/
theorem NetOk.tree_pos {M : Nat} {E S : Int} {l : List Wz} (h : NetOk M E S l) : 0 < leftW M l [0] [0] := by
  rw [h.left (Nat.le_refl _)]
  have h0 := others_zero M (by have := h.h.n5; omega)
  exact Gn.det_pos _ _ h0 (h.nice (others_nodup M [0]) (fun x hx => others_mem hx) (fun hx => others_not hx (by simp)))
theorem bb_3 : Gn.bb 24 3 = 82944 ∧ Gn.bb 24 4 = 7962624 ∧ Gn.bb 24 0 = 1 ∧ Gn.bb 24 1 = 24 ∧ Gn.bb 24 2 = 1152 := by decide
theorem Drawn.left_bd {most : Int} {M : Nat} {E S : Int} {l : List Wz} (h : Drawn most M E S l) (rows cols : List Int) (hc : (others M cols).length ≤ (others M rows).length) : -(Gn.bb 24 (others M rows).length) ≤ leftW M l rows cols ∧ leftW M l rows cols ≤ Gn.bb 24 (others M rows).length := by
  rw [h.ok.left hc]
  exact Gn.detP_bd (by omega) _ _ hc (fun i hi j _ => h.lap_bd (others_mem hi) j)
theorem Drawn.tree {most : Int} {M : Nat} {E S : Int} {l : List Wz} (h : Drawn most M E S l) : 0 < leftW M l [0] [0] ∧ leftW M l [0] [0] ≤ 7962624 := by
  refine ⟨h.ok.tree_pos, ?_⟩
  have h0 := others_zero M (by have := h.ok.h.n5; omega)
  have h1 := (h.left_bd [0] [0] (Nat.le_refl _)).2
  obtain ⟨b3, b4, b0, b1, b2⟩ := bb_3
  have : (others M [0]).length = 0 ∨ (others M [0]).length = 1 ∨ (others M [0]).length = 2 ∨ (others M [0]).length = 3 ∨ (others M [0]).length = 4 := by omega
  rcases this with e | e | e | e | e <;> rw [e] at h1 <;> omega
theorem Drawn.pot {most : Int} {M : Nat} {E S : Int} {l : List Wz} (h : Drawn most M E S l) {p q x : Int} (hp : 0 ≤ p ∧ p < M) (hq : 0 ≤ q ∧ q < M) (hx : 0 ≤ x ∧ x < M) (hpq : ¬ p = q) : -82944 ≤ potV M l p q x ∧ potV M l p q x ≤ 82944 := by
  have h5 : M ≤ 5 := by have := h.ok.h.n5; omega
  unfold potV
  by_cases e : x = q
  · rw [if_pos e]; omega
  · have e1 := srt2_two h5 hp hq hpq
    have e2 := srt2_two h5 hx hq e
    have h1 := h.left_bd (Gn.srt2 p q) (Gn.srt2 x q) (by omega)
    rw [if_neg e]
    obtain ⟨b3, b4, b0, b1, b2⟩ := bb_3
    have : (others M (Gn.srt2 p q)).length = 0 ∨ (others M (Gn.srt2 p q)).length = 1 ∨ (others M (Gn.srt2 p q)).length = 2 ∨ (others M (Gn.srt2 p q)).length = 3 := by omega
    rcases this with e3 | e3 | e3 | e3 <;> rw [e3] at h1 <;> split <;> omega
/-- what flows from v to the first k nodes -/
def flowV (M : Nat) (l : List Wz) (p q v : Int) (k : Nat) : Int := ((upto k).map fun w => wbF l v w * (potV M l p q v - potV M l p q w)).sum
theorem flowV_succ (M : Nat) (l : List Wz) (p q v : Int) (k : Nat) : flowV M l p q v (k + 1) = flowV M l p q v k + wbF l v k * (potV M l p q v - potV M l p q k) := by
  unfold flowV; rw [upto_succ, List.map_append, List.sum_append]; simp
theorem NetOk.flow {M : Nat} {E S : Int} {l : List Wz} (h : NetOk M E S l) {p q v : Int} (hp : 0 ≤ p ∧ p < M) (hq : 0 ≤ q ∧ q < M) (hv : 0 ≤ v ∧ v < M) (hpq : ¬ p = q) : flowV M l p q v M = (if v = p then leftW M l [0] [0] else 0) - (if v = q then leftW M l [0] [0] else 0) := by
  have hk := Gn.kcl (by have := h.h.n5; omega) (wbF l) (wbF_comm l) p q v hp hq hv hpq
  rw [h.left (Nat.le_refl _)]
  show _ = (if v = p then Gn.trS M (Gn.lapW M (wbF l)) else 0) - (if v = q then Gn.trS M (Gn.lapW M (wbF l)) else 0)
  rw [← hk]
  unfold flowV Gn.flow
  congr 1
  apply List.map_congr_left
  intro w hw
  have hw2 := (upto_mem M w).1 hw
  rw [h.potV hp hq hv hpq, h.potV hp hq hw2 hpq]
theorem Drawn.flow_bd {most : Int} {M : Nat} {E S : Int} {l : List Wz} (h : Drawn most M E S l) {p q v : Int} (hp : 0 ≤ p ∧ p < M) (hq : 0 ≤ q ∧ q < M) (hv : 0 ≤ v ∧ v < M) (hpq : ¬ p = q) : ∀ k : Nat, k ≤ M → -(1000000 * (k : Int)) ≤ flowV M l p q v k ∧ flowV M l p q v k ≤ 1000000 * k
  | 0, _ => by simp [flowV, upto]
  | k + 1, hk => by
    have h1 := h.flow_bd hp hq hv hpq k (by omega)
    have h2 := h.pot hp hq hv hpq
    have h3 := h.pot hp hq (x := k) ⟨by omega, by omega⟩ hpq
    have h4 := h.wb v k
    have h5 := Gn.mul_bd' (x := wbF l v k) (y := potV M l p q v - potV M l p q k) (X := 6) (Y := 165888) ⟨by omega, by omega⟩ ⟨by omega, by omega⟩
    rw [flowV_succ]
    omega
/-- all that the law on currents asks -/
structure Kirch (M : Nat) (S : Int) (l : List Wz) (p q : Int) : Prop where
  cur : ∀ v w : Int, (0 ≤ v ∧ v < M) → (0 ≤ w ∧ w < M) → timesR (diffR (Gn.rat (S * potV M l p q v) (leftW M l [0] [0])) (Gn.rat (S * potV M l p q w) (leftW M l [0] [0]))) (Gn.rat (wbF l v w) S) = curR M l p q v w
  z : Gn.rat 0 (leftW M l [0] [0]) = (0, 1)
  sum : ∀ (v : Int) (k : Nat), (0 ≤ v ∧ v < M) → k < M → addR (Gn.rat (flowV M l p q v k) (leftW M l [0] [0])) (curR M l p q v k) = Gn.rat (flowV M l p q v (k + 1)) (leftW M l [0] [0])
  fin : ∀ v : Int, (0 ≤ v ∧ v < M) → Gn.rat (flowV M l p q v M) (leftW M l [0] [0]) = ((if v = q then -1 else if v = p then 1 else 0), 1)
  res : Gn.rat (S * forestV M l p q) (leftW M l [0] [0]) = Gn.rat (S * potV M l p q p) (leftW M l [0] [0])
  b0 : Gn.rat (S * potV M l p q q) (leftW M l [0] [0]) = (0, 1)
theorem kirch {most : Int} {M : Nat} {E S : Int} {l : List Wz} (h : Drawn most M E S l) {p q : Int} (hp : 0 ≤ p ∧ p < M) (hq : 0 ≤ q ∧ q < M) (hpq : ¬ p = q) : Kirch M S l p q := by
  obtain ⟨t1, t2⟩ := h.tree
  have s1 := h.ok.h.s1
  have s3 := h.s3
  have hF : ∀ v : Int, (0 ≤ v ∧ v < M) → Gn.Fr 248832 7962624 (S * potV M l p q v) (leftW M l [0] [0]) := fun v hv => by
    have h2 := h.pot hp hq hv hpq
    have h5 := Gn.mul_bd' (x := S) (y := potV M l p q v) (X := 3) (Y := 82944) ⟨by omega, by omega⟩ h2
    exact ⟨by omega, by omega, t1, t2, by decide, by decide⟩
  have hC : ∀ v w : Int, (0 ≤ v ∧ v < M) → (0 ≤ w ∧ w < M) → Gn.Fr 1000000 7962624 (wbF l v w * (potV M l p q v - potV M l p q w)) (leftW M l [0] [0]) := fun v w hv hw => by
    have h2 := h.pot hp hq hv hpq
    have h3 := h.pot hp hq hw hpq
    have h4 := h.wb v w
    have h5 := Gn.mul_bd' (x := wbF l v w) (y := potV M l p q v - potV M l p q w) (X := 6) (Y := 165888) ⟨by omega, by omega⟩ ⟨by omega, by omega⟩
    exact ⟨by omega, by omega, t1, t2, by decide, by decide⟩
  refine ⟨fun v w hv hw => ?_, Gn.rat_zero t1, fun v k hv hk => ?_, fun v hv => ?_, ?_, ?_⟩
  · have h2 := h.pot hp hq hv hpq
    have h3 := h.pot hp hq hw hpq
    have h4 := h.wb v w
    have hd : Gn.Fr 497664 7962624 (S * (potV M l p q v - potV M l p q w)) (leftW M l [0] [0]) := by
      have h5 := Gn.mul_bd' (x := S) (y := potV M l p q v - potV M l p q w) (X := 3) (Y := 165888) ⟨by omega, by omega⟩ ⟨by omega, by omega⟩
      exact ⟨by omega, by omega, t1, t2, by decide, by decide⟩
    have hw2 : Gn.Fr 6 3 (wbF l v w) S := ⟨by omega, by omega, by omega, by omega, by decide, by decide⟩
    have e1 : Gn.rat (S * potV M l p q v * leftW M l [0] [0] - S * potV M l p q w * leftW M l [0] [0]) (leftW M l [0] [0] * leftW M l [0] [0]) = Gn.rat (S * (potV M l p q v - potV M l p q w)) (leftW M l [0] [0]) :=
      Gn.rat_eq (Int.mul_pos t1 t1) t1 (by grind)
    rw [diff_rat (hF v hv) (hF w hw) ⟨by decide, by decide, by decide, by decide⟩, e1, times_rat hd hw2 ⟨by decide, by decide, by decide, by decide⟩]
    exact Gn.rat_eq (Int.mul_pos t1 (by omega)) t1 (by grind)
  · have hk2 := h.flow_bd hp hq hv hpq k (by omega)
    have hM5 := h.ok.h.n5
    have hfl : Gn.Fr 5000000 7962624 (flowV M l p q v k) (leftW M l [0] [0]) := ⟨by omega, by omega, t1, t2, by decide, by decide⟩
    unfold curR
    rw [add_rat hfl (hC v k hv ⟨by omega, by omega⟩) ⟨by decide, by decide, by decide, by decide⟩, flowV_succ]
    exact Gn.rat_eq (Int.mul_pos t1 t1) t1 (by grind)
  · rw [h.ok.flow hp hq hv hpq]
    by_cases e1 : v = q
    · have e2 : ¬ v = p := fun e => hpq (e.symm.trans e1)
      rw [if_neg e2, if_pos e1, if_pos e1]
      have : Gn.rat (0 - leftW M l [0] [0]) (leftW M l [0] [0]) = Gn.rat (-1) 1 := Gn.rat_eq t1 (by omega) (by omega)
      rw [this]; decide
    · rw [if_neg e1, if_neg e1, Int.sub_zero]
      by_cases e2 : v = p
      · rw [if_pos e2, if_pos e2, Gn.rat_self t1]
      · rw [if_neg e2, if_neg e2, Gn.rat_zero t1]
  · have e1 := h.ok.pot hp hq hp hpq
    have e2 : forestV M l p p = 0 := by unfold forestV; rw [if_pos rfl]
    unfold potI at e1
    rw [show forestV M l p q = potV M l p q p by omega]
  · have : potV M l p q q = 0 := by unfold potV; rw [if_pos rfl]
    rw [this, Int.mul_zero, Gn.rat_zero t1]
end Go.Proofs.Ytjchindjoailbaa
