/- How great the sums over trees can be. -/
import Derived.Test.YtdmiihljepkapaaTrees
namespace Go.Proofs.Ytdmiihljepkapaa
set_option linter.unusedSimpArgs false
set_option linter.unusedVariables false
open Go.RowKit

theorem key_ge {N E S : Int} {l : List Wz} (h : NetOk N E S l) : ∀ (k : Nat) (hk : k < l.length), (k : Int) ≤ l[k].1 * 5 + l[k].2.1
  | 0, hk => by have := h.w 0 hk; unfold good at this; omega
  | k + 1, hk => by
    have h1 := key_ge h k (by omega)
    have h2 := h.o k hk
    have h3 := h.w k (by omega)
    have h4 := h.w (k + 1) hk
    have h5 := h.h.n5
    unfold lexlt at h2
    unfold good at h3 h4
    omega
theorem NetOk.few {N E S : Int} {l : List Wz} (h : NetOk N E S l) : l.length ≤ 25 := by
  by_cases h0 : l.length = 0
  · omega
  · have h1 := key_ge h (l.length - 1) (by omega)
    have h4 := h.w (l.length - 1) (by omega)
    have h5 := h.h.n5
    unfold good at h4
    omega
theorem at_bd {N E S : Int} {l : List Wz} (h : NetOk N E S l) (v : Int) : ∀ k : Nat, k ≤ l.length → 0 ≤ atSum (l.take k) v ∧ atSum (l.take k) v ≤ 200 * k
  | 0, _ => by simp [atSum]
  | k + 1, hk => by
    have h1 := at_bd h v k (by omega)
    have h2 := h.w k (by omega)
    have h3 := h.few
    unfold good at h2
    rw [at_take l v k (by omega)]
    unfold atStep
    split
    · unfold wrap64; omega
    · omega
theorem NetOk.at {N E S : Int} {l : List Wz} (h : NetOk N E S l) (v : Int) : 0 ≤ atSum l v ∧ atSum l v ≤ 5000 := by
  have h1 := at_bd h v l.length (Nat.le_refl _)
  have h2 := h.few
  rw [List.take_of_length_le (Nat.le_refl _)] at h1
  omega
theorem lapE_bd {N E S : Int} {l : List Wz} (h : NetOk N E S l) (i j : Int) : -5000 ≤ lapE l i j ∧ lapE l i j ≤ 5000 := by
  have h1 := h.at i
  have h2 := h.wb i j
  unfold lapE
  split <;> omega
theorem ent_bd {M : List (List Int)} {B : Int} (hB : 0 ≤ B) (h : ∀ r ∈ M, ∀ x ∈ r, -B ≤ x ∧ x ≤ B) (i j : Int) : -B ≤ ent M i j ∧ ent M i j ≤ B := by
  unfold ent
  simp only [List.getD_eq_getElem?_getD]
  cases h1 : M[i.toNat]? with
  | none => simp; omega
  | some r =>
    have hr : r ∈ M := List.mem_of_getElem? h1
    simp only [Option.getD_some]
    cases h2 : r[j.toNat]? with
    | none => simp; omega
    | some x => simpa using h r hr x (List.mem_of_getElem? h2)
theorem tab_bd {N : Nat} {f : Int → Int → Int} {B : Int} (h : ∀ i j, -B ≤ f i j ∧ f i j ≤ B) : ∀ r ∈ tab N f, ∀ x ∈ r, -B ≤ x ∧ x ≤ B := by
  intro r hr x hx
  simp only [tab, List.mem_map] at hr
  obtain ⟨i, _, rfl⟩ := hr
  simp only [List.mem_map] at hx
  obtain ⟨j, _, rfl⟩ := hx
  exact h i j
def bnd : Nat → Int
  | 0 => 1
  | n + 1 => (n + 1 : Nat) * (5000 * bnd n)
theorem bnd_pos : ∀ n, 0 ≤ bnd n
  | 0 => by decide
  | n + 1 => by unfold bnd; exact Int.mul_nonneg (by omega) (Int.mul_nonneg (by omega) (bnd_pos n))
theorem mul_bd {x y X Y : Int} (hx : -X ≤ x ∧ x ≤ X) (hy : -Y ≤ y ∧ y ≤ Y) : -(X * Y) ≤ x * y ∧ x * y ≤ X * Y := by
  have h1 : x.natAbs ≤ X.toNat := by omega
  have h2 : y.natAbs ≤ Y.toNat := by omega
  have h3 := Nat.mul_le_mul h1 h2
  rw [← Int.natAbs_mul] at h3
  have h4 : ((X.toNat * Y.toNat : Nat) : Int) = X * Y := by
    rw [Int.natCast_mul, Int.toNat_of_nonneg (by omega), Int.toNat_of_nonneg (by omega)]
  omega
theorem det_bd {e : Int → Int → Int} (he : ∀ i j, -5000 ≤ e i j ∧ e i j ≤ 5000) : ∀ (rows cols : List Int), rows.length ≤ 4 → cols.length ≤ rows.length → -(bnd rows.length) ≤ detW e rows cols ∧ detW e rows cols ≤ bnd rows.length
  | [], cols, _, _ => by simp [detW, bnd]
  | r :: rs, cols, h4, hc => by
    simp only [List.length_cons] at h4 hc
    have hbig : bnd (rs.length + 1) ≤ 20000000000000000 := by
      have : rs.length ≤ 3 := by omega
      match hq : rs.length, this with
      | 0, _ => decide
      | 1, _ => decide
      | 2, _ => decide
      | 3, _ => decide
    have hp := bnd_pos rs.length
    have hbs : bnd (rs.length + 1) = ((rs.length + 1 : Nat) : Int) * (5000 * bnd rs.length) := rfl
    have key : ∀ k : Nat, k ≤ cols.length → -((k : Int) * (5000 * bnd rs.length)) ≤ dsum e (detW e rs) r cols k ∧ dsum e (detW e rs) r cols k ≤ (k : Int) * (5000 * bnd rs.length) := by
      intro k
      induction k with
      | zero => intro _; simp [dsum]
      | succ k ih =>
        intro hk
        have h1 := ih (by omega)
        have hT : ((k + 1 : Nat) : Int) * (5000 * bnd rs.length) ≤ bnd (rs.length + 1) := by
          rw [hbs]
          exact Int.mul_le_mul_of_nonneg_right (by omega) (by omega)
        have hS : ((k + 1 : Nat) : Int) * (5000 * bnd rs.length) = (k : Int) * (5000 * bnd rs.length) + 5000 * bnd rs.length := by
          rw [show ((k + 1 : Nat) : Int) = (k : Int) + 1 from by omega, Int.add_mul, Int.one_mul]
        have h2 := he r (cols.getD k 0)
        have h3 := det_bd he rs (cols.eraseIdx k) (by omega) (by rw [List.length_eraseIdx]; split <;> omega)
        have hkp : 0 ≤ (k : Int) * (5000 * bnd rs.length) := Int.mul_nonneg (by omega) (by omega)
        rw [dsum]
        generalize e r (cols.getD k 0) = x at h2
        generalize detW e rs (cols.eraseIdx k) = y at h3
        generalize dsum e (detW e rs) r cols k = z at h1
        rw [hS]
        split
        · omega
        · have h5 : -5000 ≤ sgn k * x ∧ sgn k * x ≤ 5000 := by rcases sgn_cases k with h | h <;> rw [h] <;> omega
          have h6 : wrap64 (sgn k * x) = sgn k * x := by unfold wrap64; omega
          rw [h6]
          have h7 := mul_bd h5 h3
          generalize sgn k * x * y = t at h7
          have h8 : wrap64 t = t := by unfold wrap64; omega
          rw [h8]
          have h9 : wrap64 (z + t) = z + t := by unfold wrap64; omega
          rw [h9]
          omega
    have h1 := key cols.length (Nat.le_refl _)
    have hT : ((cols.length : Nat) : Int) * (5000 * bnd rs.length) ≤ bnd (rs.length + 1) := by
      rw [hbs]
      exact Int.mul_le_mul_of_nonneg_right (by omega) (by omega)
    simp only [detW, List.length_cons]
    omega
theorem left_bd {M : Nat} {E S : Int} {l : List Wz} (h : NetOk M E S l) (rows cols : List Int) (h4 : (others M rows).length ≤ 4) (hc : (others M cols).length ≤ (others M rows).length) : -(bnd (others M rows).length) ≤ leftW M l rows cols ∧ leftW M l rows cols ≤ bnd (others M rows).length :=
  det_bd (fun i j => ent_bd (by omega) (tab_bd (fun i j => lapE_bd h i j)) i j) _ _ h4 hc
theorem others_zero : ∀ M : Nat, M < 6 → (others M [0]).length ≤ 4 := by decide +kernel
theorem bnd_mono : ∀ n, n < 5 → bnd n ≤ 15000000000000000 := by decide
theorem tree_bd {M : Nat} {E S : Int} {l : List Wz} (h : NetOk M E S l) : -15000000000000000 ≤ leftW M l [0] [0] ∧ leftW M l [0] [0] ≤ 15000000000000000 := by
  have h5 := h.h.n5
  have h0 := others_zero M (by omega)
  have h1 := left_bd h [0] [0] h0 (Nat.le_refl _)
  have h2 := bnd_mono _ (show (others M [0]).length < 5 by omega)
  omega
theorem bnd_mono3 : ∀ n, n < 4 → bnd n ≤ 750000000000 := by decide
theorem forest_bd {M : Nat} {E S : Int} {l : List Wz} (h : NetOk M E S l) {p q r s : Int} (hp : 0 ≤ p ∧ p < M) (hq : 0 ≤ q ∧ q < M) (hr : 0 ≤ r ∧ r < M) (hs : 0 ≤ s ∧ s < M) (hpq : p ≠ q) (hrs : r ≠ s) : -750000000000 ≤ leftW M l [p, q] [r, s] ∧ leftW M l [p, q] [r, s] ≤ 750000000000 := by
  have h5 := h.h.n5
  have e1 := others_two (M := M) (by omega) hp hq hpq
  have e2 := others_two (M := M) (by omega) hr hs hrs
  have h1 := left_bd h [p, q] [r, s] (by omega) (by omega)
  have h2 := bnd_mono3 _ (show (others M [p, q]).length < 4 by omega)
  omega
end Go.Proofs.Ytdmiihljepkapaa
