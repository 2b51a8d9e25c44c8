/- The response's minors: symmetric, not positive off the diagonal, rows' sums 0; currents and power. Plain Lean. -/
import Derived.Test.YtjchindjoailbaaG24
import Derived.Test.YtjchindjoailbaaG23
import Derived.Test.YtjchindjoailbaaG07
import Derived.Test.YtjchindjoailbaaG15
import Derived.Test.YtjchindjoailbaaG26
import Derived.Test.YtjchindjoailbaaG22
import Derived.Test.YtjchindjoailbaaG13
import Derived.Test.YtjchindjoailbaaG12
import Derived.Test.YtjchindjoailbaaG14
import Derived.Test.YtjchindjoailbaaG01
import Derived.Test.YtjchindjoailbaaG16
import Derived.Test.YtjchindjoailbaaG20
import Derived.WalkKit
import Derived.ProofKit
import Derived.OpenShut
import Derived.ShutString
import Derived.ChangeOld
import Derived.Below
import Derived.Lib.SmallJoins
namespace Gn
def sumK (g : Nat → Int) : Nat → Int
  | 0 => 0
  | k + 1 => sumK g k + g k
theorem sumK_add (g h : Nat → Int) : ∀ n, sumK (fun k => g k + h k) n = sumK g n + sumK h n
  | 0 => rfl
  | n + 1 => by simp only [sumK, sumK_add g h n]; omega
theorem sumK_mul (c : Int) (g : Nat → Int) : ∀ n, sumK (fun k => c * g k) n = c * sumK g n
  | 0 => by simp [sumK]
  | n + 1 => by simp only [sumK, sumK_mul c g n, Int.mul_add]
theorem sumK_zero : ∀ n, sumK (fun _ => 0) n = 0
  | 0 => rfl
  | n + 1 => by simp only [sumK, sumK_zero n]; rfl
theorem sumK_congr {g h : Nat → Int} : ∀ {n : Nat}, (∀ k, k < n → g k = h k) → sumK g n = sumK h n
  | 0, _ => rfl
  | n + 1, e => by simp only [sumK]; rw [sumK_congr (n := n) (fun k hk => e k (by omega)), e n (by omega)]
theorem sumK_comm (g : Nat → Nat → Int) (m : Nat) : ∀ n, sumK (fun i => sumK (fun j => g i j) m) n = sumK (fun j => sumK (fun i => g i j) n) m
  | 0 => by simp only [sumK]; exact (sumK_zero m).symm
  | n + 1 => by
    simp only [sumK]
    rw [sumK_comm g m n, sumK_add]
theorem sumK_np {g : Nat → Int} : ∀ {n : Nat}, (∀ k, k < n → g k ≤ 0) → sumK g n ≤ 0
  | 0, _ => Int.le_refl _
  | n + 1, e => by
    have := sumK_np (n := n) (fun k hk => e k (by omega))
    have := e n (by omega)
    simp only [sumK]; omega
theorem sumK_bd {g : Nat → Int} {B : Int} : ∀ {n : Nat}, (∀ k, k < n → -B ≤ g k ∧ g k ≤ B) → -(n * B) ≤ sumK g n ∧ sumK g n ≤ n * B
  | 0, _ => by simp [sumK]
  | n + 1, e => by
    have := sumK_bd (n := n) (fun k hk => e k (by omega))
    have := e n (by omega)
    have : ((n + 1 : Nat) : Int) * B = n * B + B := by rw [show ((n + 1 : Nat) : Int) = (n : Int) + 1 from by omega, Int.add_mul, Int.one_mul]
    simp only [sumK]; omega
theorem sum_upto (g : Int → Int) : ∀ n, ((upto n).map g).sum = sumK (fun k => g k) n
  | 0 => rfl
  | n + 1 => by
    have : upto (n + 1) = upto n ++ [(n : Int)] := by simp [upto, List.range_succ]
    rw [this, List.map_append, List.sum_append, sum_upto g n]; simp [sumK]
/-- a form with rows' sums 0 and nothing positive off the diagonal is not negative -/
theorem form_nn (T : Nat → Nat → Int) (v : Nat → Int) (n : Nat) (hs : ∀ i j, i < n → j < n → T i j = T j i) (hn : ∀ i j, i < n → j < n → ¬ i = j → T i j ≤ 0) (hz : ∀ i, i < n → sumK (T i) n = 0) :
    0 ≤ sumK (fun i => sumK (fun j => T i j * v i * v j) n) n := by
  have h1 : sumK (fun i => sumK (fun j => T i j * (v i * v i)) n) n = 0 := by
    rw [sumK_congr (h := fun _ => 0) (fun i hi => ?_), sumK_zero]
    rw [sumK_congr (h := fun j => (v i * v i) * T i j) (fun j _ => Int.mul_comm _ _), sumK_mul]
    have : sumK (fun k => T i k) n = 0 := hz i hi
    rw [this, Int.mul_zero]
  have h2 : sumK (fun i => sumK (fun j => T i j * (v j * v j)) n) n = 0 := by
    rw [sumK_comm, ← h1]
    exact sumK_congr fun i hi => sumK_congr fun j hj => by rw [hs j i hj hi]
  have h3 : sumK (fun i => sumK (fun j => T i j * ((v i - v j) * (v i - v j))) n) n ≤ 0 := by
    refine sumK_np fun i hi => sumK_np fun j hj => ?_
    by_cases e : i = j
    · subst e; simp
    · have h4 := hn i j hi hj e
      have h5 : 0 ≤ (v i - v j) * (v i - v j) := by
        by_cases h : 0 ≤ v i - v j
        · exact Int.mul_nonneg h h
        · exact mul_nn (by omega) (by omega)
      have := Int.mul_nonneg (show 0 ≤ -T i j by omega) h5
      rw [Int.neg_mul] at this; omega
  have h4 : sumK (fun i => sumK (fun j => T i j * ((v i - v j) * (v i - v j))) n) n = sumK (fun i => sumK (fun j => T i j * (v i * v i)) n) n + sumK (fun i => sumK (fun j => T i j * (v j * v j)) n) n + -2 * sumK (fun i => sumK (fun j => T i j * v i * v j) n) n := by
    rw [← sumK_mul, ← sumK_add, ← sumK_add]
    refine sumK_congr fun i _ => ?_
    rw [← sumK_mul, ← sumK_add, ← sumK_add]
    exact sumK_congr fun j _ => by grind
  omega
end Gn
namespace Go.Proofs.Ytjchindjoailbaa
set_option linter.unusedSimpArgs false
set_option linter.unusedVariables false
open Go.RowKit
theorem upto_split (F : Nat) : ∀ k, upto (F + k) = upto F ++ innerK F k
  | 0 => by simp [innerK, upto]
  | k + 1 => by rw [← Nat.add_assoc, upto_succ, upto_split F k, innerK_succ, List.append_assoc]; simp
section
variable {M F : Nat} {S : Int} {l : List Wz}
theorem NetOk.top (h : NetOk M F S l) (hF0 : 1 ≤ F) (hF : F ≤ M) {i j : Int} (hi : 0 ≤ i ∧ i < F) (hj : 0 ≤ j ∧ j < F) : topW M F l i j = Gn.detP (Gn.lapW M (wbF l)) (i :: innerK F (M - F)) (j :: innerK F (M - F)) := by
  have hM5 : M ≤ 5 := by have := h.h.n5; omega
  have hl := innerK_len F (M - F)
  have hin := innerK_in hF
  unfold topW
  refine h.det (by simp; omega) (by simp) (fun x hx => ?_) (fun x hx => ?_)
  · rcases List.mem_cons.1 hx with rfl | hx
    · omega
    · exact hin x hx
  · rcases List.mem_cons.1 hx with rfl | hx
    · omega
    · exact hin x hx
theorem NetOk.down (h : NetOk M F S l) (hF : F ≤ M) : downW M F l = Gn.detP (Gn.lapW M (wbF l)) (innerK F (M - F)) (innerK F (M - F)) := by
  have hM5 : M ≤ 5 := by have := h.h.n5; omega
  have hl := innerK_len F (M - F)
  unfold downW
  exact h.det (by omega) (Nat.le_refl _) (innerK_in hF) (innerK_in hF)
theorem NetOk.inNice (h : NetOk M F S l) (hF0 : 1 ≤ F) (hF : F ≤ M) : Gn.Nice (Gn.lapW M (wbF l)) (innerK F (M - F)) :=
  h.nice (innerK_nodup _ _) (innerK_in hF) (fun hx => by have := innerK_mem hx; omega)
theorem lap_np (h : NetOk M F S l) {i j : Int} (e : ¬ i = j) : Gn.lapW M (wbF l) i j ≤ 0 := by
  have := h.wb i j
  unfold Gn.lapW; rw [if_neg e]; omega
theorem lap_sym (M : Nat) (l : List Wz) (i j : Int) : Gn.lapW M (wbF l) i j = Gn.lapW M (wbF l) j i := by
  unfold Gn.lapW
  by_cases e : i = j
  · subst e; rfl
  · rw [if_neg e, if_neg (Ne.symm e), wbF_comm]
theorem NetOk.topSym (h : NetOk M F S l) (hF0 : 1 ≤ F) (hF : F ≤ M) {i j : Int} (hi : 0 ≤ i ∧ i < F) (hj : 0 ≤ j ∧ j < F) : topW M F l i j = topW M F l j i := by
  have hM5 : M ≤ 5 := by have := h.h.n5; omega
  have hl := innerK_len F (M - F)
  rw [h.top hF0 hF hi hj, h.top hF0 hF hj hi]
  exact Gn.top_sym _ _ _ _ (by omega) (h.inNice hF0 hF) (lap_sym M l)
theorem NetOk.topNeg (h : NetOk M F S l) (hF0 : 1 ≤ F) (hF : F ≤ M) {i j : Int} (hi : 0 ≤ i ∧ i < F) (hj : 0 ≤ j ∧ j < F) (hij : ¬ i = j) : topW M F l i j ≤ 0 := by
  have hM5 : M ≤ 5 := by have := h.h.n5; omega
  have hl := innerK_len F (M - F)
  rw [h.top hF0 hF hi hj]
  exact Gn.top_neg _ _ _ _ (by omega) (h.inNice hF0 hF) (fun k hk => lap_np h (by have := innerK_mem hk; omega)) (fun k hk => lap_np h (by have := innerK_mem hk; omega)) (lap_np h hij)
theorem NetOk.topSum (h : NetOk M F S l) (hF0 : 1 ≤ F) (hF : F ≤ M) {i : Int} (hi : 0 ≤ i ∧ i < F) : Gn.sumK (fun j => topW M F l i j) F = 0 := by
  have hM5 : M ≤ 5 := by have := h.h.n5; omega
  have hl := innerK_len F (M - F)
  have key := Gn.top_sum (innerK F (M - F)) (Gn.lapW M (wbF l)) i (upto F) (by omega) (h.inNice hF0 hF) (fun k hk => by
    have hk2 : 0 ≤ k ∧ k < M := by
      rcases List.mem_cons.1 hk with rfl | hk
      · omega
      · exact innerK_in hF k hk
    have h1 := Gn.whole_sum (M := M) (f := wbF l) hk2
    have h2 := upto_split F (M - F)
    rw [show F + (M - F) = M by omega] at h2
    have h3 : Gn.upto M = upto F ++ innerK F (M - F) := h2
    rw [h3, List.map_append, List.sum_append] at h1
    exact h1)
  have h4 := Gn.sum_upto (fun y => Gn.detP (Gn.lapW M (wbF l)) (i :: innerK F (M - F)) (y :: innerK F (M - F))) F
  rw [← show upto F = Gn.upto F from rfl, key] at h4
  rw [h4]
  exact Gn.sumK_congr fun k hk => h.top hF0 hF hi ⟨by omega, by omega⟩
theorem Drawn.top_bd {most : Int} (h : Drawn most M F S l) (hF : F ≤ M) {i j : Int} (hi : 0 ≤ i ∧ i < F) (hj : 0 ≤ j ∧ j < F) : -7962624 ≤ topW M F l i j ∧ topW M F l i j ≤ 7962624 := by
  have hM5 : M ≤ 5 := by have := h.ok.h.n5; omega
  have hF2 : 2 ≤ F := by have := h.e2; omega
  have hl := innerK_len F (M - F)
  rw [h.ok.top (by omega) hF hi hj]
  have h1 := Gn.detP_bd (e := Gn.lapW M (wbF l)) (B := 24) (by omega) (i :: innerK F (M - F)) (j :: innerK F (M - F)) (by simp) (fun x hx y _ => h.lap_bd (by
    rcases List.mem_cons.1 hx with rfl | hx
    · omega
    · exact innerK_in hF x hx) y)
  obtain ⟨b3, b4, b0, b1, b2⟩ := bb_3
  rw [List.length_cons, hl] at h1
  generalize Gn.detP (Gn.lapW M (wbF l)) (i :: innerK F (M - F)) (j :: innerK F (M - F)) = d at h1 ⊢
  have : M - F = 0 ∨ M - F = 1 ∨ M - F = 2 ∨ M - F = 3 := by omega
  rcases this with e | e | e | e <;> rw [e] at h1 <;> simp only [Nat.reduceAdd] at h1 <;> omega
theorem Drawn.down_bd {most : Int} (h : Drawn most M F S l) (hF : F ≤ M) : 0 < S * downW M F l ∧ S * downW M F l ≤ 248832 := by
  have hM5 : M ≤ 5 := by have := h.ok.h.n5; omega
  have hF2 : 2 ≤ F := by have := h.e2; omega
  have hl := innerK_len F (M - F)
  have h0 := (h.ok.down_pos (by omega) hF).1
  refine ⟨(h.ok.sdown (by omega) hF).1, ?_⟩
  rw [h.ok.down hF] at h0 ⊢
  have h1 := (Gn.detP_bd (e := Gn.lapW M (wbF l)) (B := 24) (by omega) (innerK F (M - F)) (innerK F (M - F)) (by simp) (fun x hx y _ => h.lap_bd (innerK_in hF x hx) y)).2
  obtain ⟨b3, b4, b0, b1, b2⟩ := bb_3
  rw [hl] at h1
  have s3 := h.s3
  have s1 := h.ok.h.s1
  generalize Gn.detP (Gn.lapW M (wbF l)) (innerK F (M - F)) (innerK F (M - F)) = d at h0 h1 ⊢
  have h2 : d ≤ 82944 := by
    have : M - F = 0 ∨ M - F = 1 ∨ M - F = 2 ∨ M - F = 3 := by omega
    rcases this with e | e | e | e <;> rw [e] at h1 <;> omega
  have h3 := Gn.mul_bd' (x := S) (y := d) (X := 3) (Y := 82944) ⟨by omega, by omega⟩ ⟨by omega, by omega⟩
  omega
end
/-- the current at terminal i, of the first k potentials -/
def curK (T : Nat → Nat → Int) (v : List Int) (i k : Nat) : Int := Gn.sumK (fun j => T i j * v.getD j 0) k
/-- the power, rows before i, and k entries of row i -/
def powK (T : Nat → Nat → Int) (v : List Int) (F i k : Nat) : Int := Gn.sumK (fun p => Gn.sumK (fun j => T p j * v.getD p 0 * v.getD j 0) F) i + Gn.sumK (fun j => T i j * v.getD i 0 * v.getD j 0) k
/-- what the law on responses asks -/
structure RespLaw (M F : Nat) (S : Int) (l : List Wz) (v : List Int) (T : Nat → Nat → Int) (D : Int) : Prop where
  tb : ∀ i j, i < F → j < F → -7962624 ≤ T i j ∧ T i j ≤ 7962624
  dp : 0 < D ∧ D ≤ 248832
  cb : ∀ i k, i < F → k ≤ F → -300000000 ≤ curK T v i k ∧ curK T v i k ≤ 300000000
  pb : ∀ i k, i < F → k ≤ F → -10000000000 ≤ powK T v F i k ∧ powK T v F i k ≤ 10000000000
  rowr : ∀ i k, i < F → k < F → addR (Gn.rat (curK T v i k) D) (timesR (Gn.rat (T i k) D) (Gn.rat (v.getD k 0) 1)) = Gn.rat (curK T v i (k + 1)) D
  all : ∀ k, k < F → addR (Gn.rat (Gn.sumK (fun i => curK T v i F) k) D) (Gn.rat (curK T v k F) D) = Gn.rat (Gn.sumK (fun i => curK T v i F) (k + 1)) D
  fin : Gn.rat (Gn.sumK (fun i => curK T v i F) F) D = (0, 1)
  z : Gn.rat 0 D = (0, 1)
  nn : 0 ≤ (Gn.rat (powK T v F F 0) D).1
theorem ratN_nn {n d : Int} (hn : 0 ≤ n) (hd : 0 < d) (hf : Gn.fit n d = true) : 0 ≤ (Gn.rat n d).1 := by
  unfold Gn.rat; rw [if_pos hf]
  have h1 := Gn.rat_cross n d
  have h2 := Gn.ratD_pos n d (by omega)
  have h3 : 0 ≤ n * Gn.ratD n d := Int.mul_nonneg hn (by omega)
  simp only
  by_cases h : Gn.ratN n d < 0
  · have := Int.mul_pos (show 0 < -Gn.ratN n d by omega) hd
    rw [Int.neg_mul] at this; omega
  · omega
theorem respLaw {most : Int} {M F : Nat} {S : Int} {l : List Wz} (h : Drawn most M F S l) (hF : F ≤ M) {v : List Int} (hv : v.length = F) (hb : ∀ x ∈ v, -5 ≤ x ∧ x ≤ 5) :
    RespLaw M F S l v (fun i j => topW M F l i j) (S * downW M F l) := by
  have hM5 : M ≤ 5 := by have := h.ok.h.n5; omega
  have hF2 : 2 ≤ F := by have := h.e2; omega
  have hF1 : 1 ≤ F := by omega
  have hT : ∀ i j : Nat, i < F → j < F → -7962624 ≤ topW M F l i j ∧ topW M F l i j ≤ 7962624 := fun i j hi hj => h.top_bd hF ⟨by omega, by omega⟩ ⟨by omega, by omega⟩
  have hvb : ∀ j, -5 ≤ v.getD j 0 ∧ v.getD j 0 ≤ 5 := fun j => by
    rw [List.getD_eq_getElem?_getD]
    by_cases hj : j < v.length
    · rw [List.getElem?_eq_getElem hj, Option.getD_some]; exact hb _ (List.getElem_mem _)
    · rw [List.getElem?_eq_none (by omega)]; simp
  obtain ⟨d1, d2⟩ := h.down_bd hF
  have hc1 : ∀ i j : Nat, i < F → j < F → -39813120 ≤ topW M F l i j * v.getD j 0 ∧ topW M F l i j * v.getD j 0 ≤ 39813120 := fun i j hi hj => Gn.mul_bd' (X := 7962624) (Y := 5) (hT i j hi hj) (hvb j)
  have hc : ∀ i k : Nat, i < F → k ≤ F → -(k * 39813120) ≤ curK (fun i j => topW M F l i j) v i k ∧ curK (fun i j => topW M F l i j) v i k ≤ k * 39813120 := fun i k hi hk => Gn.sumK_bd (fun j hj => hc1 i j hi (by omega))
  have hp1 : ∀ i j : Nat, i < F → j < F → -199065600 ≤ topW M F l i j * v.getD i 0 * v.getD j 0 ∧ topW M F l i j * v.getD i 0 * v.getD j 0 ≤ 199065600 := fun i j hi hj => Gn.mul_bd' (X := 39813120) (Y := 5) (Gn.mul_bd' (X := 7962624) (Y := 5) (hT i j hi hj) (hvb i)) (hvb j)
  have hp2 : ∀ i k : Nat, i < F → k ≤ F → -(k * 199065600) ≤ Gn.sumK (fun j => topW M F l i j * v.getD i 0 * v.getD j 0) k ∧ Gn.sumK (fun j => topW M F l i j * v.getD i 0 * v.getD j 0) k ≤ k * 199065600 := fun i k hi hk => Gn.sumK_bd (fun j hj => hp1 i j hi (by omega))
  have hp3 : ∀ i : Nat, i ≤ F → -(i * 995328000) ≤ Gn.sumK (fun p => Gn.sumK (fun j => topW M F l p j * v.getD p 0 * v.getD j 0) F) i ∧ Gn.sumK (fun p => Gn.sumK (fun j => topW M F l p j * v.getD p 0 * v.getD j 0) F) i ≤ i * 995328000 := fun i hi => Gn.sumK_bd (fun p hp => by have := hp2 p F (by omega) (Nat.le_refl _); omega)
  have hfr' : ∀ x : Int, -10000000000 ≤ x ∧ x ≤ 10000000000 → Gn.Fr 10000000000 248832 x (S * downW M F l) := fun x hx => ⟨by omega, by omega, d1, d2, by decide, by decide⟩
  have hfr : ∀ x : Int, -1000000000 ≤ x ∧ x ≤ 1000000000 → Gn.Fr 1000000000 248832 x (S * downW M F l) := fun x hx => ⟨by omega, by omega, d1, d2, by decide, by decide⟩
  have hall : ∀ k, k ≤ F → -(k * 199065600) ≤ Gn.sumK (fun i => curK (fun i j => topW M F l i j) v i F) k ∧ Gn.sumK (fun i => curK (fun i j => topW M F l i j) v i F) k ≤ k * 199065600 := fun k hk => Gn.sumK_bd (fun p hp => by have := hc p F (by omega) (Nat.le_refl _); omega)
  have hzero : Gn.sumK (fun i => curK (fun i j => topW M F l i j) v i F) F = 0 := by
    unfold curK
    rw [Gn.sumK_comm, Gn.sumK_congr (h := fun _ => 0) (fun j hj => ?_), Gn.sumK_zero]
    rw [Gn.sumK_congr (h := fun i : Nat => v.getD j 0 * topW M F l j i) (fun i hi => by show topW M F l i j * _ = _; rw [h.ok.topSym hF1 hF (i := i) (j := j) ⟨by omega, by omega⟩ ⟨by omega, by omega⟩, Int.mul_comm]), Gn.sumK_mul, h.ok.topSum hF1 hF ⟨by omega, by omega⟩, Int.mul_zero]
  refine ⟨hT, ⟨d1, d2⟩, fun i k hi hk => ?_, fun i k hi hk => ?_, fun i k hi hk => ?_, fun k hk => ?_, ?_, Gn.rat_zero d1, ?_⟩
  · have := hc i k hi hk; omega
  · have h1 := hp2 i k hi hk
    have h2 := hp3 i (by omega)
    have h3 : powK (fun i j => topW M F l i j) v F i k = Gn.sumK (fun p => Gn.sumK (fun j => topW M F l p j * v.getD p 0 * v.getD j 0) F) i + Gn.sumK (fun j => topW M F l i j * v.getD i 0 * v.getD j 0) k := rfl
    rw [h3]; omega
  · have h1 := hc i k hi (by omega)
    have h2 := hc1 i k hi hk
    have h3 := hT i k hi hk
    have h4 := hvb k
    have a1 : Gn.Fr 7962624 248832 (topW M F l i k) (S * downW M F l) := ⟨by omega, by omega, d1, d2, by decide, by decide⟩
    have a2 : Gn.Fr 5 1 (v.getD k 0) 1 := ⟨by omega, by omega, by decide, by decide, by decide, by decide⟩
    show addR _ (timesR (Gn.rat (topW M F l i k) _) _) = _
    rw [times_rat a1 a2 ⟨by decide, by decide, by decide, by decide⟩, Int.mul_one, add_rat (hfr _ (by omega)) (hfr _ (by omega)) ⟨by decide, by decide, by decide, by decide⟩]
    refine Gn.rat_eq (Int.mul_pos d1 d1) d1 ?_
    show _ = (curK (fun i j => topW M F l i j) v i k + topW M F l i k * v.getD k 0) * _
    generalize curK (fun i j => topW M F l i j) v i k = x
    generalize topW M F l i k * v.getD k 0 = y
    generalize S * downW M F l = d
    grind
  · have h1 := hc k F hk (Nat.le_refl _)
    have h2 := hall k (by omega)
    rw [add_rat (hfr _ (by omega)) (hfr _ (by omega)) ⟨by decide, by decide, by decide, by decide⟩]
    refine Gn.rat_eq (Int.mul_pos d1 d1) d1 ?_
    show _ = (Gn.sumK (fun i => curK (fun i j => topW M F l i j) v i F) k + curK (fun i j => topW M F l i j) v k F) * _
    generalize curK (fun i j => topW M F l i j) v k F = x
    generalize Gn.sumK (fun i => curK (fun i j => topW M F l i j) v i F) k = y
    generalize S * downW M F l = d
    grind
  · rw [hzero]; exact Gn.rat_zero d1
  · have h1 := hp3 F (Nat.le_refl _)
    have h2 : powK (fun i j => topW M F l i j) v F F 0 = Gn.sumK (fun p => Gn.sumK (fun j => topW M F l p j * v.getD p 0 * v.getD j 0) F) F := by
      unfold powK; simp [Gn.sumK]
    rw [h2]
    refine ratN_nn (Gn.form_nn (fun i j => topW M F l i j) (fun p => v.getD p 0) F (fun i j hi hj => h.ok.topSym hF1 hF ⟨by omega, by omega⟩ ⟨by omega, by omega⟩) (fun i j hi hj hij => h.ok.topNeg hF1 hF ⟨by omega, by omega⟩ ⟨by omega, by omega⟩ (by omega)) (fun i hi => h.ok.topSum hF1 hF ⟨by omega, by omega⟩)) d1 (hfr' _ (by omega)).fit
theorem respM_at {M F : Nat} {S : Int} {l : List Wz} {i j : Nat} (hi : i < F) (hj : j < F) : atM (respM M F S l) i j = Gn.rat (topW M F l i j) (S * downW M F l) := by
  have hl : i < (respM M F S l).length := by simp [respM]; exact hi
  have hr : (respM M F S l)[i] = respRow M F S l i F := by simp [respM]
  have hj2 : j < (respM M F S l)[i].length := by rw [hr, respRow_len]; exact hj
  rw [atM_eq hl hj2]
  simp only [hr]
  simp [respRow, upto_at, respV]
/-- a drawn network's response is one -/
theorem respOk {most : Int} {M F : Nat} {S : Int} {l : List Wz} (h : Drawn most M F S l) (hF : F ≤ M) : RespOk (respM M F S l) F := by
  have hM5 : M ≤ 5 := by have := h.ok.h.n5; omega
  have hF2 : 2 ≤ F := by have := h.e2; omega
  have hF1 : 1 ≤ F := by omega
  obtain ⟨d1, d2⟩ := h.down_bd hF
  have hT : ∀ i j : Nat, i < F → j < F → -7962624 ≤ topW M F l i j ∧ topW M F l i j ≤ 7962624 := fun i j hi hj => h.top_bd hF ⟨by omega, by omega⟩ ⟨by omega, by omega⟩
  have hfr : ∀ x : Int, -100000000 ≤ x ∧ x ≤ 100000000 → Gn.Fr 100000000 248832 x (S * downW M F l) := fun x hx => ⟨by omega, by omega, d1, d2, by decide, by decide⟩
  have hlen : (respM M F S l).length = F := by simp [respM]
  have hrow : ∀ k (hk : k < (respM M F S l).length), (respM M F S l)[k] = respRow M F S l k F := fun k hk => by simp [respM]
  refine ⟨hF1, by omega, fun k hk => by rw [hrow k hk, respRow_len], fun k hk x hx => ?_, fun k hk => ⟨fun j hj => ?_, ?_⟩⟩
  · rw [hrow k hk] at hx
    unfold respRow at hx
    obtain ⟨q, hq, rfl⟩ := List.mem_map.1 hx
    have hq2 := (Gn.upto_mem F q).1 hq
    have := h.top_bd hF (i := k) (j := q) ⟨by omega, by omega⟩ hq2
    exact okZ_rat (hfr _ (by omega))
  · rw [hlen] at hk
    refine ⟨?_, ?_⟩
    · rw [respM_at hk hj, respM_at hj hk, h.ok.topSym hF1 hF ⟨by omega, by omega⟩ ⟨by omega, by omega⟩]
    · by_cases e : k = j
      · exact .inl e
      · right
        rw [respM_at hk hj]
        have hn := h.ok.topNeg hF1 hF (i := k) (j := j) ⟨by omega, by omega⟩ ⟨by omega, by omega⟩ (by omega)
        have hb := hT k j hk hj
        have hf := hfr (topW M F l k j) (by omega)
        rw [hf.rat]
        have h1 := Gn.rat_cross (topW M F l k j) (S * downW M F l)
        have h2 := Gn.ratD_pos (topW M F l k j) (S * downW M F l) (by omega)
        simp only
        by_cases h3 : 0 < Gn.ratN (topW M F l k j) (S * downW M F l)
        · have h4 := Int.mul_pos h3 d1
          have h5 := Gn.mul_pn h2 hn
          rw [Int.mul_comm] at h5; omega
        · omega
  · rw [hlen] at hk
    have hg : (respM M F S l).getD k [] = respRow M F S l k F := by
      rw [List.getD_eq_getElem?_getD, List.getElem?_eq_getElem (by rw [hlen]; exact hk), Option.getD_some, hrow]
    rw [hg]
    have key : ∀ q, q ≤ F → sumR ((respRow M F S l k F).take q) = Gn.rat (Gn.sumK (fun j => topW M F l k j) q) (S * downW M F l) := by
      intro q
      induction q with
      | zero => intro _; simp only [List.take_zero, Gn.sumK]; rw [Gn.rat_zero d1]; rfl
      | succ q ih =>
        intro hq
        have hq2 : q < (respRow M F S l k F).length := by rw [respRow_len]; omega
        rw [sumR_snoc hq2, ih (by omega)]
        have e1 : (respRow M F S l k F)[q] = Gn.rat (topW M F l k q) (S * downW M F l) := by simp [respRow, upto_at, respV]
        have hb := hT k q hk (by omega)
        have hs := Gn.sumK_bd (g := fun j : Nat => topW M F l k j) (B := 7962624) (n := q) (fun j hj => hT k j hk (by omega))
        rw [e1, add_rat (hfr _ (by omega)) (hfr _ (by omega)) ⟨by decide, by decide, by decide, by decide⟩]
        refine Gn.rat_eq (Int.mul_pos d1 d1) d1 ?_
        simp only [Gn.sumK]
        generalize Gn.sumK (fun j => topW M F l k j) q = x
        generalize topW M F l k q = y
        generalize S * downW M F l = d
        grind
    have h9 := key F (Nat.le_refl _)
    rw [List.take_of_length_le (by rw [respRow_len]; exact Nat.le_refl _), h.ok.topSum hF1 hF ⟨by omega, by omega⟩, Gn.rat_zero d1] at h9
    exact h9
end Go.Proofs.Ytjchindjoailbaa

/- Exchanging two nodes leaves the sum over trees. Plain Lean, no program in sight. -/
namespace Gn
set_option linter.unusedSimpArgs false
set_option linter.unusedVariables false
def swp (a b v : Int) : Int := if v = a then b else if v = b then a else v
theorem swp_comm (a b v : Int) : swp a b v = swp b a v := by unfold swp; split <;> split <;> omega
theorem swp_self (a v : Int) : swp a a v = v := by unfold swp; split <;> omega
set_option maxRecDepth 10000 in
set_option maxHeartbeats 16000000 in
theorem sw2 (f : Int → Int → Int) (h : ∀ i j, f i j = f j i) (a b : Int) (ha : 0 ≤ a ∧ a < b) (hb : b < 2) : trS 2 (lapW 2 fun i j => f (swp a b i) (swp a b j)) = trS 2 (lapW 2 f) := by
  have h01 := sym2 h
  have : (a = 0 ∧ b = 1) := by omega
  rcases this with ⟨rfl, rfl⟩
  all_goals clear ha hb
  all_goals
    simp [trS, detP, dsumP, lapW, others, upto, List.range_succ, rowS, sgn, swp, h01]
    try (clear h h01; generalize f 0 1 = a01; grind)
set_option maxRecDepth 10000 in
set_option maxHeartbeats 16000000 in
theorem sw3 (f : Int → Int → Int) (h : ∀ i j, f i j = f j i) (a b : Int) (ha : 0 ≤ a ∧ a < b) (hb : b < 3) : trS 3 (lapW 3 fun i j => f (swp a b i) (swp a b j)) = trS 3 (lapW 3 f) := by
  obtain ⟨h01, h02, h12⟩ := sym3 h
  have : (a = 0 ∧ b = 1) ∨ (a = 0 ∧ b = 2) ∨ (a = 1 ∧ b = 2) := by omega
  rcases this with ⟨rfl, rfl⟩ | ⟨rfl, rfl⟩ | ⟨rfl, rfl⟩
  all_goals clear ha hb
  all_goals
    simp [trS, detP, dsumP, lapW, others, upto, List.range_succ, rowS, sgn, swp, h01, h02, h12]
    try (clear h h01 h02 h12; generalize f 0 1 = a01; generalize f 0 2 = a02; generalize f 1 2 = a12; grind)
set_option maxRecDepth 10000 in
set_option maxHeartbeats 16000000 in
theorem sw4 (f : Int → Int → Int) (h : ∀ i j, f i j = f j i) (a b : Int) (ha : 0 ≤ a ∧ a < b) (hb : b < 4) : trS 4 (lapW 4 fun i j => f (swp a b i) (swp a b j)) = trS 4 (lapW 4 f) := by
  obtain ⟨h01, h02, h03, h12, h13, h23⟩ := sym4 h
  have : (a = 0 ∧ b = 1) ∨ (a = 0 ∧ b = 2) ∨ (a = 0 ∧ b = 3) ∨ (a = 1 ∧ b = 2) ∨ (a = 1 ∧ b = 3) ∨ (a = 2 ∧ b = 3) := by omega
  rcases this with ⟨rfl, rfl⟩ | ⟨rfl, rfl⟩ | ⟨rfl, rfl⟩ | ⟨rfl, rfl⟩ | ⟨rfl, rfl⟩ | ⟨rfl, rfl⟩
  all_goals clear ha hb
  all_goals
    simp [trS, detP, dsumP, lapW, others, upto, List.range_succ, rowS, sgn, swp, h01, h02, h03, h12, h13, h23]
    try (clear h h01 h02 h03 h12 h13 h23; generalize f 0 1 = a01; generalize f 0 2 = a02; generalize f 0 3 = a03; generalize f 1 2 = a12; generalize f 1 3 = a13; generalize f 2 3 = a23; grind)
set_option maxRecDepth 10000 in
set_option maxHeartbeats 16000000 in
theorem sw5 (f : Int → Int → Int) (h : ∀ i j, f i j = f j i) (a b : Int) (ha : 0 ≤ a ∧ a < b) (hb : b < 5) : trS 5 (lapW 5 fun i j => f (swp a b i) (swp a b j)) = trS 5 (lapW 5 f) := by
  obtain ⟨h01, h02, h03, h04, h12, h13, h14, h23, h24, h34⟩ := sym5 h
  have : (a = 0 ∧ b = 1) ∨ (a = 0 ∧ b = 2) ∨ (a = 0 ∧ b = 3) ∨ (a = 0 ∧ b = 4) ∨ (a = 1 ∧ b = 2) ∨ (a = 1 ∧ b = 3) ∨ (a = 1 ∧ b = 4) ∨ (a = 2 ∧ b = 3) ∨ (a = 2 ∧ b = 4) ∨ (a = 3 ∧ b = 4) := by omega
  rcases this with ⟨rfl, rfl⟩ | ⟨rfl, rfl⟩ | ⟨rfl, rfl⟩ | ⟨rfl, rfl⟩ | ⟨rfl, rfl⟩ | ⟨rfl, rfl⟩ | ⟨rfl, rfl⟩ | ⟨rfl, rfl⟩ | ⟨rfl, rfl⟩ | ⟨rfl, rfl⟩
  all_goals clear ha hb
  all_goals
    simp [trS, detP, dsumP, lapW, others, upto, List.range_succ, rowS, sgn, swp, h01, h02, h03, h04, h12, h13, h14, h23, h24, h34]
    try (clear h h01 h02 h03 h04 h12 h13 h14 h23 h24 h34; generalize f 0 1 = a01; generalize f 0 2 = a02; generalize f 0 3 = a03; generalize f 0 4 = a04; generalize f 1 2 = a12; generalize f 1 3 = a13; generalize f 1 4 = a14; generalize f 2 3 = a23; generalize f 2 4 = a24; generalize f 3 4 = a34; grind)
theorem tree_sw {M : Nat} (hM : M ≤ 5) (f : Int → Int → Int) (h : ∀ i j, f i j = f j i) (a b : Int) (ha : 0 ≤ a ∧ a < M) (hb : 0 ≤ b ∧ b < M) : trS M (lapW M fun i j => f (swp a b i) (swp a b j)) = trS M (lapW M f) := by
  have key : ∀ a b : Int, (0 ≤ a ∧ a < b) → b < M → trS M (lapW M fun i j => f (swp a b i) (swp a b j)) = trS M (lapW M f) := by
    intro p q hp hq
    have : M = 2 ∨ M = 3 ∨ M = 4 ∨ M = 5 := by omega
    rcases this with rfl | rfl | rfl | rfl
    · exact sw2 f h p q hp hq
    · exact sw3 f h p q hp hq
    · exact sw4 f h p q hp hq
    · exact sw5 f h p q hp hq
  by_cases e : a = b
  · subst e; simp only [swp_self]
  · by_cases e2 : a < b
    · exact key a b ⟨ha.1, e2⟩ hb.2
    · have := key b a ⟨hb.1, by omega⟩ ha.2
      simp only [swp_comm b a] at this
      exact this
end Gn

/- Networks exchanged, divided, with a wire put: what the law on networks asks. Plain Lean. -/
namespace Go.Proofs.Ytjchindjoailbaa
set_option linter.unusedSimpArgs false
set_option linter.unusedVariables false
open Go.RowKit

theorem swapL_all {a b : Int} {l : List Wz} (hs : Srt l) (ha : Asc l) : Srt (swapL a b l) ∧ ∀ y, y ∈ swapL a b l ↔ ∃ e ∈ l, y = swI a b e := by
  have := swapL_told (a := a) (b := b) hs ha l.length (Nat.le_refl _)
  rwa [List.take_of_length_le (Nat.le_refl _)] at this
theorem swI_swI {a b : Int} {e : Wz} (h : e.1 < e.2.1) : swI a b (swI a b e) = e := by
  obtain ⟨x, y, z⟩ := e
  simp only at h
  have h1 := sw_sw a b x
  have h2 := sw_sw a b y
  simp only [swI]
  by_cases e : sw a b x ≤ sw a b y
  · rw [Int.min_eq_left e, Int.max_eq_right e, h1, h2, Int.min_eq_left (show x ≤ y by omega), Int.max_eq_right (show x ≤ y by omega)]
  · rw [Int.min_eq_right (show sw a b y ≤ sw a b x by omega), Int.max_eq_left (show sw a b y ≤ sw a b x by omega), h1, h2, Int.min_eq_right (show x ≤ y by omega), Int.max_eq_left (show x ≤ y by omega)]
theorem swap_swap {N E S : Int} {l : List Wz} (h : NetOk N E S l) {a b : Int} (h1 : 0 ≤ a ∧ a < N) (h2 : 0 ≤ b ∧ b < N) : swapL a b (swapL a b l) = l := by
  have k := h.swap h1 h2
  obtain ⟨s1, m1⟩ := swapL_all (a := a) (b := b) h.srt h.asc
  obtain ⟨s2, m2⟩ := swapL_all (a := a) (b := b) k.srt k.asc
  refine srt_eq s2 h.srt fun y => ?_
  rw [m2]
  constructor
  · rintro ⟨e, he, rfl⟩
    obtain ⟨e2, he2, rfl⟩ := (m1 e).1 he
    rw [swI_swI (h.asc _ he2)]; exact he2
  · intro hy
    exact ⟨swI a b y, (m1 _).2 ⟨y, hy, rfl⟩, (swI_swI (h.asc _ hy)).symm⟩
/-- the weight between two nodes in order, told by the members -/
theorem wbF_is {l : List Wz} (hs : Srt l) (ha : Asc l) {p q x : Int} (hm : (p, q, x) ∈ l) : wbF l p q = x := wbF_mem hs ha hm
theorem wbF_not {l : List Wz} (ha : Asc l) {p q : Int} (hpq : p < q) (hn : ∀ x, (p, q, x) ∉ l) : wbF l p q = 0 := by
  by_cases h : wbF l p q = 0
  · exact h
  · exact absurd (wbF_find ha hpq h) (hn _)
theorem wbF_swap {N E S : Int} {l : List Wz} (h : NetOk N E S l) {a b : Int} (h1 : 0 ≤ a ∧ a < N) (h2 : 0 ≤ b ∧ b < N) : wbF (swapL a b l) = fun i j => wbF l (sw a b i) (sw a b j) := by
  have k := h.swap h1 h2
  obtain ⟨s1, m1⟩ := swapL_all (a := a) (b := b) h.srt h.asc
  have key : ∀ i j : Int, i < j → wbF (swapL a b l) i j = wbF l (sw a b i) (sw a b j) := by
    intro i j hij
    have hne : sw a b i ≠ sw a b j := fun e => by have := sw_inj e; omega
    have hcomm : wbF l (sw a b i) (sw a b j) = wbF l (min (sw a b i) (sw a b j)) (max (sw a b i) (sw a b j)) := by
      by_cases e : sw a b i ≤ sw a b j
      · rw [Int.min_eq_left e, Int.max_eq_right e]
      · rw [Int.min_eq_right (by omega), Int.max_eq_left (by omega), wbF_comm]
    rw [hcomm]
    by_cases hx : ∃ x, (min (sw a b i) (sw a b j), max (sw a b i) (sw a b j), x) ∈ l
    · obtain ⟨x, hx⟩ := hx
      rw [wbF_is h.srt h.asc hx]
      have e1 : swI a b (i, j, x) = (min (sw a b i) (sw a b j), max (sw a b i) (sw a b j), x) := rfl
      have e2 := swI_swI (a := a) (b := b) (e := (i, j, x)) hij
      rw [e1] at e2
      exact wbF_is k.srt k.asc ((m1 _).2 ⟨_, hx, e2.symm⟩)
    · rw [wbF_not h.asc (by omega) (fun x hm => hx ⟨x, hm⟩)]
      refine wbF_not k.asc hij fun x hm => ?_
      obtain ⟨e, he, heq⟩ := (m1 _).1 hm
      have e2 := swI_swI (a := a) (b := b) (h.asc _ he)
      rw [← heq] at e2
      exact hx ⟨x, by have e3 : swI a b (i, j, x) = e := e2; rw [← e3] at he; exact he⟩
  funext i j
  by_cases e : i = j
  · subst e; rw [wbF_same k.asc, wbF_same h.asc]
  · by_cases e2 : i < j
    · exact key i j e2
    · rw [wbF_comm, key j i (by omega), wbF_comm]
theorem tree_swap {M : Nat} {E S : Int} {l : List Wz} (h : NetOk M E S l) {a b : Int} (h1 : 0 ≤ a ∧ a < M) (h2 : 0 ≤ b ∧ b < M) : leftW M (swapL a b l) [0] [0] = leftW M l [0] [0] := by
  have k := h.swap h1 h2
  rw [h.left (Nat.le_refl _), k.left (Nat.le_refl _), wbF_swap h h1 h2]
  exact Gn.tree_sw (by have := h.h.n5; omega) (wbF l) (wbF_comm l) a b h1 h2
theorem gL_div (g : Nat) (hg : 0 < g) : ∀ (l : List Wz) (s : Nat), g ∣ s → (∀ e ∈ l, g ∣ e.2.2.natAbs) → gL (s / g) (divL g l) = gL s l / g
  | [], s, _, _ => rfl
  | e :: l, s, h1, h2 => by
    have e1 : gL s (e :: l) = gL (Nat.gcd s e.2.2.natAbs) l := rfl
    have e2 : gL (s / g) (divL g (e :: l)) = gL (Nat.gcd (s / g) (Int.tdiv e.2.2 g).natAbs) (divL g l) := rfl
    have h3 := h2 e (by simp)
    rw [e1, e2, Int.natAbs_tdiv, Int.natAbs_natCast]
    show gL (Nat.gcd (s / g) (e.2.2.natAbs / g)) _ = _
    rw [Nat.gcd_div h1 h3]
    exact gL_div g hg l _ (Nat.dvd_gcd h1 h3) (fun x hx => h2 x (by simp [hx]))
theorem divL_one (l : List Wz) : divL 1 l = l := by
  unfold divL
  conv => rhs; rw [← List.map_id l]
  apply List.map_congr_left
  rintro ⟨x, y, z⟩ _
  simp
/-- a divided network is divided already -/
theorem canon_canon {N E S : Int} {l : List Wz} (h : NetOk N E S l) : gL (Int.tdiv S (gL S.toNat l)).toNat (divL (gL S.toNat l) l) = 1 := by
  obtain ⟨s, rfl⟩ : ∃ s : Nat, S = s := ⟨S.toNat, by have := h.h.s1; omega⟩
  have hs : 0 < s := by have := h.h.s1; omega
  have hp := gL_pos hs l
  have hd := gL_dvd l s
  simp only [Int.toNat_natCast]
  have e1 : Int.tdiv (s : Int) (gL s l) = ((s / gL s l : Nat) : Int) := rfl
  rw [e1, Int.toNat_natCast, gL_div _ hp l s hd.1 hd.2]
  exact Nat.div_self hp
theorem wbF_div {g : Nat} (l : List Wz) (hd : ∀ e ∈ l, g ∣ e.2.2.natAbs) (a b : Int) : wbF l a b = g * wbF (divL g l) a b := by
  induction l with
  | nil => simp [wbF, divL]
  | cons x t ih =>
    have e1 : divL g (x :: t) = (x.1, x.2.1, Int.tdiv x.2.2 g) :: divL g t := rfl
    rw [e1, wbF, wbF]
    by_cases hj : joins x a b
    · rw [if_pos hj, if_pos (show joins (x.1, x.2.1, Int.tdiv x.2.2 g) a b from hj)]
      have h1 : (g : Int) ∣ x.2.2 := Int.ofNat_dvd_left.2 (hd x (by simp))
      exact (Int.mul_tdiv_cancel' h1).symm
    · rw [if_neg hj, if_neg (show ¬ joins (x.1, x.2.1, Int.tdiv x.2.2 g) a b from hj)]
      exact ih (fun e he => hd e (by simp [he]))
end Go.Proofs.Ytjchindjoailbaa
namespace Gn
theorem rowS_mul (M : Nat) (f : Int → Int → Int) (c i : Int) : rowS M (fun a b => c * f a b) i = c * rowS M f i := by
  unfold rowS
  rw [← mul_sum c (fun k => if k = i then 0 else f i k)]
  congr 1
  apply List.map_congr_left
  intro k _
  by_cases e : k = i
  · simp [e]
  · simp [e]
theorem lapW_mul (M : Nat) (f : Int → Int → Int) (c i j : Int) : lapW M (fun a b => c * f a b) i j = c * lapW M f i j := by
  unfold lapW
  by_cases e : i = j
  · rw [if_pos e, if_pos e, rowS_mul]
  · rw [if_neg e, if_neg e, Int.mul_neg]
theorem detP_mul (e : Int → Int → Int) (c : Int) : ∀ rows cols : List Int, detP (fun i j => c * e i j) rows cols = c ^ rows.length * detP e rows cols
  | [], cols => by simp [detP]
  | r :: rs, cols => by
    have key : ∀ k, dsumP (fun i j => c * e i j) (detP (fun i j => c * e i j) rs) r cols k = c ^ (rs.length + 1) * dsumP e (detP e rs) r cols k := by
      intro k
      induction k with
      | zero => simp [dsumP]
      | succ k ih =>
        rw [dsumP, dsumP, ih, detP_mul e c rs]
        generalize dsumP e (detP e rs) r cols k = x
        generalize detP e rs (cols.eraseIdx k) = y
        generalize e r (cols.getD k 0) = z
        rw [Int.pow_succ]
        generalize c ^ rs.length = p
        generalize sgn k = q
        grind
    rw [detP, detP, key, List.length_cons]
end Gn
namespace Go.Proofs.Ytjchindjoailbaa
open Go.RowKit
theorem canon_alike {M F : Nat} {S : Int} {l : List Wz} (h : NetOk M F S l) : Alike M F S l M F (Int.tdiv S (gL S.toNat l)) (divL (gL S.toNat l) l) := by
  have hF0 : 1 ≤ F := by have := h.h.e1; omega
  have hF : F ≤ M := by have := h.h.eN; omega
  obtain ⟨s, rfl⟩ : ∃ s : Nat, S = s := ⟨S.toNat, by have := h.h.s1; omega⟩
  have hs : 0 < s := by have := h.h.s1; omega
  have hp := gL_pos hs l
  have hd := gL_dvd l s
  have k := h.canon (s := s) rfl
  simp only [Int.toNat_natCast]
  refine ⟨h, k, ?_⟩
  unfold respZ
  simp only [Int.toNat_natCast]
  unfold respM
  apply List.map_congr_left
  intro i hi
  rw [List.mem_range] at hi
  unfold respRow
  apply List.map_congr_left
  intro j hj
  have hj2 := (Gn.upto_mem F j).1 hj
  unfold respV
  have hw : wbF l = fun a b => (gL s l : Int) * wbF (divL (gL s l) l) a b := by
    funext a b; exact wbF_div l hd.2 a b
  have hlp : Gn.lapW M (wbF l) = fun a b => (gL s l : Int) * Gn.lapW M (wbF (divL (gL s l) l)) a b := by
    funext a b; rw [hw]; exact Gn.lapW_mul _ _ _ _ _
  have hS : (s : Int) = gL s l * Int.tdiv (s : Int) (gL s l) := (Int.mul_tdiv_cancel' (Int.natCast_dvd_natCast.2 hd.1)).symm
  rw [h.top hF0 hF ⟨by omega, by omega⟩ hj2, k.top hF0 hF ⟨by omega, by omega⟩ hj2, h.down hF, k.down hF, hlp, Gn.detP_mul, Gn.detP_mul, List.length_cons]
  generalize Gn.detP (Gn.lapW M (wbF (divL (gL s l) l))) ((i : Int) :: innerK F (M - F)) (j :: innerK F (M - F)) = x
  generalize Gn.detP (Gn.lapW M (wbF (divL (gL s l) l))) (innerK F (M - F)) (innerK F (M - F)) = y
  have hpow : 0 < ((gL s l : Nat) : Int) ^ ((innerK F (M - F)).length + 1) := Int.pow_pos (by omega)
  have e1 : (s : Int) * (((gL s l : Nat) : Int) ^ (innerK F (M - F)).length * y) = ((gL s l : Nat) : Int) ^ ((innerK F (M - F)).length + 1) * (Int.tdiv (s : Int) (gL s l) * y) := by
    rw [Int.pow_succ]
    generalize ((gL s l : Nat) : Int) ^ (innerK F (M - F)).length = p
    generalize Int.tdiv (s : Int) (gL s l) = t at hS
    rw [hS]
    grind
  rw [e1, Gn.rat_mul hpow]
/-- a wire put -/
theorem NetOk.put {N E S : Int} {l : List Wz} (h : NetOk N E S l) {p q w : Int} (hp : 0 ≤ p) (hpq : p < q) (hq : q < N) (hw : 1 ≤ w ∧ w ≤ 200) : NetOk N E S (putL l p q w false) := by
  refine ⟨h.h, fun k hk => ?_, next_of_srt (putL_srt h.srt _ _ _ _), fun v hv => (h.c v hv).put⟩
  rcases putL_mem.1 (List.getElem_mem hk) with e | ⟨hx, _⟩
  · rw [e]; exact ⟨hp, hpq, hq, hw.1, hw.2⟩
  · exact h.good hx
theorem drop_put {N E S : Int} {l : List Wz} (h : NetOk N E S l) : dropL l = l := by
  unfold dropL
  rw [List.filter_eq_self]
  intro x hx
  have := (h.good hx).2.2.2.1
  simp; omega
theorem put_at {M : Nat} {E S : Int} {l : List Wz} (h : NetOk M E S l) (h2 : 2 ≤ M) {w : Int} (hw : 1 ≤ w ∧ w ≤ 200) :
    wbF (putL l 0 ((M : Int) - 1) w false) 0 ((M : Int) - 1) = w ∧ atSum (putL l 0 ((M : Int) - 1) w false) 0 - w = atSum l 0 - wbF l 0 ((M : Int) - 1) := by
  have k := h.put (p := 0) (q := (M : Int) - 1) (by omega) (by omega) (by omega) hw
  have h1 : wbF (putL l 0 ((M : Int) - 1) w false) 0 ((M : Int) - 1) = w := wbF_is k.srt k.asc (putL_mem.2 (.inl rfl))
  refine ⟨h1, ?_⟩
  rw [k.at_row ⟨by omega, by omega⟩, h.at_row ⟨by omega, by omega⟩]
  have hot : ∀ j : Nat, j < M - 1 → wbF (putL l 0 ((M : Int) - 1) w false) 0 j = wbF l 0 j := by
    intro j hj
    by_cases e : j = 0
    · subst e
      have e1 := wbF_same k.asc 0
      have e2 := wbF_same h.asc 0
      exact e1.trans e2.symm
    · by_cases hx : ∃ x, ((0 : Int), (j : Int), x) ∈ l
      · obtain ⟨x, hx⟩ := hx
        rw [wbF_is h.srt h.asc hx]
        exact wbF_is k.srt k.asc (putL_mem.2 (.inr ⟨hx, fun e => by have := e.2; simp only at this; omega⟩))
      · rw [wbF_not h.asc (by omega) (fun x hm => hx ⟨x, hm⟩)]
        refine wbF_not k.asc (by omega) fun x hm => ?_
        rcases putL_mem.1 hm with e | ⟨hm, _⟩
        · simp only [Prod.mk.injEq] at e; omega
        · exact hx ⟨x, hm⟩
  obtain ⟨m, rfl⟩ : ∃ m, M = m + 1 := ⟨M - 1, by omega⟩
  unfold Gn.rowS
  rw [Gn.sum_upto, Gn.sum_upto]
  simp only [Gn.sumK]
  have e1 : ((m + 1 : Nat) : Int) - 1 = (m : Int) := by omega
  rw [e1] at h1 hot ⊢
  have hm0 : ¬ (m : Int) = 0 := by omega
  rw [if_neg hm0, if_neg hm0, h1]
  have e2 : Gn.sumK (fun j : Nat => if (j : Int) = 0 then 0 else wbF (putL l 0 (m : Int) w false) 0 j) m = Gn.sumK (fun j : Nat => if (j : Int) = 0 then 0 else wbF l 0 j) m :=
    Gn.sumK_congr fun j hj => by
      by_cases e : (j : Int) = 0
      · rw [if_pos e, if_pos e]
      · rw [if_neg e, if_neg e]; exact hot j (by omega)
  rw [e2]; omega
end Go.Proofs.Ytjchindjoailbaa

/- SwapNodes of the program. -/
namespace Go.Proofs.Ytjchindjoailbaa
set_option linter.unusedSimpArgs false
set_option linter.unusedVariables false
open Go.RowKit

def swN (a b v : Nat) : Nat := if v = a then b else if v = b then a else v
theorem swN_lt {a b v n : Nat} (ha : a < n) (hb : b < n) (hv : v < n) : swN a b v < n := by unfold swN; split <;> (try split) <;> omega
theorem swN_inj {a b u v : Nat} (h : swN a b u = swN a b v) : u = v := by unfold swN at h; split at h <;> split at h <;> (try split at h) <;> (try split at h) <;> omega
theorem swN_sw (a b v : Nat) : sw (a : Int) (b : Int) (v : Int) = ((swN a b v : Nat) : Int) := by
  unfold sw swN
  by_cases h1 : v = a
  · rw [if_pos (by omega), if_pos h1]
  · rw [if_neg (by omega), if_neg h1]
    by_cases h2 : v = b
    · rw [if_pos (by omega), if_pos h2]
    · rw [if_neg (by omega), if_neg h2]
theorem PG.swap {w : World} {base g N : Nat} {r : Nat → Nat} {f : Nat → Nat → Int} (h : PG w base g N N r f) {P Q : Nat} (hP : P < N) (hQ : Q < N) :
    PG ((w.setCell ⟨g, P, none⟩ (.slice (some ⟨r Q, 0, none⟩) N N)).setCell ⟨g, Q, none⟩ (.slice (some ⟨r P, 0, none⟩) N N)) base g N N (fun i => r (swN P Q i)) (fun i j => f (swN P Q i) j) := by
  refine ⟨?_, fun i hi => ?_, fun i hi => ?_, fun i j hi hj e => ?_, h.lbg, fun i hi => ?_, Nat.le_refl _⟩
  · refine ((h.og.set P _).set Q _).congr (fun i hi => ?_)
    simp only [if_pos hi]
    by_cases e1 : i = Q
    · subst e1
      rw [if_pos rfl]
      have : swN P i i = P := by unfold swN; by_cases e : i = P <;> simp [e]
      rw [this]
    · rw [if_neg e1]
      by_cases e2 : i = P
      · subst e2
        rw [if_pos rfl]
        have : swN i Q i = Q := by unfold swN; simp
        rw [this]
      · rw [if_neg e2]
        have : swN P Q i = i := by unfold swN; simp [e1, e2]
        rw [this]
  · exact ((h.rows _ (swN_lt hP hQ hi)).setOther (a := ⟨g, P, none⟩) (h.ne _ (swN_lt hP hQ hi)) _).setOther (a := ⟨g, Q, none⟩) (h.ne _ (swN_lt hP hQ hi)) _
  · exact h.ne _ (swN_lt hP hQ hi)
  · exact swN_inj (h.inj _ _ (swN_lt hP hQ hi) (swN_lt hP hQ hj) e)
  · exact h.lb _ (swN_lt hP hQ hi)
/-- a table's columns changed as far as row i -/
def swG (f : Nat → Nat → Int) (P Q i q j : Nat) : Int := if q < i then f q (swN P Q j) else f q j
theorem swG_step (F : Nat → Nat → Int) (P Q i q j : Nat) : (if q = i ∧ j = Q then F i P else if q = i ∧ j = P then F i Q else swG F P Q i q j) = swG F P Q (i + 1) q j := by
  unfold swG
  by_cases e1 : q = i
  · subst e1
    rw [if_neg (Nat.lt_irrefl q), if_pos (Nat.lt_succ_self q)]
    by_cases e2 : j = Q
    · rw [if_pos ⟨rfl, e2⟩]
      have : swN P Q j = P := by unfold swN; by_cases e : j = P; rw [if_pos e]; omega; rw [if_neg e, if_pos e2]
      rw [this]
    · rw [if_neg (fun h => e2 h.2)]
      by_cases e3 : j = P
      · rw [if_pos ⟨rfl, e3⟩]
        have : swN P Q j = Q := by unfold swN; rw [if_pos e3]
        rw [this]
      · rw [if_neg (fun h => e3 h.2)]
        have : swN P Q j = j := by unfold swN; rw [if_neg e3, if_neg e2]
        rw [this]
  · rw [if_neg (fun h => e1 h.1), if_neg (fun h => e1 h.1)]
    by_cases e2 : q < i
    · rw [if_pos e2, if_pos (by omega)]
    · rw [if_neg e2, if_neg (by omega)]

set_option maxRecDepth 100000 in
set_option maxHeartbeats 8000000 in
theorem implSwapNodes (M : Nat) (E S : Int) (a : Option Addr) (n c : Nat) (l : List Wz) (p : Int) (q : Int) (hp : 0 ≤ p ∧ p < M) (hq : 0 ≤ q ∧ q < M) (hok : NetOk M E S l) (w : World) (hr : ArgRow w a n c 3 (wires l)) (hl : l.length = n) :
    Calls Try.prog 50 #[netV M E S a n c, .int .i64 p, .int .i64 q] w fun e w' => NetRes e w w' true M E S (swapL p q l) ∧ Below w.heap.size w w' := by
  have HR := Lib.hid hr
  have KN := Lib.hid (fun (w : World) rr => implNetOk M E S a n c l true ⟨fun _ => hok, fun _ => rfl⟩ w rr hl)
  have KP := Lib.hid (fun (w : World) => implIsNode M E S a n c p true ⟨fun _ => hp, fun _ => rfl⟩ w)
  have KQ := Lib.hid (fun (w : World) => implIsNode M E S a n c q true ⟨fun _ => hq, fun _ => rfl⟩ w)
  have hM5 : M ≤ 5 := by have := hok.h.n5; omega
  have hM1 : 1 ≤ M := by have := hok.h.n1; omega
  have KT := Lib.hid (fun (w : World) rr => implTable M E S a n c l hM5 hok.asc w rr hl)
  obtain ⟨s, rfl⟩ : ∃ s : Nat, S = s := ⟨S.toNat, by have := hok.h.s1; omega⟩
  have hs1 : 0 < s := by have := hok.h.s1; omega
  have hs2 : s ≤ 1000000000000000000 := by have := hok.h.s2; omega
  have hVT := swapL_tab (M := M) hok.srt hok.asc (fun x hx => by obtain ⟨g1, g2, g3, g4, g5⟩ := hok.good hx; exact ⟨g1, g3, by omega⟩) hp hq
  obtain ⟨L2, hL2⟩ : ∃ L2, L2 = swapL p q l := ⟨_, rfl⟩
  obtain ⟨m2, hm2⟩ : ∃ m2, L2.length = m2 := ⟨_, rfl⟩
  have KO : Hid (∀ (w : World) (g : Nat), IGrid w (some ⟨g, 0, none⟩) M M (tab M (fun i j => wbF l (sw p q i) (sw p q j))) → Calls Try.prog 102 #[.int .i64 E, .int .i64 s, .slice (some ⟨g, 0, none⟩) M M, .bool false] w fun e w' => ∃ a' c', e = .returned (.tuple #[netV M E s a' m2 c', .bool true]) ∧ w'.ownsRow w.heap.size 102 3 (.slice a' m2 c') m2 (wires L2) ∧ Below w.heap.size w w') := by
    intro w g rr
    have h0 := implNetOf M E s (fun i j => wbF l (sw p q i) (sw p q j)) (some ⟨g, 0, none⟩) M false true ⟨hM1, hM5⟩ hs1 hs2 (fun i j => by have := hok.wb (sw p q i) (sw p q j); omega) (by rw [if_neg (by simp), if_neg (by simp), hVT]; exact ⟨fun _ => hok.swap hp hq, fun _ => rfl⟩) w rr
    refine h0.mono ?_
    rintro e w' ⟨h1, h2⟩
    rw [if_neg (by simp), if_neg (by simp), hVT, ← hL2] at h1
    unfold NetRes at h1
    rw [if_pos rfl, hm2] at h1
    obtain ⟨a', c', h3, h4⟩ := h1
    exact ⟨a', c', h3, h4, h2⟩
  rw [← hL2]
  have HM2 := Lib.hid hm2
  obtain ⟨P, rfl⟩ : ∃ P : Nat, p = P := ⟨p.toNat, by omega⟩
  obtain ⟨Q, rfl⟩ : ∃ Q : Nat, q = Q := ⟨q.toNat, by omega⟩
  have hPM : P < M := by omega
  have hQM : Q < M := by omega
  clear hr hok hVT hL2 hm2
  by_cases hPQ : P = Q
  · subst hPQ
    have HA0 : Hid (((w.alloc (.cells #[.int .i64 M, .int .i64 E, .int .i64 s, .slice a n c] 25)).alloc (.cells #[.int .i64 0, .int .i64 0, .int .i64 0, .slice none 0 0] 25)).rowIs (w.heap.size + 1) 25 4 (netAt (.int .i64 0) (.int .i64 0) (.int .i64 0) (.slice none 0 0))) := by
      have := netAt_new (w.alloc (.cells #[.int .i64 M, .int .i64 E, .int .i64 s, .slice a n c] 25)) (.int .i64 0) (.int .i64 0) (.int .i64 0) (.slice none 0 0) 25
      simpa [Hid] using this
    have HP0 : Hid (((w.alloc (.cells #[.int .i64 M, .int .i64 E, .int .i64 s, .slice a n c] 25)).alloc (.cells #[.int .i64 0, .int .i64 0, .int .i64 0, .slice none 0 0] 25)).rowIs w.heap.size 25 4 (netAt (.int .i64 M) (.int .i64 E) (.int .i64 s) (.slice a n c))) := (netAt_new _ _ _ _ _ _).alloc _
    go_enter Try.func50, Try.ntmps50
    go_wp2_with fail
    refine (KN.out _ (HR.out.below (by (repeat' (first | (with_reducible exact Below.refl _ _) | (with_reducible assumption) | (with_reducible refine balloc ?_ _) | (with_reducible refine Below.drew ?_) | (with_reducible refine below_drewN ?_ _) | (with_reducible refine bset ?_ ?_ _) | (with_reducible refine bstep ?_ (by assumption)) | go_size))))).mono ?_
    rintro e w1 ⟨rfl, hb1⟩
    have HA1 := Lib.hid (HA0.out.of_block (hb1.block _ HA0.out.lt))
    have HP1 := Lib.hid (HP0.out.of_block (hb1.block _ HP0.out.lt))
    have B1 : Hid (Below w.heap.size w w1) := bstep (by (repeat' (first | (with_reducible exact Below.refl _ _) | (with_reducible assumption) | (with_reducible refine balloc ?_ _) | (with_reducible refine Below.drew ?_) | (with_reducible refine below_drewN ?_ _) | (with_reducible refine bset ?_ ?_ _) | (with_reducible refine bstep ?_ (by assumption)) | go_size))) hb1
    clear HA0 HP0 hb1
    have hlP1 := HP1.out.lt
    obtain ⟨t0, t1, t2, t3⟩ := netAt_cells HP1.out
    go_wp2_with fail
    refine (KP.out _).mono ?_
    rintro e w2 ⟨rfl, hb2⟩
    clear t0 t1 t2 t3
    have HA2 := Lib.hid (HA1.out.of_block (hb2.block _ HA1.out.lt))
    have HP2 := Lib.hid (HP1.out.of_block (hb2.block _ HP1.out.lt))
    have B2 : Hid (Below w.heap.size w w2) := bstep B1.out hb2
    clear HA1 HP1 hb2
    have hlP2 := HP2.out.lt
    obtain ⟨t0, t1, t2, t3⟩ := netAt_cells HP2.out
    go_wp2_with fail
    refine (KQ.out _).mono ?_
    rintro e w3 ⟨rfl, hb3⟩
    clear t0 t1 t2 t3
    have HA3 := Lib.hid (HA2.out.of_block (hb3.block _ HA2.out.lt))
    have HP3 := Lib.hid (HP2.out.of_block (hb3.block _ HP2.out.lt))
    have B3 : Hid (Below w.heap.size w w3) := bstep B2.out hb3
    clear HA2 HP2 hb3
    have hlP3 := HP3.out.lt
    obtain ⟨t0, t1, t2, t3⟩ := netAt_cells HP3.out
    go_wp2_with fail
    refine (KT.out _ (HR.out.below B3.out)).mono ?_
    rintro e w4 ⟨g, r, rfl, G4, hb4⟩
    clear t0 t1 t2 t3
    have hlb3 : w.heap.size + 1 < w3.heap.size := HA3.out.lt
    have hs34 := hb4.size
    have HA4 := Lib.hid (HA3.out.of_block (hb4.block _ HA3.out.lt))
    have HP4 := Lib.hid (HP3.out.of_block (hb4.block _ HP3.out.lt))
    have B4 : Hid (Below w.heap.size w w4) := bstep B3.out hb4
    clear HA3 HP3 hb4
    have G4' := Lib.hid G4
    have G5 := Lib.hid (G4.swap hPM hQM)
    have o1 := G4.outer (i := P) hPM
    have o2 := G4.outer (i := P) hQM
    have d1 := G4.og.frozen P
    have d2 := G4.og.frozen P
    have lg := G4.og.lt
    have bg := G4.lbg
    have HB5 : Hid (Below w.heap.size w ((w4.setCell ⟨g, P, none⟩ (.slice (some ⟨r P, 0, none⟩) M M)).setCell ⟨g, P, none⟩ (.slice (some ⟨r P, 0, none⟩) M M))) := bset (bset B4.out (by show _ ≤ g; omega) _) (by show _ ≤ g; omega) _
    have HA5 := Lib.hid ((HA4.out.setOther (a := ⟨g, P, none⟩) (by show w.heap.size + 1 ≠ g; omega) (.slice (some ⟨r P, 0, none⟩) M M)).setOther (a := ⟨g, P, none⟩) (by show w.heap.size + 1 ≠ g; omega) (.slice (some ⟨r P, 0, none⟩) M M))
    have HP5 := Lib.hid ((HP4.out.setOther (a := ⟨g, P, none⟩) (by show w.heap.size ≠ g; omega) (.slice (some ⟨r P, 0, none⟩) M M)).setOther (a := ⟨g, P, none⟩) (by show w.heap.size ≠ g; omega) (.slice (some ⟨r P, 0, none⟩) M M))
    have hs4 : w.heap.size + 1 < w4.heap.size := by omega
    generalize r P = ρ1 at *
    clear G4
    go_wp2_with fail
    go_region
    all_goals
      go_wp2_with fail
      go_loopw [44] (fun u wr => ∃ i : Nat, i ≤ M ∧ u = .int .i64 i ∧ Hid (PG wr w3.heap.size g M M (fun i => r (swN P P i)) (fun q j => swG (fun i j => wbF l (swN P P i) j) P P i q j)) ∧ Hid (wr.rowIs (w.heap.size + 1) 25 4 (netAt (.int .i64 0) (.int .i64 0) (.int .i64 0) (.slice none 0 0))) ∧ Hid (wr.rowIs w.heap.size 25 4 (netAt (.int .i64 M) (.int .i64 E) (.int .i64 s) (.slice a n c))) ∧ Hid (Below w.heap.size w wr)) (fun u _ => M - (intOf u).toNat)
      case atStart => exact ⟨0, by omega, rfl, by first | exact G5.out.drewN _ | exact G5.out, by first | exact HA5.out | exact HA5.out.drew, by first | exact HP5.out | exact HP5.out.drew, by first | exact below_drewN HB5.out _ | exact HB5.out⟩
      case round =>
        clear G5 HA5 HP5 HB5 o1 o2 d1 d2 lg
        obtain ⟨i, hi, rfl, HG, HA, HP, HB⟩ := hrel
        by_cases hlt : i < M
        · have lg := HG.out.og.lt
          have o1 := HG.out.outer (i := i) hlt
          have c1 := HG.out.cell (i := i) (j := P) hlt hPM
          have c2 := HG.out.cell (i := i) (j := P) hlt hQM
          have d1 := (HG.out.rows i hlt).frozen P
          have d2 := (HG.out.rows i hlt).frozen P
          have l1 := (HG.out.rows i hlt).lt
          have h1 := HG.out.ne i hlt
          have b1 := HG.out.lb i hlt
          have v1 : swG (fun i j => wbF l (swN P P i) j) P P i i P = wbF l (swN P P i) P := if_neg (by omega)
          have v2 : swG (fun i j => wbF l (swN P P i) j) P P i i P = wbF l (swN P P i) P := if_neg (by omega)
          simp only [v1] at c1
          simp only [v2] at c2
          have HG2 := Lib.hid ((((HG.out.put (i := i) (j := P) hlt (wbF l (swN P P i) P)).put (i := i) (j := P) hlt (wbF l (swN P P i) P))).congr (f' := fun q j => swG (fun i j => wbF l (swN P P i) j) P P (i + 1) q j) (fun q j hq hj => swG_step (fun i j => wbF l (swN P P i) j) P P i q j))
          have HA2 := Lib.hid ((HA.out.setOther (a := ⟨r (swN P P i), P, none⟩) (by show w.heap.size + 1 ≠ r (swN P P i); omega) (.int .i64 (wbF l (swN P P i) P))).setOther (a := ⟨r (swN P P i), P, none⟩) (by show w.heap.size + 1 ≠ r (swN P P i); omega) (.int .i64 (wbF l (swN P P i) P)))
          have HP2 := Lib.hid ((HP.out.setOther (a := ⟨r (swN P P i), P, none⟩) (by show w.heap.size ≠ r (swN P P i); omega) (.int .i64 (wbF l (swN P P i) P))).setOther (a := ⟨r (swN P P i), P, none⟩) (by show w.heap.size ≠ r (swN P P i); omega) (.int .i64 (wbF l (swN P P i) P)))
          have HB2 : Hid (Below w.heap.size w ((wr.setCell ⟨r (swN P P i), P, none⟩ (.int .i64 (wbF l (swN P P i) P))).setCell ⟨r (swN P P i), P, none⟩ (.int .i64 (wbF l (swN P P i) P)))) := bset (bset HB.out (by show _ ≤ r (swN P P i); omega) _) (by show _ ≤ r (swN P P i); omega) _
          generalize wbF l (swN P P i) P = x1 at c1 HG2 HA2 HP2 HB2
          generalize wbF l (swN P P i) P = x2 at c2 HG2 HA2 HP2 HB2
          clear v1 v2
          generalize hρ : r (swN P P i) = ρ at o1 c1 c2 d1 d2 l1 h1 b1 HG2 HA2 HP2 HB2
          clear hρ
          have h2 : ¬ g = ρ := fun e => h1 e.symm
          go_wp2_with fail
          go_region
          all_goals
            go_wp2_with fail
            go_roundw
            case rel => exact ⟨i + 1, by omega, by go_num, by first | exact HG2.out.drewN _ | exact HG2.out, by first | exact HA2.out | exact HA2.out.drew, by first | exact HP2.out | exact HP2.out.drew, by first | exact below_drewN HB2.out _ | exact HB2.out⟩
            case measure => simp [intOf]; omega
        · obtain rfl : i = M := by omega
          have hMx : i ≤ maxLen := by unfold maxLen; omega
          have hI := Lib.hid (PG.grid (f := fun i j => wbF l (sw P P i) (sw P P j)) (HG.out.congr (f' := fun q j => (fun i j => wbF l (sw P P i) (sw P P j)) q j) (fun q j hq _ => by
            unfold swG
            rw [if_pos hq]
            simp only [swN_sw])) hMx)
          obtain ⟨t0, t1, t2, t3⟩ := netAt_cells HP.out
          have hlP := HP.out.lt
          have hsA := HA.out.lt
          clear HG
          go_wp2_with fail
          refine (KO.out _ g hI.out).mono ?_
          rintro e w7 ⟨a7, c7, rfl, o7, hb7⟩
          have HA7 := Lib.hid (HA.out.of_block (hb7.block _ HA.out.lt))
          have B7 : Hid (Below w.heap.size w w7) := bstep HB.out hb7
          have O7 := Lib.hid o7
          have hs7 := hb7.size
          obtain ⟨r0, r1, r2, r3⟩ := netAt_cells HA7.out
          have f0 := HA7.out.frozen 0
          have f1 := HA7.out.frozen 1
          have f2 := HA7.out.frozen 2
          have f3 := HA7.out.frozen 3
          have hlA7 := HA7.out.lt
          clear t0 t1 t2 t3 o7 hb7
          go_wp2_with fail
          have rs0 : (w7.cell? { block := w.heap.size + 1, off := 0 }).isSome = true := by simp [go_sem, *]
          have rs1 : (w7.cell? { block := w.heap.size + 1, off := 1 }).isSome = true := by simp [go_sem, *]
          have rs2 : (w7.cell? { block := w.heap.size + 1, off := 2 }).isSome = true := by simp [go_sem, *]
          have rs3 : (w7.cell? { block := w.heap.size + 1, off := 3 }).isSome = true := by simp [go_sem, *]
          refine bodyPost_ret (v := (.tuple #[netV i E s a7 m2 c7, .bool true])) (by simp [results, Try.results50, go_sem, rs0, rs1, rs2, rs3]; try rfl) rfl ?_
          refine ⟨?_, by have := B7.out; (repeat' (first | (with_reducible exact Below.refl _ _) | (with_reducible assumption) | (with_reducible refine balloc ?_ _) | (with_reducible refine Below.drew ?_) | (with_reducible refine below_drewN ?_ _) | (with_reducible refine bset ?_ ?_ _) | (with_reducible refine bstep ?_ (by assumption)) | go_size))⟩
          unfold NetRes
          rw [if_pos rfl, HM2.out]
          refine ⟨a7, c7, rfl, ?_⟩
          refine World.ownsRow.mono (base := w.heap.size + 1 + 1) ?_ (by omega)
          have o9 := World.ownsRow.mono (base' := w.heap.size + 1 + 1) O7.out (by omega)
          repeat' (first | with_reducible exact o9 | (with_reducible refine ownsRow_setCell_below ?_ ?_ _) | (dsimp only; omega) | omega)
  have hQP : ¬ Q = P := fun e => hPQ e.symm
  have HA0 : Hid (((w.alloc (.cells #[.int .i64 M, .int .i64 E, .int .i64 s, .slice a n c] 25)).alloc (.cells #[.int .i64 0, .int .i64 0, .int .i64 0, .slice none 0 0] 25)).rowIs (w.heap.size + 1) 25 4 (netAt (.int .i64 0) (.int .i64 0) (.int .i64 0) (.slice none 0 0))) := by
    have := netAt_new (w.alloc (.cells #[.int .i64 M, .int .i64 E, .int .i64 s, .slice a n c] 25)) (.int .i64 0) (.int .i64 0) (.int .i64 0) (.slice none 0 0) 25
    simpa [Hid] using this
  have HP0 : Hid (((w.alloc (.cells #[.int .i64 M, .int .i64 E, .int .i64 s, .slice a n c] 25)).alloc (.cells #[.int .i64 0, .int .i64 0, .int .i64 0, .slice none 0 0] 25)).rowIs w.heap.size 25 4 (netAt (.int .i64 M) (.int .i64 E) (.int .i64 s) (.slice a n c))) := (netAt_new _ _ _ _ _ _).alloc _
  go_enter Try.func50, Try.ntmps50
  go_wp2_with fail
  refine (KN.out _ (HR.out.below (by (repeat' (first | (with_reducible exact Below.refl _ _) | (with_reducible assumption) | (with_reducible refine balloc ?_ _) | (with_reducible refine Below.drew ?_) | (with_reducible refine below_drewN ?_ _) | (with_reducible refine bset ?_ ?_ _) | (with_reducible refine bstep ?_ (by assumption)) | go_size))))).mono ?_
  rintro e w1 ⟨rfl, hb1⟩
  have HA1 := Lib.hid (HA0.out.of_block (hb1.block _ HA0.out.lt))
  have HP1 := Lib.hid (HP0.out.of_block (hb1.block _ HP0.out.lt))
  have B1 : Hid (Below w.heap.size w w1) := bstep (by (repeat' (first | (with_reducible exact Below.refl _ _) | (with_reducible assumption) | (with_reducible refine balloc ?_ _) | (with_reducible refine Below.drew ?_) | (with_reducible refine below_drewN ?_ _) | (with_reducible refine bset ?_ ?_ _) | (with_reducible refine bstep ?_ (by assumption)) | go_size))) hb1
  clear HA0 HP0 hb1
  have hlP1 := HP1.out.lt
  obtain ⟨t0, t1, t2, t3⟩ := netAt_cells HP1.out
  go_wp2_with fail
  refine (KP.out _).mono ?_
  rintro e w2 ⟨rfl, hb2⟩
  clear t0 t1 t2 t3
  have HA2 := Lib.hid (HA1.out.of_block (hb2.block _ HA1.out.lt))
  have HP2 := Lib.hid (HP1.out.of_block (hb2.block _ HP1.out.lt))
  have B2 : Hid (Below w.heap.size w w2) := bstep B1.out hb2
  clear HA1 HP1 hb2
  have hlP2 := HP2.out.lt
  obtain ⟨t0, t1, t2, t3⟩ := netAt_cells HP2.out
  go_wp2_with fail
  refine (KQ.out _).mono ?_
  rintro e w3 ⟨rfl, hb3⟩
  clear t0 t1 t2 t3
  have HA3 := Lib.hid (HA2.out.of_block (hb3.block _ HA2.out.lt))
  have HP3 := Lib.hid (HP2.out.of_block (hb3.block _ HP2.out.lt))
  have B3 : Hid (Below w.heap.size w w3) := bstep B2.out hb3
  clear HA2 HP2 hb3
  have hlP3 := HP3.out.lt
  obtain ⟨t0, t1, t2, t3⟩ := netAt_cells HP3.out
  go_wp2_with fail
  refine (KT.out _ (HR.out.below B3.out)).mono ?_
  rintro e w4 ⟨g, r, rfl, G4, hb4⟩
  clear t0 t1 t2 t3
  have hlb3 : w.heap.size + 1 < w3.heap.size := HA3.out.lt
  have hs34 := hb4.size
  have HA4 := Lib.hid (HA3.out.of_block (hb4.block _ HA3.out.lt))
  have HP4 := Lib.hid (HP3.out.of_block (hb4.block _ HP3.out.lt))
  have B4 : Hid (Below w.heap.size w w4) := bstep B3.out hb4
  clear HA3 HP3 hb4
  have G4' := Lib.hid G4
  have G5 := Lib.hid (G4.swap hPM hQM)
  have o1 := G4.outer (i := P) hPM
  have o2 := G4.outer (i := Q) hQM
  have d1 := G4.og.frozen P
  have d2 := G4.og.frozen Q
  have lg := G4.og.lt
  have bg := G4.lbg
  have HB5 : Hid (Below w.heap.size w ((w4.setCell ⟨g, P, none⟩ (.slice (some ⟨r Q, 0, none⟩) M M)).setCell ⟨g, Q, none⟩ (.slice (some ⟨r P, 0, none⟩) M M))) := bset (bset B4.out (by show _ ≤ g; omega) _) (by show _ ≤ g; omega) _
  have HA5 := Lib.hid ((HA4.out.setOther (a := ⟨g, P, none⟩) (by show w.heap.size + 1 ≠ g; omega) (.slice (some ⟨r Q, 0, none⟩) M M)).setOther (a := ⟨g, Q, none⟩) (by show w.heap.size + 1 ≠ g; omega) (.slice (some ⟨r P, 0, none⟩) M M))
  have HP5 := Lib.hid ((HP4.out.setOther (a := ⟨g, P, none⟩) (by show w.heap.size ≠ g; omega) (.slice (some ⟨r Q, 0, none⟩) M M)).setOther (a := ⟨g, Q, none⟩) (by show w.heap.size ≠ g; omega) (.slice (some ⟨r P, 0, none⟩) M M))
  have hs4 : w.heap.size + 1 < w4.heap.size := by omega
  generalize r P = ρ1 at *
  generalize r Q = ρ2 at *
  clear G4
  go_wp2_with fail
  go_region
  all_goals
    go_wp2_with fail
    go_loopw [44] (fun u wr => ∃ i : Nat, i ≤ M ∧ u = .int .i64 i ∧ Hid (PG wr w3.heap.size g M M (fun i => r (swN P Q i)) (fun q j => swG (fun i j => wbF l (swN P Q i) j) P Q i q j)) ∧ Hid (wr.rowIs (w.heap.size + 1) 25 4 (netAt (.int .i64 0) (.int .i64 0) (.int .i64 0) (.slice none 0 0))) ∧ Hid (wr.rowIs w.heap.size 25 4 (netAt (.int .i64 M) (.int .i64 E) (.int .i64 s) (.slice a n c))) ∧ Hid (Below w.heap.size w wr)) (fun u _ => M - (intOf u).toNat)
    case atStart => exact ⟨0, by omega, rfl, by first | exact G5.out.drewN _ | exact G5.out, by first | exact HA5.out | exact HA5.out.drew, by first | exact HP5.out | exact HP5.out.drew, by first | exact below_drewN HB5.out _ | exact HB5.out⟩
    case round =>
      clear G5 HA5 HP5 HB5 o1 o2 d1 d2 lg
      obtain ⟨i, hi, rfl, HG, HA, HP, HB⟩ := hrel
      by_cases hlt : i < M
      · have lg := HG.out.og.lt
        have o1 := HG.out.outer (i := i) hlt
        have c1 := HG.out.cell (i := i) (j := P) hlt hPM
        have c2 := HG.out.cell (i := i) (j := Q) hlt hQM
        have d1 := (HG.out.rows i hlt).frozen P
        have d2 := (HG.out.rows i hlt).frozen Q
        have l1 := (HG.out.rows i hlt).lt
        have h1 := HG.out.ne i hlt
        have b1 := HG.out.lb i hlt
        have v1 : swG (fun i j => wbF l (swN P Q i) j) P Q i i P = wbF l (swN P Q i) P := if_neg (by omega)
        have v2 : swG (fun i j => wbF l (swN P Q i) j) P Q i i Q = wbF l (swN P Q i) Q := if_neg (by omega)
        simp only [v1] at c1
        simp only [v2] at c2
        have HG2 := Lib.hid ((((HG.out.put (i := i) (j := P) hlt (wbF l (swN P Q i) Q)).put (i := i) (j := Q) hlt (wbF l (swN P Q i) P))).congr (f' := fun q j => swG (fun i j => wbF l (swN P Q i) j) P Q (i + 1) q j) (fun q j hq hj => swG_step (fun i j => wbF l (swN P Q i) j) P Q i q j))
        have HA2 := Lib.hid ((HA.out.setOther (a := ⟨r (swN P Q i), P, none⟩) (by show w.heap.size + 1 ≠ r (swN P Q i); omega) (.int .i64 (wbF l (swN P Q i) Q))).setOther (a := ⟨r (swN P Q i), Q, none⟩) (by show w.heap.size + 1 ≠ r (swN P Q i); omega) (.int .i64 (wbF l (swN P Q i) P)))
        have HP2 := Lib.hid ((HP.out.setOther (a := ⟨r (swN P Q i), P, none⟩) (by show w.heap.size ≠ r (swN P Q i); omega) (.int .i64 (wbF l (swN P Q i) Q))).setOther (a := ⟨r (swN P Q i), Q, none⟩) (by show w.heap.size ≠ r (swN P Q i); omega) (.int .i64 (wbF l (swN P Q i) P)))
        have HB2 : Hid (Below w.heap.size w ((wr.setCell ⟨r (swN P Q i), P, none⟩ (.int .i64 (wbF l (swN P Q i) Q))).setCell ⟨r (swN P Q i), Q, none⟩ (.int .i64 (wbF l (swN P Q i) P)))) := bset (bset HB.out (by show _ ≤ r (swN P Q i); omega) _) (by show _ ≤ r (swN P Q i); omega) _
        generalize wbF l (swN P Q i) P = x1 at c1 HG2 HA2 HP2 HB2
        generalize wbF l (swN P Q i) Q = x2 at c2 HG2 HA2 HP2 HB2
        clear v1 v2
        generalize hρ : r (swN P Q i) = ρ at o1 c1 c2 d1 d2 l1 h1 b1 HG2 HA2 HP2 HB2
        clear hρ
        have h2 : ¬ g = ρ := fun e => h1 e.symm
        go_wp2_with fail
        go_region
        all_goals
          go_wp2_with fail
          go_roundw
          case rel => exact ⟨i + 1, by omega, by go_num, by first | exact HG2.out.drewN _ | exact HG2.out, by first | exact HA2.out | exact HA2.out.drew, by first | exact HP2.out | exact HP2.out.drew, by first | exact below_drewN HB2.out _ | exact HB2.out⟩
          case measure => simp [intOf]; omega
      · obtain rfl : i = M := by omega
        have hMx : i ≤ maxLen := by unfold maxLen; omega
        have hI := Lib.hid (PG.grid (f := fun i j => wbF l (sw P Q i) (sw P Q j)) (HG.out.congr (f' := fun q j => (fun i j => wbF l (sw P Q i) (sw P Q j)) q j) (fun q j hq _ => by
          unfold swG
          rw [if_pos hq]
          simp only [swN_sw])) hMx)
        obtain ⟨t0, t1, t2, t3⟩ := netAt_cells HP.out
        have hlP := HP.out.lt
        have hsA := HA.out.lt
        clear HG
        go_wp2_with fail
        refine (KO.out _ g hI.out).mono ?_
        rintro e w7 ⟨a7, c7, rfl, o7, hb7⟩
        have HA7 := Lib.hid (HA.out.of_block (hb7.block _ HA.out.lt))
        have B7 : Hid (Below w.heap.size w w7) := bstep HB.out hb7
        have O7 := Lib.hid o7
        have hs7 := hb7.size
        obtain ⟨r0, r1, r2, r3⟩ := netAt_cells HA7.out
        have f0 := HA7.out.frozen 0
        have f1 := HA7.out.frozen 1
        have f2 := HA7.out.frozen 2
        have f3 := HA7.out.frozen 3
        have hlA7 := HA7.out.lt
        clear t0 t1 t2 t3 o7 hb7
        go_wp2_with fail
        have rs0 : (w7.cell? { block := w.heap.size + 1, off := 0 }).isSome = true := by simp [go_sem, *]
        have rs1 : (w7.cell? { block := w.heap.size + 1, off := 1 }).isSome = true := by simp [go_sem, *]
        have rs2 : (w7.cell? { block := w.heap.size + 1, off := 2 }).isSome = true := by simp [go_sem, *]
        have rs3 : (w7.cell? { block := w.heap.size + 1, off := 3 }).isSome = true := by simp [go_sem, *]
        refine bodyPost_ret (v := (.tuple #[netV i E s a7 m2 c7, .bool true])) (by simp [results, Try.results50, go_sem, rs0, rs1, rs2, rs3]; try rfl) rfl ?_
        refine ⟨?_, by have := B7.out; (repeat' (first | (with_reducible exact Below.refl _ _) | (with_reducible assumption) | (with_reducible refine balloc ?_ _) | (with_reducible refine Below.drew ?_) | (with_reducible refine below_drewN ?_ _) | (with_reducible refine bset ?_ ?_ _) | (with_reducible refine bstep ?_ (by assumption)) | go_size))⟩
        unfold NetRes
        rw [if_pos rfl, HM2.out]
        refine ⟨a7, c7, rfl, ?_⟩
        refine World.ownsRow.mono (base := w.heap.size + 1 + 1) ?_ (by omega)
        have o9 := World.ownsRow.mono (base' := w.heap.size + 1 + 1) O7.out (by omega)
        repeat' (first | with_reducible exact o9 | (with_reducible refine ownsRow_setCell_below ?_ ?_ _) | (dsimp only; omega) | omega)
set_option maxRecDepth 100000 in
set_option maxHeartbeats 8000000 in
theorem implSwapNodes0 (N : Int) (E S : Int) (a : Option Addr) (n c : Nat) (l : List Wz) (p : Int) (q : Int) (hok : ¬ NetOk N E S l) (w : World) (hr : ArgRow w a n c 3 (wires l)) (hl : l.length = n) :
    Calls Try.prog 50 #[netV N E S a n c, .int .i64 p, .int .i64 q] w fun e w' => e = .returned (.tuple #[netV 0 0 0 none 0 0, .bool false]) ∧ Below w.heap.size w w' := by
  have HR := Lib.hid hr
  have KN := Lib.hid (fun (w : World) rr => implNetOk N E S a n c l false ⟨(fun h => by cases h), fun h => absurd h hok⟩ w rr hl)
  clear hr hok
  have HA0 : Hid (((w.alloc (.cells #[.int .i64 N, .int .i64 E, .int .i64 S, .slice a n c] 25)).alloc (.cells #[.int .i64 0, .int .i64 0, .int .i64 0, .slice none 0 0] 25)).rowIs (w.heap.size + 1) 25 4 (netAt (.int .i64 0) (.int .i64 0) (.int .i64 0) (.slice none 0 0))) := by
    have := netAt_new (w.alloc (.cells #[.int .i64 N, .int .i64 E, .int .i64 S, .slice a n c] 25)) (.int .i64 0) (.int .i64 0) (.int .i64 0) (.slice none 0 0) 25
    simpa [Hid] using this
  have HP0 : Hid (((w.alloc (.cells #[.int .i64 N, .int .i64 E, .int .i64 S, .slice a n c] 25)).alloc (.cells #[.int .i64 0, .int .i64 0, .int .i64 0, .slice none 0 0] 25)).rowIs w.heap.size 25 4 (netAt (.int .i64 N) (.int .i64 E) (.int .i64 S) (.slice a n c))) := (netAt_new _ _ _ _ _ _).alloc _
  go_enter Try.func50, Try.ntmps50
  go_wp2_with fail
  refine (KN.out _ (HR.out.below (by (repeat' (first | (with_reducible exact Below.refl _ _) | (with_reducible assumption) | (with_reducible refine balloc ?_ _) | (with_reducible refine Below.drew ?_) | (with_reducible refine below_drewN ?_ _) | (with_reducible refine bset ?_ ?_ _) | (with_reducible refine bstep ?_ (by assumption)) | go_size))))).mono ?_
  rintro e w1 ⟨rfl, hb1⟩
  have HA1 := Lib.hid (HA0.out.of_block (hb1.block _ HA0.out.lt))
  have HP1 := Lib.hid (HP0.out.of_block (hb1.block _ HP0.out.lt))
  have B1 : Hid (Below w.heap.size w w1) := bstep (by (repeat' (first | (with_reducible exact Below.refl _ _) | (with_reducible assumption) | (with_reducible refine balloc ?_ _) | (with_reducible refine Below.drew ?_) | (with_reducible refine below_drewN ?_ _) | (with_reducible refine bset ?_ ?_ _) | (with_reducible refine bstep ?_ (by assumption)) | go_size))) hb1
  clear HA0 HP0 hb1
  have hlP1 := HP1.out.lt
  obtain ⟨t0, t1, t2, t3⟩ := netAt_cells HP1.out
  obtain ⟨r0, r1, r2, r3⟩ := netAt_cells HA1.out
  have f0 := HA1.out.frozen 0
  have f1 := HA1.out.frozen 1
  have f2 := HA1.out.frozen 2
  have f3 := HA1.out.frozen 3
  have hlA1 := HA1.out.lt
  go_wp2_with fail
  have rs0 : (w1.cell? { block := w.heap.size + 1, off := 0 }).isSome = true := by simp [go_sem, *]
  have rs1 : (w1.cell? { block := w.heap.size + 1, off := 1 }).isSome = true := by simp [go_sem, *]
  have rs2 : (w1.cell? { block := w.heap.size + 1, off := 2 }).isSome = true := by simp [go_sem, *]
  have rs3 : (w1.cell? { block := w.heap.size + 1, off := 3 }).isSome = true := by simp [go_sem, *]
  refine bodyPost_ret (v := (.tuple #[netV 0 0 0 none 0 0, .bool false])) (by simp [results, Try.results50, go_sem, rs0, rs1, rs2, rs3]; try rfl) rfl ?_
  exact ⟨rfl, by have := B1.out; (repeat' (first | (with_reducible exact Below.refl _ _) | (with_reducible assumption) | (with_reducible refine balloc ?_ _) | (with_reducible refine Below.drew ?_) | (with_reducible refine below_drewN ?_ _) | (with_reducible refine bset ?_ ?_ _) | (with_reducible refine bstep ?_ (by assumption)) | go_size))⟩
set_option maxRecDepth 100000 in
set_option maxHeartbeats 8000000 in
theorem implSwapNodes1 (M : Nat) (E S : Int) (a : Option Addr) (n c : Nat) (l : List Wz) (p : Int) (q : Int) (hok : NetOk M E S l) (hbad : ¬ ((0 ≤ p ∧ p < M) ∧ (0 ≤ q ∧ q < M))) (w : World) (hr : ArgRow w a n c 3 (wires l)) (hl : l.length = n) :
    Calls Try.prog 50 #[netV M E S a n c, .int .i64 p, .int .i64 q] w fun e w' => e = .returned (.tuple #[netV 0 0 0 none 0 0, .bool false]) ∧ Below w.heap.size w w' := by
  have HR := Lib.hid hr
  have KN := Lib.hid (fun (w : World) rr => implNetOk M E S a n c l true ⟨fun _ => hok, fun _ => rfl⟩ w rr hl)
  by_cases hp : 0 ≤ p ∧ p < M
  rotate_left
  · have KP := Lib.hid (fun (w : World) => implIsNode M E S a n c p false ⟨(fun h => by cases h), fun h => absurd h hp⟩ w)
    clear hr hok hbad hp
    have HA0 : Hid (((w.alloc (.cells #[.int .i64 M, .int .i64 E, .int .i64 S, .slice a n c] 25)).alloc (.cells #[.int .i64 0, .int .i64 0, .int .i64 0, .slice none 0 0] 25)).rowIs (w.heap.size + 1) 25 4 (netAt (.int .i64 0) (.int .i64 0) (.int .i64 0) (.slice none 0 0))) := by
      have := netAt_new (w.alloc (.cells #[.int .i64 M, .int .i64 E, .int .i64 S, .slice a n c] 25)) (.int .i64 0) (.int .i64 0) (.int .i64 0) (.slice none 0 0) 25
      simpa [Hid] using this
    have HP0 : Hid (((w.alloc (.cells #[.int .i64 M, .int .i64 E, .int .i64 S, .slice a n c] 25)).alloc (.cells #[.int .i64 0, .int .i64 0, .int .i64 0, .slice none 0 0] 25)).rowIs w.heap.size 25 4 (netAt (.int .i64 M) (.int .i64 E) (.int .i64 S) (.slice a n c))) := (netAt_new _ _ _ _ _ _).alloc _
    go_enter Try.func50, Try.ntmps50
    go_wp2_with fail
    refine (KN.out _ (HR.out.below (by (repeat' (first | (with_reducible exact Below.refl _ _) | (with_reducible assumption) | (with_reducible refine balloc ?_ _) | (with_reducible refine Below.drew ?_) | (with_reducible refine below_drewN ?_ _) | (with_reducible refine bset ?_ ?_ _) | (with_reducible refine bstep ?_ (by assumption)) | go_size))))).mono ?_
    rintro e w1 ⟨rfl, hb1⟩
    have HA1 := Lib.hid (HA0.out.of_block (hb1.block _ HA0.out.lt))
    have HP1 := Lib.hid (HP0.out.of_block (hb1.block _ HP0.out.lt))
    have B1 : Hid (Below w.heap.size w w1) := bstep (by (repeat' (first | (with_reducible exact Below.refl _ _) | (with_reducible assumption) | (with_reducible refine balloc ?_ _) | (with_reducible refine Below.drew ?_) | (with_reducible refine below_drewN ?_ _) | (with_reducible refine bset ?_ ?_ _) | (with_reducible refine bstep ?_ (by assumption)) | go_size))) hb1
    clear HA0 HP0 hb1
    have hlP1 := HP1.out.lt
    obtain ⟨t0, t1, t2, t3⟩ := netAt_cells HP1.out
    go_wp2_with fail
    refine (KP.out _).mono ?_
    rintro e w2 ⟨rfl, hb2⟩
    clear t0 t1 t2 t3
    have HA2 := Lib.hid (HA1.out.of_block (hb2.block _ HA1.out.lt))
    have HP2 := Lib.hid (HP1.out.of_block (hb2.block _ HP1.out.lt))
    have B2 : Hid (Below w.heap.size w w2) := bstep B1.out hb2
    clear HA1 HP1 hb2
    have hlP2 := HP2.out.lt
    obtain ⟨t0, t1, t2, t3⟩ := netAt_cells HP2.out
    obtain ⟨r0, r1, r2, r3⟩ := netAt_cells HA2.out
    have f0 := HA2.out.frozen 0
    have f1 := HA2.out.frozen 1
    have f2 := HA2.out.frozen 2
    have f3 := HA2.out.frozen 3
    have hlA2 := HA2.out.lt
    go_wp2_with fail
    have rs0 : (w2.cell? { block := w.heap.size + 1, off := 0 }).isSome = true := by simp [go_sem, *]
    have rs1 : (w2.cell? { block := w.heap.size + 1, off := 1 }).isSome = true := by simp [go_sem, *]
    have rs2 : (w2.cell? { block := w.heap.size + 1, off := 2 }).isSome = true := by simp [go_sem, *]
    have rs3 : (w2.cell? { block := w.heap.size + 1, off := 3 }).isSome = true := by simp [go_sem, *]
    refine bodyPost_ret (v := (.tuple #[netV 0 0 0 none 0 0, .bool false])) (by simp [results, Try.results50, go_sem, rs0, rs1, rs2, rs3]; try rfl) rfl ?_
    exact ⟨rfl, by have := B2.out; (repeat' (first | (with_reducible exact Below.refl _ _) | (with_reducible assumption) | (with_reducible refine balloc ?_ _) | (with_reducible refine Below.drew ?_) | (with_reducible refine below_drewN ?_ _) | (with_reducible refine bset ?_ ?_ _) | (with_reducible refine bstep ?_ (by assumption)) | go_size))⟩
  have hq : ¬ (0 ≤ q ∧ q < M) := fun h => hbad ⟨hp, h⟩
  have KP := Lib.hid (fun (w : World) => implIsNode M E S a n c p true ⟨fun _ => hp, fun _ => rfl⟩ w)
  have KQ := Lib.hid (fun (w : World) => implIsNode M E S a n c q false ⟨(fun h => by cases h), fun h => absurd h hq⟩ w)
  clear hr hok hbad hp hq
  have HA0 : Hid (((w.alloc (.cells #[.int .i64 M, .int .i64 E, .int .i64 S, .slice a n c] 25)).alloc (.cells #[.int .i64 0, .int .i64 0, .int .i64 0, .slice none 0 0] 25)).rowIs (w.heap.size + 1) 25 4 (netAt (.int .i64 0) (.int .i64 0) (.int .i64 0) (.slice none 0 0))) := by
    have := netAt_new (w.alloc (.cells #[.int .i64 M, .int .i64 E, .int .i64 S, .slice a n c] 25)) (.int .i64 0) (.int .i64 0) (.int .i64 0) (.slice none 0 0) 25
    simpa [Hid] using this
  have HP0 : Hid (((w.alloc (.cells #[.int .i64 M, .int .i64 E, .int .i64 S, .slice a n c] 25)).alloc (.cells #[.int .i64 0, .int .i64 0, .int .i64 0, .slice none 0 0] 25)).rowIs w.heap.size 25 4 (netAt (.int .i64 M) (.int .i64 E) (.int .i64 S) (.slice a n c))) := (netAt_new _ _ _ _ _ _).alloc _
  go_enter Try.func50, Try.ntmps50
  go_wp2_with fail
  refine (KN.out _ (HR.out.below (by (repeat' (first | (with_reducible exact Below.refl _ _) | (with_reducible assumption) | (with_reducible refine balloc ?_ _) | (with_reducible refine Below.drew ?_) | (with_reducible refine below_drewN ?_ _) | (with_reducible refine bset ?_ ?_ _) | (with_reducible refine bstep ?_ (by assumption)) | go_size))))).mono ?_
  rintro e w1 ⟨rfl, hb1⟩
  have HA1 := Lib.hid (HA0.out.of_block (hb1.block _ HA0.out.lt))
  have HP1 := Lib.hid (HP0.out.of_block (hb1.block _ HP0.out.lt))
  have B1 : Hid (Below w.heap.size w w1) := bstep (by (repeat' (first | (with_reducible exact Below.refl _ _) | (with_reducible assumption) | (with_reducible refine balloc ?_ _) | (with_reducible refine Below.drew ?_) | (with_reducible refine below_drewN ?_ _) | (with_reducible refine bset ?_ ?_ _) | (with_reducible refine bstep ?_ (by assumption)) | go_size))) hb1
  clear HA0 HP0 hb1
  have hlP1 := HP1.out.lt
  obtain ⟨t0, t1, t2, t3⟩ := netAt_cells HP1.out
  go_wp2_with fail
  refine (KP.out _).mono ?_
  rintro e w2 ⟨rfl, hb2⟩
  clear t0 t1 t2 t3
  have HA2 := Lib.hid (HA1.out.of_block (hb2.block _ HA1.out.lt))
  have HP2 := Lib.hid (HP1.out.of_block (hb2.block _ HP1.out.lt))
  have B2 : Hid (Below w.heap.size w w2) := bstep B1.out hb2
  clear HA1 HP1 hb2
  have hlP2 := HP2.out.lt
  obtain ⟨t0, t1, t2, t3⟩ := netAt_cells HP2.out
  go_wp2_with fail
  refine (KQ.out _).mono ?_
  rintro e w3 ⟨rfl, hb3⟩
  clear t0 t1 t2 t3
  have HA3 := Lib.hid (HA2.out.of_block (hb3.block _ HA2.out.lt))
  have HP3 := Lib.hid (HP2.out.of_block (hb3.block _ HP2.out.lt))
  have B3 : Hid (Below w.heap.size w w3) := bstep B2.out hb3
  clear HA2 HP2 hb3
  have hlP3 := HP3.out.lt
  obtain ⟨t0, t1, t2, t3⟩ := netAt_cells HP3.out
  obtain ⟨r0, r1, r2, r3⟩ := netAt_cells HA3.out
  have f0 := HA3.out.frozen 0
  have f1 := HA3.out.frozen 1
  have f2 := HA3.out.frozen 2
  have f3 := HA3.out.frozen 3
  have hlA3 := HA3.out.lt
  go_wp2_with fail
  have rs0 : (w3.cell? { block := w.heap.size + 1, off := 0 }).isSome = true := by simp [go_sem, *]
  have rs1 : (w3.cell? { block := w.heap.size + 1, off := 1 }).isSome = true := by simp [go_sem, *]
  have rs2 : (w3.cell? { block := w.heap.size + 1, off := 2 }).isSome = true := by simp [go_sem, *]
  have rs3 : (w3.cell? { block := w.heap.size + 1, off := 3 }).isSome = true := by simp [go_sem, *]
  refine bodyPost_ret (v := (.tuple #[netV 0 0 0 none 0 0, .bool false])) (by simp [results, Try.results50, go_sem, rs0, rs1, rs2, rs3]; try rfl) rfl ?_
  exact ⟨rfl, by have := B3.out; (repeat' (first | (with_reducible exact Below.refl _ _) | (with_reducible assumption) | (with_reducible refine balloc ?_ _) | (with_reducible refine Below.drew ?_) | (with_reducible refine below_drewN ?_ _) | (with_reducible refine bset ?_ ?_ _) | (with_reducible refine bstep ?_ (by assumption)) | go_size))⟩
end Go.Proofs.Ytjchindjoailbaa

/- CanonNet of the program. -/
namespace Go.Proofs.Ytjchindjoailbaa
set_option linter.unusedSimpArgs false
set_option linter.unusedVariables false
open Go.RowKit

set_option maxRecDepth 100000 in
set_option maxHeartbeats 8000000 in
theorem implCanonNet (M : Nat) (E S : Int) (a : Option Addr) (n c : Nat) (l : List Wz) (hok : NetOk M E S l) (w : World) (hr : ArgRow w a n c 3 (wires l)) (hl : l.length = n) :
    Calls Try.prog 51 #[netV M E S a n c] w fun e w' => NetRes e w w' true M E (Int.tdiv S (gL S.toNat l)) (divL (gL S.toNat l) l) ∧ Below w.heap.size w w' := by
  have HR := Lib.hid hr
  have KN := Lib.hid (fun (w : World) rr => implNetOk M E S a n c l true ⟨fun _ => hok, fun _ => rfl⟩ w rr hl)
  have hM5 : M ≤ 5 := by have := hok.h.n5; omega
  have hM1 : 1 ≤ M := by have := hok.h.n1; omega
  have hMx : M ≤ maxLen := by unfold maxLen; omega
  have KT := Lib.hid (fun (w : World) rr => implTable M E S a n c l hM5 hok.asc w rr hl)
  obtain ⟨s, rfl⟩ : ∃ s : Nat, S = s := ⟨S.toNat, by have := hok.h.s1; omega⟩
  have hs1 : 0 < s := by have := hok.h.s1; omega
  have hs2 : s ≤ 1000000000000000000 := by have := hok.h.s2; omega
  have hTL : tabL (wbF l) M M = l := hok.tabL rfl
  simp only [Int.toNat_natCast]
  obtain ⟨D, hD⟩ : ∃ D : Int, D = Int.tdiv (s : Int) (gL s l) := ⟨_, rfl⟩
  obtain ⟨L2, hL2⟩ : ∃ L2, L2 = divL (gL s l) l := ⟨_, rfl⟩
  obtain ⟨m2, hm2⟩ : ∃ m2, L2.length = m2 := ⟨_, rfl⟩
  have KO : Hid (∀ (w : World) (g : Nat), IGrid w (some ⟨g, 0, none⟩) M M (tab M (wbF l)) → Calls Try.prog 102 #[.int .i64 E, .int .i64 s, .slice (some ⟨g, 0, none⟩) M M, .bool true] w fun e w' => ∃ a' c', e = .returned (.tuple #[netV M E D a' m2 c', .bool true]) ∧ w'.ownsRow w.heap.size 102 3 (.slice a' m2 c') m2 (wires L2) ∧ Below w.heap.size w w') := by
    intro w g rr
    have h0 := implNetOf M E s (wbF l) (some ⟨g, 0, none⟩) M true true ⟨hM1, hM5⟩ hs1 hs2 (fun i j => by have := hok.wb i j; omega) (by rw [if_pos rfl, if_pos rfl, hTL]; exact ⟨fun _ => hok.canon rfl, fun _ => rfl⟩) w rr
    refine h0.mono ?_
    rintro e w' ⟨h1, h2⟩
    simp only [if_true, hTL] at h1
    rw [← hD, ← hL2] at h1
    unfold NetRes at h1
    rw [if_pos rfl, hm2] at h1
    obtain ⟨a', c', h3, h4⟩ := h1
    exact ⟨a', c', h3, h4, h2⟩
  rw [← hD, ← hL2]
  have HM2 := Lib.hid hm2
  have HSM : Hid (s ≤ 1000) := by have := hok.h.s2; show _ ≤ _; omega
  clear hr hok hTL hD hL2 hm2
  have HA0 : Hid (((w.alloc (.cells #[.int .i64 M, .int .i64 E, .int .i64 s, .slice a n c] 25)).alloc (.cells #[.int .i64 0, .int .i64 0, .int .i64 0, .slice none 0 0] 25)).rowIs (w.heap.size + 1) 25 4 (netAt (.int .i64 0) (.int .i64 0) (.int .i64 0) (.slice none 0 0))) := by
    have := netAt_new (w.alloc (.cells #[.int .i64 M, .int .i64 E, .int .i64 s, .slice a n c] 25)) (.int .i64 0) (.int .i64 0) (.int .i64 0) (.slice none 0 0) 25
    simpa [Hid] using this
  have HP0 : Hid (((w.alloc (.cells #[.int .i64 M, .int .i64 E, .int .i64 s, .slice a n c] 25)).alloc (.cells #[.int .i64 0, .int .i64 0, .int .i64 0, .slice none 0 0] 25)).rowIs w.heap.size 25 4 (netAt (.int .i64 M) (.int .i64 E) (.int .i64 s) (.slice a n c))) := (netAt_new _ _ _ _ _ _).alloc _
  go_enter Try.func51, Try.ntmps51
  go_wp2_with fail
  refine (KN.out _ (HR.out.below (by (repeat' (first | (with_reducible exact Below.refl _ _) | (with_reducible assumption) | (with_reducible refine balloc ?_ _) | (with_reducible refine Below.drew ?_) | (with_reducible refine below_drewN ?_ _) | (with_reducible refine bset ?_ ?_ _) | (with_reducible refine bstep ?_ (by assumption)) | go_size))))).mono ?_
  rintro e w1 ⟨rfl, hb1⟩
  have HA1 := Lib.hid (HA0.out.of_block (hb1.block _ HA0.out.lt))
  have HP1 := Lib.hid (HP0.out.of_block (hb1.block _ HP0.out.lt))
  have B1 : Hid (Below w.heap.size w w1) := bstep (by (repeat' (first | (with_reducible exact Below.refl _ _) | (with_reducible assumption) | (with_reducible refine balloc ?_ _) | (with_reducible refine Below.drew ?_) | (with_reducible refine below_drewN ?_ _) | (with_reducible refine bset ?_ ?_ _) | (with_reducible refine bstep ?_ (by assumption)) | go_size))) hb1
  clear HA0 HP0 hb1
  obtain ⟨t0, t1, t2, t3⟩ := netAt_cells HP1.out
  obtain ⟨r0, r1, r2, r3⟩ := netAt_cells HA1.out
  have f0 := HA1.out.frozen 0
  have f1 := HA1.out.frozen 1
  have f2 := HA1.out.frozen 2
  have f3 := HA1.out.frozen 3
  have hlA1 := HA1.out.lt
  have hlP1 := HP1.out.lt
  have B1' := B1.out
  go_wp2_with fail
  go_region_held3 (fun w' => w'.cell? ⟨w.heap.size, 0, none⟩ = some (.int .i64 M) ∧ w'.cell? ⟨w.heap.size, 1, none⟩ = some (.int .i64 E) ∧ w'.cell? ⟨w.heap.size, 2, none⟩ = some (.int .i64 s) ∧ w'.cell? ⟨w.heap.size, 3, none⟩ = some (.slice a n c)) (go_keep)
    ((first
    | (go_at_call 101; ((with_reducible refine (KT.out _ (HR.out.below (by (repeat' (first | (with_reducible exact Below.refl _ _) | (with_reducible assumption) | (with_reducible refine balloc ?_ _) | (with_reducible refine Below.drew ?_) | (with_reducible refine below_drewN ?_ _) | (with_reducible refine bset ?_ ?_ _) | (with_reducible refine bstep ?_ (by assumption)) | go_size))))).mono ?_); rintro e wT ⟨gT, rT, rfl, oT, hbT⟩); (try (replace hbT := bdrew hbT)); have GT := Lib.hid (PG.grid oT hMx); clear oT; (try (have hq_ := bltn hbT (b := w.heap.size) (by (first | omega | (simp only [World.size_alloc, World.size_setCell, World.size_drew, World.heap_drewN]; omega))); obtain ⟨uu, vv, zz, nn, mm⟩ := hq_)); (try (have hq_ := bltn hbT (b := w.heap.size + 1) (by (first | omega | (simp only [World.size_alloc, World.size_setCell, World.size_drew, World.heap_drewN]; omega))); obtain ⟨uu, vv, zz, nn, mm⟩ := hq_)))
    | (go_at_call 102; ((with_reducible refine (KO.out _ gT (by first | exact GT.out | exact GT.out.below (by (repeat' (first | (with_reducible exact Below.refl _ _) | (with_reducible assumption) | (with_reducible refine balloc ?_ _) | (with_reducible refine Below.drew ?_) | (with_reducible refine below_drewN ?_ _) | (with_reducible refine bset ?_ ?_ _) | (with_reducible refine bstep ?_ (by assumption)) | go_size))))).mono ?_); rintro e wO ⟨aO, cO, rfl, oO, hbO⟩); (try (replace hbO := bdrew hbO)); have OO := Lib.hid oO; clear oO; (try (have hq_ := bltn hbO (b := w.heap.size) (by (first | omega | (simp only [World.size_alloc, World.size_setCell, World.size_drew, World.heap_drewN]; omega))); obtain ⟨uu, vv, zz, nn, mm⟩ := hq_)); (try (have hq_ := bltn hbO (b := w.heap.size + 1) (by (first | omega | (simp only [World.size_alloc, World.size_setCell, World.size_drew, World.heap_drewN]; omega))); obtain ⟨uu, vv, zz, nn, mm⟩ := hq_)))))
  all_goals
    go_wp2_with fail
    have rs0 : (wO.cell? { block := w.heap.size + 1, off := 0 }).isSome = true := by simp [go_sem, *]
    have rs1 : (wO.cell? { block := w.heap.size + 1, off := 1 }).isSome = true := by simp [go_sem, *]
    have rs2 : (wO.cell? { block := w.heap.size + 1, off := 2 }).isSome = true := by simp [go_sem, *]
    have rs3 : (wO.cell? { block := w.heap.size + 1, off := 3 }).isSome = true := by simp [go_sem, *]
    refine bodyPost_ret (v := (.tuple #[netV M E D aO m2 cO, .bool true])) (by simp [results, Try.results51, go_sem, rs0, rs1, rs2, rs3]; try rfl) rfl ?_
    have HBO : Below w.heap.size w wO := by (repeat' (first | (with_reducible exact Below.refl _ _) | (with_reducible assumption) | (with_reducible refine balloc ?_ _) | (with_reducible refine Below.drew ?_) | (with_reducible refine below_drewN ?_ _) | (with_reducible refine bset ?_ ?_ _) | (with_reducible refine bstep ?_ (by assumption)) | go_size))
    refine ⟨?_, by (repeat' (first | (with_reducible exact Below.refl _ _) | (with_reducible assumption) | (with_reducible refine balloc ?_ _) | (with_reducible refine Below.drew ?_) | (with_reducible refine below_drewN ?_ _) | (with_reducible refine bset ?_ ?_ _) | (with_reducible refine bstep ?_ (by assumption)) | go_size))⟩
    unfold NetRes
    rw [if_pos rfl, HM2.out]
    refine ⟨aO, cO, rfl, ?_⟩
    refine World.ownsRow.mono (base := w.heap.size + 1 + 1) ?_ (by omega)
    have o9 := World.ownsRow.mono (base' := w.heap.size + 1 + 1) OO.out (by (first | omega | (simp only [World.size_alloc, World.size_setCell, World.size_drew, World.heap_drewN]; omega)))
    repeat' (first | with_reducible exact o9 | (with_reducible refine ownsRow_setCell_below ?_ ?_ _) | (dsimp only; omega) | omega)
set_option maxRecDepth 100000 in
set_option maxHeartbeats 8000000 in
theorem implCanonNet0 (N : Int) (E S : Int) (a : Option Addr) (n c : Nat) (l : List Wz) (hok : ¬ NetOk N E S l) (w : World) (hr : ArgRow w a n c 3 (wires l)) (hl : l.length = n) :
    Calls Try.prog 51 #[netV N E S a n c] w fun e w' => e = .returned (.tuple #[netV 0 0 0 none 0 0, .bool false]) ∧ Below w.heap.size w w' := by
  have HR := Lib.hid hr
  have KN := Lib.hid (fun (w : World) rr => implNetOk N E S a n c l false ⟨(fun h => by cases h), fun h => absurd h hok⟩ w rr hl)
  clear hr hok
  have HA0 : Hid (((w.alloc (.cells #[.int .i64 N, .int .i64 E, .int .i64 S, .slice a n c] 25)).alloc (.cells #[.int .i64 0, .int .i64 0, .int .i64 0, .slice none 0 0] 25)).rowIs (w.heap.size + 1) 25 4 (netAt (.int .i64 0) (.int .i64 0) (.int .i64 0) (.slice none 0 0))) := by
    have := netAt_new (w.alloc (.cells #[.int .i64 N, .int .i64 E, .int .i64 S, .slice a n c] 25)) (.int .i64 0) (.int .i64 0) (.int .i64 0) (.slice none 0 0) 25
    simpa [Hid] using this
  have HP0 : Hid (((w.alloc (.cells #[.int .i64 N, .int .i64 E, .int .i64 S, .slice a n c] 25)).alloc (.cells #[.int .i64 0, .int .i64 0, .int .i64 0, .slice none 0 0] 25)).rowIs w.heap.size 25 4 (netAt (.int .i64 N) (.int .i64 E) (.int .i64 S) (.slice a n c))) := (netAt_new _ _ _ _ _ _).alloc _
  go_enter Try.func51, Try.ntmps51
  go_wp2_with fail
  refine (KN.out _ (HR.out.below (by (repeat' (first | (with_reducible exact Below.refl _ _) | (with_reducible assumption) | (with_reducible refine balloc ?_ _) | (with_reducible refine Below.drew ?_) | (with_reducible refine below_drewN ?_ _) | (with_reducible refine bset ?_ ?_ _) | (with_reducible refine bstep ?_ (by assumption)) | go_size))))).mono ?_
  rintro e w1 ⟨rfl, hb1⟩
  have HA1 := Lib.hid (HA0.out.of_block (hb1.block _ HA0.out.lt))
  have HP1 := Lib.hid (HP0.out.of_block (hb1.block _ HP0.out.lt))
  have B1 : Hid (Below w.heap.size w w1) := bstep (by (repeat' (first | (with_reducible exact Below.refl _ _) | (with_reducible assumption) | (with_reducible refine balloc ?_ _) | (with_reducible refine Below.drew ?_) | (with_reducible refine below_drewN ?_ _) | (with_reducible refine bset ?_ ?_ _) | (with_reducible refine bstep ?_ (by assumption)) | go_size))) hb1
  clear HA0 HP0 hb1
  have hlP1 := HP1.out.lt
  obtain ⟨t0, t1, t2, t3⟩ := netAt_cells HP1.out
  obtain ⟨r0, r1, r2, r3⟩ := netAt_cells HA1.out
  have f0 := HA1.out.frozen 0
  have f1 := HA1.out.frozen 1
  have f2 := HA1.out.frozen 2
  have f3 := HA1.out.frozen 3
  have hlA1 := HA1.out.lt
  go_wp2_with fail
  have rs0 : (w1.cell? { block := w.heap.size + 1, off := 0 }).isSome = true := by simp [go_sem, *]
  have rs1 : (w1.cell? { block := w.heap.size + 1, off := 1 }).isSome = true := by simp [go_sem, *]
  have rs2 : (w1.cell? { block := w.heap.size + 1, off := 2 }).isSome = true := by simp [go_sem, *]
  have rs3 : (w1.cell? { block := w.heap.size + 1, off := 3 }).isSome = true := by simp [go_sem, *]
  refine bodyPost_ret (v := (.tuple #[netV 0 0 0 none 0 0, .bool false])) (by simp [results, Try.results51, go_sem, rs0, rs1, rs2, rs3]; try rfl) rfl ?_
  exact ⟨rfl, by have := B1.out; (repeat' (first | (with_reducible exact Below.refl _ _) | (with_reducible assumption) | (with_reducible refine balloc ?_ _) | (with_reducible refine Below.drew ?_) | (with_reducible refine below_drewN ?_ _) | (with_reducible refine bset ?_ ?_ _) | (with_reducible refine bstep ?_ (by assumption)) | go_size))⟩
end Go.Proofs.Ytjchindjoailbaa

/- PutWire of the program. -/
namespace Go.Proofs.Ytjchindjoailbaa
set_option linter.unusedSimpArgs false
set_option linter.unusedVariables false
open Go.RowKit

/-- the weights when the weight between p and q is wt -/
def putF (l : List Wz) (p q wt i j : Int) : Int := if (i = p ∧ j = q) ∨ (i = q ∧ j = p) then wt else wbF l i j
theorem putF_tab {M : Nat} {E S : Int} {l : List Wz} (h : NetOk M E S l) {p q wt : Int} (hp : 0 ≤ p ∧ p < M) (hq : 0 ≤ q ∧ q < M) (hne : ¬ p = q) : tabL (putF l p q wt) M M = dropL (putL l (min p q) (max p q) wt false) := by
  refine srt_eq (tabL_srt _ _ _) (dropL_srt (putL_srt h.srt _ _ _ _)) (fun y => ?_)
  rw [tabL_mem, dropL_mem, putL_mem]
  simp only [Bool.false_eq_true, if_false]
  obtain ⟨y1, y2, y3⟩ := y
  simp only
  constructor
  · rintro ⟨g1, g2, g3, g4, g5, g6⟩
    refine ⟨?_, by rw [g5]; exact g6⟩
    by_cases hk : y1 = min p q ∧ y2 = max p q
    · left
      have : putF l p q wt y1 y2 = wt := by unfold putF; rw [if_pos (by omega)]
      rw [g5, this, hk.1, hk.2]
    · right
      refine ⟨?_, hk⟩
      have e : putF l p q wt y1 y2 = wbF l y1 y2 := by unfold putF; rw [if_neg (by omega)]
      rw [e] at g5 g6
      rw [g5]
      exact wbF_find h.asc g3 g6
  · rintro ⟨h1 | ⟨h1, h2⟩, h3⟩
    · simp only [Prod.mk.injEq] at h1
      obtain ⟨rfl, rfl, rfl⟩ := h1
      have : putF l p q y3 (min p q) (max p q) = y3 := by unfold putF; rw [if_pos (by omega)]
      rw [this]
      exact ⟨by omega, by omega, by omega, by omega, rfl, h3⟩
    · obtain ⟨g1, g2, g3, g4, g5⟩ := h.good h1
      simp only at g1 g2 g3 g4 g5
      have e : putF l p q wt y1 y2 = wbF l y1 y2 := by unfold putF; rw [if_neg (by omega)]
      have e2 := wbF_mem h.srt h.asc h1
      simp only at e2
      rw [e, e2]
      exact ⟨g1, by omega, g2, g3, rfl, h3⟩
theorem putF_bd {M : Nat} {E S : Int} {l : List Wz} (h : NetOk M E S l) {wt : Int} (hw : 0 ≤ wt ∧ wt ≤ 200) (p q i j : Int) : -1000000000000000000 ≤ putF l p q wt i j ∧ putF l p q wt i j ≤ 1000000000000000000 := by
  have := h.wb i j
  unfold putF; split <;> omega
set_option maxRecDepth 100000 in
set_option maxHeartbeats 8000000 in
theorem implPutWire (M : Nat) (E S : Int) (a : Option Addr) (n c : Nat) (l : List Wz) (p : Int) (q : Int) (wt : Int) (hp : 0 ≤ p ∧ p < M) (hq : 0 ≤ q ∧ q < M) (hne : ¬ p = q) (hwt : 0 ≤ wt ∧ wt ≤ 200) (hok : NetOk M E S l) (ok : Bool) (hoo : ok = true ↔ NetOk M E S (dropL (putL l (min p q) (max p q) wt false))) (w : World) (hr : ArgRow w a n c 3 (wires l)) (hl : l.length = n) :
    Calls Try.prog 52 #[netV M E S a n c, .int .i64 p, .int .i64 q, .int .i64 wt] w fun e w' => NetRes e w w' ok M E S (dropL (putL l (min p q) (max p q) wt false)) ∧ Below w.heap.size w w' := by
  have HR := Lib.hid hr
  have KN := Lib.hid (fun (w : World) rr => implNetOk M E S a n c l true ⟨fun _ => hok, fun _ => rfl⟩ w rr hl)
  have KP := Lib.hid (fun (w : World) => implIsNode M E S a n c p true ⟨fun _ => hp, fun _ => rfl⟩ w)
  have KQ := Lib.hid (fun (w : World) => implIsNode M E S a n c q true ⟨fun _ => hq, fun _ => rfl⟩ w)
  have hM5 : M ≤ 5 := by have := hok.h.n5; omega
  have hM1 : 1 ≤ M := by have := hok.h.n1; omega
  have KT := Lib.hid (fun (w : World) rr => implTable M E S a n c l hM5 hok.asc w rr hl)
  obtain ⟨s, rfl⟩ : ∃ s : Nat, S = s := ⟨S.toNat, by have := hok.h.s1; omega⟩
  have hs1 : 0 < s := by have := hok.h.s1; omega
  have hs2 : s ≤ 1000000000000000000 := by have := hok.h.s2; omega
  have hVT := putF_tab (wt := wt) hok hp hq hne
  have KO := Lib.hid (fun (w : World) (g : Nat) rr => implNetOf M E s (putF l p q wt) (some ⟨g, 0, none⟩) M false ok ⟨hM1, hM5⟩ hs1 hs2 (putF_bd hok hwt p q) (by simp only [Bool.false_eq_true, if_false]; rw [hVT]; exact hoo) w rr)
  simp only [Bool.false_eq_true, if_false, hVT] at KO
  generalize dropL (putL l (min p q) (max p q) wt false) = L2 at KO ⊢
  obtain ⟨P, rfl⟩ : ∃ P : Nat, p = P := ⟨p.toNat, by omega⟩
  obtain ⟨Q, rfl⟩ : ∃ Q : Nat, q = Q := ⟨q.toNat, by omega⟩
  have hPM : P < M := by omega
  have hQM : Q < M := by omega
  have hPQ : ¬ P = Q := by omega
  have hPQ2 : ((P : Int) == (Q : Int)) = false := by simp; omega
  have hPQ3 : (P == Q) = false := by simp; omega
  clear hr hok hoo hVT
  have HA0 : Hid (((w.alloc (.cells #[.int .i64 M, .int .i64 E, .int .i64 s, .slice a n c] 25)).alloc (.cells #[.int .i64 0, .int .i64 0, .int .i64 0, .slice none 0 0] 25)).rowIs (w.heap.size + 1) 25 4 (netAt (.int .i64 0) (.int .i64 0) (.int .i64 0) (.slice none 0 0))) := by
    have := netAt_new (w.alloc (.cells #[.int .i64 M, .int .i64 E, .int .i64 s, .slice a n c] 25)) (.int .i64 0) (.int .i64 0) (.int .i64 0) (.slice none 0 0) 25
    simpa [Hid] using this
  have HP0 : Hid (((w.alloc (.cells #[.int .i64 M, .int .i64 E, .int .i64 s, .slice a n c] 25)).alloc (.cells #[.int .i64 0, .int .i64 0, .int .i64 0, .slice none 0 0] 25)).rowIs w.heap.size 25 4 (netAt (.int .i64 M) (.int .i64 E) (.int .i64 s) (.slice a n c))) := (netAt_new _ _ _ _ _ _).alloc _
  go_enter Try.func52, Try.ntmps52
  go_wp2_with fail
  refine (KN.out _ (HR.out.below (by (repeat' (first | (with_reducible exact Below.refl _ _) | (with_reducible assumption) | (with_reducible refine balloc ?_ _) | (with_reducible refine Below.drew ?_) | (with_reducible refine below_drewN ?_ _) | (with_reducible refine bset ?_ ?_ _) | (with_reducible refine bstep ?_ (by assumption)) | go_size))))).mono ?_
  rintro e w1 ⟨rfl, hb1⟩
  have HA1 := Lib.hid (HA0.out.of_block (hb1.block _ HA0.out.lt))
  have HP1 := Lib.hid (HP0.out.of_block (hb1.block _ HP0.out.lt))
  have B1 : Hid (Below w.heap.size w w1) := bstep (by (repeat' (first | (with_reducible exact Below.refl _ _) | (with_reducible assumption) | (with_reducible refine balloc ?_ _) | (with_reducible refine Below.drew ?_) | (with_reducible refine below_drewN ?_ _) | (with_reducible refine bset ?_ ?_ _) | (with_reducible refine bstep ?_ (by assumption)) | go_size))) hb1
  clear HA0 HP0 hb1
  have hlP1 := HP1.out.lt
  obtain ⟨t0, t1, t2, t3⟩ := netAt_cells HP1.out
  go_wp2_with fail
  refine (KP.out _).mono ?_
  rintro e w2 ⟨rfl, hb2⟩
  clear t0 t1 t2 t3
  have HA2 := Lib.hid (HA1.out.of_block (hb2.block _ HA1.out.lt))
  have HP2 := Lib.hid (HP1.out.of_block (hb2.block _ HP1.out.lt))
  have B2 : Hid (Below w.heap.size w w2) := bstep B1.out hb2
  clear HA1 HP1 hb2
  have hlP2 := HP2.out.lt
  obtain ⟨t0, t1, t2, t3⟩ := netAt_cells HP2.out
  go_wp2_with fail
  refine (KQ.out _).mono ?_
  rintro e w3 ⟨rfl, hb3⟩
  clear t0 t1 t2 t3
  have HA3 := Lib.hid (HA2.out.of_block (hb3.block _ HA2.out.lt))
  have HP3 := Lib.hid (HP2.out.of_block (hb3.block _ HP2.out.lt))
  have B3 : Hid (Below w.heap.size w w3) := bstep B2.out hb3
  clear HA2 HP2 hb3
  have hlP3 := HP3.out.lt
  obtain ⟨t0, t1, t2, t3⟩ := netAt_cells HP3.out
  go_wp2_with fail
  refine (KT.out _ (HR.out.below B3.out)).mono ?_
  rintro e w4 ⟨g, r, rfl, G4, hb4⟩
  clear t0 t1 t2 t3
  have hs34 := hb4.size
  have HA4 := Lib.hid (HA3.out.of_block (hb4.block _ HA3.out.lt))
  have HP4 := Lib.hid (HP3.out.of_block (hb4.block _ HP3.out.lt))
  have B4 : Hid (Below w.heap.size w w4) := bstep B3.out hb4
  have hlb3 : w.heap.size + 1 < w3.heap.size := HA3.out.lt
  clear HA3 HP3 hb4
  have G5 := G4.put (i := P) (j := Q) hPM wt
  have G6 := G5.put (i := Q) (j := P) hQM wt
  have hI := (G6.congr (f' := fun i j => putF l P Q wt i j) (fun i j _ _ => by
    unfold putF
    by_cases e1 : i = Q ∧ j = P
    · rw [if_pos e1, if_pos (by omega)]
    · rw [if_neg e1]
      by_cases e2 : i = P ∧ j = Q
      · rw [if_pos e2, if_pos (by omega)]
      · rw [if_neg e2, if_neg (by omega)])).grid (by unfold maxLen; omega)
  have o1 := G4.outer (i := P) hPM
  have o2 := G4.outer (i := Q) hQM
  have c1 := G4.cell (i := P) (j := Q) hPM hQM
  have c2 := G4.cell (i := Q) (j := P) hQM hPM
  have d1 := (G4.rows P hPM).frozen Q
  have d2 := (G4.rows Q hQM).frozen P
  have l1 := (G4.rows P hPM).lt
  have l2 := (G4.rows Q hQM).lt
  have lg := G4.og.lt
  have hg1 := G4.ne P hPM
  have hg2 := G4.ne Q hQM
  have hg12 : ¬ r P = r Q := fun e => hPQ (G4.inj P Q hPM hQM e)
  have b1 := G4.lb P hPM
  have b2 := G4.lb Q hQM
  have bg := G4.lbg
  have HI := Lib.hid hI
  have HB6 : Hid (Below w.heap.size w ((w4.setCell ⟨r P, Q, none⟩ (.int .i64 wt)).setCell ⟨r Q, P, none⟩ (.int .i64 wt))) := bset (bset B4.out (by show _ ≤ r P; omega) _) (by show _ ≤ r Q; omega) _
  have HA6 := Lib.hid ((HA4.out.setOther (a := ⟨r P, Q, none⟩) (by show w.heap.size + 1 ≠ r P; omega) (.int .i64 wt)).setOther (a := ⟨r Q, P, none⟩) (by show w.heap.size + 1 ≠ r Q; omega) (.int .i64 wt))
  have HP6 := Lib.hid ((HP4.out.setOther (a := ⟨r P, Q, none⟩) (by show w.heap.size ≠ r P; omega) (.int .i64 wt)).setOther (a := ⟨r Q, P, none⟩) (by show w.heap.size ≠ r Q; omega) (.int .i64 wt))
  generalize r P = ρ1 at *
  generalize r Q = ρ2 at *
  have hg3 : ¬ g = ρ1 := fun e => hg1 e.symm
  have hg4 : ¬ g = ρ2 := fun e => hg2 e.symm
  have hg21 : ¬ ρ2 = ρ1 := fun e => hg12 e.symm
  have hx1 : ¬ w.heap.size = ρ1 := by omega
  have hx2 : ¬ w.heap.size = ρ2 := by omega
  have hx3 : ¬ ρ1 = w.heap.size := by omega
  have hx4 : ¬ ρ2 = w.heap.size := by omega
  have hs6 : w.heap.size + 1 < w4.heap.size := by omega
  clear G4 G5 G6 hI HA4
  have hlP4 := HP4.out.lt
  obtain ⟨t0, t1, t2, t3⟩ := netAt_cells HP4.out
  clear HP4
  go_wp2_with fail
  refine (KO.out _ g HI.out).mono ?_
  rintro e w7 ⟨hres, hb7⟩
  have hb7' := hb7
  simp only [World.size_setCell] at hb7'
  clear t0 t1 t2 t3
  have HA7 := Lib.hid (HA6.out.of_block (hb7.block _ HA6.out.lt))
  have HB7 : Hid (Below w.heap.size w w7) := bstep HB6.out hb7
  clear HP6 HA6 c1 c2 d1 d2 o1 o2
  obtain ⟨r0, r1, r2, r3⟩ := netAt_cells HA7.out
  have f0 := HA7.out.frozen 0
  have f1 := HA7.out.frozen 1
  have f2 := HA7.out.frozen 2
  have f3 := HA7.out.frozen 3
  have hlA7 := HA7.out.lt
  have hs7 := hb7.size
  simp only [World.size_setCell] at hs7
  clear hb7 hb7'
  unfold NetRes at hres
  cases ok
  · rw [if_neg (by simp)] at hres
    subst hres
    go_wp2_with fail
    have rs0 : (w7.cell? { block := w.heap.size + 1, off := 0 }).isSome = true := by simp [go_sem, *]
    have rs1 : (w7.cell? { block := w.heap.size + 1, off := 1 }).isSome = true := by simp [go_sem, *]
    have rs2 : (w7.cell? { block := w.heap.size + 1, off := 2 }).isSome = true := by simp [go_sem, *]
    have rs3 : (w7.cell? { block := w.heap.size + 1, off := 3 }).isSome = true := by simp [go_sem, *]
    refine bodyPost_ret (v := (.tuple #[netV 0 0 0 none 0 0, .bool false])) (by simp [results, Try.results52, go_sem, rs0, rs1, rs2, rs3]; try rfl) rfl ?_
    exact ⟨by unfold NetRes; rw [if_neg (by simp)], by have := HB7.out; (repeat' (first | (with_reducible exact Below.refl _ _) | (with_reducible assumption) | (with_reducible refine balloc ?_ _) | (with_reducible refine Below.drew ?_) | (with_reducible refine below_drewN ?_ _) | (with_reducible refine bset ?_ ?_ _) | (with_reducible refine bstep ?_ (by assumption)) | go_size))⟩
  · rw [if_pos rfl] at hres
    obtain ⟨a7, c7, rfl, o7⟩ := hres
    have O7 := Lib.hid o7
    simp only [World.size_setCell] at O7
    generalize hL2 : L2.length = m2 at O7
    have HL2 := Lib.hid hL2
    clear o7 hL2
    go_wp2_with fail
    have rs0 : (w7.cell? { block := w.heap.size + 1, off := 0 }).isSome = true := by simp [go_sem, *]
    have rs1 : (w7.cell? { block := w.heap.size + 1, off := 1 }).isSome = true := by simp [go_sem, *]
    have rs2 : (w7.cell? { block := w.heap.size + 1, off := 2 }).isSome = true := by simp [go_sem, *]
    have rs3 : (w7.cell? { block := w.heap.size + 1, off := 3 }).isSome = true := by simp [go_sem, *]
    refine bodyPost_ret (v := (.tuple #[netV M E s a7 m2 c7, .bool true])) (by simp [results, Try.results52, go_sem, rs0, rs1, rs2, rs3]; try rfl) rfl ?_
    refine ⟨?_, by have := HB7.out; (repeat' (first | (with_reducible exact Below.refl _ _) | (with_reducible assumption) | (with_reducible refine balloc ?_ _) | (with_reducible refine Below.drew ?_) | (with_reducible refine below_drewN ?_ _) | (with_reducible refine bset ?_ ?_ _) | (with_reducible refine bstep ?_ (by assumption)) | go_size))⟩
    unfold NetRes
    rw [if_pos rfl, HL2.out]
    refine ⟨a7, c7, rfl, ?_⟩
    refine World.ownsRow.mono (base := w.heap.size + 1 + 1) ?_ (by omega)
    have o9 := World.ownsRow.mono (base' := w.heap.size + 1 + 1) O7.out (by omega)
    repeat' (first | with_reducible exact o9 | (with_reducible refine ownsRow_setCell_below ?_ ?_ _) | (dsimp only; omega) | omega)
set_option maxRecDepth 100000 in
set_option maxHeartbeats 8000000 in
theorem implPutWire0 (N : Int) (E S : Int) (a : Option Addr) (n c : Nat) (l : List Wz) (p : Int) (q : Int) (wt : Int) (hok : ¬ NetOk N E S l) (w : World) (hr : ArgRow w a n c 3 (wires l)) (hl : l.length = n) :
    Calls Try.prog 52 #[netV N E S a n c, .int .i64 p, .int .i64 q, .int .i64 wt] w fun e w' => e = .returned (.tuple #[netV 0 0 0 none 0 0, .bool false]) ∧ Below w.heap.size w w' := by
  have HR := Lib.hid hr
  have KN := Lib.hid (fun (w : World) rr => implNetOk N E S a n c l false ⟨(fun h => by cases h), fun h => absurd h hok⟩ w rr hl)
  clear hr hok
  have HA0 : Hid (((w.alloc (.cells #[.int .i64 N, .int .i64 E, .int .i64 S, .slice a n c] 25)).alloc (.cells #[.int .i64 0, .int .i64 0, .int .i64 0, .slice none 0 0] 25)).rowIs (w.heap.size + 1) 25 4 (netAt (.int .i64 0) (.int .i64 0) (.int .i64 0) (.slice none 0 0))) := by
    have := netAt_new (w.alloc (.cells #[.int .i64 N, .int .i64 E, .int .i64 S, .slice a n c] 25)) (.int .i64 0) (.int .i64 0) (.int .i64 0) (.slice none 0 0) 25
    simpa [Hid] using this
  have HP0 : Hid (((w.alloc (.cells #[.int .i64 N, .int .i64 E, .int .i64 S, .slice a n c] 25)).alloc (.cells #[.int .i64 0, .int .i64 0, .int .i64 0, .slice none 0 0] 25)).rowIs w.heap.size 25 4 (netAt (.int .i64 N) (.int .i64 E) (.int .i64 S) (.slice a n c))) := (netAt_new _ _ _ _ _ _).alloc _
  go_enter Try.func52, Try.ntmps52
  go_wp2_with fail
  refine (KN.out _ (HR.out.below (by (repeat' (first | (with_reducible exact Below.refl _ _) | (with_reducible assumption) | (with_reducible refine balloc ?_ _) | (with_reducible refine Below.drew ?_) | (with_reducible refine below_drewN ?_ _) | (with_reducible refine bset ?_ ?_ _) | (with_reducible refine bstep ?_ (by assumption)) | go_size))))).mono ?_
  rintro e w1 ⟨rfl, hb1⟩
  have HA1 := Lib.hid (HA0.out.of_block (hb1.block _ HA0.out.lt))
  have HP1 := Lib.hid (HP0.out.of_block (hb1.block _ HP0.out.lt))
  have B1 : Hid (Below w.heap.size w w1) := bstep (by (repeat' (first | (with_reducible exact Below.refl _ _) | (with_reducible assumption) | (with_reducible refine balloc ?_ _) | (with_reducible refine Below.drew ?_) | (with_reducible refine below_drewN ?_ _) | (with_reducible refine bset ?_ ?_ _) | (with_reducible refine bstep ?_ (by assumption)) | go_size))) hb1
  clear HA0 HP0 hb1
  have hlP1 := HP1.out.lt
  obtain ⟨t0, t1, t2, t3⟩ := netAt_cells HP1.out
  obtain ⟨r0, r1, r2, r3⟩ := netAt_cells HA1.out
  have f0 := HA1.out.frozen 0
  have f1 := HA1.out.frozen 1
  have f2 := HA1.out.frozen 2
  have f3 := HA1.out.frozen 3
  have hlA1 := HA1.out.lt
  go_wp2_with fail
  have rs0 : (w1.cell? { block := w.heap.size + 1, off := 0 }).isSome = true := by simp [go_sem, *]
  have rs1 : (w1.cell? { block := w.heap.size + 1, off := 1 }).isSome = true := by simp [go_sem, *]
  have rs2 : (w1.cell? { block := w.heap.size + 1, off := 2 }).isSome = true := by simp [go_sem, *]
  have rs3 : (w1.cell? { block := w.heap.size + 1, off := 3 }).isSome = true := by simp [go_sem, *]
  refine bodyPost_ret (v := (.tuple #[netV 0 0 0 none 0 0, .bool false])) (by simp [results, Try.results52, go_sem, rs0, rs1, rs2, rs3]; try rfl) rfl ?_
  exact ⟨rfl, by have := B1.out; (repeat' (first | (with_reducible exact Below.refl _ _) | (with_reducible assumption) | (with_reducible refine balloc ?_ _) | (with_reducible refine Below.drew ?_) | (with_reducible refine below_drewN ?_ _) | (with_reducible refine bset ?_ ?_ _) | (with_reducible refine bstep ?_ (by assumption)) | go_size))⟩
set_option maxRecDepth 100000 in
set_option maxHeartbeats 8000000 in
theorem implPutWire1 (M : Nat) (E S : Int) (a : Option Addr) (n c : Nat) (l : List Wz) (p : Int) (q : Int) (wt : Int) (hok : NetOk M E S l) (hbad : ¬ ((0 ≤ p ∧ p < M) ∧ (0 ≤ q ∧ q < M) ∧ ¬ p = q ∧ 0 ≤ wt ∧ wt ≤ 200)) (w : World) (hr : ArgRow w a n c 3 (wires l)) (hl : l.length = n) :
    Calls Try.prog 52 #[netV M E S a n c, .int .i64 p, .int .i64 q, .int .i64 wt] w fun e w' => e = .returned (.tuple #[netV 0 0 0 none 0 0, .bool false]) ∧ Below w.heap.size w w' := by
  have HR := Lib.hid hr
  have KN := Lib.hid (fun (w : World) rr => implNetOk M E S a n c l true ⟨fun _ => hok, fun _ => rfl⟩ w rr hl)
  by_cases hp : 0 ≤ p ∧ p < M
  rotate_left
  · have KP := Lib.hid (fun (w : World) => implIsNode M E S a n c p false ⟨(fun h => by cases h), fun h => absurd h hp⟩ w)
    clear hr hok hbad hp
    have HA0 : Hid (((w.alloc (.cells #[.int .i64 M, .int .i64 E, .int .i64 S, .slice a n c] 25)).alloc (.cells #[.int .i64 0, .int .i64 0, .int .i64 0, .slice none 0 0] 25)).rowIs (w.heap.size + 1) 25 4 (netAt (.int .i64 0) (.int .i64 0) (.int .i64 0) (.slice none 0 0))) := by
      have := netAt_new (w.alloc (.cells #[.int .i64 M, .int .i64 E, .int .i64 S, .slice a n c] 25)) (.int .i64 0) (.int .i64 0) (.int .i64 0) (.slice none 0 0) 25
      simpa [Hid] using this
    have HP0 : Hid (((w.alloc (.cells #[.int .i64 M, .int .i64 E, .int .i64 S, .slice a n c] 25)).alloc (.cells #[.int .i64 0, .int .i64 0, .int .i64 0, .slice none 0 0] 25)).rowIs w.heap.size 25 4 (netAt (.int .i64 M) (.int .i64 E) (.int .i64 S) (.slice a n c))) := (netAt_new _ _ _ _ _ _).alloc _
    go_enter Try.func52, Try.ntmps52
    go_wp2_with fail
    refine (KN.out _ (HR.out.below (by (repeat' (first | (with_reducible exact Below.refl _ _) | (with_reducible assumption) | (with_reducible refine balloc ?_ _) | (with_reducible refine Below.drew ?_) | (with_reducible refine below_drewN ?_ _) | (with_reducible refine bset ?_ ?_ _) | (with_reducible refine bstep ?_ (by assumption)) | go_size))))).mono ?_
    rintro e w1 ⟨rfl, hb1⟩
    have HA1 := Lib.hid (HA0.out.of_block (hb1.block _ HA0.out.lt))
    have HP1 := Lib.hid (HP0.out.of_block (hb1.block _ HP0.out.lt))
    have B1 : Hid (Below w.heap.size w w1) := bstep (by (repeat' (first | (with_reducible exact Below.refl _ _) | (with_reducible assumption) | (with_reducible refine balloc ?_ _) | (with_reducible refine Below.drew ?_) | (with_reducible refine below_drewN ?_ _) | (with_reducible refine bset ?_ ?_ _) | (with_reducible refine bstep ?_ (by assumption)) | go_size))) hb1
    clear HA0 HP0 hb1
    have hlP1 := HP1.out.lt
    obtain ⟨t0, t1, t2, t3⟩ := netAt_cells HP1.out
    go_wp2_with fail
    refine (KP.out _).mono ?_
    rintro e w2 ⟨rfl, hb2⟩
    clear t0 t1 t2 t3
    have HA2 := Lib.hid (HA1.out.of_block (hb2.block _ HA1.out.lt))
    have HP2 := Lib.hid (HP1.out.of_block (hb2.block _ HP1.out.lt))
    have B2 : Hid (Below w.heap.size w w2) := bstep B1.out hb2
    clear HA1 HP1 hb2
    have hlP2 := HP2.out.lt
    obtain ⟨t0, t1, t2, t3⟩ := netAt_cells HP2.out
    obtain ⟨r0, r1, r2, r3⟩ := netAt_cells HA2.out
    have f0 := HA2.out.frozen 0
    have f1 := HA2.out.frozen 1
    have f2 := HA2.out.frozen 2
    have f3 := HA2.out.frozen 3
    have hlA2 := HA2.out.lt
    go_wp2_with fail
    have rs0 : (w2.cell? { block := w.heap.size + 1, off := 0 }).isSome = true := by simp [go_sem, *]
    have rs1 : (w2.cell? { block := w.heap.size + 1, off := 1 }).isSome = true := by simp [go_sem, *]
    have rs2 : (w2.cell? { block := w.heap.size + 1, off := 2 }).isSome = true := by simp [go_sem, *]
    have rs3 : (w2.cell? { block := w.heap.size + 1, off := 3 }).isSome = true := by simp [go_sem, *]
    refine bodyPost_ret (v := (.tuple #[netV 0 0 0 none 0 0, .bool false])) (by simp [results, Try.results52, go_sem, rs0, rs1, rs2, rs3]; try rfl) rfl ?_
    exact ⟨rfl, by have := B2.out; (repeat' (first | (with_reducible exact Below.refl _ _) | (with_reducible assumption) | (with_reducible refine balloc ?_ _) | (with_reducible refine Below.drew ?_) | (with_reducible refine below_drewN ?_ _) | (with_reducible refine bset ?_ ?_ _) | (with_reducible refine bstep ?_ (by assumption)) | go_size))⟩
  have KP := Lib.hid (fun (w : World) => implIsNode M E S a n c p true ⟨fun _ => hp, fun _ => rfl⟩ w)
  by_cases hq : 0 ≤ q ∧ q < M
  rotate_left
  · have KQ := Lib.hid (fun (w : World) => implIsNode M E S a n c q false ⟨(fun h => by cases h), fun h => absurd h hq⟩ w)
    clear hr hok hbad hp hq
    have HA0 : Hid (((w.alloc (.cells #[.int .i64 M, .int .i64 E, .int .i64 S, .slice a n c] 25)).alloc (.cells #[.int .i64 0, .int .i64 0, .int .i64 0, .slice none 0 0] 25)).rowIs (w.heap.size + 1) 25 4 (netAt (.int .i64 0) (.int .i64 0) (.int .i64 0) (.slice none 0 0))) := by
      have := netAt_new (w.alloc (.cells #[.int .i64 M, .int .i64 E, .int .i64 S, .slice a n c] 25)) (.int .i64 0) (.int .i64 0) (.int .i64 0) (.slice none 0 0) 25
      simpa [Hid] using this
    have HP0 : Hid (((w.alloc (.cells #[.int .i64 M, .int .i64 E, .int .i64 S, .slice a n c] 25)).alloc (.cells #[.int .i64 0, .int .i64 0, .int .i64 0, .slice none 0 0] 25)).rowIs w.heap.size 25 4 (netAt (.int .i64 M) (.int .i64 E) (.int .i64 S) (.slice a n c))) := (netAt_new _ _ _ _ _ _).alloc _
    go_enter Try.func52, Try.ntmps52
    go_wp2_with fail
    refine (KN.out _ (HR.out.below (by (repeat' (first | (with_reducible exact Below.refl _ _) | (with_reducible assumption) | (with_reducible refine balloc ?_ _) | (with_reducible refine Below.drew ?_) | (with_reducible refine below_drewN ?_ _) | (with_reducible refine bset ?_ ?_ _) | (with_reducible refine bstep ?_ (by assumption)) | go_size))))).mono ?_
    rintro e w1 ⟨rfl, hb1⟩
    have HA1 := Lib.hid (HA0.out.of_block (hb1.block _ HA0.out.lt))
    have HP1 := Lib.hid (HP0.out.of_block (hb1.block _ HP0.out.lt))
    have B1 : Hid (Below w.heap.size w w1) := bstep (by (repeat' (first | (with_reducible exact Below.refl _ _) | (with_reducible assumption) | (with_reducible refine balloc ?_ _) | (with_reducible refine Below.drew ?_) | (with_reducible refine below_drewN ?_ _) | (with_reducible refine bset ?_ ?_ _) | (with_reducible refine bstep ?_ (by assumption)) | go_size))) hb1
    clear HA0 HP0 hb1
    have hlP1 := HP1.out.lt
    obtain ⟨t0, t1, t2, t3⟩ := netAt_cells HP1.out
    go_wp2_with fail
    refine (KP.out _).mono ?_
    rintro e w2 ⟨rfl, hb2⟩
    clear t0 t1 t2 t3
    have HA2 := Lib.hid (HA1.out.of_block (hb2.block _ HA1.out.lt))
    have HP2 := Lib.hid (HP1.out.of_block (hb2.block _ HP1.out.lt))
    have B2 : Hid (Below w.heap.size w w2) := bstep B1.out hb2
    clear HA1 HP1 hb2
    have hlP2 := HP2.out.lt
    obtain ⟨t0, t1, t2, t3⟩ := netAt_cells HP2.out
    go_wp2_with fail
    refine (KQ.out _).mono ?_
    rintro e w3 ⟨rfl, hb3⟩
    clear t0 t1 t2 t3
    have HA3 := Lib.hid (HA2.out.of_block (hb3.block _ HA2.out.lt))
    have HP3 := Lib.hid (HP2.out.of_block (hb3.block _ HP2.out.lt))
    have B3 : Hid (Below w.heap.size w w3) := bstep B2.out hb3
    clear HA2 HP2 hb3
    have hlP3 := HP3.out.lt
    obtain ⟨t0, t1, t2, t3⟩ := netAt_cells HP3.out
    obtain ⟨r0, r1, r2, r3⟩ := netAt_cells HA3.out
    have f0 := HA3.out.frozen 0
    have f1 := HA3.out.frozen 1
    have f2 := HA3.out.frozen 2
    have f3 := HA3.out.frozen 3
    have hlA3 := HA3.out.lt
    go_wp2_with fail
    have rs0 : (w3.cell? { block := w.heap.size + 1, off := 0 }).isSome = true := by simp [go_sem, *]
    have rs1 : (w3.cell? { block := w.heap.size + 1, off := 1 }).isSome = true := by simp [go_sem, *]
    have rs2 : (w3.cell? { block := w.heap.size + 1, off := 2 }).isSome = true := by simp [go_sem, *]
    have rs3 : (w3.cell? { block := w.heap.size + 1, off := 3 }).isSome = true := by simp [go_sem, *]
    refine bodyPost_ret (v := (.tuple #[netV 0 0 0 none 0 0, .bool false])) (by simp [results, Try.results52, go_sem, rs0, rs1, rs2, rs3]; try rfl) rfl ?_
    exact ⟨rfl, by have := B3.out; (repeat' (first | (with_reducible exact Below.refl _ _) | (with_reducible assumption) | (with_reducible refine balloc ?_ _) | (with_reducible refine Below.drew ?_) | (with_reducible refine below_drewN ?_ _) | (with_reducible refine bset ?_ ?_ _) | (with_reducible refine bstep ?_ (by assumption)) | go_size))⟩
  have KQ := Lib.hid (fun (w : World) => implIsNode M E S a n c q true ⟨fun _ => hq, fun _ => rfl⟩ w)
  have hc : ((p == q) = true) ∨ ((p == q) = false ∧ wt < 0) ∨ ((p == q) = false ∧ ¬ wt < 0 ∧ 200 < wt) := by simp only [beq_iff_eq, beq_eq_false_iff_ne, ne_eq]; omega
  clear hr hok hbad hp hq
  rcases hc with hc | ⟨hc, hc1⟩ | ⟨hc, hc1, hc2⟩
  all_goals
    have HA0 : Hid (((w.alloc (.cells #[.int .i64 M, .int .i64 E, .int .i64 S, .slice a n c] 25)).alloc (.cells #[.int .i64 0, .int .i64 0, .int .i64 0, .slice none 0 0] 25)).rowIs (w.heap.size + 1) 25 4 (netAt (.int .i64 0) (.int .i64 0) (.int .i64 0) (.slice none 0 0))) := by
      have := netAt_new (w.alloc (.cells #[.int .i64 M, .int .i64 E, .int .i64 S, .slice a n c] 25)) (.int .i64 0) (.int .i64 0) (.int .i64 0) (.slice none 0 0) 25
      simpa [Hid] using this
    have HP0 : Hid (((w.alloc (.cells #[.int .i64 M, .int .i64 E, .int .i64 S, .slice a n c] 25)).alloc (.cells #[.int .i64 0, .int .i64 0, .int .i64 0, .slice none 0 0] 25)).rowIs w.heap.size 25 4 (netAt (.int .i64 M) (.int .i64 E) (.int .i64 S) (.slice a n c))) := (netAt_new _ _ _ _ _ _).alloc _
    go_enter Try.func52, Try.ntmps52
    go_wp2_with fail
    refine (KN.out _ (HR.out.below (by (repeat' (first | (with_reducible exact Below.refl _ _) | (with_reducible assumption) | (with_reducible refine balloc ?_ _) | (with_reducible refine Below.drew ?_) | (with_reducible refine below_drewN ?_ _) | (with_reducible refine bset ?_ ?_ _) | (with_reducible refine bstep ?_ (by assumption)) | go_size))))).mono ?_
    rintro e w1 ⟨rfl, hb1⟩
    have HA1 := Lib.hid (HA0.out.of_block (hb1.block _ HA0.out.lt))
    have HP1 := Lib.hid (HP0.out.of_block (hb1.block _ HP0.out.lt))
    have B1 : Hid (Below w.heap.size w w1) := bstep (by (repeat' (first | (with_reducible exact Below.refl _ _) | (with_reducible assumption) | (with_reducible refine balloc ?_ _) | (with_reducible refine Below.drew ?_) | (with_reducible refine below_drewN ?_ _) | (with_reducible refine bset ?_ ?_ _) | (with_reducible refine bstep ?_ (by assumption)) | go_size))) hb1
    clear HA0 HP0 hb1
    have hlP1 := HP1.out.lt
    obtain ⟨t0, t1, t2, t3⟩ := netAt_cells HP1.out
    go_wp2_with fail
    refine (KP.out _).mono ?_
    rintro e w2 ⟨rfl, hb2⟩
    clear t0 t1 t2 t3
    have HA2 := Lib.hid (HA1.out.of_block (hb2.block _ HA1.out.lt))
    have HP2 := Lib.hid (HP1.out.of_block (hb2.block _ HP1.out.lt))
    have B2 : Hid (Below w.heap.size w w2) := bstep B1.out hb2
    clear HA1 HP1 hb2
    have hlP2 := HP2.out.lt
    obtain ⟨t0, t1, t2, t3⟩ := netAt_cells HP2.out
    go_wp2_with fail
    refine (KQ.out _).mono ?_
    rintro e w3 ⟨rfl, hb3⟩
    clear t0 t1 t2 t3
    have HA3 := Lib.hid (HA2.out.of_block (hb3.block _ HA2.out.lt))
    have HP3 := Lib.hid (HP2.out.of_block (hb3.block _ HP2.out.lt))
    have B3 : Hid (Below w.heap.size w w3) := bstep B2.out hb3
    clear HA2 HP2 hb3
    have hlP3 := HP3.out.lt
    obtain ⟨t0, t1, t2, t3⟩ := netAt_cells HP3.out
    obtain ⟨r0, r1, r2, r3⟩ := netAt_cells HA3.out
    have f0 := HA3.out.frozen 0
    have f1 := HA3.out.frozen 1
    have f2 := HA3.out.frozen 2
    have f3 := HA3.out.frozen 3
    have hlA3 := HA3.out.lt
    go_wp2_with fail
    have rs0 : (w3.cell? { block := w.heap.size + 1, off := 0 }).isSome = true := by simp [go_sem, *]
    have rs1 : (w3.cell? { block := w.heap.size + 1, off := 1 }).isSome = true := by simp [go_sem, *]
    have rs2 : (w3.cell? { block := w.heap.size + 1, off := 2 }).isSome = true := by simp [go_sem, *]
    have rs3 : (w3.cell? { block := w.heap.size + 1, off := 3 }).isSome = true := by simp [go_sem, *]
    refine bodyPost_ret (v := (.tuple #[netV 0 0 0 none 0 0, .bool false])) (by simp [results, Try.results52, go_sem, rs0, rs1, rs2, rs3]; try rfl) rfl ?_
    exact ⟨rfl, by have := B3.out; (repeat' (first | (with_reducible exact Below.refl _ _) | (with_reducible assumption) | (with_reducible refine balloc ?_ _) | (with_reducible refine Below.drew ?_) | (with_reducible refine below_drewN ?_ _) | (with_reducible refine bset ?_ ?_ _) | (with_reducible refine bstep ?_ (by assumption)) | go_size))⟩
end Go.Proofs.Ytjchindjoailbaa

/- SameNet: two networks with the same numbers and wires. -/
namespace Go.Proofs.Ytjchindjoailbaa
set_option linter.unusedSimpArgs false
set_option linter.unusedVariables false
open Go.RowKit

theorem take_same {l1 l2 : List Wz} {k : Nat} (h1 : k < l1.length) (h2 : k < l2.length) (h : l1.take k = l2.take k) (e : l1[k] = l2[k]) : l1.take (k + 1) = l2.take (k + 1) := by
  rw [List.take_succ_eq_append_getElem h1, List.take_succ_eq_append_getElem h2, h, e]

set_option maxHeartbeats 2000000 in
theorem equalWires (a1 a2 : Option Addr) (n1 c1 n2 c2 : Nat) (l1 l2 : List Wz) (w : World) (r1 : ArgRow w a1 n1 c1 3 (wires l1)) (r2 : ArgRow w a2 n2 c2 3 (wires l2)) (hl1 : l1.length = n1) (hl2 : l2.length = n2) :
    Calls Try.prog 103 #[.slice a1 n1 c1, .slice a2 n2 c2] w fun e w' => e = .returned (.bool (decide (l1 = l2))) ∧ Below w.heap.size w w' := by
  have hn := r1.le
  have hn2 := r2.le
  unfold maxLen at hn hn2
  by_cases hne : n1 = n2
  · subst hne
    by_cases h0 : n1 = 0
    · subst h0
      have e1 := List.length_eq_zero_iff.1 hl1
      have e2 := List.length_eq_zero_iff.1 hl2
      subst e1 e2
      clear r1 r2
      go_enter Try.func103, Try.ntmps103
      go_wp2_with fail
      go_rounds 1
      go_ret
      exact ⟨rfl, Below.refl _ _⟩
    · obtain ⟨b1, o1, rfl, hb1, _⟩ := r1.form (by omega)
      obtain ⟨b2, o2, rfl, hb2, _⟩ := r2.form (by omega)
      have R1 := Lib.hid r1
      have R2 := Lib.hid r2
      have HL1 := Lib.hid hl1
      have HL2 := Lib.hid hl2
      clear r1 r2 hl1 hl2
      go_enter Try.func103, Try.ntmps103
      go_wp2_with fail
      go_loopw [5, 13] (fun _ v wr => ∃ k : Nat, k ≤ n1 ∧ v = .int .i64 k ∧ Hid (l1.take k = l2.take k) ∧ ∃ n, wr = w.drewN n) (fun _ v _ => n1 - (intOf v).toNat)
      case atStart => exact ⟨0, by omega, rfl, by simp [Hid], 0, rfl⟩
      case round =>
        obtain ⟨k, hk, rfl, HT, m, rfl⟩ := hrel
        by_cases hlt : k < n1
        · have hk1 : k < l1.length := by rw [HL1.out]; exact hlt
          have hk2 : k < l2.length := by rw [HL2.out]; exact hlt
          obtain ⟨p0, p1, p2⟩ := wire_cells R1.out k hk1
          obtain ⟨q0, q1, q2⟩ := wire_cells R2.out k hk2
          by_cases he : l1[k] = l2[k]
          · have HT2 := Lib.hid (take_same hk1 hk2 HT.out he)
            rw [← he] at q0 q1 q2
            generalize l1[k] = x at p0 p1 p2 q0 q1 q2
            obtain ⟨x0, x1, x2⟩ := x
            clear hk1 hk2 he
            go_wp2_with fail
            go_quiet (fail)
            go_wp2_with fail
            go_roundw
            case rel => exact ⟨k + 1, by omega, by go_num, HT2.out, _, rfl⟩
            case measure => simp [intOf]; omega
          · have hd : Hid (decide (l1 = l2) = false) := by
              show _ = _
              apply decide_eq_false; intro h; subst h; exact he rfl
            generalize l1[k] = x at p0 p1 p2 he
            generalize l2[k] = y at q0 q1 q2 he
            obtain ⟨x0, x1, x2⟩ := x
            obtain ⟨y0, y1, y2⟩ := y
            clear hk1 hk2
            have hq : ((x0 == y0) = false) ∨ (x0 = y0 ∧ (x1 == y1) = false) ∨ (x0 = y0 ∧ x1 = y1 ∧ (x2 == y2) = false) := by
              by_cases h0 : x0 = y0
              · by_cases h1 : x1 = y1
                · refine .inr (.inr ⟨h0, h1, ?_⟩)
                  simp; intro h2; apply he; rw [h0, h1, h2]
                · exact .inr (.inl ⟨h0, by simp [h1]⟩)
              · exact .inl (by simp [h0])
            clear he
            rcases hq with hq | ⟨rfl, hq⟩ | ⟨rfl, rfl, hq⟩
            all_goals
              go_wp2_with fail
              go_quiet (fail)
              go_wp2_with fail
              go_ret
              exact ⟨by rw [hd.out]; rfl, below_drewN (below_drewN (Below.refl _ _) _) _⟩
        · go_wp2_with fail
          go_ret
          obtain rfl : k = n1 := by omega
          have := HT.out
          rw [List.take_of_length_le (by rw [HL1.out]; omega), List.take_of_length_le (by rw [HL2.out]; omega)] at this
          exact ⟨by rw [decide_eq_true this]; rfl, below_drewN (Below.refl _ _) _⟩
  · have hd : Hid (decide (l1 = l2) = false) := by
      show _ = _
      apply decide_eq_false; intro h; subst h; exact hne (hl1.symm.trans hl2)
    clear r1 r2
    go_enter Try.func103, Try.ntmps103
    go_wp2_with fail
    go_ret
    exact ⟨by rw [hd.out]; rfl, Below.refl _ _⟩
/-- the two networks are one -/
def sameB (N1 E1 S1 : Int) (l1 : List Wz) (N2 E2 S2 : Int) (l2 : List Wz) : Bool := (N1 == N2) && (E1 == E2) && (S1 == S2) && decide (l1 = l2)

set_option maxHeartbeats 4000000 in
theorem implSameNet (N1 E1 S1 N2 E2 S2 : Int) (a1 a2 : Option Addr) (n1 c1 n2 c2 : Nat) (l1 l2 : List Wz) (w : World) (r1 : ArgRow w a1 n1 c1 3 (wires l1)) (r2 : ArgRow w a2 n2 c2 3 (wires l2)) (hl1 : l1.length = n1) (hl2 : l2.length = n2) :
    Calls Try.prog 53 #[netV N1 E1 S1 a1 n1 c1, netV N2 E2 S2 a2 n2 c2] w fun e w' => e = .returned (.bool (sameB N1 E1 S1 l1 N2 E2 S2 l2)) ∧ Below w.heap.size w w' := by
  unfold sameB
  cases q1 : (N1 == N2)
  · go_enter Try.func53, Try.ntmps53
    go_wp2_with fail
    go_ret
    exact ⟨rfl, by (repeat' (first | (with_reducible exact Below.refl _ _) | (with_reducible assumption) | (with_reducible refine balloc ?_ _) | (with_reducible refine Below.drew ?_) | (with_reducible refine below_drewN ?_ _) | (with_reducible refine bset ?_ ?_ _) | (with_reducible refine bstep ?_ (by assumption)) | go_size))⟩
  cases q2 : (E1 == E2)
  · go_enter Try.func53, Try.ntmps53
    go_wp2_with fail
    go_ret
    exact ⟨rfl, by (repeat' (first | (with_reducible exact Below.refl _ _) | (with_reducible assumption) | (with_reducible refine balloc ?_ _) | (with_reducible refine Below.drew ?_) | (with_reducible refine below_drewN ?_ _) | (with_reducible refine bset ?_ ?_ _) | (with_reducible refine bstep ?_ (by assumption)) | go_size))⟩
  cases q3 : (S1 == S2)
  · go_enter Try.func53, Try.ntmps53
    go_wp2_with fail
    go_ret
    exact ⟨rfl, by (repeat' (first | (with_reducible exact Below.refl _ _) | (with_reducible assumption) | (with_reducible refine balloc ?_ _) | (with_reducible refine Below.drew ?_) | (with_reducible refine below_drewN ?_ _) | (with_reducible refine bset ?_ ?_ _) | (with_reducible refine bstep ?_ (by assumption)) | go_size))⟩
  go_enter Try.func53, Try.ntmps53
  go_wp2_with fail
  refine (equalWires a1 a2 n1 c1 n2 c2 l1 l2 _ (r1.below (by (repeat' (first | (with_reducible exact Below.refl _ _) | (with_reducible assumption) | (with_reducible refine balloc ?_ _) | (with_reducible refine Below.drew ?_) | (with_reducible refine below_drewN ?_ _) | (with_reducible refine bset ?_ ?_ _) | (with_reducible refine bstep ?_ (by assumption)) | go_size)))) (r2.below (by (repeat' (first | (with_reducible exact Below.refl _ _) | (with_reducible assumption) | (with_reducible refine balloc ?_ _) | (with_reducible refine Below.drew ?_) | (with_reducible refine below_drewN ?_ _) | (with_reducible refine bset ?_ ?_ _) | (with_reducible refine bstep ?_ (by assumption)) | go_size)))) hl1 hl2).mono ?_
  rintro e wx ⟨rfl, hbx⟩
  go_wp2_with fail
  go_ret
  exact ⟨by simp, bstep (by (repeat' (first | (with_reducible exact Below.refl _ _) | (with_reducible assumption) | (with_reducible refine balloc ?_ _) | (with_reducible refine Below.drew ?_) | (with_reducible refine below_drewN ?_ _) | (with_reducible refine bset ?_ ?_ _) | (with_reducible refine bstep ?_ (by assumption)) | go_size))) hbx⟩
end Go.Proofs.Ytjchindjoailbaa

/- The law on networks: exchanging nodes twice changes nothing, and dividing by a common divisor keeps the behaviour. -/
namespace Go.Proofs.Ytjchindjoailbaa
set_option linter.unusedSimpArgs false
set_option linter.unusedVariables false
open Go.RowKit

theorem NetRes.row {e : Ending} {w w' : World} {M E S : Int} {L : List Wz} (h : NetRes e w w' true M E S L) (m : Nat) (hm : L.length = m) : ∃ a c, e = .returned (.tuple #[netV M E S a m c, .bool true]) ∧ ArgRow w' a m c 3 (wires L) := by
  unfold NetRes at h
  rw [if_pos rfl, hm] at h
  obtain ⟨a, c, h1, h2⟩ := h
  exact ⟨a, c, h1, ArgRow.own h2⟩
theorem sameB_same (N E S : Int) (l : List Wz) : sameB N E S l N E S l = true := by simp [sameB]
set_option maxRecDepth 100000 in
set_option maxHeartbeats 16000000 in
theorem walk_FnNets (a : Option Addr) (n c : Nat) (zs : List Int) (w : World) (hr : ArgRow w a n c 1 (u8s zs)) :
    Calls Try.prog 9 #[.slice a n c] w fun e w' => e = .returned (.bool true) ∧ Below w.heap.size w w' := by
  have hn := hr.le
  unfold maxLen at hn
  by_cases hb : 1048576 < n
  · clear hr
    go_enter Try.func9, Try.ntmps9
    go_wp2_with fail
    go_ret
    exact ⟨rfl, Below.refl _ _⟩
  have HR := Lib.hid hr
  have hn' : n ≤ 1048576 := by omega
  clear hr hb hn
  go_enter Try.func9, Try.ntmps9
  go_wp2_with fail
  refine (specMakeNet a n c zs _ HR.out hn').mono ?_
  rintro e w1 ⟨M, E, S, l, a', c', rfl, hD, hO, hb1⟩
  have HD := Lib.hid hD
  have R1 := Lib.hid (ArgRow.own hO)
  have B1 : Hid (Below w.heap.size w (w1.alloc (.cells #[.int .i64 M, .int .i64 E, .int .i64 S, .slice a' l.length c'] 25))) := balloc hb1 _
  have N1 : Hid ((w1.alloc (.cells #[.int .i64 M, .int .i64 E, .int .i64 S, .slice a' l.length c'] 25)).rowIs w1.heap.size 25 4 (netAt (.int .i64 M) (.int .i64 E) (.int .i64 S) (.slice a' l.length c'))) := netAt_new _ _ _ _ _ _
  have RW1 : Hid (ArgRow (w1.alloc (.cells #[.int .i64 M, .int .i64 E, .int .i64 S, .slice a' l.length c'] 25)) a' l.length c' 3 (wires l)) := R1.out.below (balloc (Below.refl _ _) _)
  have hM2 : 2 ≤ M := by have := hD.n2; omega
  have hM5 : M ≤ 5 := by have := hD.ok.h.n5; omega
  have hS1 := hD.ok.h.s1
  have hS3 := hD.s3
  clear hD hO hb1 R1
  go_upto_region 4 with fail
  obtain ⟨bn, hbn⟩ : ∃ bn, w1.heap.size = bn := ⟨_, rfl⟩
  obtain ⟨wa, hwa⟩ : ∃ wa, w1.alloc (.cells #[.int .i64 M, .int .i64 E, .int .i64 S, .slice a' l.length c'] 25) = wa := ⟨_, rfl⟩
  rw [hwa] at B1 N1 RW1 ⊢
  rw [hbn] at N1 ⊢
  clear hbn hwa
  obtain ⟨m0, m1, m2, m3⟩ := netAt_cells N1.out
  have hlb := N1.out.lt
  go_cut [4] (fun s4 wx => ∃ p : Nat, s4 = .int .i64 p ∧ p < M ∧ Hid (Below wa.heap.size wa wx))
  case first =>
    have hM0 : ((M : Int) == 0) = false := by simp; omega
    have hMz : ¬ (M : Int) = 0 := by omega
    have hMn : ¬ M = 0 := by omega
    have hM1 : (0 : Int) < M := by omega
    have KN : Hid (∀ w : World, ArgRow w a n c 1 (u8s zs) → Calls Try.prog 16 #[.slice a n c, .int .i64 30] w fun e w' => ∃ x : Int, e = .returned (.int .i64 x) ∧ (0 ≤ x ∧ x < 65536) ∧ Below w.heap.size w w') := fun w rr => specNum 30 (by omega) a n c zs w rr hn'
    have BD : Hid (Below w.heap.size w wa.drew) := B1.out.drew
    go_region_held3 (fun w' => w'.cell? ⟨bn, 0, none⟩ = some (.int .i64 M)) (go_keep)
      ((go_at_call 16; ((with_reducible refine (KN.out _ (HR.out.below BD.out)).mono ?_); rintro e wX ⟨x, rfl, hx, hbX⟩); (try (replace hbX := bdrew hbX)); (try (have hq_ := bltn hbX (b := bn) (by (first | omega | (simp only [World.size_alloc, World.size_setCell, World.size_drew, World.heap_drewN]; omega))); obtain ⟨uu, vv, zz, nn, mm⟩ := hq_))))
    all_goals
      have hm1 := Int.emod_nonneg x (show (M : Int) ≠ 0 by omega)
      have hm2 := Int.emod_lt_of_pos x hM1
      obtain ⟨p, hp⟩ : ∃ p : Nat, x % (M : Int) = p := ⟨(x % (M : Int)).toNat, by omega⟩
      go_wp2_with fail
      go_meet
      exact ⟨p, by (first | (rw [← hp]; done) | rw [← hp, Int.tmod_eq_emod_of_nonneg hx.1]), by omega, hbX⟩
  case rest =>
  obtain ⟨p, rfl, hpM, HC⟩ := hcut
  have B2 : Hid (Below w.heap.size w wc) := B1.out.trans (HC.out.mono B1.out.size)
  have N2 := Lib.hid (N1.out.of_block (HC.out.block _ N1.out.lt))
  have RW2 := Lib.hid (RW1.out.below HC.out)
  clear m0 m1 m2 m3 hlb N1 B1 RW1
  obtain ⟨wb, rfl⟩ : ∃ wb : World, wb = wc := ⟨_, rfl⟩
  clear HC
  obtain ⟨m0, m1, m2, m3⟩ := netAt_cells N2.out
  have hlb := N2.out.lt
  go_upto_region 5 with fail
  go_cut [5] (fun s5 wx => ∃ q : Nat, s5 = .int .i64 q ∧ q < M ∧ Hid (Below wb.heap.size wb wx))
  case first =>
    have hM0 : ((M : Int) == 0) = false := by simp; omega
    have hMz : ¬ (M : Int) = 0 := by omega
    have hMn : ¬ M = 0 := by omega
    have hM1 : (0 : Int) < M := by omega
    have KN : Hid (∀ w : World, ArgRow w a n c 1 (u8s zs) → Calls Try.prog 16 #[.slice a n c, .int .i64 32] w fun e w' => ∃ x : Int, e = .returned (.int .i64 x) ∧ (0 ≤ x ∧ x < 65536) ∧ Below w.heap.size w w') := fun w rr => specNum 32 (by omega) a n c zs w rr hn'
    have BD : Hid (Below w.heap.size w wb.drew) := B2.out.drew
    go_region_held3 (fun w' => w'.cell? ⟨bn, 0, none⟩ = some (.int .i64 M)) (go_keep)
      ((go_at_call 16; ((with_reducible refine (KN.out _ (HR.out.below BD.out)).mono ?_); rintro e wX ⟨x, rfl, hx, hbX⟩); (try (replace hbX := bdrew hbX)); (try (have hq_ := bltn hbX (b := bn) (by (first | omega | (simp only [World.size_alloc, World.size_setCell, World.size_drew, World.heap_drewN]; omega))); obtain ⟨uu, vv, zz, nn, mm⟩ := hq_))))
    all_goals
      have hm1 := Int.emod_nonneg x (show (M : Int) ≠ 0 by omega)
      have hm2 := Int.emod_lt_of_pos x hM1
      obtain ⟨q, hq⟩ : ∃ q : Nat, x % (M : Int) = q := ⟨(x % (M : Int)).toNat, by omega⟩
      go_wp2_with fail
      go_meet
      exact ⟨q, by (first | (rw [← hq]; done) | rw [← hq, Int.tmod_eq_emod_of_nonneg hx.1]), by omega, hbX⟩
  case rest =>
  obtain ⟨q, rfl, hqM, HC⟩ := hcut
  have B3 : Hid (Below w.heap.size w wc) := B2.out.trans (HC.out.mono B2.out.size)
  have N3 := Lib.hid (N2.out.of_block (HC.out.block _ N2.out.lt))
  have RW3 := Lib.hid (RW2.out.below HC.out)
  clear m0 m1 m2 m3 hlb N2 B2 RW2
  obtain ⟨wd, rfl⟩ : ∃ wd : World, wd = wc := ⟨_, rfl⟩
  clear HC
  have KN : Hid (∀ w : World, ArgRow w a n c 1 (u8s zs) → Calls Try.prog 16 #[.slice a n c, .int .i64 34] w fun e w' => ∃ x : Int, e = .returned (.int .i64 x) ∧ (0 ≤ x ∧ x < 65536) ∧ Below w.heap.size w w') := fun w rr => specNum 34 (by omega) a n c zs w rr hn'
  go_wp2_with fail
  refine (KN.out _ (HR.out.below B3.out)).mono ?_
  rintro e we ⟨x, rfl, hx, hbe⟩
  have B4 : Hid (Below w.heap.size w we) := bstep B3.out hbe
  have N4 := Lib.hid (N3.out.of_block (hbe.block _ N3.out.lt))
  have RW4 := Lib.hid (RW3.out.below hbe)
  clear hbe N3 RW3 B3 KN
  have hok := HD.out.ok
  obtain ⟨F, rfl⟩ : ∃ F : Nat, E = F := ⟨E.toNat, by have := hok.h.e1; omega⟩
  have hp : 0 ≤ (p : Int) ∧ (p : Int) < M := ⟨by omega, by omega⟩
  have hq : 0 ≤ (q : Int) ∧ (q : Int) < M := ⟨by omega, by omega⟩
  obtain ⟨wt, hwt⟩ : ∃ wt : Int, x % 9 = wt - 1 := ⟨x % 9 + 1, by omega⟩
  have hwt1 : 1 ≤ wt ∧ wt ≤ 9 := by omega
  have hx9 : Int.tmod x 9 = wt - 1 := by rw [Int.tmod_eq_emod_of_nonneg hx.1]; exact hwt
  have hxw : IntKind.i64.wrap (wt - 1) = wt - 1 := IntWalk.i64_in _ (by omega)
  have hxw2 : IntKind.i64.wrap (1 + (wt - 1)) = wt := by rw [IntWalk.i64_in _ (by omega)]; omega
  have hxw3 : (1 : Int) + (wt - 1) = wt := by omega
  have hxw4 : IntKind.i64.wrap wt = wt := IntWalk.i64_in _ (by omega)
  clear hx
  have hsw := hok.swap hp hq
  have hss := swap_swap hok hp hq
  have htr := tree_swap hok hp hq
  obtain ⟨s, hs⟩ : ∃ s : Nat, S = s := ⟨S.toNat, by omega⟩
  have hca := hok.canon hs
  have hcc := canon_canon hok
  have hal := canon_alike hok
  have hput := hok.put (p := 0) (q := (M : Int) - 1) (w := wt) (by omega) (by omega) (by omega) ⟨by omega, by omega⟩
  obtain ⟨hpa1, hpa2⟩ := put_at hok hM2 (w := wt) ⟨by omega, by omega⟩
  have hdp := drop_put hput
  have hmin : min (0 : Int) ((M : Int) - 1) = 0 := Int.min_eq_left (by omega)
  have hmax : max (0 : Int) ((M : Int) - 1) = (M : Int) - 1 := Int.max_eq_right (by omega)
  have hmw : IntKind.i64.wrap ((M : Int) - 1) = (M : Int) - 1 := IntWalk.i64_in _ (by omega)
  rw [show s = S.toNat by omega] at hca
  have KT2 := Lib.hid (fun (a2 : Option Addr) (c2 : Nat) (w : World) rr => implTreeSum M F S a2 l.length c2 l hok w rr rfl)
  have KT1 := Lib.hid (fun (a2 : Option Addr) (c2 : Nat) (w : World) rr => implTreeSum M F S a2 (swapL p q l).length c2 (swapL p q l) hsw w rr rfl)
  rw [htr] at KT1
  have KSw1 := Lib.hid (fun (w : World) rr => implSwapNodes M F S a' l.length c' l p q hp hq hok w rr rfl)
  have KSw2 := Lib.hid (fun (a2 : Option Addr) (c2 : Nat) (w : World) rr => implSwapNodes M F S a2 (swapL p q l).length c2 (swapL p q l) p q hp hq hsw w rr rfl)
  rw [hss] at KSw2
  have KCa1 := Lib.hid (fun (w : World) rr => implCanonNet M F S a' l.length c' l hok w rr rfl)
  have hdl : (divL (gL S.toNat l) l).length = l.length := divL_len _ _
  have KCa2 := Lib.hid (fun (a2 : Option Addr) (c2 : Nat) (w : World) rr => implCanonNet M F (Int.tdiv S (gL S.toNat l)) a2 l.length c2 (divL (gL S.toNat l) l) hca w rr hdl)
  rw [hcc, divL_one, show Int.tdiv (Int.tdiv S (gL S.toNat l)) ((1 : Nat) : Int) = Int.tdiv S (gL S.toNat l) from Int.tdiv_one _] at KCa2
  have KPu := Lib.hid (fun (w : World) rr => implPutWire M F S a' l.length c' l 0 ((M : Int) - 1) wt ⟨by omega, by omega⟩ ⟨by omega, by omega⟩ (by omega) ⟨by omega, by omega⟩ hok true (by rw [hmin, hmax, hdp]; exact ⟨fun _ => hput, fun _ => rfl⟩) w rr rfl)
  rw [hmin, hmax, hdp] at KPu
  have KSa1 := Lib.hid (fun (a1 a2 : Option Addr) (c1 c2 : Nat) (w : World) r1 r2 => implSameNet M F S M F S a1 a2 l.length c1 l.length c2 l l w r1 r2 rfl rfl)
  have KSa2 := Lib.hid (fun (a1 a2 : Option Addr) (c1 c2 : Nat) (w : World) r1 r2 => implSameNet M F (Int.tdiv S (gL S.toNat l)) M F (Int.tdiv S (gL S.toNat l)) a1 a2 l.length c1 l.length c2 (divL (gL S.toNat l) l) (divL (gL S.toNat l) l) w r1 r2 hdl hdl)
  simp only [sameB_same] at KSa1 KSa2
  have KAl := Lib.hid (fun (a2 : Option Addr) (c2 : Nat) (w : World) r1 r2 => implAreAlike M F S a' l.length c' l M F (Int.tdiv S (gL S.toNat l)) a2 l.length c2 (divL (gL S.toNat l) l) true ⟨fun _ => hal, fun _ => rfl⟩ w r1 rfl r2 hdl)
  have KW1 := Lib.hid (fun (a2 : Option Addr) (c2 : Nat) (w : World) rr => implWB M F S a2 (putL l 0 ((M : Int) - 1) wt false).length c2 (putL l 0 ((M : Int) - 1) wt false) 0 ((M : Int) - 1) hput.asc w rr rfl)
  rw [hpa1] at KW1
  have KW2 := Lib.hid (fun (w : World) rr => implWB M F S a' l.length c' l 0 ((M : Int) - 1) hok.asc w rr rfl)
  have KA1 := Lib.hid (fun (a2 : Option Addr) (c2 : Nat) (w : World) rr => implWeightAt M F S a2 (putL l 0 ((M : Int) - 1) wt false).length c2 (putL l 0 ((M : Int) - 1) wt false) 0 w rr rfl)
  have KA2 := Lib.hid (fun (w : World) rr => implWeightAt M F S a' l.length c' l 0 w rr rfl)
  have hat := at_bd hok 0 l.length (Nat.le_refl _)
  rw [List.take_of_length_le (Nat.le_refl _)] at hat
  have hfw := hok.few
  have hwb := hok.wb 0 ((M : Int) - 1)
  obtain ⟨D, hD⟩ : ∃ D, atSum (putL l 0 ((M : Int) - 1) wt false) 0 = D + wt := ⟨atSum (putL l 0 ((M : Int) - 1) wt false) 0 - wt, by omega⟩
  have hY : atSum l 0 = D + wbF l 0 ((M : Int) - 1) := by omega
  rw [hD] at KA1
  rw [hY] at KA2 hat
  generalize wbF l 0 ((M : Int) - 1) = Z at KA2 KW2 hat hwb
  have hDw : IntKind.i64.wrap D = D := IntWalk.i64_in _ (by omega)
  have hDw2 : wrap64 D = D := wrap_small (by omega)
  have hDw3 : D + wt - wt = D := by omega
  have hDw4 : D + Z - Z = D := by omega
  generalize (Int.tdiv S (gL S.toNat l)) = S1 at KCa1 KCa2 KSa2 KAl
  generalize divL (gL S.toNat l) l = L2 at KCa1 KCa2 KSa2 KAl hdl
  generalize putL l 0 ((M : Int) - 1) wt false = L3 at KPu KW1 KA1
  generalize swapL p q l = L1 at KSw1 KSw2 KT1
  generalize leftW M l [0] [0] = TL at KT1 KT2
  clear hsw hss htr hca hcc hal hput hpa1 hpa2 hdp hmin hmax hD hY hat hwb hfw hok hs hwt HD hwt1
  obtain ⟨m0, m1, m2, m3⟩ := netAt_cells N4.out
  have hlb := N4.out.lt
  go_wp2_with fail
  have Nnwe := N4
  have Rnwe := RW4
  have Bwe := B4
  clear N4 RW4 B4 m0 m1 m2 m3 hlb
  refine (KSw1.out _ Rnwe.out).mono ?_
  rintro e w6 ⟨hres, hb⟩
  obtain ⟨ax, cx, rfl, hrow⟩ := hres.row _ rfl
  have Nnw6 := Lib.hid (Nnwe.out.of_block (hb.block _ Nnwe.out.lt))
  have Rnw6 := Lib.hid (Rnwe.out.below hb)
  have Rxw6 := Lib.hid hrow
  have Bw6 : Hid (Below w.heap.size w w6) := bstep Bwe.out hb
  clear hb hrow hres Nnwe Rnwe Bwe
  go_wp2_with fail
  refine (KSw2.out _ _ _ (Rxw6.out.below (balloc (Below.refl _ _) _))).mono ?_
  rintro e w7 ⟨hres, hb⟩
  obtain ⟨ay, cy, rfl, hrow⟩ := hres.row l.length rfl
  have Nnw7 := Lib.hid ((Nnw6.out.alloc _).of_block (hb.block _ (Nnw6.out.alloc _).lt))
  have Rnw7 := Lib.hid ((Rnw6.out.below (balloc (Below.refl _ _) _)).below hb)
  have Nxw7 := Lib.hid ((netAt_new w6 (.int .i64 M) (.int .i64 F) (.int .i64 S) (.slice ax L1.length cx) 25).of_block (hb.block _ (by simp)))
  have Rxw7 := Lib.hid ((Rxw6.out.below (balloc (Below.refl _ _) _)).below hb)
  have Ryw7 := Lib.hid hrow
  have Bw7 : Hid (Below w.heap.size w w7) := bstep (balloc Bw6.out _) hb
  clear hb hrow hres Nnw6 Rnw6 Bw6 Rxw6
  obtain ⟨nw70, nw71, nw72, nw73⟩ := netAt_cells Nnw7.out
  have hlnw7 := Nnw7.out.lt
  go_wp2_with fail
  refine (KCa1.out _ (Rnw7.out.below (balloc (Below.refl _ _) _))).mono ?_
  rintro e w8 ⟨hres, hb⟩
  obtain ⟨ac, cc, rfl, hrow⟩ := hres.row l.length hdl
  have Nnw8 := Lib.hid ((Nnw7.out.alloc _).of_block (hb.block _ (Nnw7.out.alloc _).lt))
  have Rnw8 := Lib.hid ((Rnw7.out.below (balloc (Below.refl _ _) _)).below hb)
  have Nxw8 := Lib.hid ((Nxw7.out.alloc _).of_block (hb.block _ (Nxw7.out.alloc _).lt))
  have Rxw8 := Lib.hid ((Rxw7.out.below (balloc (Below.refl _ _) _)).below hb)
  have Nyw8 := Lib.hid ((netAt_new w7 (.int .i64 M) (.int .i64 F) (.int .i64 S) (.slice ay l.length cy) 25).of_block (hb.block _ (by simp)))
  have Ryw8 := Lib.hid ((Ryw7.out.below (balloc (Below.refl _ _) _)).below hb)
  have Rcw8 := Lib.hid hrow
  have Bw8 : Hid (Below w.heap.size w w8) := bstep (balloc Bw7.out _) hb
  clear hb hrow hres Nnw7 Rnw7 Nxw7 Rxw7 Bw7 Ryw7
  clear nw70 nw71 nw72 nw73 hlnw7
  go_wp2_with fail
  refine (KCa2.out _ _ _ (Rcw8.out.below (balloc (Below.refl _ _) _))).mono ?_
  rintro e w9 ⟨hres, hb⟩
  obtain ⟨ad, cd, rfl, hrow⟩ := hres.row l.length hdl
  have Nnw9 := Lib.hid ((Nnw8.out.alloc _).of_block (hb.block _ (Nnw8.out.alloc _).lt))
  have Rnw9 := Lib.hid ((Rnw8.out.below (balloc (Below.refl _ _) _)).below hb)
  have Nxw9 := Lib.hid ((Nxw8.out.alloc _).of_block (hb.block _ (Nxw8.out.alloc _).lt))
  have Rxw9 := Lib.hid ((Rxw8.out.below (balloc (Below.refl _ _) _)).below hb)
  have Nyw9 := Lib.hid ((Nyw8.out.alloc _).of_block (hb.block _ (Nyw8.out.alloc _).lt))
  have Ryw9 := Lib.hid ((Ryw8.out.below (balloc (Below.refl _ _) _)).below hb)
  have Ncw9 := Lib.hid ((netAt_new w8 (.int .i64 M) (.int .i64 F) (.int .i64 S1) (.slice ac l.length cc) 25).of_block (hb.block _ (by simp)))
  have Rcw9 := Lib.hid ((Rcw8.out.below (balloc (Below.refl _ _) _)).below hb)
  have Rdw9 := Lib.hid hrow
  have Bw9 : Hid (Below w.heap.size w w9) := bstep (balloc Bw8.out _) hb
  clear hb hrow hres Nnw8 Rnw8 Nxw8 Rxw8 Nyw8 Ryw8 Bw8 Rcw8
  obtain ⟨nw90, nw91, nw92, nw93⟩ := netAt_cells Nnw9.out
  have hlnw9 := Nnw9.out.lt
  go_wp2_with fail
  refine (KPu.out _ (Rnw9.out.below (balloc (Below.refl _ _) _))).mono ?_
  rintro e wA ⟨hres, hb⟩
  obtain ⟨ap, cp, rfl, hrow⟩ := hres.row _ rfl
  have NnwA := Lib.hid ((Nnw9.out.alloc _).of_block (hb.block _ (Nnw9.out.alloc _).lt))
  have RnwA := Lib.hid ((Rnw9.out.below (balloc (Below.refl _ _) _)).below hb)
  have NxwA := Lib.hid ((Nxw9.out.alloc _).of_block (hb.block _ (Nxw9.out.alloc _).lt))
  have RxwA := Lib.hid ((Rxw9.out.below (balloc (Below.refl _ _) _)).below hb)
  have NywA := Lib.hid ((Nyw9.out.alloc _).of_block (hb.block _ (Nyw9.out.alloc _).lt))
  have RywA := Lib.hid ((Ryw9.out.below (balloc (Below.refl _ _) _)).below hb)
  have NcwA := Lib.hid ((Ncw9.out.alloc _).of_block (hb.block _ (Ncw9.out.alloc _).lt))
  have RcwA := Lib.hid ((Rcw9.out.below (balloc (Below.refl _ _) _)).below hb)
  have NdwA := Lib.hid ((netAt_new w9 (.int .i64 M) (.int .i64 F) (.int .i64 S1) (.slice ad l.length cd) 25).of_block (hb.block _ (by simp)))
  have RdwA := Lib.hid ((Rdw9.out.below (balloc (Below.refl _ _) _)).below hb)
  have RpwA := Lib.hid hrow
  have BwA : Hid (Below w.heap.size w wA) := bstep (balloc Bw9.out _) hb
  clear hb hrow hres Nnw9 Rnw9 Nxw9 Rxw9 Nyw9 Ryw9 Ncw9 Rcw9 Bw9 Rdw9
  clear nw90 nw91 nw92 nw93 hlnw9
  go_upto_region 12 with fail
  obtain ⟨wZ, hwZ⟩ : ∃ wZ, wA.alloc (.cells #[.int .i64 M, .int .i64 F, .int .i64 S, .slice ap L3.length cp] 25) = wZ := ⟨_, rfl⟩
  rw [hwZ]
  have NnZ : Hid (wZ.rowIs bn 25 4 (netAt (.int .i64 M) (.int .i64 F) (.int .i64 S) (.slice a' l.length c'))) := by rw [← hwZ]; exact NnwA.out.alloc _
  have NxZ : Hid (wZ.rowIs w6.heap.size 25 4 (netAt (.int .i64 M) (.int .i64 F) (.int .i64 S) (.slice ax L1.length cx))) := by rw [← hwZ]; exact NxwA.out.alloc _
  have NyZ : Hid (wZ.rowIs w7.heap.size 25 4 (netAt (.int .i64 M) (.int .i64 F) (.int .i64 S) (.slice ay l.length cy))) := by rw [← hwZ]; exact NywA.out.alloc _
  have NcZ : Hid (wZ.rowIs w8.heap.size 25 4 (netAt (.int .i64 M) (.int .i64 F) (.int .i64 S1) (.slice ac l.length cc))) := by rw [← hwZ]; exact NcwA.out.alloc _
  have NdZ : Hid (wZ.rowIs w9.heap.size 25 4 (netAt (.int .i64 M) (.int .i64 F) (.int .i64 S1) (.slice ad l.length cd))) := by rw [← hwZ]; exact NdwA.out.alloc _
  have NpZ : Hid (wZ.rowIs wA.heap.size 25 4 (netAt (.int .i64 M) (.int .i64 F) (.int .i64 S) (.slice ap L3.length cp))) := by rw [← hwZ]; exact netAt_new _ _ _ _ _ _
  have RnZ : Hid (ArgRow wZ a' l.length c' 3 (wires l)) := by rw [← hwZ]; exact RnwA.out.below (balloc (Below.refl _ _) _)
  have RxZ : Hid (ArgRow wZ ax L1.length cx 3 (wires L1)) := by rw [← hwZ]; exact RxwA.out.below (balloc (Below.refl _ _) _)
  have RyZ : Hid (ArgRow wZ ay l.length cy 3 (wires l)) := by rw [← hwZ]; exact RywA.out.below (balloc (Below.refl _ _) _)
  have RcZ : Hid (ArgRow wZ ac l.length cc 3 (wires L2)) := by rw [← hwZ]; exact RcwA.out.below (balloc (Below.refl _ _) _)
  have RdZ : Hid (ArgRow wZ ad l.length cd 3 (wires L2)) := by rw [← hwZ]; exact RdwA.out.below (balloc (Below.refl _ _) _)
  have RpZ : Hid (ArgRow wZ ap L3.length cp 3 (wires L3)) := by rw [← hwZ]; exact RpwA.out.below (balloc (Below.refl _ _) _)
  have BZ : Hid (Below w.heap.size w wZ) := by rw [← hwZ]; exact balloc BwA.out _
  clear hwZ NnwA RnwA NxwA RxwA NywA RywA NcwA RcwA NdwA RdwA RpwA BwA
  have hn := Lib.hid (fun (w' : World) (h : Below wZ.heap.size wZ w') => netAt_cells (NnZ.out.of_block (h.block _ NnZ.out.lt)))
  have hx := Lib.hid (fun (w' : World) (h : Below wZ.heap.size wZ w') => netAt_cells (NxZ.out.of_block (h.block _ NxZ.out.lt)))
  have hy := Lib.hid (fun (w' : World) (h : Below wZ.heap.size wZ w') => netAt_cells (NyZ.out.of_block (h.block _ NyZ.out.lt)))
  have hc := Lib.hid (fun (w' : World) (h : Below wZ.heap.size wZ w') => netAt_cells (NcZ.out.of_block (h.block _ NcZ.out.lt)))
  have hd := Lib.hid (fun (w' : World) (h : Below wZ.heap.size wZ w') => netAt_cells (NdZ.out.of_block (h.block _ NdZ.out.lt)))
  have hp := Lib.hid (fun (w' : World) (h : Below wZ.heap.size wZ w') => netAt_cells (NpZ.out.of_block (h.block _ NpZ.out.lt)))
  refine wp_region_quiet (C := fun w' => Below wZ.heap.size wZ w') (by kernel_rfl) (by kernel_rfl) (Below.refl _ _).drew ?_
  refine wpQuiet_step (fun K hK => ?_)
  go_simp
  apply Exists.intro
  constructor
  · intro w' hw'; exact rfl
  refine hK _ ?_
  clear hK K
  refine wpQuiet_step (fun K hK => ?_)
  go_simp
  apply Exists.intro
  constructor
  · intro w' hw'; exact rfl
  refine hK _ ?_
  clear hK K
  refine wpQuiet_step (fun K hK => ?_)
  go_simp
  apply Exists.intro
  constructor
  · intro w' hw'; exact rfl
  refine hK _ ?_
  clear hK K
  refine wpQuiet_step (fun K hK => ?_)
  go_simp
  apply Exists.intro
  constructor
  · intro w' hw'; exact rfl
  refine hK _ ?_
  clear hK K
  refine wpQuiet_step (fun K hK => ?_)
  go_simp
  apply Exists.intro
  constructor
  · intro w' hw'; exact rfl
  refine hK _ ?_
  clear hK K
  refine wpQuiet_step (fun K hK => ?_)
  go_simp
  apply Exists.intro
  constructor
  · intro w' hw'; exact rfl
  refine hK _ ?_
  clear hK K
  refine wpQuiet_step (fun K hK => ?_)
  go_simp
  apply Exists.intro
  constructor
  · intro w' hw'; exact rfl
  refine hK _ ?_
  clear hK K
  refine wpQuiet_step (fun K hK => ?_)
  go_simp
  apply Exists.intro
  constructor
  · intro w' hw'; exact rfl
  refine hK _ ?_
  clear hK K
  refine wpQuiet_step (fun K hK => ?_)
  go_simp
  apply Exists.intro
  constructor
  · intro w' hw'; exact rfl
  refine hK _ ?_
  clear hK K
  refine wpQuiet_step (fun K hK => ?_)
  go_simp
  apply Exists.intro
  constructor
  · intro w' hw'; exact rfl
  refine hK _ ?_
  clear hK K
  refine wpQuiet_step (fun K hK => ?_)
  go_simp
  apply Exists.intro
  constructor
  · intro w' hw'; exact rfl
  refine hK _ ?_
  clear hK K
  refine wpQuiet_step (fun K hK => ?_)
  go_simp
  apply Exists.intro
  constructor
  · intro w' hw'; exact rfl
  refine hK _ ?_
  clear hK K
  refine wpQuiet_step (fun K hK => ?_)
  go_simp
  apply Exists.intro
  constructor
  · intro w' hw'; exact rfl
  refine hK _ ?_
  clear hK K
  refine wpQuiet_step (fun K hK => ?_)
  go_simp
  apply Exists.intro
  constructor
  · intro w' hw'; exact rfl
  refine hK _ ?_
  clear hK K
  refine wpQuiet_step (fun K hK => ?_)
  go_simp
  refine ⟨.agg #[.int .i64 M, .int .i64 F, .int .i64 S, .slice ay l.length cy], fun w' hw' => ?_, hK _ ?_⟩
  · obtain ⟨g0, g1, g2, g3⟩ := hy.out w' hw'
    go_simp
  clear hK K
  refine wpQuiet_step (fun K hK => ?_)
  go_simp
  refine ⟨.agg #[.int .i64 M, .int .i64 F, .int .i64 S, .slice a' l.length c'], fun w' hw' => ?_, hK _ ?_⟩
  · obtain ⟨g0, g1, g2, g3⟩ := hn.out w' hw'
    go_simp
  clear hK K
  refine wpQuiet_step (fun K hK => ?_)
  go_simp
  refine ⟨.bool true, fun w' hw' => (KSa1.out _ _ _ _ w' (RyZ.out.below hw') (RnZ.out.below hw')).mono (fun e w'' h => ⟨h.1, hw'.trans (h.2.mono (by have := hw'.size; simpa using this))⟩), hK _ ?_⟩
  clear hK K
  refine wpQuiet_step (fun K hK => ?_)
  go_simp
  apply Exists.intro
  constructor
  · intro w' hw'; exact rfl
  refine hK _ ?_
  clear hK K
  refine wpQuiet_step (fun K hK => ?_)
  go_simp
  apply Exists.intro
  constructor
  · intro w' hw'; exact rfl
  refine hK _ ?_
  clear hK K
  refine wpQuiet_step (fun K hK => ?_)
  go_simp
  refine ⟨.agg #[.int .i64 M, .int .i64 F, .int .i64 S1, .slice ac l.length cc], fun w' hw' => ?_, hK _ ?_⟩
  · obtain ⟨g0, g1, g2, g3⟩ := hc.out w' hw'
    go_simp
  clear hK K
  refine wpQuiet_step (fun K hK => ?_)
  go_simp
  refine ⟨.agg #[.int .i64 M, .int .i64 F, .int .i64 S1, .slice ad l.length cd], fun w' hw' => ?_, hK _ ?_⟩
  · obtain ⟨g0, g1, g2, g3⟩ := hd.out w' hw'
    go_simp
  clear hK K
  refine wpQuiet_step (fun K hK => ?_)
  go_simp
  refine ⟨.bool true, fun w' hw' => (KSa2.out _ _ _ _ w' (RcZ.out.below hw') (RdZ.out.below hw')).mono (fun e w'' h => ⟨h.1, hw'.trans (h.2.mono (by have := hw'.size; simpa using this))⟩), hK _ ?_⟩
  clear hK K
  refine wpQuiet_step (fun K hK => ?_)
  go_simp
  apply Exists.intro
  constructor
  · intro w' hw'; exact rfl
  refine hK _ ?_
  clear hK K
  refine wpQuiet_step (fun K hK => ?_)
  go_simp
  apply Exists.intro
  constructor
  · intro w' hw'; exact rfl
  refine hK _ ?_
  clear hK K
  refine wpQuiet_step (fun K hK => ?_)
  go_simp
  refine ⟨.agg #[.int .i64 M, .int .i64 F, .int .i64 S, .slice a' l.length c'], fun w' hw' => ?_, hK _ ?_⟩
  · obtain ⟨g0, g1, g2, g3⟩ := hn.out w' hw'
    go_simp
  clear hK K
  refine wpQuiet_step (fun K hK => ?_)
  go_simp
  refine ⟨.agg #[.int .i64 M, .int .i64 F, .int .i64 S1, .slice ac l.length cc], fun w' hw' => ?_, hK _ ?_⟩
  · obtain ⟨g0, g1, g2, g3⟩ := hc.out w' hw'
    go_simp
  clear hK K
  refine wpQuiet_step (fun K hK => ?_)
  go_simp
  refine ⟨.bool true, fun w' hw' => (KAl.out _ _ w' (RnZ.out.below hw') (RcZ.out.below hw')).mono (fun e w'' h => ⟨h.1, hw'.trans (h.2.mono (by have := hw'.size; simpa using this))⟩), hK _ ?_⟩
  clear hK K
  refine wpQuiet_step (fun K hK => ?_)
  go_simp
  apply Exists.intro
  constructor
  · intro w' hw'; exact rfl
  refine hK _ ?_
  clear hK K
  refine wpQuiet_step (fun K hK => ?_)
  go_simp
  apply Exists.intro
  constructor
  · intro w' hw'; exact rfl
  refine hK _ ?_
  clear hK K
  refine wpQuiet_step (fun K hK => ?_)
  go_simp
  refine ⟨.agg #[.int .i64 M, .int .i64 F, .int .i64 S, .slice ap L3.length cp], fun w' hw' => ?_, hK _ ?_⟩
  · obtain ⟨g0, g1, g2, g3⟩ := hp.out w' hw'
    go_simp
  clear hK K
  refine wpQuiet_step (fun K hK => ?_)
  go_simp
  apply Exists.intro
  constructor
  · intro w' hw'; exact rfl
  refine hK _ ?_
  clear hK K
  refine wpQuiet_step (fun K hK => ?_)
  go_simp
  refine ⟨.int .i64 M, fun w' hw' => ?_, hK _ ?_⟩
  · obtain ⟨g0, g1, g2, g3⟩ := hn.out w' hw'
    go_simp
  clear hK K
  refine wpQuiet_step (fun K hK => ?_)
  go_simp
  apply Exists.intro
  constructor
  · intro w' hw'; exact rfl
  refine hK _ ?_
  clear hK K
  refine wpQuiet_step (fun K hK => ?_)
  go_simp
  refine ⟨.int .i64 wt, fun w' hw' => (KW1.out _ _ w' (RpZ.out.below hw')).mono (fun e w'' h => ⟨h.1, hw'.trans (h.2.mono (by have := hw'.size; simpa using this))⟩), hK _ ?_⟩
  clear hK K
  refine wpQuiet_step (fun K hK => ?_)
  go_simp
  apply Exists.intro
  constructor
  · intro w' hw'; exact rfl
  refine hK _ ?_
  clear hK K
  refine wpQuiet_step (fun K hK => ?_)
  go_simp
  apply Exists.intro
  constructor
  · intro w' hw'; exact rfl
  refine hK _ ?_
  clear hK K
  refine wpQuiet_step (fun K hK => ?_)
  go_simp
  apply Exists.intro
  constructor
  · intro w' hw'; exact rfl
  refine hK _ ?_
  clear hK K
  refine wpQuiet_step (fun K hK => ?_)
  go_simp
  apply Exists.intro
  constructor
  · intro w' hw'; exact rfl
  refine hK _ ?_
  clear hK K
  refine wpQuiet_step (fun K hK => ?_)
  go_simp
  refine ⟨.agg #[.int .i64 M, .int .i64 F, .int .i64 S, .slice ap L3.length cp], fun w' hw' => ?_, hK _ ?_⟩
  · obtain ⟨g0, g1, g2, g3⟩ := hp.out w' hw'
    go_simp
  clear hK K
  refine wpQuiet_step (fun K hK => ?_)
  go_simp
  refine ⟨.int .i64 (D + wt), fun w' hw' => (KA1.out _ _ w' (RpZ.out.below hw')).mono (fun e w'' h => ⟨h.1, hw'.trans (h.2.mono (by have := hw'.size; simpa using this))⟩), hK _ ?_⟩
  clear hK K
  refine wpQuiet_step (fun K hK => ?_)
  go_simp
  apply Exists.intro
  constructor
  · intro w' hw'; exact rfl
  refine hK _ ?_
  clear hK K
  refine wpQuiet_step (fun K hK => ?_)
  go_simp
  apply Exists.intro
  constructor
  · intro w' hw'; exact rfl
  refine hK _ ?_
  clear hK K
  refine wpQuiet_step (fun K hK => ?_)
  go_simp
  refine ⟨.agg #[.int .i64 M, .int .i64 F, .int .i64 S, .slice a' l.length c'], fun w' hw' => ?_, hK _ ?_⟩
  · obtain ⟨g0, g1, g2, g3⟩ := hn.out w' hw'
    go_simp
  clear hK K
  refine wpQuiet_step (fun K hK => ?_)
  go_simp
  refine ⟨.int .i64 (D + Z), fun w' hw' => (KA2.out w' (RnZ.out.below hw')).mono (fun e w'' h => ⟨h.1, hw'.trans (h.2.mono (by have := hw'.size; simpa using this))⟩), hK _ ?_⟩
  clear hK K
  refine wpQuiet_step (fun K hK => ?_)
  go_simp
  refine ⟨.agg #[.int .i64 M, .int .i64 F, .int .i64 S, .slice a' l.length c'], fun w' hw' => ?_, hK _ ?_⟩
  · obtain ⟨g0, g1, g2, g3⟩ := hn.out w' hw'
    go_simp
  clear hK K
  refine wpQuiet_step (fun K hK => ?_)
  go_simp
  apply Exists.intro
  constructor
  · intro w' hw'; exact rfl
  refine hK _ ?_
  clear hK K
  refine wpQuiet_step (fun K hK => ?_)
  go_simp
  refine ⟨.int .i64 M, fun w' hw' => ?_, hK _ ?_⟩
  · obtain ⟨g0, g1, g2, g3⟩ := hn.out w' hw'
    go_simp
  clear hK K
  refine wpQuiet_step (fun K hK => ?_)
  go_simp
  apply Exists.intro
  constructor
  · intro w' hw'; exact rfl
  refine hK _ ?_
  clear hK K
  refine wpQuiet_step (fun K hK => ?_)
  go_simp
  refine ⟨.int .i64 Z, fun w' hw' => (KW2.out w' (RnZ.out.below hw')).mono (fun e w'' h => ⟨h.1, hw'.trans (h.2.mono (by have := hw'.size; simpa using this))⟩), hK _ ?_⟩
  clear hK K
  refine wpQuiet_step (fun K hK => ?_)
  go_simp
  apply Exists.intro
  constructor
  · intro w' hw'; exact rfl
  refine hK _ ?_
  clear hK K
  refine wpQuiet_step (fun K hK => ?_)
  go_simp
  apply Exists.intro
  constructor
  · intro w' hw'; exact rfl
  refine hK _ ?_
  clear hK K
  refine wpQuiet_step (fun K hK => ?_)
  go_simp
  apply Exists.intro
  constructor
  · intro w' hw'; exact rfl
  refine hK _ ?_
  clear hK K
  refine wpQuiet_step (fun K hK => ?_)
  go_simp
  apply Exists.intro
  constructor
  · intro w' hw'; exact rfl
  refine hK _ ?_
  clear hK K
  refine wpQuiet_step (fun K hK => ?_)
  go_simp
  refine ⟨.agg #[.int .i64 M, .int .i64 F, .int .i64 S, .slice ax L1.length cx], fun w' hw' => ?_, hK _ ?_⟩
  · obtain ⟨g0, g1, g2, g3⟩ := hx.out w' hw'
    go_simp
  clear hK K
  refine wpQuiet_step (fun K hK => ?_)
  go_simp
  refine ⟨.int .i64 TL, fun w' hw' => (KT1.out _ _ w' (RxZ.out.below hw')).mono (fun e w'' h => ⟨h.1, hw'.trans (h.2.mono (by have := hw'.size; simpa using this))⟩), hK _ ?_⟩
  clear hK K
  refine wpQuiet_step (fun K hK => ?_)
  go_simp
  refine ⟨.agg #[.int .i64 M, .int .i64 F, .int .i64 S, .slice a' l.length c'], fun w' hw' => ?_, hK _ ?_⟩
  · obtain ⟨g0, g1, g2, g3⟩ := hn.out w' hw'
    go_simp
  clear hK K
  refine wpQuiet_step (fun K hK => ?_)
  go_simp
  refine ⟨.int .i64 TL, fun w' hw' => (KT2.out _ _ w' (RnZ.out.below hw')).mono (fun e w'' h => ⟨h.1, hw'.trans (h.2.mono (by have := hw'.size; simpa using this))⟩), hK _ ?_⟩
  clear hK K
  refine wpQuiet_step (fun K hK => ?_)
  go_simp
  apply Exists.intro
  constructor
  · intro w' hw'; exact rfl
  refine hK _ ?_
  clear hK K
  refine wpQuiet_step (fun K hK => ?_)
  go_simp
  apply Exists.intro
  constructor
  · intro w' hw'; exact rfl
  refine hK _ ?_
  clear hK K
  refine wpQuiet_step (fun K hK => ?_)
  go_simp
  apply Exists.intro
  constructor
  · intro w' hw'; exact rfl
  refine hK _ ?_
  clear hK K
  refine wpQuiet_nil ?_
  intro wF hF
  have BF : Hid (Below w.heap.size w wF) := bstep BZ.out hF
  clear hF
  go_wp2_with fail
  go_ret
  exact ⟨rfl, BF.out⟩
end Go.Proofs.Ytjchindjoailbaa

/- A caller's bytes, opened. -/
namespace Go.Proofs.Ytjchindjoailbaa
set_option linter.unusedSimpArgs false
set_option linter.unusedVariables false
set_option maxRecDepth 100000
open Go.RowKit Go.ChangeShapes Go.WideShapes Go.ChangeAt

theorem flat_u8 : ∀ l : List Int, l.flatMap (fun z => [Value.int .u8 z]) = u8s l
  | [] => rfl
  | a :: l => by rw [List.flatMap_cons, flat_u8 l]; rfl
section
variable {H : Type} {enc : TypeId × Value → H} {w : World} {base : Nat} {spare : Nat → Bool} {held : Bool}
theorem open_bytes {fuel : Nat} {cs : List Value} {x : DataW H × List MemPlace} (h : DataW.trod enc Try.prog w base spare held fuel 22 cs = some x) :
    ∃ (a : Option Addr) (n c : Nat) (l : List Int), cs = [.slice a n c] ∧ ArgRow w a n c 1 (u8s l) := by
  obtain ⟨a, n, c, l, e, _, hr, _⟩ := open_rows Try.underlying22 (by kernel_rfl) (Nat.zero_lt_one) (fun z : Int => [.int .u8 z]) (fun _ => True) (fun _ => rfl)
    (fun n cs y h => by obtain ⟨z, h1, _, _⟩ := DataW.trod_int Try.underlying5 h; exact ⟨z, h1, trivial⟩) h
  rw [flat_u8] at hr
  exact ⟨a, n, c, l, e, hr⟩
end
end Go.Proofs.Ytjchindjoailbaa

/- For every code the law FnNets (networks) answers true and leaves its argument as it was. -/
namespace Go.Proofs.Ytjchindjoailbaa
set_option linter.unusedSimpArgs false
set_option linter.unusedVariables false
open Go.ChangeShapes Go.WideShapes Go.ChangeAt Go.RowKit
open Go.ChangeMaps (open_string shut_string)
set_option linter.unusedVariables false

set_option maxRecDepth 100000 in
theorem lifted_FnNets (os : Os) (started : os.Started) (H : Type) (enc : TypeId × Value → H) :
    ReturnsInHanded {} Try.checked os 9 .any (Rows.fnNetsSpec.pre6 enc Try.prog Try.f9 Rows.fnNetsRow.domain false) (Rows.fnNetsSpec.post enc Try.prog Try.f9 false true false false) := by
  refine returnsInHanded_of_change (C := Try.checked) own started (by kernel_rfl) Try.func9
    (ChangeSpec.witness6 (enc := enc) (C := Try.checked) false ⟨#[], #[.slice none 0 0], []⟩ 8 (by kernel_rfl) (by kernel_rfl) (by kernel_rfl) (by kernel_rfl)) ?_
  intro W base args ds gs before hval0 hW hcnd _
  have hval : ∀ (j : Nat) t v, Try.f9.params[j]? = some t → args[j]? = some v → Value.okWide Try.prog W .any base t v := hval0
  have hW' := hW
  obtain ⟨p, q, hA0, hV, rfl, hfz, hnd⟩ := hW
  have hA : DataW.TrodAll enc Try.prog W 0 (fun _ => true) true Try.f9.params.toList args.toList ds p := hA0
  rw [Try.params9] at hA hval
  obtain ⟨v0, vs0, d0, ds0, p0, q0, hargs, rfl, rfl, h0, r0⟩ := trodAll_cons hA
  obtain ⟨rfl, rfl, rfl⟩ := trodAll_nil r0
  obtain rfl : args = #[v0] := by cases args; simp_all
  obtain ⟨rfl, rfl⟩ := trodVars_none hV
  have k0 := h0
  have lt0 : ∀ x ∈ p0, x.block < W.heap.size := by obtain ⟨m, hm⟩ := k0; exact DataW.trod_lt m _ _ _ hm
  obtain ⟨b0, bn0, bc0, rfl⟩ := okWide_slice Try.underlying22 (hval 0 22 v0 rfl rfl)
  obtain ⟨fu0, hm0⟩ := h0
  obtain ⟨a0, n0, c0, l0, e0, w0⟩ := open_bytes hm0
  have e0 : [Value.slice b0 bn0 bc0] = [Value.slice a0 n0 c0] := e0
  simp only [List.cons.injEq, Value.slice.injEq, and_true] at e0
  obtain ⟨rfl, rfl, rfl⟩ := e0
  clear hA0 hval0
  refine (walk_FnNets _ _ _ l0 W w0).mono fun e W' ⟨he, bel⟩ => ?_
  subst he
  exact ⟨_, rfl, _, _, _, [], _, [], hW', trodAll_mk1 (shut_bool Try.underlying4 _), (trodAll_cons_mk (Below.trod laidOut (by kernel_rfl) (of_decide_eq_true (by kernel_rfl)) k0 bel lt0) trodAll_mk0), rfl, bel.frame _, fun h => by cases h⟩

set_option maxRecDepth 100000 in
set_option maxHeartbeats 8000000 in
theorem closed_FnNets : joinedFacts Try.pinned.checked.prog 9 Try.f9 Rows.fnNetsSpec Rows.fnNetsRow = true := by
  unfold joinedFacts
  repeat' (with_reducible refine band ?_ ?_)
  all_goals first | (with_reducible exact mayEnter_p) | ((with_reducible refine bmake (finals_p.trans ?_)); rfl) | ((with_reducible refine beq_iff_eq.2 (make_p.trans ?_)); rfl) | (as_aux_lemma => kernel_rfl)

theorem fnNets_holds : Rows.FnNetsSaid :=
  OpenClaim.holds_of_wide 9 Try.f9 rfl rfl rfl rfl rfl rfl rfl ⟨rfl, rfl, rfl, rfl, rfl⟩ rfl rfl rfl rfl rfl (by kernel_rfl) Try.func9 closed_FnNets
    (of_decide_eq_true (by kernel_rfl)) (by unfold Func.isWrapper; first | (rw [if_pos (by decide +kernel)]; kernel_rfl) | (rw [if_neg (by decide +kernel)]; exact ⟨rfl, rfl⟩))
    (fun os started H enc _ => lifted_FnNets os started H enc)

end Go.Proofs.Ytjchindjoailbaa
