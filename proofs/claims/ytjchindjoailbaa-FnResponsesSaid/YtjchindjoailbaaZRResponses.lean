/- The response's minors: symmetric, not positive off the diagonal, rows' sums 0; currents and power. Plain Lean. -/
import Derived.Test.YtjchindjoailbaaG24
import Derived.Test.YtjchindjoailbaaG23
import Derived.Test.YtjchindjoailbaaG07
import Derived.Test.YtjchindjoailbaaG25
import Derived.Test.YtjchindjoailbaaG22
import Derived.Test.YtjchindjoailbaaG14
import Derived.Test.YtjchindjoailbaaG26
import Derived.Test.YtjchindjoailbaaG16
import Derived.Test.YtjchindjoailbaaG01
import Derived.Test.YtjchindjoailbaaG20
import Derived.WalkKit
import Derived.ProofKit
import Derived.OpenShut
import Derived.ShutString
import Derived.ChangeOld
import Derived.Below
import Derived.Lib.SmallJoins
namespace Gn
def sumK (g : Nat → Int) : Nat → Int
  | 0 => 0
  | k + 1 => sumK g k + g k
theorem sumK_add (g h : Nat → Int) : ∀ n, sumK (fun k => g k + h k) n = sumK g n + sumK h n
  | 0 => rfl
  | n + 1 => by simp only [sumK, sumK_add g h n]; omega
theorem sumK_mul (c : Int) (g : Nat → Int) : ∀ n, sumK (fun k => c * g k) n = c * sumK g n
  | 0 => by simp [sumK]
  | n + 1 => by simp only [sumK, sumK_mul c g n, Int.mul_add]
theorem sumK_zero : ∀ n, sumK (fun _ => 0) n = 0
  | 0 => rfl
  | n + 1 => by simp only [sumK, sumK_zero n]; rfl
theorem sumK_congr {g h : Nat → Int} : ∀ {n : Nat}, (∀ k, k < n → g k = h k) → sumK g n = sumK h n
  | 0, _ => rfl
  | n + 1, e => by simp only [sumK]; rw [sumK_congr (n := n) (fun k hk => e k (by omega)), e n (by omega)]
theorem sumK_comm (g : Nat → Nat → Int) (m : Nat) : ∀ n, sumK (fun i => sumK (fun j => g i j) m) n = sumK (fun j => sumK (fun i => g i j) n) m
  | 0 => by simp only [sumK]; exact (sumK_zero m).symm
  | n + 1 => by
    simp only [sumK]
    rw [sumK_comm g m n, sumK_add]
theorem sumK_np {g : Nat → Int} : ∀ {n : Nat}, (∀ k, k < n → g k ≤ 0) → sumK g n ≤ 0
  | 0, _ => Int.le_refl _
  | n + 1, e => by
    have := sumK_np (n := n) (fun k hk => e k (by omega))
    have := e n (by omega)
    simp only [sumK]; omega
theorem sumK_bd {g : Nat → Int} {B : Int} : ∀ {n : Nat}, (∀ k, k < n → -B ≤ g k ∧ g k ≤ B) → -(n * B) ≤ sumK g n ∧ sumK g n ≤ n * B
  | 0, _ => by simp [sumK]
  | n + 1, e => by
    have := sumK_bd (n := n) (fun k hk => e k (by omega))
    have := e n (by omega)
    have : ((n + 1 : Nat) : Int) * B = n * B + B := by rw [show ((n + 1 : Nat) : Int) = (n : Int) + 1 from by omega, Int.add_mul, Int.one_mul]
    simp only [sumK]; omega
theorem sum_upto (g : Int → Int) : ∀ n, ((upto n).map g).sum = sumK (fun k => g k) n
  | 0 => rfl
  | n + 1 => by
    have : upto (n + 1) = upto n ++ [(n : Int)] := by simp [upto, List.range_succ]
    rw [this, List.map_append, List.sum_append, sum_upto g n]; simp [sumK]
/-- a form with rows' sums 0 and nothing positive off the diagonal is not negative -/
theorem form_nn (T : Nat → Nat → Int) (v : Nat → Int) (n : Nat) (hs : ∀ i j, i < n → j < n → T i j = T j i) (hn : ∀ i j, i < n → j < n → ¬ i = j → T i j ≤ 0) (hz : ∀ i, i < n → sumK (T i) n = 0) :
    0 ≤ sumK (fun i => sumK (fun j => T i j * v i * v j) n) n := by
  have h1 : sumK (fun i => sumK (fun j => T i j * (v i * v i)) n) n = 0 := by
    rw [sumK_congr (h := fun _ => 0) (fun i hi => ?_), sumK_zero]
    rw [sumK_congr (h := fun j => (v i * v i) * T i j) (fun j _ => Int.mul_comm _ _), sumK_mul]
    have : sumK (fun k => T i k) n = 0 := hz i hi
    rw [this, Int.mul_zero]
  have h2 : sumK (fun i => sumK (fun j => T i j * (v j * v j)) n) n = 0 := by
    rw [sumK_comm, ← h1]
    exact sumK_congr fun i hi => sumK_congr fun j hj => by rw [hs j i hj hi]
  have h3 : sumK (fun i => sumK (fun j => T i j * ((v i - v j) * (v i - v j))) n) n ≤ 0 := by
    refine sumK_np fun i hi => sumK_np fun j hj => ?_
    by_cases e : i = j
    · subst e; simp
    · have h4 := hn i j hi hj e
      have h5 : 0 ≤ (v i - v j) * (v i - v j) := by
        by_cases h : 0 ≤ v i - v j
        · exact Int.mul_nonneg h h
        · exact mul_nn (by omega) (by omega)
      have := Int.mul_nonneg (show 0 ≤ -T i j by omega) h5
      rw [Int.neg_mul] at this; omega
  have h4 : sumK (fun i => sumK (fun j => T i j * ((v i - v j) * (v i - v j))) n) n = sumK (fun i => sumK (fun j => T i j * (v i * v i)) n) n + sumK (fun i => sumK (fun j => T i j * (v j * v j)) n) n + -2 * sumK (fun i => sumK (fun j => T i j * v i * v j) n) n := by
    rw [← sumK_mul, ← sumK_add, ← sumK_add]
    refine sumK_congr fun i _ => ?_
    rw [← sumK_mul, ← sumK_add, ← sumK_add]
    exact sumK_congr fun j _ => by grind
  omega
end Gn
namespace Go.Proofs.Ytjchindjoailbaa
set_option linter.unusedSimpArgs false
set_option linter.unusedVariables false
open Go.RowKit
theorem upto_split (F : Nat) : ∀ k, upto (F + k) = upto F ++ innerK F k
  | 0 => by simp [innerK, upto]
  | k + 1 => by rw [← Nat.add_assoc, upto_succ, upto_split F k, innerK_succ, List.append_assoc]; simp
section
variable {M F : Nat} {S : Int} {l : List Wz}
theorem NetOk.top (h : NetOk M F S l) (hF0 : 1 ≤ F) (hF : F ≤ M) {i j : Int} (hi : 0 ≤ i ∧ i < F) (hj : 0 ≤ j ∧ j < F) : topW M F l i j = Gn.detP (Gn.lapW M (wbF l)) (i :: innerK F (M - F)) (j :: innerK F (M - F)) := by
  have hM5 : M ≤ 5 := by have := h.h.n5; omega
  have hl := innerK_len F (M - F)
  have hin := innerK_in hF
  unfold topW
  refine h.det (by simp; omega) (by simp) (fun x hx => ?_) (fun x hx => ?_)
  · rcases List.mem_cons.1 hx with rfl | hx
    · omega
    · exact hin x hx
  · rcases List.mem_cons.1 hx with rfl | hx
    · omega
    · exact hin x hx
theorem NetOk.down (h : NetOk M F S l) (hF : F ≤ M) : downW M F l = Gn.detP (Gn.lapW M (wbF l)) (innerK F (M - F)) (innerK F (M - F)) := by
  have hM5 : M ≤ 5 := by have := h.h.n5; omega
  have hl := innerK_len F (M - F)
  unfold downW
  exact h.det (by omega) (Nat.le_refl _) (innerK_in hF) (innerK_in hF)
theorem NetOk.inNice (h : NetOk M F S l) (hF0 : 1 ≤ F) (hF : F ≤ M) : Gn.Nice (Gn.lapW M (wbF l)) (innerK F (M - F)) :=
  h.nice (innerK_nodup _ _) (innerK_in hF) (fun hx => by have := innerK_mem hx; omega)
theorem lap_np (h : NetOk M F S l) {i j : Int} (e : ¬ i = j) : Gn.lapW M (wbF l) i j ≤ 0 := by
  have := h.wb i j
  unfold Gn.lapW; rw [if_neg e]; omega
theorem lap_sym (M : Nat) (l : List Wz) (i j : Int) : Gn.lapW M (wbF l) i j = Gn.lapW M (wbF l) j i := by
  unfold Gn.lapW
  by_cases e : i = j
  · subst e; rfl
  · rw [if_neg e, if_neg (Ne.symm e), wbF_comm]
theorem NetOk.topSym (h : NetOk M F S l) (hF0 : 1 ≤ F) (hF : F ≤ M) {i j : Int} (hi : 0 ≤ i ∧ i < F) (hj : 0 ≤ j ∧ j < F) : topW M F l i j = topW M F l j i := by
  have hM5 : M ≤ 5 := by have := h.h.n5; omega
  have hl := innerK_len F (M - F)
  rw [h.top hF0 hF hi hj, h.top hF0 hF hj hi]
  exact Gn.top_sym _ _ _ _ (by omega) (h.inNice hF0 hF) (lap_sym M l)
theorem NetOk.topNeg (h : NetOk M F S l) (hF0 : 1 ≤ F) (hF : F ≤ M) {i j : Int} (hi : 0 ≤ i ∧ i < F) (hj : 0 ≤ j ∧ j < F) (hij : ¬ i = j) : topW M F l i j ≤ 0 := by
  have hM5 : M ≤ 5 := by have := h.h.n5; omega
  have hl := innerK_len F (M - F)
  rw [h.top hF0 hF hi hj]
  exact Gn.top_neg _ _ _ _ (by omega) (h.inNice hF0 hF) (fun k hk => lap_np h (by have := innerK_mem hk; omega)) (fun k hk => lap_np h (by have := innerK_mem hk; omega)) (lap_np h hij)
theorem NetOk.topSum (h : NetOk M F S l) (hF0 : 1 ≤ F) (hF : F ≤ M) {i : Int} (hi : 0 ≤ i ∧ i < F) : Gn.sumK (fun j => topW M F l i j) F = 0 := by
  have hM5 : M ≤ 5 := by have := h.h.n5; omega
  have hl := innerK_len F (M - F)
  have key := Gn.top_sum (innerK F (M - F)) (Gn.lapW M (wbF l)) i (upto F) (by omega) (h.inNice hF0 hF) (fun k hk => by
    have hk2 : 0 ≤ k ∧ k < M := by
      rcases List.mem_cons.1 hk with rfl | hk
      · omega
      · exact innerK_in hF k hk
    have h1 := Gn.whole_sum (M := M) (f := wbF l) hk2
    have h2 := upto_split F (M - F)
    rw [show F + (M - F) = M by omega] at h2
    have h3 : Gn.upto M = upto F ++ innerK F (M - F) := h2
    rw [h3, List.map_append, List.sum_append] at h1
    exact h1)
  have h4 := Gn.sum_upto (fun y => Gn.detP (Gn.lapW M (wbF l)) (i :: innerK F (M - F)) (y :: innerK F (M - F))) F
  rw [← show upto F = Gn.upto F from rfl, key] at h4
  rw [h4]
  exact Gn.sumK_congr fun k hk => h.top hF0 hF hi ⟨by omega, by omega⟩
theorem Drawn.top_bd {most : Int} (h : Drawn most M F S l) (hF : F ≤ M) {i j : Int} (hi : 0 ≤ i ∧ i < F) (hj : 0 ≤ j ∧ j < F) : -7962624 ≤ topW M F l i j ∧ topW M F l i j ≤ 7962624 := by
  have hM5 : M ≤ 5 := by have := h.ok.h.n5; omega
  have hF2 : 2 ≤ F := by have := h.e2; omega
  have hl := innerK_len F (M - F)
  rw [h.ok.top (by omega) hF hi hj]
  have h1 := Gn.detP_bd (e := Gn.lapW M (wbF l)) (B := 24) (by omega) (i :: innerK F (M - F)) (j :: innerK F (M - F)) (by simp) (fun x hx y _ => h.lap_bd (by
    rcases List.mem_cons.1 hx with rfl | hx
    · omega
    · exact innerK_in hF x hx) y)
  obtain ⟨b3, b4, b0, b1, b2⟩ := bb_3
  rw [List.length_cons, hl] at h1
  generalize Gn.detP (Gn.lapW M (wbF l)) (i :: innerK F (M - F)) (j :: innerK F (M - F)) = d at h1 ⊢
  have : M - F = 0 ∨ M - F = 1 ∨ M - F = 2 ∨ M - F = 3 := by omega
  rcases this with e | e | e | e <;> rw [e] at h1 <;> simp only [Nat.reduceAdd] at h1 <;> omega
theorem Drawn.down_bd {most : Int} (h : Drawn most M F S l) (hF : F ≤ M) : 0 < S * downW M F l ∧ S * downW M F l ≤ 248832 := by
  have hM5 : M ≤ 5 := by have := h.ok.h.n5; omega
  have hF2 : 2 ≤ F := by have := h.e2; omega
  have hl := innerK_len F (M - F)
  have h0 := (h.ok.down_pos (by omega) hF).1
  refine ⟨(h.ok.sdown (by omega) hF).1, ?_⟩
  rw [h.ok.down hF] at h0 ⊢
  have h1 := (Gn.detP_bd (e := Gn.lapW M (wbF l)) (B := 24) (by omega) (innerK F (M - F)) (innerK F (M - F)) (by simp) (fun x hx y _ => h.lap_bd (innerK_in hF x hx) y)).2
  obtain ⟨b3, b4, b0, b1, b2⟩ := bb_3
  rw [hl] at h1
  have s3 := h.s3
  have s1 := h.ok.h.s1
  generalize Gn.detP (Gn.lapW M (wbF l)) (innerK F (M - F)) (innerK F (M - F)) = d at h0 h1 ⊢
  have h2 : d ≤ 82944 := by
    have : M - F = 0 ∨ M - F = 1 ∨ M - F = 2 ∨ M - F = 3 := by omega
    rcases this with e | e | e | e <;> rw [e] at h1 <;> omega
  have h3 := Gn.mul_bd' (x := S) (y := d) (X := 3) (Y := 82944) ⟨by omega, by omega⟩ ⟨by omega, by omega⟩
  omega
end
/-- the current at terminal i, of the first k potentials -/
def curK (T : Nat → Nat → Int) (v : List Int) (i k : Nat) : Int := Gn.sumK (fun j => T i j * v.getD j 0) k
/-- the power, rows before i, and k entries of row i -/
def powK (T : Nat → Nat → Int) (v : List Int) (F i k : Nat) : Int := Gn.sumK (fun p => Gn.sumK (fun j => T p j * v.getD p 0 * v.getD j 0) F) i + Gn.sumK (fun j => T i j * v.getD i 0 * v.getD j 0) k
/-- what the law on responses asks -/
structure RespLaw (M F : Nat) (S : Int) (l : List Wz) (v : List Int) (T : Nat → Nat → Int) (D : Int) : Prop where
  tb : ∀ i j, i < F → j < F → -7962624 ≤ T i j ∧ T i j ≤ 7962624
  dp : 0 < D ∧ D ≤ 248832
  cb : ∀ i k, i < F → k ≤ F → -300000000 ≤ curK T v i k ∧ curK T v i k ≤ 300000000
  pb : ∀ i k, i < F → k ≤ F → -10000000000 ≤ powK T v F i k ∧ powK T v F i k ≤ 10000000000
  rowr : ∀ i k, i < F → k < F → addR (Gn.rat (curK T v i k) D) (timesR (Gn.rat (T i k) D) (Gn.rat (v.getD k 0) 1)) = Gn.rat (curK T v i (k + 1)) D
  all : ∀ k, k < F → addR (Gn.rat (Gn.sumK (fun i => curK T v i F) k) D) (Gn.rat (curK T v k F) D) = Gn.rat (Gn.sumK (fun i => curK T v i F) (k + 1)) D
  fin : Gn.rat (Gn.sumK (fun i => curK T v i F) F) D = (0, 1)
  z : Gn.rat 0 D = (0, 1)
  nn : 0 ≤ (Gn.rat (powK T v F F 0) D).1
theorem ratN_nn {n d : Int} (hn : 0 ≤ n) (hd : 0 < d) (hf : Gn.fit n d = true) : 0 ≤ (Gn.rat n d).1 := by
  unfold Gn.rat; rw [if_pos hf]
  have h1 := Gn.rat_cross n d
  have h2 := Gn.ratD_pos n d (by omega)
  have h3 : 0 ≤ n * Gn.ratD n d := Int.mul_nonneg hn (by omega)
  simp only
  by_cases h : Gn.ratN n d < 0
  · have := Int.mul_pos (show 0 < -Gn.ratN n d by omega) hd
    rw [Int.neg_mul] at this; omega
  · omega
theorem respLaw {most : Int} {M F : Nat} {S : Int} {l : List Wz} (h : Drawn most M F S l) (hF : F ≤ M) {v : List Int} (hv : v.length = F) (hb : ∀ x ∈ v, -5 ≤ x ∧ x ≤ 5) :
    RespLaw M F S l v (fun i j => topW M F l i j) (S * downW M F l) := by
  have hM5 : M ≤ 5 := by have := h.ok.h.n5; omega
  have hF2 : 2 ≤ F := by have := h.e2; omega
  have hF1 : 1 ≤ F := by omega
  have hT : ∀ i j : Nat, i < F → j < F → -7962624 ≤ topW M F l i j ∧ topW M F l i j ≤ 7962624 := fun i j hi hj => h.top_bd hF ⟨by omega, by omega⟩ ⟨by omega, by omega⟩
  have hvb : ∀ j, -5 ≤ v.getD j 0 ∧ v.getD j 0 ≤ 5 := fun j => by
    rw [List.getD_eq_getElem?_getD]
    by_cases hj : j < v.length
    · rw [List.getElem?_eq_getElem hj, Option.getD_some]; exact hb _ (List.getElem_mem _)
    · rw [List.getElem?_eq_none (by omega)]; simp
  obtain ⟨d1, d2⟩ := h.down_bd hF
  have hc1 : ∀ i j : Nat, i < F → j < F → -39813120 ≤ topW M F l i j * v.getD j 0 ∧ topW M F l i j * v.getD j 0 ≤ 39813120 := fun i j hi hj => Gn.mul_bd' (X := 7962624) (Y := 5) (hT i j hi hj) (hvb j)
  have hc : ∀ i k : Nat, i < F → k ≤ F → -(k * 39813120) ≤ curK (fun i j => topW M F l i j) v i k ∧ curK (fun i j => topW M F l i j) v i k ≤ k * 39813120 := fun i k hi hk => Gn.sumK_bd (fun j hj => hc1 i j hi (by omega))
  have hp1 : ∀ i j : Nat, i < F → j < F → -199065600 ≤ topW M F l i j * v.getD i 0 * v.getD j 0 ∧ topW M F l i j * v.getD i 0 * v.getD j 0 ≤ 199065600 := fun i j hi hj => Gn.mul_bd' (X := 39813120) (Y := 5) (Gn.mul_bd' (X := 7962624) (Y := 5) (hT i j hi hj) (hvb i)) (hvb j)
  have hp2 : ∀ i k : Nat, i < F → k ≤ F → -(k * 199065600) ≤ Gn.sumK (fun j => topW M F l i j * v.getD i 0 * v.getD j 0) k ∧ Gn.sumK (fun j => topW M F l i j * v.getD i 0 * v.getD j 0) k ≤ k * 199065600 := fun i k hi hk => Gn.sumK_bd (fun j hj => hp1 i j hi (by omega))
  have hp3 : ∀ i : Nat, i ≤ F → -(i * 995328000) ≤ Gn.sumK (fun p => Gn.sumK (fun j => topW M F l p j * v.getD p 0 * v.getD j 0) F) i ∧ Gn.sumK (fun p => Gn.sumK (fun j => topW M F l p j * v.getD p 0 * v.getD j 0) F) i ≤ i * 995328000 := fun i hi => Gn.sumK_bd (fun p hp => by have := hp2 p F (by omega) (Nat.le_refl _); omega)
  have hfr' : ∀ x : Int, -10000000000 ≤ x ∧ x ≤ 10000000000 → Gn.Fr 10000000000 248832 x (S * downW M F l) := fun x hx => ⟨by omega, by omega, d1, d2, by decide, by decide⟩
  have hfr : ∀ x : Int, -1000000000 ≤ x ∧ x ≤ 1000000000 → Gn.Fr 1000000000 248832 x (S * downW M F l) := fun x hx => ⟨by omega, by omega, d1, d2, by decide, by decide⟩
  have hall : ∀ k, k ≤ F → -(k * 199065600) ≤ Gn.sumK (fun i => curK (fun i j => topW M F l i j) v i F) k ∧ Gn.sumK (fun i => curK (fun i j => topW M F l i j) v i F) k ≤ k * 199065600 := fun k hk => Gn.sumK_bd (fun p hp => by have := hc p F (by omega) (Nat.le_refl _); omega)
  have hzero : Gn.sumK (fun i => curK (fun i j => topW M F l i j) v i F) F = 0 := by
    unfold curK
    rw [Gn.sumK_comm, Gn.sumK_congr (h := fun _ => 0) (fun j hj => ?_), Gn.sumK_zero]
    rw [Gn.sumK_congr (h := fun i : Nat => v.getD j 0 * topW M F l j i) (fun i hi => by show topW M F l i j * _ = _; rw [h.ok.topSym hF1 hF (i := i) (j := j) ⟨by omega, by omega⟩ ⟨by omega, by omega⟩, Int.mul_comm]), Gn.sumK_mul, h.ok.topSum hF1 hF ⟨by omega, by omega⟩, Int.mul_zero]
  refine ⟨hT, ⟨d1, d2⟩, fun i k hi hk => ?_, fun i k hi hk => ?_, fun i k hi hk => ?_, fun k hk => ?_, ?_, Gn.rat_zero d1, ?_⟩
  · have := hc i k hi hk; omega
  · have h1 := hp2 i k hi hk
    have h2 := hp3 i (by omega)
    have h3 : powK (fun i j => topW M F l i j) v F i k = Gn.sumK (fun p => Gn.sumK (fun j => topW M F l p j * v.getD p 0 * v.getD j 0) F) i + Gn.sumK (fun j => topW M F l i j * v.getD i 0 * v.getD j 0) k := rfl
    rw [h3]; omega
  · have h1 := hc i k hi (by omega)
    have h2 := hc1 i k hi hk
    have h3 := hT i k hi hk
    have h4 := hvb k
    have a1 : Gn.Fr 7962624 248832 (topW M F l i k) (S * downW M F l) := ⟨by omega, by omega, d1, d2, by decide, by decide⟩
    have a2 : Gn.Fr 5 1 (v.getD k 0) 1 := ⟨by omega, by omega, by decide, by decide, by decide, by decide⟩
    show addR _ (timesR (Gn.rat (topW M F l i k) _) _) = _
    rw [times_rat a1 a2 ⟨by decide, by decide, by decide, by decide⟩, Int.mul_one, add_rat (hfr _ (by omega)) (hfr _ (by omega)) ⟨by decide, by decide, by decide, by decide⟩]
    refine Gn.rat_eq (Int.mul_pos d1 d1) d1 ?_
    show _ = (curK (fun i j => topW M F l i j) v i k + topW M F l i k * v.getD k 0) * _
    generalize curK (fun i j => topW M F l i j) v i k = x
    generalize topW M F l i k * v.getD k 0 = y
    generalize S * downW M F l = d
    grind
  · have h1 := hc k F hk (Nat.le_refl _)
    have h2 := hall k (by omega)
    rw [add_rat (hfr _ (by omega)) (hfr _ (by omega)) ⟨by decide, by decide, by decide, by decide⟩]
    refine Gn.rat_eq (Int.mul_pos d1 d1) d1 ?_
    show _ = (Gn.sumK (fun i => curK (fun i j => topW M F l i j) v i F) k + curK (fun i j => topW M F l i j) v k F) * _
    generalize curK (fun i j => topW M F l i j) v k F = x
    generalize Gn.sumK (fun i => curK (fun i j => topW M F l i j) v i F) k = y
    generalize S * downW M F l = d
    grind
  · rw [hzero]; exact Gn.rat_zero d1
  · have h1 := hp3 F (Nat.le_refl _)
    have h2 : powK (fun i j => topW M F l i j) v F F 0 = Gn.sumK (fun p => Gn.sumK (fun j => topW M F l p j * v.getD p 0 * v.getD j 0) F) F := by
      unfold powK; simp [Gn.sumK]
    rw [h2]
    refine ratN_nn (Gn.form_nn (fun i j => topW M F l i j) (fun p => v.getD p 0) F (fun i j hi hj => h.ok.topSym hF1 hF ⟨by omega, by omega⟩ ⟨by omega, by omega⟩) (fun i j hi hj hij => h.ok.topNeg hF1 hF ⟨by omega, by omega⟩ ⟨by omega, by omega⟩ (by omega)) (fun i hi => h.ok.topSum hF1 hF ⟨by omega, by omega⟩)) d1 (hfr' _ (by omega)).fit
theorem respM_at {M F : Nat} {S : Int} {l : List Wz} {i j : Nat} (hi : i < F) (hj : j < F) : atM (respM M F S l) i j = Gn.rat (topW M F l i j) (S * downW M F l) := by
  have hl : i < (respM M F S l).length := by simp [respM]; exact hi
  have hr : (respM M F S l)[i] = respRow M F S l i F := by simp [respM]
  have hj2 : j < (respM M F S l)[i].length := by rw [hr, respRow_len]; exact hj
  rw [atM_eq hl hj2]
  simp only [hr]
  simp [respRow, upto_at, respV]
/-- a drawn network's response is one -/
theorem respOk {most : Int} {M F : Nat} {S : Int} {l : List Wz} (h : Drawn most M F S l) (hF : F ≤ M) : RespOk (respM M F S l) F := by
  have hM5 : M ≤ 5 := by have := h.ok.h.n5; omega
  have hF2 : 2 ≤ F := by have := h.e2; omega
  have hF1 : 1 ≤ F := by omega
  obtain ⟨d1, d2⟩ := h.down_bd hF
  have hT : ∀ i j : Nat, i < F → j < F → -7962624 ≤ topW M F l i j ∧ topW M F l i j ≤ 7962624 := fun i j hi hj => h.top_bd hF ⟨by omega, by omega⟩ ⟨by omega, by omega⟩
  have hfr : ∀ x : Int, -100000000 ≤ x ∧ x ≤ 100000000 → Gn.Fr 100000000 248832 x (S * downW M F l) := fun x hx => ⟨by omega, by omega, d1, d2, by decide, by decide⟩
  have hlen : (respM M F S l).length = F := by simp [respM]
  have hrow : ∀ k (hk : k < (respM M F S l).length), (respM M F S l)[k] = respRow M F S l k F := fun k hk => by simp [respM]
  refine ⟨hF1, by omega, fun k hk => by rw [hrow k hk, respRow_len], fun k hk x hx => ?_, fun k hk => ⟨fun j hj => ?_, ?_⟩⟩
  · rw [hrow k hk] at hx
    unfold respRow at hx
    obtain ⟨q, hq, rfl⟩ := List.mem_map.1 hx
    have hq2 := (Gn.upto_mem F q).1 hq
    have := h.top_bd hF (i := k) (j := q) ⟨by omega, by omega⟩ hq2
    exact okZ_rat (hfr _ (by omega))
  · rw [hlen] at hk
    refine ⟨?_, ?_⟩
    · rw [respM_at hk hj, respM_at hj hk, h.ok.topSym hF1 hF ⟨by omega, by omega⟩ ⟨by omega, by omega⟩]
    · by_cases e : k = j
      · exact .inl e
      · right
        rw [respM_at hk hj]
        have hn := h.ok.topNeg hF1 hF (i := k) (j := j) ⟨by omega, by omega⟩ ⟨by omega, by omega⟩ (by omega)
        have hb := hT k j hk hj
        have hf := hfr (topW M F l k j) (by omega)
        rw [hf.rat]
        have h1 := Gn.rat_cross (topW M F l k j) (S * downW M F l)
        have h2 := Gn.ratD_pos (topW M F l k j) (S * downW M F l) (by omega)
        simp only
        by_cases h3 : 0 < Gn.ratN (topW M F l k j) (S * downW M F l)
        · have h4 := Int.mul_pos h3 d1
          have h5 := Gn.mul_pn h2 hn
          rw [Int.mul_comm] at h5; omega
        · omega
  · rw [hlen] at hk
    have hg : (respM M F S l).getD k [] = respRow M F S l k F := by
      rw [List.getD_eq_getElem?_getD, List.getElem?_eq_getElem (by rw [hlen]; exact hk), Option.getD_some, hrow]
    rw [hg]
    have key : ∀ q, q ≤ F → sumR ((respRow M F S l k F).take q) = Gn.rat (Gn.sumK (fun j => topW M F l k j) q) (S * downW M F l) := by
      intro q
      induction q with
      | zero => intro _; simp only [List.take_zero, Gn.sumK]; rw [Gn.rat_zero d1]; rfl
      | succ q ih =>
        intro hq
        have hq2 : q < (respRow M F S l k F).length := by rw [respRow_len]; omega
        rw [sumR_snoc hq2, ih (by omega)]
        have e1 : (respRow M F S l k F)[q] = Gn.rat (topW M F l k q) (S * downW M F l) := by simp [respRow, upto_at, respV]
        have hb := hT k q hk (by omega)
        have hs := Gn.sumK_bd (g := fun j : Nat => topW M F l k j) (B := 7962624) (n := q) (fun j hj => hT k j hk (by omega))
        rw [e1, add_rat (hfr _ (by omega)) (hfr _ (by omega)) ⟨by decide, by decide, by decide, by decide⟩]
        refine Gn.rat_eq (Int.mul_pos d1 d1) d1 ?_
        simp only [Gn.sumK]
        generalize Gn.sumK (fun j => topW M F l k j) q = x
        generalize topW M F l k q = y
        generalize S * downW M F l = d
        grind
    have h9 := key F (Nat.le_refl _)
    rw [List.take_of_length_le (by rw [respRow_len]; exact Nat.le_refl _), h.ok.topSum hF1 hF ⟨by omega, by omega⟩, Gn.rat_zero d1] at h9
    exact h9
end Go.Proofs.Ytjchindjoailbaa

/- CurrentsFor of the program, at a drawn network's potentials. -/
namespace Go.Proofs.Ytjchindjoailbaa
set_option linter.unusedSimpArgs false
set_option linter.unusedVariables false
open Go.RowKit

/-- the currents at the first k terminals -/
def curL (T : Nat → Nat → Int) (D : Int) (V : List Int) (F k : Nat) : List Rz := (List.range k).map fun i => Gn.rat (curK T V i F) D
theorem curL_succ (T : Nat → Nat → Int) (D : Int) (V : List Int) (F k : Nat) : curL T D V F (k + 1) = curL T D V F k ++ [Gn.rat (curK T V k F) D] := by simp [curL, List.range_succ]
theorem curL_len (T : Nat → Nat → Int) (D : Int) (V : List Int) (F k : Nat) : (curL T D V F k).length = k := by simp [curL]
set_option maxRecDepth 100000 in
set_option maxHeartbeats 16000000 in
theorem implCurrentsFor (M F : Nat) (S : Int) (a : Option Addr) (n c : Nat) (l : List Wz) (hF0 : 1 ≤ F) (hF : F ≤ M) (hok : NetOk M F S l) (V : List Int) (hVl : V.length = F) (hVb : ∀ x ∈ V, -5 ≤ x ∧ x ≤ 5)
    (RL : RespLaw M F S l V (fun i j => topW M F l i j) (S * downW M F l)) (av : Nat) (cv : Nat) (w : World) (hr : ArgRow w a n c 3 (wires l)) (hl : l.length = n) (hv : ArgRow w (some ⟨av, 0, none⟩) F cv 1 (ints V)) :
    Calls Try.prog 59 #[netV M F S a n c, .slice (some ⟨av, 0, none⟩) F cv] w fun e w' => ∃ g c', e = .returned (.tuple #[.slice (some ⟨g, 0, none⟩) F c', .bool true]) ∧ ArgRow w' (some ⟨g, 0, none⟩) F c' 2 (rats (curL (fun i j => topW M F l i j) (S * downW M F l) V F F)) ∧ g < w'.heap.size ∧ Below w.heap.size w w' := by
  obtain ⟨i0, hi, hz0, hz1, hz2⟩ := info_parts infoRat
  have HI := Lib.hid (And.intro hi (And.intro hz0 (And.intro hz1 hz2)))
  clear hi hz0 hz1 hz2
  have hM5 : M ≤ 5 := by have := hok.h.n5; omega
  have HR := Lib.hid hr
  have HVR := Lib.hid hv
  have HVL := Lib.hid hVl
  have HVB := Lib.hid hVb
  have hav : av < w.heap.size := by
    obtain ⟨b, o, e, hb, _⟩ := hv.form (by omega)
    cases e; exact hb
  have KN := Lib.hid (fun (w : World) r => implNetOk M F S a n c l true ⟨fun _ => hok, fun _ => rfl⟩ w r hl)
  have KP := Lib.hid (fun (w : World) r => implResponse M F S a n c l hF0 hF hok w r hl)
  have HTL := Lib.hid (fun (i k : Nat) => topRow_len M F l i k)
  have HTA : Hid (∀ (i j : Nat) (h : j < (topRow M F l i F).length), (topRow M F l i F)[j] = topW M F l i j) := fun i j h => by simp [topRow, upto_at]
  have HTB := Lib.hid RL.tb
  have HCB := Lib.hid RL.cb
  have hD := RL.dp
  have HCL := Lib.hid (fun (k : Nat) => curL_succ (fun i j => topW M F l i j) (S * downW M F l) V F k)
  have HC0 : Hid (curL (fun i j => topW M F l i j) (S * downW M F l) V F 0 = []) := rfl
  generalize curL (fun i j => topW M F l i j) (S * downW M F l) V F = CL at HCL HC0 ⊢
  have HCS : Hid (∀ i k : Nat, curK (fun i j => topW M F l i j) V i (k + 1) = curK (fun i j => topW M F l i j) V i k + topW M F l i k * V.getD k 0) := fun i k => rfl
  have HCZ : Hid (∀ i : Nat, curK (fun i j => topW M F l i j) V i 0 = 0) := fun i => rfl
  generalize curK (fun i j => topW M F l i j) V = CK at HCB HCL HCS HCZ
  generalize S * downW M F l = D at KP hD HCL
  clear hr hok hv hVl hVb RL
  go_enter Try.func59, Try.ntmps59
  go_wp2_with fail
  refine (KN.out _ (HR.out.below (by (repeat' (first | (with_reducible exact Below.refl _ _) | (with_reducible assumption) | (with_reducible refine balloc ?_ _) | (with_reducible refine Below.drew ?_) | (with_reducible refine below_drewN ?_ _) | (with_reducible refine bset ?_ ?_ _) | (with_reducible refine bstep ?_ (by assumption)) | go_size))))).mono ?_
  rintro e w1 ⟨rfl, hb1⟩
  have HB1 : Hid (Below (w.heap.size + 1) (NBox M F S a n c w) w1) := by have := hb1; simpa [Hid] using this
  clear hb1
  obtain ⟨hB1, hz1, u1, hz2, hz3⟩ := nbox_cells HB1.out
  have HR1 := Lib.hid (HR.out.below hB1)
  have HV1 := Lib.hid (HVR.out.below hB1)
  have hav1 : av < w1.heap.size := Nat.lt_of_lt_of_le hav hB1.size
  have hFF : ((F : Int) != (F : Int)) = false := by simp
  clear hB1 HVR hav
  go_wp2_with fail
  go_loopw [27] (fun v wr => ∃ k : Nat, k ≤ F ∧ v = .int .i64 k ∧ wr = w1) (fun v _ => F - (intOf v).toNat)
  case atStart => exact ⟨0, by omega, rfl, by first | rfl | trivial⟩
  case round =>
    obtain ⟨k, hk, rfl, rfl⟩ := hrel
    by_cases hlt : k < F
    · have hkl : k < V.length := by rw [HVL.out]; exact hlt
      have hc := int_cell HV1.out k hkl
      have hb := HVB.out V[k] (List.getElem_mem _)
      rw [Nat.zero_add] at hc
      generalize V[k] = x at hc hb
      have hx1 : ¬ x < -100 := by omega
      have hx2 : ¬ 100 < x := by omega
      clear hkl
      go_wp2_with fail
      go_roundw
      case rel => exact ⟨k + 1, by omega, by go_num, by first | rfl | trivial⟩
      case measure => simp [intOf]; omega
    · obtain rfl : k = F := by omega
      go_wp2_with fail
      refine (KP.out _ HR1.out).mono ?_
      rintro e wI ⟨gm, rm, cm, Bm, rfl, oG, _, hbI⟩
      have GM := Lib.hid oG
      have hgm := oG.og.lt
      have HB2 : Hid (Below (w.heap.size + 1) (NBox M k S a n c w) wI) := HB1.out.trans (hbI.mono (by omega))
      have HV2 := Lib.hid (HV1.out.below hbI)
      have hav2 : av < wI.heap.size := Nat.lt_of_lt_of_le hav1 hbI.size
      have hwI : w.heap.size + 1 ≤ wI.heap.size := by have := HB2.out.size; simpa using this
      clear oG hbI HB1 HR1 HV1 hav1 hz1 u1 hz2 hz3
      go_wp2_with fail
      go_loopw [10, 46] (fun v u wr => ∃ (i g cg : Nat), i ≤ k ∧ u = .int .i64 i ∧ v = .slice (some ⟨g, 0, none⟩) i cg ∧ Hid (wr.ownsRow wI.heap.size 32 2 (.slice (some ⟨g, 0, none⟩) i cg) i (rats (CL i))) ∧ Hid (Below wI.heap.size wI wr)) (fun _ u _ => k - (intOf u).toNat)
      case atStart => exact ⟨0, wI.heap.size, 0, by omega, rfl, rfl, by
        show World.ownsRow _ _ _ _ _ _ _
        rw [HC0.out]
        exact World.ownsRow_lit (base := wI.heap.size) (size := 2) wI #[] 0 (Nat.le_refl _) (by simp) rfl, balloc (Below.refl _ _) _⟩
      case round =>
        obtain ⟨i, g, cg, hi, rfl, rfl, HO, HB⟩ := hrel
        by_cases hlt : i < k
        · have GMo := GM.out.below HB.out
          have hmc := GMo.outer hlt (Nat.le_refl _)
          have hgm2 : gm < wr.heap.size := Nat.lt_of_lt_of_le hgm HB.out.size
          have HRow := Lib.hid (GMo.rows i hlt)
          have hrb := (own_base (GMo.rows i hlt) _ rfl).2
          simp only at hrb
          have HV3 := Lib.hid (HV2.out.below HB.out)
          have hav3 : av < wr.heap.size := Nat.lt_of_lt_of_le hav2 HB.out.size
          clear GMo
          go_wp2_with fail
          go_loopw [12, 51] (fun v u wx => ∃ j : Nat, j ≤ k ∧ u = .int .i64 j ∧ v = .int .i64 (CK i j) ∧ wx = wr) (fun _ u _ => k - (intOf u).toNat)
          case atStart => exact ⟨0, by omega, rfl, by rw [HCZ.out], by first | rfl | trivial⟩
          case round =>
            obtain ⟨j, hj, rfl, rfl, rfl⟩ := hrel
            by_cases hlj : j < k
            · have hjl : j < (topRow M k l i k).length := by rw [HTL.out]; exact hlj
              have hrv : wr.cell? ⟨rm i, j, none⟩ = some (.int .i64 (topW M k l i j)) := by
                rw [HRow.out.cellAt j (by omega), List.getElem?_eq_getElem (by rw [ints_len]; exact hjl), ints_at _ j hjl, HTA.out i j hjl]
              have hkl : j < V.length := by rw [HVL.out]; exact hlj
              have hc := int_cell HV3.out j hkl
              have hb := HVB.out V[j] (List.getElem_mem _)
              rw [Nat.zero_add] at hc
              have hs := HCS.out i j
              have hgd : V.getD j 0 = V[j] := by rw [List.getD_eq_getElem?_getD, List.getElem?_eq_getElem hkl, Option.getD_some]
              rw [hgd] at hs
              have ht := HTB.out i j hlt hlj
              have hcb := HCB.out i j hlt (by omega)
              generalize V[j] = x at hc hb hs
              generalize topW M k l i j = T at hrv ht hs
              have hmul := Gn.mul_bd' (x := T) (y := x) (X := 7962624) (Y := 5) ht hb
              have HS : Hid (CK i (j + 1) = CK i j + T * x) := hs
              generalize CK i j = s at HS hcb
              have e1 : IntKind.i64.wrap (T * x) = T * x := IntWalk.i64_in _ (by omega)
              have e2 : IntKind.i64.wrap (s + T * x) = s + T * x := IntWalk.i64_in _ (by omega)
              clear hjl hkl hs hgd ht hcb hmul hb
              go_wp2_with fail
              go_roundw
              case rel => exact ⟨j + 1, by omega, by go_num, by rw [HS.out], by first | rfl | trivial⟩
              case measure => simp [intOf]; omega
            · obtain rfl : j = k := by omega
              have hcb := HCB.out i j hlt (by omega)
              have HS := HCL.out i
              generalize CK i j = s at hcb HS
              have KRA := Lib.hid (fun (w : World) => implRatioOf s D w (by omega) (by omega) (by omega) (by omega))
              generalize Gn.rat s D = Q at KRA HS
              obtain ⟨R0, R1⟩ := Q
              have HS := Lib.hid HS
              clear hmc
              go_wp2_with fail
              refine (KRA.out _).mono ?_
              rintro e w6 ⟨rfl, hb6⟩
              have hown := own_below HO.out hb6
              have hs6 := hb6.size
              have hsB := HB.out.size
              go_wp2_with (at_builtin; refine wpList_append_own _ rfl _ _ 28 rfl wI.heap.size 32 i0 (.agg #[.int .i64 0, .int .i64 0]) 2 16 Try.underlying28 HI.out.1 HI.out.2.1 HI.out.2.2.1 HI.out.2.2.2 rfl (by decide) _ _ _ rfl (hown.alloc _) ⟨w6.heap.size, 0, none⟩ 1 1 [.int .i64 R0, .int .i64 R1] rfl rfl ?c1 ?c2 ?c3 ?c4 ?c5 ?_)
              case c1 => exact World.news_of_block (cs := #[.int .i64 R0, .int .i64 R1]) (t := 32) (fr := (0, 0)) (heap_alloc_new w6 _)
              case c2 => intro v hv; simp at hv; rcases hv with rfl | rfl <;> rfl
              case c3 => unfold maxLen; omega
              case c4 => omega
              case c5 => simp; omega
              intro v' w7 hown' hgrow _
              obtain ⟨h3, c3, rfl⟩ := own_some hown' (by omega)
              have H7 : Hid (w7.ownsRow wI.heap.size 32 2 (.slice (some ⟨h3, 0, none⟩) (i + 1) c3) (i + 1) (rats (CL (i + 1)))) := by
                show World.ownsRow _ _ _ _ _ _ _
                rw [HS.out, rats_snoc]; exact hown'
              have HB7 : Hid (Below wI.heap.size wI w7) := ((HB.out.trans (hb6.mono (by omega))).alloc (by omega) _).grown hgrow (by simp; omega) (fun k hk => (hown.lt k hk).1)
              clear hown hown' hgrow
              go_wp2_with fail
              go_roundw
              case rel => exact ⟨i + 1, h3, c3, by omega, by go_num, rfl, H7.out, HB7.out⟩
              case measure => simp [intOf]; omega
        · obtain rfl : i = k := by omega
          have HB3 : Hid (Below (w.heap.size + 1) (NBox M i S a n c w) wr) := HB2.out.trans (HB.out.mono (by omega))
          obtain ⟨hB1, _, _, _, _⟩ := nbox_cells HB3.out
          have HBF := Lib.hid hB1
          clear hB1
          go_wp2_with fail
          go_returns
          exact ⟨_, _, rfl, ArgRow.own HO.out, (own_base HO.out _ rfl).2, HBF.out⟩
end Go.Proofs.Ytjchindjoailbaa

/- PowerFor of the program, at a drawn network's potentials. -/
namespace Go.Proofs.Ytjchindjoailbaa
set_option linter.unusedSimpArgs false
set_option linter.unusedVariables false
open Go.RowKit

set_option maxRecDepth 100000 in
set_option maxHeartbeats 16000000 in
theorem implPowerFor (M F : Nat) (S : Int) (a : Option Addr) (n c : Nat) (l : List Wz) (hF0 : 1 ≤ F) (hF : F ≤ M) (hok : NetOk M F S l) (V : List Int) (hVl : V.length = F) (hVb : ∀ x ∈ V, -5 ≤ x ∧ x ≤ 5)
    (RL : RespLaw M F S l V (fun i j => topW M F l i j) (S * downW M F l)) (av : Nat) (cv : Nat) (w : World) (hr : ArgRow w a n c 3 (wires l)) (hl : l.length = n) (hv : ArgRow w (some ⟨av, 0, none⟩) F cv 1 (ints V)) :
    Calls Try.prog 60 #[netV M F S a n c, .slice (some ⟨av, 0, none⟩) F cv] w fun e w' => e = .returned (.tuple #[ratV (Gn.rat (powK (fun i j => topW M F l i j) V F F 0) (S * downW M F l)).1 (Gn.rat (powK (fun i j => topW M F l i j) V F F 0) (S * downW M F l)).2, .bool true]) ∧ Below w.heap.size w w' := by
  have hM5 : M ≤ 5 := by have := hok.h.n5; omega
  have HR := Lib.hid hr
  have HVR := Lib.hid hv
  have HVL := Lib.hid hVl
  have HVB := Lib.hid hVb
  have hav : av < w.heap.size := by
    obtain ⟨b, o, e, hb, _⟩ := hv.form (by omega)
    cases e; exact hb
  have KC := Lib.hid (fun (w : World) r1 r2 => implCurrentsFor M F S a n c l hF0 hF hok V hVl hVb RL av cv w r1 hl r2)
  have KP := Lib.hid (fun (w : World) r => implResponse M F S a n c l hF0 hF hok w r hl)
  have HTL := Lib.hid (fun (i k : Nat) => topRow_len M F l i k)
  have HTA : Hid (∀ (i j : Nat) (h : j < (topRow M F l i F).length), (topRow M F l i F)[j] = topW M F l i j) := fun i j h => by simp [topRow, upto_at]
  have HTB := Lib.hid RL.tb
  have HPB := Lib.hid RL.pb
  have hD := RL.dp
  have HPS : Hid (∀ i k : Nat, powK (fun i j => topW M F l i j) V F i (k + 1) = powK (fun i j => topW M F l i j) V F i k + topW M F l i k * V.getD i 0 * V.getD k 0) := fun i k => by
    show _ = _
    unfold powK
    simp only [Gn.sumK]
    omega
  have HPN : Hid (∀ i : Nat, powK (fun i j => topW M F l i j) V F (i + 1) 0 = powK (fun i j => topW M F l i j) V F i F) := fun i => by
    show _ = _
    unfold powK
    simp only [Gn.sumK]
    omega
  have HPZ : Hid (powK (fun i j => topW M F l i j) V F 0 0 = 0) := rfl
  have HPF : Hid (-10000000000 ≤ powK (fun i j => topW M F l i j) V F F 0 ∧ powK (fun i j => topW M F l i j) V F F 0 ≤ 10000000000) := by
    obtain ⟨m, rfl⟩ : ∃ m, F = m + 1 := ⟨F - 1, by omega⟩
    rw [HPN.out m]
    exact RL.pb m (m + 1) (by omega) (Nat.le_refl _)
  generalize powK (fun i j => topW M F l i j) V F = PK at HPB HPS HPN HPZ HPF ⊢
  generalize curL (fun i j => topW M F l i j) (S * downW M F l) V F F = CL at KC
  generalize S * downW M F l = D at KP hD ⊢
  have KRA := Lib.hid (fun (w : World) => implRatioOf (PK F 0) D w (by have := HPF.out; omega) (by have := HPF.out; omega) (by omega) (by omega))
  generalize Gn.rat (PK F 0) D = Q at KRA ⊢
  obtain ⟨R0, R1⟩ := Q
  simp only at KRA ⊢
  have HA0 : Hid (((w.alloc (.cells #[.int .i64 M, .int .i64 F, .int .i64 S, .slice a n c] 25)).alloc (.cells #[.int .i64 0, .int .i64 0] 32)).rowIs (w.heap.size + 1) 32 2 (ratAt (0, 0))) := by
    have := ratAt_new (w.alloc (.cells #[.int .i64 M, .int .i64 F, .int .i64 S, .slice a n c] 25)) 0 0 32
    simpa [Hid] using this
  have HP0 : Hid (((w.alloc (.cells #[.int .i64 M, .int .i64 F, .int .i64 S, .slice a n c] 25)).alloc (.cells #[.int .i64 0, .int .i64 0] 32)).rowIs w.heap.size 25 4 (netAt (.int .i64 M) (.int .i64 F) (.int .i64 S) (.slice a n c))) := (netAt_new _ _ _ _ _ _).alloc _
  clear hr hok hv hVl hVb RL
  go_enter Try.func60, Try.ntmps60
  go_wp2_with fail
  refine (KC.out _ (HR.out.below (by (repeat' (first | (with_reducible exact Below.refl _ _) | (with_reducible assumption) | (with_reducible refine balloc ?_ _) | (with_reducible refine Below.drew ?_) | (with_reducible refine below_drewN ?_ _) | (with_reducible refine bset ?_ ?_ _) | (with_reducible refine bstep ?_ (by assumption)) | go_size)))) (HVR.out.below (by (repeat' (first | (with_reducible exact Below.refl _ _) | (with_reducible assumption) | (with_reducible refine balloc ?_ _) | (with_reducible refine Below.drew ?_) | (with_reducible refine below_drewN ?_ _) | (with_reducible refine bset ?_ ?_ _) | (with_reducible refine bstep ?_ (by assumption)) | go_size))))).mono ?_
  rintro e w1 ⟨g1, c1, rfl, _, _, hb1⟩
  have HA1 := Lib.hid (HA0.out.of_block (hb1.block _ HA0.out.lt))
  have HP1 := Lib.hid (HP0.out.of_block (hb1.block _ HP0.out.lt))
  have B1 : Hid (Below w.heap.size w w1) := bstep (by (repeat' (first | (with_reducible exact Below.refl _ _) | (with_reducible assumption) | (with_reducible refine balloc ?_ _) | (with_reducible refine Below.drew ?_) | (with_reducible refine below_drewN ?_ _) | (with_reducible refine bset ?_ ?_ _) | (with_reducible refine bstep ?_ (by assumption)) | go_size))) hb1
  have R1' := Lib.hid (HR.out.below B1.out)
  have V1 := Lib.hid (HVR.out.below B1.out)
  have hav1 : av < w1.heap.size := Nat.lt_of_lt_of_le hav B1.out.size
  clear hb1 HA0 HP0 hav HVR
  obtain ⟨t0, t1, t2, t3⟩ := netAt_cells HP1.out
  have hlP := HP1.out.lt
  go_wp2_with fail
  refine (KP.out _ R1'.out).mono ?_
  rintro e wI ⟨gm, rm, cm, Bm, rfl, oG, _, hbI⟩
  have GM := Lib.hid oG
  have hgm := oG.og.lt
  have HA2 := Lib.hid (HA1.out.of_block (hbI.block _ HA1.out.lt))
  have B2 : Hid (Below w.heap.size w wI) := bstep B1.out hbI
  have V2 := Lib.hid (V1.out.below hbI)
  have hav2 : av < wI.heap.size := Nat.lt_of_lt_of_le hav1 hbI.size
  clear oG hbI t0 t1 t2 t3 hlP HP1 HA1 B1 R1' V1 hav1
  go_wp2_with fail
  go_loopw [10, 31] (fun v u wr => ∃ i : Nat, i ≤ F ∧ u = .int .i64 i ∧ v = .int .i64 (PK i 0) ∧ wr = wI) (fun _ u _ => F - (intOf u).toNat)
  case atStart => exact ⟨0, by omega, rfl, by rw [HPZ.out], by first | rfl | trivial⟩
  case round =>
    obtain ⟨i, hi, rfl, rfl, rfl⟩ := hrel
    by_cases hlt : i < F
    · have hil : i < V.length := by rw [HVL.out]; exact hlt
      have hci := int_cell V2.out i hil
      have hbi := HVB.out V[i] (List.getElem_mem _)
      rw [Nat.zero_add] at hci
      have hgi : V.getD i 0 = V[i] := by rw [List.getD_eq_getElem?_getD, List.getElem?_eq_getElem hil, Option.getD_some]
      have HPS2 : Hid (∀ k : Nat, PK i (k + 1) = PK i k + topW M F l i k * V[i] * V.getD k 0) := fun k => by rw [HPS.out i k, hgi]
      generalize V[i] = xi at hci hbi HPS2
      clear hil hgi
      go_wp2_with fail
      go_loopw [10, 38] (fun v u wx => ∃ j : Nat, j ≤ F ∧ u = .int .i64 j ∧ v = .int .i64 (PK i j) ∧ wx = wr) (fun _ u _ => F - (intOf u).toNat)
      case atStart => exact ⟨0, by omega, rfl, rfl, by first | rfl | trivial⟩
      case round =>
        obtain ⟨j, hj, rfl, rfl, rfl⟩ := hrel
        by_cases hlj : j < F
        · have hmc := GM.out.outer hlt (Nat.le_refl _)
          have hrb := (own_base (GM.out.rows i hlt) _ rfl).2
          simp only at hrb
          have hjl : j < (topRow M F l i F).length := by rw [HTL.out]; exact hlj
          have hrv : wr.cell? ⟨rm i, j, none⟩ = some (.int .i64 (topW M F l i j)) := by
            rw [(GM.out.rows i hlt).cellAt j (by omega), List.getElem?_eq_getElem (by rw [ints_len]; exact hjl), ints_at _ j hjl, HTA.out i j hjl]
          have hkl : j < V.length := by rw [HVL.out]; exact hlj
          have hc := int_cell V2.out j hkl
          have hb := HVB.out V[j] (List.getElem_mem _)
          rw [Nat.zero_add] at hc
          have hgd : V.getD j 0 = V[j] := by rw [List.getD_eq_getElem?_getD, List.getElem?_eq_getElem hkl, Option.getD_some]
          have hs := HPS2.out j
          rw [hgd] at hs
          have ht := HTB.out i j hlt hlj
          have hpb := HPB.out i j hlt (by omega)
          generalize V[j] = x at hc hb hs
          generalize topW M F l i j = T at hrv ht hs
          have hm1 := Gn.mul_bd' (x := T) (y := xi) (X := 7962624) (Y := 5) ht hbi
          have hm2 := Gn.mul_bd' (x := T * xi) (y := x) (X := 39813120) (Y := 5) ⟨by omega, by omega⟩ hb
          have HS : Hid (PK i (j + 1) = PK i j + T * xi * x) := hs
          generalize PK i j = s at HS hpb
          have e1 : IntKind.i64.wrap (T * xi) = T * xi := IntWalk.i64_in _ (by omega)
          have e2 : IntKind.i64.wrap (T * xi * x) = T * xi * x := IntWalk.i64_in _ (by omega)
          have e3 : IntKind.i64.wrap (s + T * xi * x) = s + T * xi * x := IntWalk.i64_in _ (by omega)
          clear hjl hkl hs hgd ht hpb hm1 hm2 hb
          go_wp2_with fail
          go_roundw
          case rel => exact ⟨j + 1, by omega, by go_num, by rw [HS.out], by first | rfl | trivial⟩
          case measure => simp [intOf]; omega
        · obtain rfl : j = F := by omega
          have HNX := Lib.hid (HPN.out i)
          go_wp2_with fail
          go_roundw
          case rel => exact ⟨i + 1, by omega, by go_num, by rw [HNX.out], by first | rfl | trivial⟩
          case measure => simp [intOf]; omega
    · obtain rfl : i = F := by omega
      go_wp2_with fail
      refine (KRA.out _).mono ?_
      rintro e w3 ⟨rfl, hb3⟩
      have HA3 := Lib.hid (HA2.out.of_block (hb3.block _ HA2.out.lt))
      have B3 : Hid (Below w.heap.size w w3) := bstep B2.out hb3
      obtain ⟨r0, r1⟩ := ratAt_cells HA3.out
      have f0 := HA3.out.frozen 0
      have f1 := HA3.out.frozen 1
      have hlA := HA3.out.lt
      go_wp2_with fail
      have rs0 : (w3.cell? { block := w.heap.size + 1, off := 0 }).isSome = true := by simp [go_sem, *]
      have rs1 : (w3.cell? { block := w.heap.size + 1, off := 1 }).isSome = true := by simp [go_sem, *]
      refine bodyPost_ret (v := (.tuple #[ratV R0 R1, .bool true])) (by simp [results, Try.results60, go_sem, rs0, rs1]; try rfl) rfl ?_
      exact ⟨rfl, by have := B3.out; (repeat' (first | (with_reducible exact Below.refl _ _) | (with_reducible assumption) | (with_reducible refine balloc ?_ _) | (with_reducible refine Below.drew ?_) | (with_reducible refine below_drewN ?_ _) | (with_reducible refine bset ?_ ?_ _) | (with_reducible refine bstep ?_ (by assumption)) | go_size))⟩
end Go.Proofs.Ytjchindjoailbaa

/- MakeVolts: potentials for the terminals that a code draws. -/
namespace Go.Proofs.Ytjchindjoailbaa
set_option linter.unusedSimpArgs false
set_option linter.unusedVariables false
open Go.RowKit

set_option maxRecDepth 100000 in
set_option maxHeartbeats 8000000 in
theorem specVolts (M F : Nat) (S : Int) (b : Option Addr) (m d : Nat) (hM : M ≤ 5) (hF : F ≤ M) (a : Option Addr) (n c : Nat) (zs : List Int) (w : World) (hr : ArgRow w a n c 1 (u8s zs)) (hn : n ≤ 1048576) :
    Calls Try.prog 58 #[.slice a n c, .int .i64 30, netV M F S b m d] w fun e w' => ∃ (V : List Int) (g c' : Nat), e = .returned (.slice (some ⟨g, 0, none⟩) F c') ∧ V.length = F ∧ (∀ x ∈ V, -5 ≤ x ∧ x ≤ 5) ∧ ArgRow w' (some ⟨g, 0, none⟩) F c' 1 (ints V) ∧ g < w'.heap.size ∧ Below w.heap.size w w' := by
  obtain ⟨i0, hi, hz0, hz1, hz2⟩ := info_parts infoInt
  have HI := Lib.hid (And.intro hi (And.intro hz0 (And.intro hz1 hz2)))
  clear hi hz0 hz1 hz2
  have HR := Lib.hid hr
  have HBK : Hid (∀ ad, a = some ad → 0 < n → ad.block < w.heap.size) := fun ad e h0 => by
    obtain ⟨b, o, e2, hb, _⟩ := hr.form h0
    rw [e] at e2; cases e2; exact hb
  have KS : Hid (∀ w : World, ArgRow w a n c 1 (u8s zs) → Calls Try.prog 74 #[.slice a n c, .int .i64 30] w fun e w' => ∃ g, e = .returned (.pointer (some ⟨g, 0, none⟩)) ∧ w.heap.size ≤ g ∧ Curs w' g a n c zs ∧ Below w.heap.size w w') := fun w rr => specSkip 30 (by omega) a n c zs w rr hn
  have N0 : Hid ((w.alloc (.cells #[.int .i64 M, .int .i64 F, .int .i64 S, .slice b m d] 25)).rowIs w.heap.size 25 4 (netAt (.int .i64 M) (.int .i64 F) (.int .i64 S) (.slice b m d))) := netAt_new _ _ _ _ _ _
  clear hr
  go_enter Try.func58, Try.ntmps58
  go_wp2_with fail
  refine (KS.out _ (HR.out.below (balloc (Below.refl _ _) _))).mono ?_
  rintro e w1 ⟨gc, rfl, hg, hc1, hb1⟩
  have hgw : w.heap.size < gc := by simp at hg; omega
  have C1 := Lib.hid hc1
  have N1 := Lib.hid (N0.out.of_block (hb1.block _ N0.out.lt))
  have B1 : Hid (Below w.heap.size w w1) := bstep (balloc (Below.refl _ _) _) hb1
  have hgl := hc1.lt
  clear hc1 hb1 N0 hg
  go_wp2_with fail
  go_loopw [8, 9] (fun v u wr => ∃ (k g cq : Nat) (V : List Int), k ≤ F ∧ u = .int .i64 k ∧ v = .slice (some ⟨g, 0, none⟩) k cq ∧ Hid (V.length = k ∧ ∀ x ∈ V, -5 ≤ x ∧ x ≤ 5) ∧ Hid (wr.ownsRow w1.heap.size 3 1 (.slice (some ⟨g, 0, none⟩) k cq) k (ints V)) ∧ Hid (wr.rowIs w.heap.size 25 4 (netAt (.int .i64 M) (.int .i64 F) (.int .i64 S) (.slice b m d))) ∧ Hid (Curs wr gc a n c zs) ∧ w1.heap.size ≤ wr.heap.size ∧ Hid (Below w.heap.size w wr)) (fun _ u _ => F - (intOf u).toNat)
  case atStart => exact ⟨0, w1.heap.size, 0, [], by omega, rfl, rfl, ⟨rfl, by simp⟩, World.ownsRow_lit (base := w1.heap.size) (size := 1) w1 #[] 0 (Nat.le_refl _) (by simp) rfl, N1.out.alloc _, C1.out.below (balloc (Below.refl _ _) _), by simp, balloc B1.out _⟩
  case round =>
    obtain ⟨k, g, cq, V, hk, rfl, rfl, HV, HO, HN, HC, hsz, HB⟩ := hrel
    obtain ⟨n0, n1, n2, n3⟩ := netAt_cells HN.out
    have hln := HN.out.lt
    by_cases hlt : k < F
    · go_wp2_with fail
      refine (specDraw 11 (by omega) gc a n c zs _ HC.out).mono ?_
      rintro e wX ⟨x, rfl, hx, hcX, hgX⟩
      have hown := HO.out.kept hgX (.inr (fun e => by have := own_base HO.out _ rfl; simp [Value.ownBlock] at e this; omega))
      have CX := Lib.hid hcX
      have NX := Lib.hid (HN.out.of_block (hgX.block _ HN.out.lt (by simp; omega)))
      have hszX := hgX.size
      have BX := below_grown HB.out HB.out.size hgX (by omega)
      have hxw : IntKind.i64.wrap (x - 5) = x - 5 := IntWalk.i64_in _ (by omega)
      have HV7 : Hid ((V ++ [x - 5]).length = k + 1 ∧ ∀ y ∈ V ++ [x - 5], -5 ≤ y ∧ y ≤ 5) := by
        refine ⟨by simp [HV.out.1], fun y hy => ?_⟩
        rcases List.mem_append.1 hy with hy | hy
        · exact HV.out.2 y hy
        · simp at hy; omega
      clear hcX hgX n0 n1 n2 n3
      go_wp2_with (at_builtin; refine wpList_append_own _ rfl _ _ 79 rfl w1.heap.size 3 i0 (.int .i64 0) 1 8 Try.underlying79 HI.out.1 HI.out.2.1 HI.out.2.2.1 HI.out.2.2.2 rfl (by decide) _ _ _ rfl (hown.alloc _) ⟨wX.heap.size, 0, none⟩ 1 1 [.int .i64 (x - 5)] rfl rfl ?c1 ?c2 ?c3 ?c4 ?c5 ?_)
      case c1 => exact cell_one_new _ _ _
      case c2 => intro v hv; simp at hv; subst hv; rfl
      case c3 => unfold maxLen; omega
      case c4 => omega
      case c5 => simp; omega
      intro v' w7 hown' hgrow _
      obtain ⟨g3, c3, rfl⟩ := own_some hown' (by omega)
      have hgg := own_base HO.out _ rfl
      simp only at hgg
      have H7 : Hid (w7.ownsRow w1.heap.size 3 1 (.slice (some ⟨g3, 0, none⟩) (k + 1) c3) (k + 1) (ints (V ++ [x - 5]))) := by
        show World.ownsRow _ _ _ _ _ _ _
        rw [← ints_snoc]; exact hown'
      have N7 := Lib.hid ((NX.out.alloc _).of_block (hgrow.block _ (NX.out.alloc _).lt (by simp [Value.ownBlock]; omega)))
      have C7 := Lib.hid ((CX.out.below (balloc (Below.refl _ _) _)).grown hgrow (by simp [Value.ownBlock]; omega) (fun ad e h0 => by have := HBK.out ad e h0; simp [Value.ownBlock]; omega))
      have hsz7 : w1.heap.size ≤ w7.heap.size := by have := hgrow.size; simp at this; omega
      have HB7 : Hid (Below w.heap.size w w7) := (balloc BX _).grown hgrow (by have := BX.size; simp; omega) (fun q hq => by have := (hown.lt q hq).1; omega)
      clear hown hown' hgrow BX
      go_wp2_with fail
      go_roundw
      case rel => exact ⟨k + 1, g3, c3, _, by omega, by go_num, rfl, HV7.out, H7.out, N7.out, C7.out, hsz7, HB7.out⟩
      case measure => simp [intOf]; omega
    · obtain rfl : k = F := by omega
      go_wp2_with fail
      go_ret
      exact ⟨V, g, cq, rfl, HV.out.1, HV.out.2, ArgRow.own HO.out, (own_base HO.out _ rfl).2, HB.out⟩
end Go.Proofs.Ytjchindjoailbaa

/- IsResponse of the program. -/
namespace Go.Proofs.Ytjchindjoailbaa
set_option linter.unusedSimpArgs false
set_option linter.unusedVariables false
open Go.RowKit

set_option maxRecDepth 100000 in
set_option maxHeartbeats 2000000 in
theorem implNotOk (n d : Int) (b : Bool) (h : b = true ↔ okZ n d) (w : World) :
    Calls Try.prog 107 #[ratV n d] w fun e w' => e = .returned (.bool (!b)) ∧ Below w.heap.size w w' := by
  have K := Lib.hid (fun w => implRatioOk n d w b h)
  clear h
  go_enter Try.func107, Try.ntmps107
  go_wp2_with fail
  refine (K.out _).mono ?_
  rintro e w1 ⟨rfl, hb1⟩
  go_wp2_with fail
  go_ret
  exact ⟨rfl, bstep (by (repeat' (first | (with_reducible exact Below.refl _ _) | (with_reducible assumption) | (with_reducible refine balloc ?_ _) | (with_reducible refine Below.drew ?_) | (with_reducible refine below_drewN ?_ _) | (with_reducible refine bset ?_ ?_ _) | (with_reducible refine bstep ?_ (by assumption)) | go_size))) hb1⟩

set_option maxRecDepth 100000 in
set_option maxHeartbeats 4000000 in
theorem indexNotOk (a : Option Addr) (n c : Nat) (l : List Rz) (w : World) (hr : ArgRow w a n c 2 (rats l)) :
    Calls Try.prog 143 #[.slice a n c, .func (.func 107) #[] #[]] w fun e w' => ∃ i : Int, e = .returned (.int .i64 i) ∧ ((i = -1 ∧ ∀ x ∈ l, okZ x.1 x.2) ∨ (0 ≤ i ∧ ∃ x ∈ l, ¬ okZ x.1 x.2)) ∧ Below w.heap.size w w' := by
  have hl := hr.rats_len
  have hn := hr.le
  unfold maxLen at hn
  have HR := Lib.hid hr
  have HL := Lib.hid hl
  clear hr hl
  go_enter Try.func143, Try.ntmps143
  go_wp2_with fail
  go_loopw [8] (fun v wr => ∃ k : Nat, k ≤ n ∧ v = .int .i64 k ∧ Hid (∀ x ∈ l.take k, okZ x.1 x.2) ∧ Hid (Below w.heap.size w wr)) (fun v _ => n - (intOf v).toNat)
  case atStart => exact ⟨0, by omega, rfl, by simp [Hid], Below.refl _ _⟩
  case round =>
    obtain ⟨k, hk, rfl, HT, HB⟩ := hrel
    by_cases hlt : k < n
    · have hli : k < l.length := by rw [HL.out]; exact hlt
      have F1 := HR.out.below HB.out
      obtain ⟨b3, o3, rfl, hbb3, hcc3⟩ := F1.form (by omega)
      obtain ⟨s0, s1⟩ := rat_cells F1 k hli
      obtain ⟨b, hb⟩ := bool_of (okZ l[k].1 l[k].2)
      have HY : okZ l[k].1 l[k].2 → Hid (∀ x ∈ l.take (k + 1), okZ x.1 x.2) := fun h x hx => by
        rw [List.take_succ_eq_append_getElem hli] at hx
        rcases List.mem_append.1 hx with hx | hx
        · exact HT.out x hx
        · simp at hx; subst hx; exact h
      have HN : ¬ okZ l[k].1 l[k].2 → Hid (∃ x ∈ l, ¬ okZ x.1 x.2) := fun h => ⟨l[k], List.getElem_mem _, h⟩
      have KC := Lib.hid (fun w => implNotOk l[k].1 l[k].2 b hb w)
      generalize l[k] = x at s0 s1 HY HN KC hb
      obtain ⟨x0, x1⟩ := x
      simp only at hb KC HY HN
      clear hcc3 F1 hli
      cases b
      · have HN2 := HN (fun h => by have := hb.2 h; cases this)
        clear hb HY HN
        go_wp2_with fail
        refine (KC.out _).mono ?_
        rintro e w1 ⟨rfl, hb1⟩
        go_wp2_with fail
        go_ret
        exact ⟨k, rfl, .inr ⟨by omega, HN2.out⟩, bstep HB.out hb1⟩
      · have HY2 := HY (hb.1 rfl)
        clear hb HY HN
        go_wp2_with fail
        refine (KC.out _).mono ?_
        rintro e w1 ⟨rfl, hb1⟩
        go_wp2_with fail
        go_roundw
        case rel => exact ⟨k + 1, by omega, by go_num, HY2.out, bstep HB.out hb1⟩
        case measure => simp [intOf]; omega
    · obtain rfl : k = n := by omega
      have hT : l.take k = l := List.take_of_length_le (by rw [HL.out]; omega)
      have HT2 : Hid (∀ x ∈ l, okZ x.1 x.2) := by have := HT.out; rw [hT] at this; exact this
      clear hT HT
      go_wp2_with fail
      go_ret
      exact ⟨-1, rfl, .inl ⟨rfl, HT2.out⟩, HB.out⟩

set_option maxRecDepth 100000 in
set_option maxHeartbeats 4000000 in
theorem containsNotOk (a : Option Addr) (n c : Nat) (l : List Rz) (w : World) (hr : ArgRow w a n c 2 (rats l)) (b : Bool) (hb : b = true ↔ ∀ x ∈ l, okZ x.1 x.2) :
    Calls Try.prog 106 #[.slice a n c, .func (.func 107) #[] #[]] w fun e w' => e = .returned (.bool (!b)) ∧ Below w.heap.size w w' := by
  have K := Lib.hid (indexNotOk a n c l w hr)
  have HB := Lib.hid hb
  clear hr hb
  go_enter Try.func106, Try.ntmps106
  go_wp2_with fail
  refine K.out.mono ?_
  rintro e w1 ⟨i, rfl, hi, hb1⟩
  rcases hi with ⟨rfl, h⟩ | ⟨hi, h⟩
  · have e1 : b = true := HB.out.2 h
    subst e1
    clear h
    go_wp2_with fail
    go_ret
    exact ⟨rfl, hb1⟩
  · have e1 : b = false := bfalse HB.out (fun h9 => by obtain ⟨x, hx, h2⟩ := h; exact h2 (h9 x hx))
    subst e1
    clear h
    go_wp2_with fail
    go_ret
    exact ⟨rfl, hb1⟩

set_option maxRecDepth 100000 in
set_option maxHeartbeats 16000000 in
theorem implIsResponse (a : Option Addr) (n c : Nat) (M : List (List Rz)) (B : Bool) (hB : B = true ↔ RespOk M n) (w : World) (hr : RGrid w a n c M) :
    Calls Try.prog 61 #[.slice a n c] w fun e w' => e = .returned (.bool B) ∧ Below w.heap.size w w' := by
  have hl := hr.len
  have hn := hr.le
  unfold maxLen at hn
  have HR := Lib.hid hr
  have HL := Lib.hid hl
  have HBB := Lib.hid hB
  clear hr hl hB
  by_cases hn1 : n < 1
  · have hv : B = false := bfalse HBB.out (fun h => by have := h.n1; omega)
    subst hv
    go_enter Try.func61, Try.ntmps61
    go_wp2_with fail
    go_ret
    exact ⟨rfl, Below.refl _ _⟩
  by_cases hn5 : 5 < n
  · have hv : B = false := bfalse HBB.out (fun h => by have := h.n5; omega)
    subst hv
    go_enter Try.func61, Try.ntmps61
    go_wp2_with fail
    go_ret
    exact ⟨rfl, Below.refl _ _⟩
  go_enter Try.func61, Try.ntmps61
  go_wp2_with fail
  go_loopw [20] (fun v wr => ∃ k : Nat, k ≤ n ∧ v = .int .i64 k ∧ Hid (∀ j (h : j < M.length), j < k → M[j].length = n ∧ ∀ x ∈ M[j], okZ x.1 x.2) ∧ Hid (Below w.heap.size w wr)) (fun v _ => n - (intOf v).toNat)
  case atStart => exact ⟨0, by omega, rfl, fun j h h0 => absurd h0 (by omega), Below.refl _ _⟩
  case round =>
    obtain ⟨k, hk, rfl, HT, HB⟩ := hrel
    by_cases hlt : k < n
    · have hk1 : k < M.length := by rw [HL.out]; exact hlt
      have G1 := HR.out.below HB.out
      obtain ⟨b1, o1, rfl, hbb1⟩ := G1.form (by omega)
      obtain ⟨d1, e1, p1, q1⟩ := G1.row k hk1
      have hm1 := q1.le
      unfold maxLen at hm1
      by_cases hnm : M[k].length = n
      rotate_left
      · have hv : B = false := bfalse HBB.out (fun h => hnm (h.len k hk1))
        have hq1 : ((M[k].length : Int) != (n : Int)) = true := by simp; omega
        have hq2 : (M[k].length != n) = true := by simp; omega
        generalize M[k].length = m1 at *
        subst hv
        clear hnm q1 G1 hk1
        go_wp2_with fail
        go_ret
        exact ⟨rfl, HB.out⟩
      · obtain ⟨b, hb⟩ := bool_of (∀ x ∈ M[k], okZ x.1 x.2)
        have KC := Lib.hid (fun (w' : World) (hb' : Below wr.heap.size wr w') => containsNotOk d1 M[k].length e1 M[k] w' (ArgRow.below q1 hb') b hb)
        rw [hnm] at p1 KC
        cases b
        · have hv : B = false := bfalse HBB.out (fun h => by have := hb.2 (h.ok k hk1); cases this)
          subst hv
          clear hb q1 G1 hk1 hnm hm1
          go_wp2_with fail
          refine (KC.out _ (by (repeat' (first | (with_reducible exact Below.refl _ _) | (with_reducible assumption) | (with_reducible refine balloc ?_ _) | (with_reducible refine Below.drew ?_) | (with_reducible refine below_drewN ?_ _) | (with_reducible refine bset ?_ ?_ _) | (with_reducible refine bstep ?_ (by assumption)) | go_size)))).mono ?_
          rintro e w2 ⟨rfl, hb2⟩
          go_wp2_with fail
          go_ret
          exact ⟨rfl, bstep HB.out hb2⟩
        · have HT2 : Hid (∀ j (h : j < M.length), j < k + 1 → M[j].length = n ∧ ∀ x ∈ M[j], okZ x.1 x.2) := fun j h hj => by
            by_cases e : j = k
            · subst e; exact ⟨hnm, hb.1 rfl⟩
            · exact HT.out j h (by omega)
          clear hb q1 G1 hk1 hnm hm1
          go_wp2_with fail
          refine (KC.out _ (by (repeat' (first | (with_reducible exact Below.refl _ _) | (with_reducible assumption) | (with_reducible refine balloc ?_ _) | (with_reducible refine Below.drew ?_) | (with_reducible refine below_drewN ?_ _) | (with_reducible refine bset ?_ ?_ _) | (with_reducible refine bstep ?_ (by assumption)) | go_size)))).mono ?_
          rintro e w2 ⟨rfl, hb2⟩
          go_wp2_with fail
          go_roundw
          case rel => exact ⟨k + 1, by omega, by go_num, HT2.out, bstep HB.out hb2⟩
          case measure => simp [intOf]; omega
    · obtain rfl : k = n := by omega
      have HT3 : Hid (∀ j (h : j < M.length), M[j].length = k ∧ ∀ x ∈ M[j], okZ x.1 x.2) := fun j h => HT.out j h (by rw [← HL.out]; exact h)
      clear HT
      obtain ⟨wa, rfl⟩ : ∃ wa : World, wa = wr := ⟨_, rfl⟩
      go_wp2_with fail
      go_loopw [36] (fun v wr => ∃ i : Nat, i ≤ k ∧ v = .int .i64 i ∧ Hid (∀ i', i' < i → RowR M k i') ∧ Hid (Below w.heap.size w wr)) (fun v _ => k - (intOf v).toNat)
      case atStart => exact ⟨0, by omega, rfl, fun i' h => absurd h (by omega), HB.out⟩
      case round =>
        clear HB
        obtain ⟨i, hi, rfl, HT, HB⟩ := hrel
        by_cases hli : i < k
        · have hk1 : i < M.length := by rw [HL.out]; exact hli
          have G1 := HR.out.below HB.out
          obtain ⟨b1, o1, rfl, hbb1⟩ := G1.form (by omega)
          obtain ⟨d1, e1, p1, q1⟩ := G1.row i hk1
          have hml := (HT3.out i hk1).1
          rw [hml] at p1 q1
          obtain ⟨b2, o2, rfl, hbb2, hcc2⟩ := q1.form (by omega)
          have Q1 := Lib.hid q1
          have HRW : Hid (M.getD i [] = M[i]) := by show _ = _; rw [List.getD_eq_getElem?_getD, List.getElem?_eq_getElem hk1, Option.getD_some]
          obtain ⟨wo, rfl⟩ : ∃ wo : World, wo = wr := ⟨_, rfl⟩
          have HS0 : Hid ((wo.alloc (.cells #[.int .i64 0, .int .i64 1] 32)).rowIs wo.heap.size 32 2 (ratAt (0, 1))) := ratAt_new _ _ _ _
          have HML := Lib.hid hml
          clear hcc2 q1 hml G1
          go_wp2_with fail
          go_loopw [44] (fun v wr => ∃ j : Nat, j ≤ k ∧ v = .int .i64 j ∧ wo.heap.size < wr.heap.size ∧ Hid (∀ j', j' < j → EntR M i j') ∧ Hid (wr.rowIs wo.heap.size 32 2 (ratAt (sumR (M[i].take j)))) ∧ Hid (Below wo.heap.size wo wr)) (fun v _ => k - (intOf v).toNat)
          case atStart => exact ⟨0, by omega, rfl, by simp, fun j' h => absurd h (by omega), by show World.rowIs _ _ _ _ _; simpa [sumR] using HS0.out, balloc (Below.refl _ _) _⟩
          case round =>
            clear HS0
            obtain ⟨j, hj, rfl, hsz, HU, HS, HC⟩ := hrel
            have HBW : Hid (Below w.heap.size w wr) := bstep HB.out HC.out
            obtain ⟨z0, z1⟩ := ratAt_cells HS.out
            have zf0 := HS.out.frozen 0
            have zf1 := HS.out.frozen 1
            by_cases hlj : j < k
            · have hj1 : j < M[i].length := by rw [HML.out]; exact hlj
              have hjM : j < M.length := by rw [HL.out]; exact hlj
              have hiJ : i < M[j].length := by rw [(HT3.out j hjM).1]; exact hli
              have F1 := Q1.out.below HC.out
              obtain ⟨s0, s1⟩ := rat_cells F1 j hj1
              have G2 := HR.out.below HBW.out
              obtain ⟨d3, e3, p3, q3⟩ := G2.row j hjM
              rw [(HT3.out j hjM).1] at p3 q3
              obtain ⟨b4, o4, rfl, hbb4, hcc4⟩ := q3.form (by omega)
              obtain ⟨t0, t1⟩ := rat_cells q3 i hiJ
              have hb1' : b1 < wr.heap.size := Nat.lt_of_lt_of_le hbb1 HC.out.size
              have hb2' : b2 < wr.heap.size := Nat.lt_of_lt_of_le hbb2 HC.out.size
              have x1 : ¬ b1 = wr.heap.size := by omega
              have x2 : ¬ b2 = wr.heap.size := by omega
              have x4 : ¬ b4 = wr.heap.size := by omega
              have x5 : ¬ wo.heap.size = wr.heap.size := by omega
              have x6 : ¬ wr.heap.size = wo.heap.size := by omega
              have hA : atM M i j = M[i][j] := atM_eq hk1 hj1
              have hA2 : atM M j i = M[j][i] := atM_eq hjM hiJ
              have hok := (HT3.out i hk1).2 M[i][j] (List.getElem_mem _)
              have hent : EntR M i j → Hid (∀ j', j' < j + 1 → EntR M i j') := fun h j' hj' => by
                by_cases e : j' = j
                · subst e; exact h
                · exact HU.out j' (by omega)
              have hbad : ¬ EntR M i j → Hid (B = false) := fun h => bfalse HBB.out (fun h9 => h ((h9.row i hk1).1 j hlj))
              unfold EntR at hent hbad
              rw [hA, hA2] at hent hbad
              have HSN : Hid (sumR (M[i].take (j + 1)) = addR (sumR (M[i].take j)) M[i][j]) := sumR_snoc hj1
              have HOK := Lib.hid hok
              have KS := Lib.hid (fun w => implSum (sumR (M[i].take j)).1 (sumR (M[i].take j)).2 M[i][j].1 M[i][j].2 w (decide (calcZ (sumR (M[i].take j)).1 (sumR (M[i].take j)).2 M[i][j].1 M[i][j].2)) (by simp))
              generalize M[i][j] = x at s0 s1 hent hbad HSN HOK KS hA hok
              generalize M[j][i] = y at t0 t1 hent hbad hA2
              generalize hgs : sumR (M[i].take j) = s at z0 z1 HSN KS HS
              clear hA hA2 hok hcc4 F1 G2 q3 hj1 hjM hiJ hgs
              obtain ⟨x0', x1'⟩ := x
              obtain ⟨y0', y1'⟩ := y
              obtain ⟨s0', s1'⟩ := s
              simp only at *
              obtain ⟨S2, hS2⟩ : ∃ S2 : Rz, sel (decide (calcZ s0' s1' x0' x1')) (Gn.rat (s0' * x1' + x0' * s1') (s1' * x1')) = S2 := ⟨_, rfl⟩
              have HSN2 : Hid (sumR (M[i].take (j + 1)) = S2) := by show _ = _; rw [HSN.out, ← hS2]; rfl
              rw [hS2] at KS
              clear HSN hS2
              by_cases hxy : x0' = y0' ∧ x1' = y1'
              rotate_left
              · have hv := hbad (fun h => hxy (by have := h.1; simpa using this))
                have hq := bne_pair (x := (x0', x1')) (y := (y0', y1')) (fun h => hxy (by simpa using h))
                simp only at hq
                clear hent hbad hxy
                rcases hq with hq | ⟨rfl, hq⟩
                all_goals
                  go_wp2_with fail
                  go_quiet (fail)
                  go_wp2_with fail
                  go_ret
                  exact ⟨by rw [hv.out]; rfl, below_drewN (balloc HBW.out _) _⟩
              · obtain ⟨rfl, rfl⟩ := hxy
                by_cases hij : i = j
                · have HU2 := hent ⟨rfl, .inl hij⟩
                  have hq1 : ((i : Int) != (j : Int)) = false := by simp; omega
                  have hq2 : (i != j) = false := by simp; omega
                  clear hent hbad hij
                  go_wp2_with fail
                  go_quiet (fail)
                  have HS2 := Lib.hid (HS.out.alloc (.cells #[.int .i64 x0', .int .i64 x1'] 32))
                  have hl2 : wo.heap.size < (wr.alloc (.cells #[.int .i64 x0', .int .i64 x1'] 32)).heap.size := by simp; omega
                  go_wp2_with fail
                  refine (KS.out _).mono ?_
                  rintro e w7 ⟨rfl, hb7⟩
                  have hb7' := (below_drewN (Below.refl (wr.alloc (.cells #[.int .i64 x0', .int .i64 x1'] 32)).heap.size (wr.alloc (.cells #[.int .i64 x0', .int .i64 x1'] 32))) nq).trans hb7
                  have HS7 := HS2.out.of_block (hb7'.block _ hl2)
                  have zf0 := HS7.frozen 0
                  have zf1 := HS7.frozen 1
                  obtain ⟨z0, z1⟩ := ratAt_cells HS7
                  have hl7 := HS7.lt
                  have HS8 := Lib.hid (ratAt_set HS7 S2)
                  have HC8 : Hid (Below wo.heap.size wo ((w7.setCell ⟨wo.heap.size, 0, none⟩ (.int .i64 S2.1)).setCell ⟨wo.heap.size, 1, none⟩ (.int .i64 S2.2))) := bset (bset ((balloc HC.out _).trans (hb7'.mono (by simp; omega))) (Nat.le_refl _) _) (Nat.le_refl _) _
                  clear HS7 hb7 hb7'
                  unfold pairV
                  go_wp2_with fail
                  go_roundw
                  case rel => exact ⟨j + 1, by omega, by go_num, by simpa using hl7, HU2.out, by rw [HSN2.out]; exact HS8.out, HC8.out⟩
                  case measure => simp [intOf]; omega
                · have hq1 : ((i : Int) != (j : Int)) = true := by simp; omega
                  have hq2 : (i != j) = true := by simp; omega
                  by_cases hx0 : 0 < x0'
                  · have hv := hbad (fun h => by have h2 := h.2; omega)
                    clear hent hbad hij
                    go_wp2_with fail
                    go_quiet (fail)
                    go_wp2_with fail
                    go_ret
                    exact ⟨by rw [hv.out]; rfl, below_drewN (balloc HBW.out _) _⟩
                  · have HU2 := hent ⟨rfl, .inr (by omega)⟩
                    clear hent hbad hij
                    go_wp2_with fail
                    go_quiet (fail)
                    have HS2 := Lib.hid (HS.out.alloc (.cells #[.int .i64 x0', .int .i64 x1'] 32))
                    have hl2 : wo.heap.size < (wr.alloc (.cells #[.int .i64 x0', .int .i64 x1'] 32)).heap.size := by simp; omega
                    go_wp2_with fail
                    refine (KS.out _).mono ?_
                    rintro e w7 ⟨rfl, hb7⟩
                    have hb7' := (below_drewN (Below.refl (wr.alloc (.cells #[.int .i64 x0', .int .i64 x1'] 32)).heap.size (wr.alloc (.cells #[.int .i64 x0', .int .i64 x1'] 32))) nq).trans hb7
                    have HS7 := HS2.out.of_block (hb7'.block _ hl2)
                    have zf0 := HS7.frozen 0
                    have zf1 := HS7.frozen 1
                    obtain ⟨z0, z1⟩ := ratAt_cells HS7
                    have hl7 := HS7.lt
                    have HS8 := Lib.hid (ratAt_set HS7 S2)
                    have HC8 : Hid (Below wo.heap.size wo ((w7.setCell ⟨wo.heap.size, 0, none⟩ (.int .i64 S2.1)).setCell ⟨wo.heap.size, 1, none⟩ (.int .i64 S2.2))) := bset (bset ((balloc HC.out _).trans (hb7'.mono (by simp; omega))) (Nat.le_refl _) _) (Nat.le_refl _) _
                    clear HS7 hb7 hb7'
                    unfold pairV
                    go_wp2_with fail
                    go_roundw
                    case rel => exact ⟨j + 1, by omega, by go_num, by simpa using hl7, HU2.out, by rw [HSN2.out]; exact HS8.out, HC8.out⟩
                    case measure => simp [intOf]; omega
            · obtain rfl : j = k := by omega
              have hT : M[i].take j = M[i] := List.take_of_length_le (by rw [HML.out]; omega)
              have hgood : sumR M[i] = (0, 1) → Hid (∀ i', i' < i + 1 → RowR M j i') := fun h i' hi' => by
                by_cases e : i' = i
                · subst e; exact ⟨HU.out, by rw [HRW.out]; exact h⟩
                · exact HT.out i' (by omega)
              have hbad : ¬ sumR M[i] = (0, 1) → Hid (B = false) := fun h => bfalse HBB.out (fun h9 => h (by have := (h9.row i hk1).2; rw [HRW.out] at this; exact this))
              rw [hT] at z0 z1
              generalize sumR M[i] = s at z0 z1 hgood hbad
              obtain ⟨s0', s1'⟩ := s
              simp only at z0 z1
              clear hT HS
              by_cases hs : s0' = 0 ∧ s1' = 1
              · obtain ⟨rfl, rfl⟩ := hs
                have HG := hgood rfl
                clear hgood hbad
                go_wp2_with fail
                go_roundw
                case rel => exact ⟨i + 1, by omega, by go_num, HG.out, HBW.out⟩
                case measure => simp [intOf]; omega
              · have hv := hbad (fun h => hs (by simpa using h))
                have hq := bne_pair (x := (s0', s1')) (y := (0, 1)) (fun h => hs (by simpa using h))
                simp only at hq
                clear hgood hbad hs
                rcases hq with hq | ⟨rfl, hq⟩
                all_goals
                  go_wp2_with fail
                  go_ret
                  exact ⟨by rw [hv.out]; rfl, HBW.out⟩
        · obtain rfl : i = k := by omega
          have hv : B = true := HBB.out.2 ⟨by omega, by omega, fun k' h => (HT3.out k' h).1, fun k' h => (HT3.out k' h).2, fun k' h => HT.out k' (by rw [← HL.out]; exact h)⟩
          have HV := Lib.hid hv
          clear hv
          go_wp2_with fail
          go_ret
          exact ⟨by rw [HV.out]; rfl, HB.out⟩
end Go.Proofs.Ytjchindjoailbaa

/- The law on responses: a response is symmetric with row sums 0, and gives the currents and a power that is never negative. -/
namespace Go.Proofs.Ytjchindjoailbaa
set_option linter.unusedSimpArgs false
set_option linter.unusedVariables false
open Go.RowKit

theorem respM_row {M F : Nat} {S : Int} {l : List Wz} {i : Nat} (h : i < (respM M F S l).length) : (respM M F S l)[i] = respRow M F S l i F := by simp [respM]
theorem respM_len (M F : Nat) (S : Int) (l : List Wz) : (respM M F S l).length = F := by simp [respM]
theorem respRow_get {M F : Nat} {S : Int} {l : List Wz} {i j : Nat} (h : j < (respRow M F S l i F).length) : (respRow M F S l i F)[j] = Gn.rat (topW M F l i j) (S * downW M F l) := by simp [respRow, upto_at, respV]
theorem curL_get {T : Nat → Nat → Int} {D : Int} {V : List Int} {F k i : Nat} (h : i < (curL T D V F k).length) : (curL T D V F k)[i] = Gn.rat (curK T V i F) D := by simp [curL]
theorem rat_cells' {w : World} {b o n c : Nat} {l : List Rz} (h : ArgRow w (some ⟨b, o, none⟩) n c 2 (rats l)) (i : Nat) (hi : i < l.length) : w.cell? ⟨b, o + i * 2, none⟩ = some (.int .i64 l[i].1) ∧ w.cell? ⟨b, o + i * 2 + 1, none⟩ = some (.int .i64 l[i].2) := rat_cells h i hi
set_option maxRecDepth 100000 in
set_option maxHeartbeats 16000000 in
theorem walk_FnResponses (a : Option Addr) (n c : Nat) (zs : List Int) (w : World) (hr : ArgRow w a n c 1 (u8s zs)) :
    Calls Try.prog 10 #[.slice a n c] w fun e w' => e = .returned (.bool true) ∧ Below w.heap.size w w' := by
  have hn := hr.le
  unfold maxLen at hn
  by_cases hb : 1048576 < n
  · clear hr
    go_enter Try.func10, Try.ntmps10
    go_wp2_with fail
    go_ret
    exact ⟨rfl, Below.refl _ _⟩
  have HR := Lib.hid hr
  have hn' : n ≤ 1048576 := by omega
  clear hr hb hn
  go_enter Try.func10, Try.ntmps10
  go_wp2_with fail
  refine (specMakeNet a n c zs _ HR.out hn').mono ?_
  rintro e w1 ⟨M, E, S, l, a', c', rfl, hD, hO, hb1⟩
  obtain ⟨F, rfl⟩ : ∃ F : Nat, E = F := ⟨E.toNat, by have := hD.e2; omega⟩
  have HD := Lib.hid hD
  have B1 : Hid (Below w.heap.size w (w1.alloc (.cells #[.int .i64 M, .int .i64 F, .int .i64 S, .slice a' l.length c'] 25))) := balloc hb1 _
  have N1 : Hid ((w1.alloc (.cells #[.int .i64 M, .int .i64 F, .int .i64 S, .slice a' l.length c'] 25)).rowIs w1.heap.size 25 4 (netAt (.int .i64 M) (.int .i64 F) (.int .i64 S) (.slice a' l.length c'))) := netAt_new _ _ _ _ _ _
  have RW1 : Hid (ArgRow (w1.alloc (.cells #[.int .i64 M, .int .i64 F, .int .i64 S, .slice a' l.length c'] 25)) a' l.length c' 3 (wires l)) := (ArgRow.own hO).below (balloc (Below.refl _ _) _)
  have hM5 : M ≤ 5 := by have := hD.ok.h.n5; omega
  have hF2 : 2 ≤ F := by have := hD.e2; omega
  have hF : F ≤ M := by have := hD.ok.h.eN; omega
  clear hD hO hb1
  go_upto_region 4 with fail
  obtain ⟨bn, hbn⟩ : ∃ bn, w1.heap.size = bn := ⟨_, rfl⟩
  obtain ⟨wa, hwa⟩ : ∃ wa, w1.alloc (.cells #[.int .i64 M, .int .i64 F, .int .i64 S, .slice a' l.length c'] 25) = wa := ⟨_, rfl⟩
  rw [hwa] at B1 N1 RW1 ⊢
  rw [hbn] at N1 ⊢
  clear hbn hwa
  have hok := HD.out.ok
  have hF1 : 1 ≤ F := by omega
  have KR := Lib.hid (fun (w : World) rr => implResponseOf M F S a' l.length c' l hF1 hF hok w rr rfl)
  have KV := Lib.hid (fun (w : World) rr => specVolts M F S a' l.length c' hM5 hF a n c zs w rr hn')
  have KC := Lib.hid (fun (V : List Int) hVl hVb RL (av cv : Nat) (w : World) r1 r2 => implCurrentsFor M F S a' l.length c' l hF1 hF hok V hVl hVb RL av cv w r1 rfl r2)
  have KP := Lib.hid (fun (V : List Int) hVl hVb RL (av cv : Nat) (w : World) r1 r2 => implPowerFor M F S a' l.length c' l hF1 hF hok V hVl hVb RL av cv w r1 rfl r2)
  have HOK := Lib.hid (respOk HD.out hF)
  have KI := Lib.hid (fun (g cr : Nat) (w : World) rr => implIsResponse (some ⟨g, 0, none⟩) F cr (respM M F S l) true ⟨fun _ => HOK.out, fun _ => rfl⟩ w rr)
  have KS := fun (g cr : Nat) (w : World) r1 r2 => implSameR (some ⟨g, 0, none⟩) (some ⟨g, 0, none⟩) F cr F cr (respM M F S l) (respM M F S l) w r1 r2
  simp only [decide_true] at KS
  have KS := Lib.hid KS
  clear hok HOK
  obtain ⟨m0, m1, m2, m3⟩ := netAt_cells N1.out
  have hlb := N1.out.lt
  go_wp2_with fail
  refine (KR.out _ RW1.out).mono ?_
  rintro e w2 ⟨gr, cr, rfl, gG, hb2⟩
  have GR2 := Lib.hid gG
  have hgr : gr < w2.heap.size := by
    obtain ⟨b, o, e, hb⟩ := gG.form (by omega)
    cases e; exact hb
  have N2 := Lib.hid (N1.out.of_block (hb2.block _ N1.out.lt))
  have RW2 := Lib.hid (RW1.out.below hb2)
  have B2 : Hid (Below w.heap.size w w2) := bstep B1.out hb2
  clear gG hb2 N1 RW1 B1 m0 m1 m2 m3 hlb KR
  obtain ⟨m0, m1, m2, m3⟩ := netAt_cells N2.out
  have hlb := N2.out.lt
  go_wp2_with fail
  refine (KV.out _ (HR.out.below B2.out)).mono ?_
  rintro e w3 ⟨V, gv, cv, rfl, hVl, hVb, rv, hgv, hb3⟩
  have RV3 := Lib.hid rv
  have GR3 := Lib.hid (GR2.out.below hb3)
  have N3 := Lib.hid (N2.out.of_block (hb3.block _ N2.out.lt))
  have RW3 := Lib.hid (RW2.out.below hb3)
  have B3 : Hid (Below w.heap.size w w3) := bstep B2.out hb3
  have hgr3 : gr < w3.heap.size := Nat.lt_of_lt_of_le hgr hb3.size
  have RL := Lib.hid (respLaw HD.out hF hVl hVb)
  have HVL := Lib.hid hVl
  have HVB := Lib.hid hVb
  clear rv hb3 GR2 N2 RW2 B2 hgr m0 m1 m2 m3 hlb KV
  obtain ⟨m0, m1, m2, m3⟩ := netAt_cells N3.out
  have hlb := N3.out.lt
  have KC2 := Lib.hid (KC.out V hVl hVb RL.out)
  have KP2 := Lib.hid (KP.out V hVl hVb RL.out)
  clear KC KP hVl hVb
  go_wp2_with fail
  refine (KC2.out gv cv _ RW3.out RV3.out).mono ?_
  rintro e w4 ⟨gc, cc, rfl, rc, hgc, hb4⟩
  have RC4 := Lib.hid rc
  have RV4 := Lib.hid (RV3.out.below hb4)
  have GR4 := Lib.hid (GR3.out.below hb4)
  have N4 := Lib.hid (N3.out.of_block (hb4.block _ N3.out.lt))
  have RW4 := Lib.hid (RW3.out.below hb4)
  have B4 : Hid (Below w.heap.size w w4) := bstep B3.out hb4
  have hgr4 : gr < w4.heap.size := Nat.lt_of_lt_of_le hgr3 hb4.size
  have hgv4 : gv < w4.heap.size := Nat.lt_of_lt_of_le hgv hb4.size
  clear rc hb4 GR3 N3 RW3 B3 hgr3 hgv RV3 m0 m1 m2 m3 hlb KC2
  obtain ⟨m0, m1, m2, m3⟩ := netAt_cells N4.out
  have hlb := N4.out.lt
  go_wp2_with fail
  refine (KP2.out gv cv _ RW4.out RV4.out).mono ?_
  rintro e w5 ⟨rfl, hb5⟩
  have hnn := RL.out.nn
  have HT1 := Lib.hid RL.out.rowr
  have HT2 := Lib.hid RL.out.all
  have HT3 := Lib.hid RL.out.fin
  have HT4 := Lib.hid RL.out.z
  have RC5 := Lib.hid (RC4.out.below hb5)
  have RV5 := Lib.hid (RV4.out.below hb5)
  have GR5 := Lib.hid (GR4.out.below hb5)
  have N5 := Lib.hid (N4.out.of_block (hb5.block _ N4.out.lt))
  have B5 : Hid (Below w.heap.size w w5) := bstep B4.out hb5
  have hgr5 : gr < w5.heap.size := Nat.lt_of_lt_of_le hgr4 hb5.size
  have hgv5 : gv < w5.heap.size := Nat.lt_of_lt_of_le hgv4 hb5.size
  have hgc5 : gc < w5.heap.size := Nat.lt_of_lt_of_le hgc hb5.size
  generalize Gn.rat (powK (fun i j => topW M F l i j) V F F 0) (S * downW M F l) = P at hnn ⊢
  obtain ⟨P0, P1⟩ := P
  simp only at hnn
  clear hb5 GR4 N4 RW4 B4 hgr4 hgv4 hgc RV4 RC4 m0 m1 m2 m3 hlb KP2 RL
  go_wp2_with fail
  refine (KI.out gr cr _ (GR5.out.below (balloc (Below.refl _ _) _))).mono ?_
  rintro e w6 ⟨rfl, hb6⟩
  have NP6 : Hid (w6.rowIs w5.heap.size 32 2 (ratAt (P0, P1))) := (ratAt_new w5 P0 P1 32).of_block (hb6.block _ (by simp))
  have RC6 := Lib.hid ((RC5.out.below (balloc (Below.refl _ _) _)).below hb6)
  have RV6 := Lib.hid ((RV5.out.below (balloc (Below.refl _ _) _)).below hb6)
  have GR6 := Lib.hid ((GR5.out.below (balloc (Below.refl _ _) _)).below hb6)
  have N6 := Lib.hid ((N5.out.alloc _).of_block (hb6.block _ (N5.out.alloc _).lt))
  have B6 : Hid (Below w.heap.size w w6) := bstep (balloc B5.out _) hb6
  have hsz6 := hb6.size
  simp only [World.size_alloc] at hsz6
  have hgr6 : gr < w6.heap.size := by omega
  have hgv6 : gv < w6.heap.size := by omega
  have hgc6 : gc < w6.heap.size := by omega
  clear hb6 GR5 N5 B5 hgr5 hgv5 hgc5 RV5 RC5 KI
  obtain ⟨m0, m1, m2, m3⟩ := netAt_cells N6.out
  have hlb := N6.out.lt
  obtain ⟨p0, p1⟩ := ratAt_cells NP6.out
  have hlp := NP6.out.lt
  have hFF : ((F : Int) != (F : Int)) = false := by simp
  have hP : ¬ P0 < 0 := by omega
  obtain ⟨D, hDD⟩ : ∃ D, S * downW M F l = D := ⟨_, rfl⟩
  have HMI : Hid (∀ (i j : Nat) (hi : i < (respM M F S l).length) (hj : j < ((respM M F S l)[i]).length), ((respM M F S l)[i])[j] = Gn.rat (topW M F l i j) D) := fun i j hi hj => by
    have e1 := respM_row hi
    have hj2 : j < (respRow M F S l i F).length := by rw [← e1]; exact hj
    rw [← hDD, ← respRow_get hj2]
    simp only [e1]
  have HML := Lib.hid (respM_len M F S l)
  have HMR : Hid (∀ (i : Nat) (hi : i < (respM M F S l).length), ((respM M F S l)[i]).length = F) := fun i hi => by rw [respM_row hi, respRow_len]
  have HCI : Hid (∀ (i : Nat) (hi : i < (curL (fun i j => topW M F l i j) D V F F).length), (curL (fun i j => topW M F l i j) D V F F)[i] = Gn.rat (curK (fun i j => topW M F l i j) V i F) D) := fun i hi => curL_get hi
  have HCL := Lib.hid (curL_len (fun i j => topW M F l i j) D V F F)
  rw [hDD] at HT1 HT2 HT3 HT4 RC6
  have HZ1 : Hid (∀ i : Nat, curK (fun i j => topW M F l i j) V i 0 = 0) := fun i => rfl
  have HZ2 : Hid (Gn.sumK (fun i => curK (fun i j => topW M F l i j) V i F) 0 = 0) := rfl
  generalize curL (fun i j => topW M F l i j) D V F F = CL at RC6 HCI HCL
  generalize respM M F S l = MM at GR6 KS HMI HML HMR
  generalize hCK : curK (fun i j => topW M F l i j) V = CK at HT1 HT2 HT3 HCI HZ1 HZ2
  generalize hAK : Gn.sumK (fun i => CK i F) = AK at HT2 HT3 HZ2
  obtain ⟨TT, hTT⟩ : ∃ TT : Nat → Nat → Int, ∀ i j : Nat, topW M F l i j = TT i j := ⟨fun i j => topW M F l i j, fun i j => rfl⟩
  simp only [hTT] at HT1 HMI
  clear hCK hAK hTT hDD HD hnn
  go_wp2_with fail
  clear m0 m1 m2 m3 p0 p1 hlp NP6
  have HA0 : Hid ((w6.alloc (.cells #[.int .i64 0, .int .i64 1] 32)).rowIs w6.heap.size 32 2 (ratAt (Gn.rat (AK 0) D))) := by
    rw [HZ2.out, HT4.out]; exact ratAt_new _ _ _ _
  go_loopw [78] (fun u wr => ∃ i : Nat, i ≤ F ∧ u = .int .i64 i ∧ w6.heap.size < wr.heap.size ∧ Hid (wr.rowIs w6.heap.size 32 2 (ratAt (Gn.rat (AK i) D))) ∧ Hid (Below w6.heap.size w6 wr)) (fun u _ => F - (intOf u).toNat)
  case atStart => exact ⟨0, by omega, rfl, by simp, HA0.out, balloc (Below.refl _ _) _⟩
  case round =>
    clear HA0
    obtain ⟨i, hi, rfl, hsz, HA, HB⟩ := hrel
    obtain ⟨wo, rfl⟩ : ∃ wo : World, wo = wr := ⟨_, rfl⟩
    have N7 := Lib.hid (N6.out.of_block (HB.out.block _ N6.out.lt))
    have GR7 := Lib.hid (GR6.out.below HB.out)
    have RV7 := Lib.hid (RV6.out.below HB.out)
    have RC7 := Lib.hid (RC6.out.below HB.out)
    have B7 : Hid (Below w.heap.size w wo) := B6.out.trans (HB.out.mono B6.out.size)
    have hgr7 : gr < wo.heap.size := by omega
    have hgv7 : gv < wo.heap.size := by omega
    have hgc7 : gc < wo.heap.size := by omega
    by_cases hlt : i < F
    · have hiM : i < MM.length := by rw [HML.out]; exact hlt
      obtain ⟨ra, rc, hcell, hrow⟩ := GR7.out.row i hiM
      rw [HMR.out i hiM] at hcell hrow
      rw [Nat.zero_add] at hcell
      obtain ⟨rb, ro, rfl, hrb, _⟩ := hrow.form (by omega)
      have HRW := Lib.hid hrow
      have hi1 : (0 : Int) ≤ i := by omega
      have hi2 : (i : Int) < F := by omega
      have hrd15 := Lib.hid (fun (w' : World) (h : Below (wo.heap.size + 1) (wo.alloc (.cells #[.int .i64 0, .int .i64 1] 32)) w') => (And.intro (((show Below wo.heap.size wo w' from (balloc (Below.refl _ _) _).trans (h.mono (by omega))).cell (p := ⟨gr, i, none⟩) hgr7).trans hcell) (netAt_cells (N7.out.of_block ((show Below wo.heap.size wo w' from (balloc (Below.refl _ _) _).trans (h.mono (by omega))).block _ N7.out.lt))).2.1 : w'.cell? ⟨gr, i, none⟩ = some (.slice (some ⟨rb, ro, none⟩) F rc) ∧ w'.cell? ⟨bn, 1, none⟩ = some (.int .i64 F)))
      clear hrow
      go_wp2_with fail
      refine wp_region_quiet (C := fun w' => Below (wo.heap.size + 1) (wo.alloc (.cells #[.int .i64 0, .int .i64 1] 32)) w') (by kernel_rfl) (by kernel_rfl) (Below.refl _ _).drew ?_
      refine wpQuiet_step (fun K hK => ?_)
      go_simp
      apply Exists.intro
      constructor
      · intro w' hw'; exact rfl
      refine hK _ ?_
      clear hK K
      refine wpQuiet_step (fun K hK => ?_)
      go_simp
      apply Exists.intro
      constructor
      · intro w' hw'; exact rfl
      refine hK _ ?_
      clear hK K
      refine wpQuiet_step (fun K hK => ?_)
      go_simp
      apply Exists.intro
      constructor
      · intro w' hw'; exact rfl
      refine hK _ ?_
      clear hK K
      refine wpQuiet_step (fun K hK => ?_)
      go_simp
      refine ⟨.slice (some ⟨rb, ro, none⟩) F rc, fun w' hw' => ?_, hK _ ?_⟩
      · obtain ⟨g0, g1⟩ := hrd15.out w' hw'
        go_simp
      clear hK K
      refine wpQuiet_step (fun K hK => ?_)
      go_simp
      apply Exists.intro
      constructor
      · intro w' hw'; exact rfl
      refine hK _ ?_
      clear hK K
      refine wpQuiet_step (fun K hK => ?_)
      go_simp
      apply Exists.intro
      constructor
      · intro w' hw'; exact rfl
      refine hK _ ?_
      clear hK K
      refine wpQuiet_step (fun K hK => ?_)
      go_simp
      refine ⟨.int .i64 F, fun w' hw' => ?_, hK _ ?_⟩
      · obtain ⟨g0, g1⟩ := hrd15.out w' hw'
        go_simp
      clear hK K
      refine wpQuiet_step (fun K hK => ?_)
      go_simp
      apply Exists.intro
      constructor
      · intro w' hw'; exact rfl
      refine hK _ ?_
      clear hK K
      refine wpQuiet_nil ?_
      intro wF hF'
      have HS0 : Hid (wF.rowIs wo.heap.size 32 2 (ratAt (Gn.rat (CK i 0) D))) := by
        show World.rowIs _ _ _ _ _
        rw [HZ1.out i, HT4.out]
        exact (ratAt_new wo 0 1 32).of_block (hF'.block _ (by simp))
      have HF : Hid (Below wo.heap.size wo wF) := (balloc (Below.refl _ _) _).trans (hF'.mono (by omega))
      have hszF : wo.heap.size < wF.heap.size := by have := hF'.size; simp at this; omega
      clear hF' hrd15
      go_wp2_with fail
      go_loopw [92] (fun u wx => ∃ j : Nat, j ≤ F ∧ u = .int .i64 j ∧ wo.heap.size < wx.heap.size ∧ Hid (wx.rowIs wo.heap.size 32 2 (ratAt (Gn.rat (CK i j) D))) ∧ Hid (Below wo.heap.size wo wx)) (fun u _ => F - (intOf u).toNat)
      case atStart => exact ⟨0, by omega, rfl, hszF, HS0.out, HF.out⟩
      case round =>
        clear HS0 HF hszF
        obtain ⟨j, hj, rfl, hszx, HS, HC⟩ := hrel
        by_cases hlj : j < F
        · have hjV : j < V.length := by rw [HVL.out]; exact hlj
          have hvc := int_cell (RV7.out.below HC.out) j hjV
          rw [Nat.zero_add] at hvc
          have hgvx : gv < wr.heap.size := by have := HC.out.size; omega
          have hjM : j < (MM[i]).length := by rw [HMR.out i hiM]; exact hlj
          obtain ⟨e0, e1⟩ := rat_cells' (HRW.out.below HC.out) j hjM
          rw [HMI.out i j hiM hjM] at e0 e1
          have hsum := HT1.out i j hlt hlj
          have hgd : V.getD j 0 = V[j] := by rw [List.getD_eq_getElem?_getD, List.getElem?_eq_getElem hjV, Option.getD_some]
          rw [hgd] at hsum
          have hxb := HVB.out V[j] (List.getElem_mem _)
          generalize V[j] = x at hvc hsum hxb
          generalize hs : Gn.rat (CK i j) D = s at HS hsum
          generalize hs2 : Gn.rat (CK i (j + 1)) D = s2 at hsum
          have HS2 := Lib.hid hs2
          generalize Gn.rat (TT i j) D = q at e0 e1 hsum
          generalize hx1 : Gn.rat x 1 = x1 at hsum
          generalize htm : timesR q x1 = tm at hsum
          have HX1 := Lib.hid hx1
          have HTM := Lib.hid htm
          have HSM := Lib.hid hsum
          obtain ⟨q0, q1⟩ := q
          obtain ⟨s0, s1⟩ := s
          obtain ⟨u0, u1⟩ := s2
          obtain ⟨z0, z1⟩ := x1
          obtain ⟨t0, t1⟩ := tm
          simp only at e0 e1
          have KO : Hid (∀ w : World, Calls Try.prog 21 #[.int .i64 x, .int .i64 1] w fun e w' => e = .returned (ratV z0 z1) ∧ Below w.heap.size w w') := fun w => by
            have := implRatioOf x 1 w (by omega) (by omega) (by omega) (by omega)
            rw [HX1.out] at this; exact this
          have KT : Hid (∀ w : World, Calls Try.prog 19 #[ratV q0 q1, ratV z0 z1] w fun e w' => e = .returned (ratV t0 t1) ∧ Below w.heap.size w w') := fun w => by
            have := implTimesR (q0, q1) (z0, z1) w
            rw [HTM.out] at this; exact this
          have KA : Hid (∀ w : World, Calls Try.prog 23 #[ratV s0 s1, ratV t0 t1] w fun e w' => e = .returned (ratV u0 u1) ∧ Below w.heap.size w w') := fun w => by
            have := implSumR (s0, s1) (t0, t1) w
            rw [HSM.out] at this; exact this
          have hc2 := (HC.out.cell (p := ⟨gr, i, none⟩) hgr7).trans hcell
          have hgrx : gr < wr.heap.size := by have := HC.out.size; omega
          have hrbx : rb < wr.heap.size := by have := HC.out.size; omega
          have hrd := Lib.hid (fun (w' : World) (h : Below wr.heap.size wr w') => (⟨(ratAt_cells (HS.out.of_block (h.block _ HS.out.lt))).1, (ratAt_cells (HS.out.of_block (h.block _ HS.out.lt))).2, (h.cell (p := ⟨gr, i, none⟩) hgrx).trans hc2, (h.cell (p := ⟨rb, _, none⟩) hrbx).trans e0, (h.cell (p := ⟨rb, _, none⟩) hrbx).trans e1⟩ : w'.cell? ⟨wo.heap.size, 0, none⟩ = some (.int .i64 s0) ∧ w'.cell? ⟨wo.heap.size, 1, none⟩ = some (.int .i64 s1) ∧ w'.cell? ⟨gr, i, none⟩ = some (.slice (some ⟨rb, ro, none⟩) F rc) ∧ w'.cell? ⟨rb, ro + j * 2, none⟩ = some (.int .i64 q0) ∧ w'.cell? ⟨rb, ro + j * 2 + 1, none⟩ = some (.int .i64 q1)))
          have hj1 : (0 : Int) ≤ j := by omega
          have hj2 : (j : Int) < F := by omega
          clear hjV hjM e0 e1 hgd hsum hs hs2 hx1 htm hc2 hxb
          go_wp2_with fail
          refine region_quiet_tail_in (fun w' => Below wr.heap.size wr w') 12 (by kernel_rfl) (by kernel_rfl) (Below.refl _ _).drew ?_
          simp only [List.take_succ_cons, List.take_zero, List.drop_succ_cons, List.drop_zero]
          refine wpQuiet_step (fun K hK => ?_)
          go_simp
          refine ⟨.agg #[.int .i64 s0, .int .i64 s1], fun w' hw' => ?_, hK _ ?_⟩
          · obtain ⟨g0, g1, g2, g3, g4⟩ := hrd.out w' hw'
            go_simp
          clear hK K
          refine wpQuiet_step (fun K hK => ?_)
          go_simp
          apply Exists.intro
          constructor
          · intro w' hw'; exact rfl
          refine hK _ ?_
          clear hK K
          refine wpQuiet_step (fun K hK => ?_)
          go_simp
          apply Exists.intro
          constructor
          · intro w' hw'; exact rfl
          refine hK _ ?_
          clear hK K
          refine wpQuiet_step (fun K hK => ?_)
          go_simp
          apply Exists.intro
          constructor
          · intro w' hw'; exact rfl
          refine hK _ ?_
          clear hK K
          refine wpQuiet_step (fun K hK => ?_)
          go_simp
          refine ⟨.slice (some ⟨rb, ro, none⟩) F rc, fun w' hw' => ?_, hK _ ?_⟩
          · obtain ⟨g0, g1, g2, g3, g4⟩ := hrd.out w' hw'
            go_simp
          clear hK K
          refine wpQuiet_step (fun K hK => ?_)
          go_simp
          apply Exists.intro
          constructor
          · intro w' hw'; exact rfl
          refine hK _ ?_
          clear hK K
          refine wpQuiet_step (fun K hK => ?_)
          go_simp
          apply Exists.intro
          constructor
          · intro w' hw'; exact rfl
          refine hK _ ?_
          clear hK K
          refine wpQuiet_step (fun K hK => ?_)
          go_simp
          refine ⟨.agg #[.int .i64 q0, .int .i64 q1], fun w' hw' => ?_, hK _ ?_⟩
          · obtain ⟨g0, g1, g2, g3, g4⟩ := hrd.out w' hw'
            go_simp
          clear hK K
          refine wpQuiet_step (fun K hK => ?_)
          go_simp
          apply Exists.intro
          constructor
          · intro w' hw'; exact rfl
          refine hK _ ?_
          clear hK K
          refine wpQuiet_step (fun K hK => ?_)
          go_simp
          refine ⟨ratV z0 z1, fun w' hw' => (KO.out w').mono (fun e w'' h => ⟨h.1, hw'.trans (h.2.mono (by have := hw'.size; simpa using this))⟩), hK _ ?_⟩
          clear hK K
          refine wpQuiet_step (fun K hK => ?_)
          go_simp
          refine ⟨ratV t0 t1, fun w' hw' => (KT.out w').mono (fun e w'' h => ⟨h.1, hw'.trans (h.2.mono (by have := hw'.size; simpa using this))⟩), hK _ ?_⟩
          clear hK K
          refine wpQuiet_step (fun K hK => ?_)
          go_simp
          refine ⟨ratV u0 u1, fun w' hw' => (KA.out w').mono (fun e w'' h => ⟨h.1, hw'.trans (h.2.mono (by have := hw'.size; simpa using this))⟩), hK _ ?_⟩
          clear hK K
          refine wpQuiet_nil ?_
          intro wY hbY
          have HSY := HS.out.of_block (hbY.block _ HS.out.lt)
          obtain ⟨y0, y1⟩ := ratAt_cells HSY
          have yf0 := HSY.frozen 0
          have yf1 := HSY.frozen 1
          have hlY := HSY.lt
          have HS8 := Lib.hid (ratAt_set HSY (u0, u1))
          have HC8 : Hid (Below wo.heap.size wo ((wY.setCell ⟨wo.heap.size, 0, none⟩ (.int .i64 u0)).setCell ⟨wo.heap.size, 1, none⟩ (.int .i64 u1))) := bset (bset (HC.out.trans (hbY.mono HC.out.size)) (Nat.le_refl _) _) (Nat.le_refl _) _
          clear hrd HSY hbY hvc
          go_wp2_with fail
          go_roundw
          case rel => exact ⟨j + 1, by omega, by go_num, by simpa using hlY, by rw [HS2.out]; exact HS8.out, HC8.out⟩
          case measure => simp [intOf]; omega
        · obtain rfl : j = F := by omega
          have hiC : i < CL.length := by rw [HCL.out]; exact hlt
          obtain ⟨e0, e1⟩ := rat_cells' (RC7.out.below HC.out) i hiC
          rw [HCI.out i hiC] at e0 e1
          simp only [Nat.zero_add] at e0 e1
          have hsum := HT2.out i hlt
          generalize Gn.rat (CK i j) D = s at HS hsum e0 e1
          generalize hs2 : Gn.rat (AK (i + 1)) D = s2 at hsum
          generalize Gn.rat (AK i) D = q at HA hsum
          have HS2 := Lib.hid hs2
          have HSM := Lib.hid hsum
          obtain ⟨q0, q1⟩ := q
          obtain ⟨s0, s1⟩ := s
          obtain ⟨u0, u1⟩ := s2
          simp only at e0 e1
          have KA : Hid (∀ w : World, Calls Try.prog 23 #[ratV q0 q1, ratV s0 s1] w fun e w' => e = .returned (ratV u0 u1) ∧ Below w.heap.size w w') := fun w => by
            have := implSumR (q0, q1) (s0, s1) w
            rw [HSM.out] at this; exact this
          have HA1 := Lib.hid (HA.out.of_block (HC.out.block _ HA.out.lt))
          have hgcx : gc < wr.heap.size := by have := HC.out.size; omega
          have hrd := Lib.hid (fun (w' : World) (h : Below wr.heap.size wr w') => (⟨(ratAt_cells (HS.out.of_block (h.block _ HS.out.lt))).1, (ratAt_cells (HS.out.of_block (h.block _ HS.out.lt))).2, (h.cell (p := ⟨gc, _, none⟩) hgcx).trans e0, (h.cell (p := ⟨gc, _, none⟩) hgcx).trans e1, (ratAt_cells (HA1.out.of_block (h.block _ HA1.out.lt))).1, (ratAt_cells (HA1.out.of_block (h.block _ HA1.out.lt))).2⟩ : w'.cell? ⟨wo.heap.size, 0, none⟩ = some (.int .i64 s0) ∧ w'.cell? ⟨wo.heap.size, 1, none⟩ = some (.int .i64 s1) ∧ w'.cell? ⟨gc, i * 2, none⟩ = some (.int .i64 s0) ∧ w'.cell? ⟨gc, i * 2 + 1, none⟩ = some (.int .i64 s1) ∧ w'.cell? ⟨w6.heap.size, 0, none⟩ = some (.int .i64 q0) ∧ w'.cell? ⟨w6.heap.size, 1, none⟩ = some (.int .i64 q1)))
          clear hiC e0 e1 hsum hs2 hcell
          go_wp2_with fail
          refine wp_region_quiet (C := fun w' => Below wr.heap.size wr w') (by kernel_rfl) (by kernel_rfl) (Below.refl _ _).drew ?_
          refine wpQuiet_step (fun K hK => ?_)
          go_simp
          refine ⟨.agg #[.int .i64 s0, .int .i64 s1], fun w' hw' => ?_, hK _ ?_⟩
          · obtain ⟨g0, g1, g2, g3, g4, g5⟩ := hrd.out w' hw'
            go_simp
          clear hK K
          refine wpQuiet_step (fun K hK => ?_)
          go_simp
          apply Exists.intro
          constructor
          · intro w' hw'; exact rfl
          refine hK _ ?_
          clear hK K
          refine wpQuiet_step (fun K hK => ?_)
          go_simp
          apply Exists.intro
          constructor
          · intro w' hw'; exact rfl
          refine hK _ ?_
          clear hK K
          refine wpQuiet_step (fun K hK => ?_)
          go_simp
          apply Exists.intro
          constructor
          · intro w' hw'; exact rfl
          refine hK _ ?_
          clear hK K
          refine wpQuiet_step (fun K hK => ?_)
          go_simp
          refine ⟨.agg #[.int .i64 s0, .int .i64 s1], fun w' hw' => ?_, hK _ ?_⟩
          · obtain ⟨g0, g1, g2, g3, g4, g5⟩ := hrd.out w' hw'
            go_simp
          clear hK K
          refine wpQuiet_step (fun K hK => ?_)
          go_simp
          apply Exists.intro
          constructor
          · intro w' hw'; exact rfl
          refine hK _ ?_
          clear hK K
          refine wpQuiet_nil ?_
          intro wG hbG
          have HBG := Lib.hid hbG
          clear hbG
          go_wp2_with fail
          refine region_quiet_tail_in (fun w' => Below wr.heap.size wr w') 6 (by kernel_rfl) (by kernel_rfl) HBG.out.drew ?_
          simp only [List.take_succ_cons, List.take_zero, List.drop_succ_cons, List.drop_zero]
          refine wpQuiet_step (fun K hK => ?_)
          go_simp
          refine ⟨.agg #[.int .i64 q0, .int .i64 q1], fun w' hw' => ?_, hK _ ?_⟩
          · obtain ⟨g0, g1, g2, g3, g4, g5⟩ := hrd.out w' hw'
            go_simp
          clear hK K
          refine wpQuiet_step (fun K hK => ?_)
          go_simp
          apply Exists.intro
          constructor
          · intro w' hw'; exact rfl
          refine hK _ ?_
          clear hK K
          refine wpQuiet_step (fun K hK => ?_)
          go_simp
          apply Exists.intro
          constructor
          · intro w' hw'; exact rfl
          refine hK _ ?_
          clear hK K
          refine wpQuiet_step (fun K hK => ?_)
          go_simp
          apply Exists.intro
          constructor
          · intro w' hw'; exact rfl
          refine hK _ ?_
          clear hK K
          refine wpQuiet_step (fun K hK => ?_)
          go_simp
          refine ⟨.agg #[.int .i64 s0, .int .i64 s1], fun w' hw' => ?_, hK _ ?_⟩
          · obtain ⟨g0, g1, g2, g3, g4, g5⟩ := hrd.out w' hw'
            go_simp
          clear hK K
          refine wpQuiet_step (fun K hK => ?_)
          go_simp
          refine ⟨ratV u0 u1, fun w' hw' => (KA.out w').mono (fun e w'' h => ⟨h.1, hw'.trans (h.2.mono (by have := hw'.size; simpa using this))⟩), hK _ ?_⟩
          clear hK K
          refine wpQuiet_nil ?_
          intro wH hbH
          have HSY := HA1.out.of_block (hbH.block _ HA1.out.lt)
          obtain ⟨y0, y1⟩ := ratAt_cells HSY
          have yf0 := HSY.frozen 0
          have yf1 := HSY.frozen 1
          have hlY := HSY.lt
          have HS8 := Lib.hid (ratAt_set HSY (u0, u1))
          have HBo : Below w6.heap.size w6 wr := HB.out.trans (HC.out.mono HB.out.size)
          have HC8 : Hid (Below w6.heap.size w6 ((wH.setCell ⟨w6.heap.size, 0, none⟩ (.int .i64 u0)).setCell ⟨w6.heap.size, 1, none⟩ (.int .i64 u1))) := bset (bset (HBo.trans (hbH.mono HBo.size)) (Nat.le_refl _) _) (Nat.le_refl _) _
          clear hrd HSY hbH HBo
          go_wp2_with fail
          go_roundw
          case rel => exact ⟨i + 1, by omega, by go_num, by simpa using hlY, by rw [HS2.out]; exact HS8.out, HC8.out⟩
          case measure => simp [intOf]; omega
    · obtain rfl : i = F := by omega
      rw [HT3.out] at HA
      obtain ⟨y0, y1⟩ := ratAt_cells HA.out
      go_wp2_with fail
      refine (KS.out gr cr _ GR7.out GR7.out).mono ?_
      rintro e w9 ⟨rfl, hb9⟩
      have B9 : Hid (Below w.heap.size w w9) := bstep B7.out hb9
      clear hb9
      go_wp2_with fail
      go_ret
      exact ⟨rfl, B9.out⟩
end Go.Proofs.Ytjchindjoailbaa

/- A caller's bytes, opened. -/
namespace Go.Proofs.Ytjchindjoailbaa
set_option linter.unusedSimpArgs false
set_option linter.unusedVariables false
set_option maxRecDepth 100000
open Go.RowKit Go.ChangeShapes Go.WideShapes Go.ChangeAt

theorem flat_u8 : ∀ l : List Int, l.flatMap (fun z => [Value.int .u8 z]) = u8s l
  | [] => rfl
  | a :: l => by rw [List.flatMap_cons, flat_u8 l]; rfl
section
variable {H : Type} {enc : TypeId × Value → H} {w : World} {base : Nat} {spare : Nat → Bool} {held : Bool}
theorem open_bytes {fuel : Nat} {cs : List Value} {x : DataW H × List MemPlace} (h : DataW.trod enc Try.prog w base spare held fuel 22 cs = some x) :
    ∃ (a : Option Addr) (n c : Nat) (l : List Int), cs = [.slice a n c] ∧ ArgRow w a n c 1 (u8s l) := by
  obtain ⟨a, n, c, l, e, _, hr, _⟩ := open_rows Try.underlying22 (by kernel_rfl) (Nat.zero_lt_one) (fun z : Int => [.int .u8 z]) (fun _ => True) (fun _ => rfl)
    (fun n cs y h => by obtain ⟨z, h1, _, _⟩ := DataW.trod_int Try.underlying5 h; exact ⟨z, h1, trivial⟩) h
  rw [flat_u8] at hr
  exact ⟨a, n, c, l, e, hr⟩
end
end Go.Proofs.Ytjchindjoailbaa

/- For every code the law FnResponses (responses) answers true and leaves its argument as it was. -/
namespace Go.Proofs.Ytjchindjoailbaa
set_option linter.unusedSimpArgs false
set_option linter.unusedVariables false
open Go.ChangeShapes Go.WideShapes Go.ChangeAt Go.RowKit
open Go.ChangeMaps (open_string shut_string)
set_option linter.unusedVariables false

set_option maxRecDepth 100000 in
theorem lifted_FnResponses (os : Os) (started : os.Started) (H : Type) (enc : TypeId × Value → H) :
    ReturnsInHanded {} Try.checked os 10 .any (Rows.fnResponsesSpec.pre6 enc Try.prog Try.f10 Rows.fnResponsesRow.domain false) (Rows.fnResponsesSpec.post enc Try.prog Try.f10 false true false false) := by
  refine returnsInHanded_of_change (C := Try.checked) own started (by kernel_rfl) Try.func10
    (ChangeSpec.witness6 (enc := enc) (C := Try.checked) false ⟨#[], #[.slice none 0 0], []⟩ 8 (by kernel_rfl) (by kernel_rfl) (by kernel_rfl) (by kernel_rfl)) ?_
  intro W base args ds gs before hval0 hW hcnd _
  have hval : ∀ (j : Nat) t v, Try.f10.params[j]? = some t → args[j]? = some v → Value.okWide Try.prog W .any base t v := hval0
  have hW' := hW
  obtain ⟨p, q, hA0, hV, rfl, hfz, hnd⟩ := hW
  have hA : DataW.TrodAll enc Try.prog W 0 (fun _ => true) true Try.f10.params.toList args.toList ds p := hA0
  rw [Try.params10] at hA hval
  obtain ⟨v0, vs0, d0, ds0, p0, q0, hargs, rfl, rfl, h0, r0⟩ := trodAll_cons hA
  obtain ⟨rfl, rfl, rfl⟩ := trodAll_nil r0
  obtain rfl : args = #[v0] := by cases args; simp_all
  obtain ⟨rfl, rfl⟩ := trodVars_none hV
  have k0 := h0
  have lt0 : ∀ x ∈ p0, x.block < W.heap.size := by obtain ⟨m, hm⟩ := k0; exact DataW.trod_lt m _ _ _ hm
  obtain ⟨b0, bn0, bc0, rfl⟩ := okWide_slice Try.underlying22 (hval 0 22 v0 rfl rfl)
  obtain ⟨fu0, hm0⟩ := h0
  obtain ⟨a0, n0, c0, l0, e0, w0⟩ := open_bytes hm0
  have e0 : [Value.slice b0 bn0 bc0] = [Value.slice a0 n0 c0] := e0
  simp only [List.cons.injEq, Value.slice.injEq, and_true] at e0
  obtain ⟨rfl, rfl, rfl⟩ := e0
  clear hA0 hval0
  refine (walk_FnResponses _ _ _ l0 W w0).mono fun e W' ⟨he, bel⟩ => ?_
  subst he
  exact ⟨_, rfl, _, _, _, [], _, [], hW', trodAll_mk1 (shut_bool Try.underlying4 _), (trodAll_cons_mk (Below.trod laidOut (by kernel_rfl) (of_decide_eq_true (by kernel_rfl)) k0 bel lt0) trodAll_mk0), rfl, bel.frame _, fun h => by cases h⟩

set_option maxRecDepth 100000 in
set_option maxHeartbeats 8000000 in
theorem closed_FnResponses : joinedFacts Try.pinned.checked.prog 10 Try.f10 Rows.fnResponsesSpec Rows.fnResponsesRow = true := by
  unfold joinedFacts
  repeat' (with_reducible refine band ?_ ?_)
  all_goals first | (with_reducible exact mayEnter_p) | ((with_reducible refine bmake (finals_p.trans ?_)); rfl) | ((with_reducible refine beq_iff_eq.2 (make_p.trans ?_)); rfl) | (as_aux_lemma => kernel_rfl)

theorem fnResponses_holds : Rows.FnResponsesSaid :=
  OpenClaim.holds_of_wide 10 Try.f10 rfl rfl rfl rfl rfl rfl rfl ⟨rfl, rfl, rfl, rfl, rfl⟩ rfl rfl rfl rfl rfl (by kernel_rfl) Try.func10 closed_FnResponses
    (of_decide_eq_true (by kernel_rfl)) (by unfold Func.isWrapper; first | (rw [if_pos (by decide +kernel)]; kernel_rfl) | (rw [if_neg (by decide +kernel)]; exact ⟨rfl, rfl⟩))
    (fun os started H enc _ => lifted_FnResponses os started H enc)

end Go.Proofs.Ytjchindjoailbaa
