/- The response's minors: symmetric, not positive off the diagonal, rows' sums 0; currents and power. Plain Lean. -/
import Derived.Test.YtjchindjoailbaaG24
import Derived.Test.YtjchindjoailbaaG23
import Derived.Test.YtjchindjoailbaaG07
import Derived.Test.YtjchindjoailbaaG15
import Derived.Test.YtjchindjoailbaaG26
import Derived.Test.YtjchindjoailbaaG22
import Derived.Test.YtjchindjoailbaaG21
import Derived.Test.YtjchindjoailbaaG14
import Derived.Test.YtjchindjoailbaaG16
import Derived.Test.YtjchindjoailbaaG17
import Derived.Test.YtjchindjoailbaaG01
import Derived.Test.YtjchindjoailbaaG20
import Derived.WalkKit
import Derived.ProofKit
import Derived.OpenShut
import Derived.ShutString
import Derived.ChangeOld
import Derived.Below
import Derived.Lib.SmallJoins
namespace Gn
def sumK (g : Nat → Int) : Nat → Int
  | 0 => 0
  | k + 1 => sumK g k + g k
theorem sumK_add (g h : Nat → Int) : ∀ n, sumK (fun k => g k + h k) n = sumK g n + sumK h n
  | 0 => rfl
  | n + 1 => by simp only [sumK, sumK_add g h n]; omega
theorem sumK_mul (c : Int) (g : Nat → Int) : ∀ n, sumK (fun k => c * g k) n = c * sumK g n
  | 0 => by simp [sumK]
  | n + 1 => by simp only [sumK, sumK_mul c g n, Int.mul_add]
theorem sumK_zero : ∀ n, sumK (fun _ => 0) n = 0
  | 0 => rfl
  | n + 1 => by simp only [sumK, sumK_zero n]; rfl
theorem sumK_congr {g h : Nat → Int} : ∀ {n : Nat}, (∀ k, k < n → g k = h k) → sumK g n = sumK h n
  | 0, _ => rfl
  | n + 1, e => by simp only [sumK]; rw [sumK_congr (n := n) (fun k hk => e k (by omega)), e n (by omega)]
theorem sumK_comm (g : Nat → Nat → Int) (m : Nat) : ∀ n, sumK (fun i => sumK (fun j => g i j) m) n = sumK (fun j => sumK (fun i => g i j) n) m
  | 0 => by simp only [sumK]; exact (sumK_zero m).symm
  | n + 1 => by
    simp only [sumK]
    rw [sumK_comm g m n, sumK_add]
theorem sumK_np {g : Nat → Int} : ∀ {n : Nat}, (∀ k, k < n → g k ≤ 0) → sumK g n ≤ 0
  | 0, _ => Int.le_refl _
  | n + 1, e => by
    have := sumK_np (n := n) (fun k hk => e k (by omega))
    have := e n (by omega)
    simp only [sumK]; omega
theorem sumK_bd {g : Nat → Int} {B : Int} : ∀ {n : Nat}, (∀ k, k < n → -B ≤ g k ∧ g k ≤ B) → -(n * B) ≤ sumK g n ∧ sumK g n ≤ n * B
  | 0, _ => by simp [sumK]
  | n + 1, e => by
    have := sumK_bd (n := n) (fun k hk => e k (by omega))
    have := e n (by omega)
    have : ((n + 1 : Nat) : Int) * B = n * B + B := by rw [show ((n + 1 : Nat) : Int) = (n : Int) + 1 from by omega, Int.add_mul, Int.one_mul]
    simp only [sumK]; omega
theorem sum_upto (g : Int → Int) : ∀ n, ((upto n).map g).sum = sumK (fun k => g k) n
  | 0 => rfl
  | n + 1 => by
    have : upto (n + 1) = upto n ++ [(n : Int)] := by simp [upto, List.range_succ]
    rw [this, List.map_append, List.sum_append, sum_upto g n]; simp [sumK]
/-- a form with rows' sums 0 and nothing positive off the diagonal is not negative -/
theorem form_nn (T : Nat → Nat → Int) (v : Nat → Int) (n : Nat) (hs : ∀ i j, i < n → j < n → T i j = T j i) (hn : ∀ i j, i < n → j < n → ¬ i = j → T i j ≤ 0) (hz : ∀ i, i < n → sumK (T i) n = 0) :
    0 ≤ sumK (fun i => sumK (fun j => T i j * v i * v j) n) n := by
  have h1 : sumK (fun i => sumK (fun j => T i j * (v i * v i)) n) n = 0 := by
    rw [sumK_congr (h := fun _ => 0) (fun i hi => ?_), sumK_zero]
    rw [sumK_congr (h := fun j => (v i * v i) * T i j) (fun j _ => Int.mul_comm _ _), sumK_mul]
    have : sumK (fun k => T i k) n = 0 := hz i hi
    rw [this, Int.mul_zero]
  have h2 : sumK (fun i => sumK (fun j => T i j * (v j * v j)) n) n = 0 := by
    rw [sumK_comm, ← h1]
    exact sumK_congr fun i hi => sumK_congr fun j hj => by rw [hs j i hj hi]
  have h3 : sumK (fun i => sumK (fun j => T i j * ((v i - v j) * (v i - v j))) n) n ≤ 0 := by
    refine sumK_np fun i hi => sumK_np fun j hj => ?_
    by_cases e : i = j
    · subst e; simp
    · have h4 := hn i j hi hj e
      have h5 : 0 ≤ (v i - v j) * (v i - v j) := by
        by_cases h : 0 ≤ v i - v j
        · exact Int.mul_nonneg h h
        · exact mul_nn (by omega) (by omega)
      have := Int.mul_nonneg (show 0 ≤ -T i j by omega) h5
      rw [Int.neg_mul] at this; omega
  have h4 : sumK (fun i => sumK (fun j => T i j * ((v i - v j) * (v i - v j))) n) n = sumK (fun i => sumK (fun j => T i j * (v i * v i)) n) n + sumK (fun i => sumK (fun j => T i j * (v j * v j)) n) n + -2 * sumK (fun i => sumK (fun j => T i j * v i * v j) n) n := by
    rw [← sumK_mul, ← sumK_add, ← sumK_add]
    refine sumK_congr fun i _ => ?_
    rw [← sumK_mul, ← sumK_add, ← sumK_add]
    exact sumK_congr fun j _ => by grind
  omega
end Gn
namespace Go.Proofs.Ytjchindjoailbaa
set_option linter.unusedSimpArgs false
set_option linter.unusedVariables false
open Go.RowKit
theorem upto_split (F : Nat) : ∀ k, upto (F + k) = upto F ++ innerK F k
  | 0 => by simp [innerK, upto]
  | k + 1 => by rw [← Nat.add_assoc, upto_succ, upto_split F k, innerK_succ, List.append_assoc]; simp
section
variable {M F : Nat} {S : Int} {l : List Wz}
theorem NetOk.top (h : NetOk M F S l) (hF0 : 1 ≤ F) (hF : F ≤ M) {i j : Int} (hi : 0 ≤ i ∧ i < F) (hj : 0 ≤ j ∧ j < F) : topW M F l i j = Gn.detP (Gn.lapW M (wbF l)) (i :: innerK F (M - F)) (j :: innerK F (M - F)) := by
  have hM5 : M ≤ 5 := by have := h.h.n5; omega
  have hl := innerK_len F (M - F)
  have hin := innerK_in hF
  unfold topW
  refine h.det (by simp; omega) (by simp) (fun x hx => ?_) (fun x hx => ?_)
  · rcases List.mem_cons.1 hx with rfl | hx
    · omega
    · exact hin x hx
  · rcases List.mem_cons.1 hx with rfl | hx
    · omega
    · exact hin x hx
theorem NetOk.down (h : NetOk M F S l) (hF : F ≤ M) : downW M F l = Gn.detP (Gn.lapW M (wbF l)) (innerK F (M - F)) (innerK F (M - F)) := by
  have hM5 : M ≤ 5 := by have := h.h.n5; omega
  have hl := innerK_len F (M - F)
  unfold downW
  exact h.det (by omega) (Nat.le_refl _) (innerK_in hF) (innerK_in hF)
theorem NetOk.inNice (h : NetOk M F S l) (hF0 : 1 ≤ F) (hF : F ≤ M) : Gn.Nice (Gn.lapW M (wbF l)) (innerK F (M - F)) :=
  h.nice (innerK_nodup _ _) (innerK_in hF) (fun hx => by have := innerK_mem hx; omega)
theorem lap_np (h : NetOk M F S l) {i j : Int} (e : ¬ i = j) : Gn.lapW M (wbF l) i j ≤ 0 := by
  have := h.wb i j
  unfold Gn.lapW; rw [if_neg e]; omega
theorem lap_sym (M : Nat) (l : List Wz) (i j : Int) : Gn.lapW M (wbF l) i j = Gn.lapW M (wbF l) j i := by
  unfold Gn.lapW
  by_cases e : i = j
  · subst e; rfl
  · rw [if_neg e, if_neg (Ne.symm e), wbF_comm]
theorem NetOk.topSym (h : NetOk M F S l) (hF0 : 1 ≤ F) (hF : F ≤ M) {i j : Int} (hi : 0 ≤ i ∧ i < F) (hj : 0 ≤ j ∧ j < F) : topW M F l i j = topW M F l j i := by
  have hM5 : M ≤ 5 := by have := h.h.n5; omega
  have hl := innerK_len F (M - F)
  rw [h.top hF0 hF hi hj, h.top hF0 hF hj hi]
  exact Gn.top_sym _ _ _ _ (by omega) (h.inNice hF0 hF) (lap_sym M l)
theorem NetOk.topNeg (h : NetOk M F S l) (hF0 : 1 ≤ F) (hF : F ≤ M) {i j : Int} (hi : 0 ≤ i ∧ i < F) (hj : 0 ≤ j ∧ j < F) (hij : ¬ i = j) : topW M F l i j ≤ 0 := by
  have hM5 : M ≤ 5 := by have := h.h.n5; omega
  have hl := innerK_len F (M - F)
  rw [h.top hF0 hF hi hj]
  exact Gn.top_neg _ _ _ _ (by omega) (h.inNice hF0 hF) (fun k hk => lap_np h (by have := innerK_mem hk; omega)) (fun k hk => lap_np h (by have := innerK_mem hk; omega)) (lap_np h hij)
theorem NetOk.topSum (h : NetOk M F S l) (hF0 : 1 ≤ F) (hF : F ≤ M) {i : Int} (hi : 0 ≤ i ∧ i < F) : Gn.sumK (fun j => topW M F l i j) F = 0 := by
  have hM5 : M ≤ 5 := by have := h.h.n5; omega
  have hl := innerK_len F (M - F)
  have key := Gn.top_sum (innerK F (M - F)) (Gn.lapW M (wbF l)) i (upto F) (by omega) (h.inNice hF0 hF) (fun k hk => by
    have hk2 : 0 ≤ k ∧ k < M := by
      rcases List.mem_cons.1 hk with rfl | hk
      · omega
      · exact innerK_in hF k hk
    have h1 := Gn.whole_sum (M := M) (f := wbF l) hk2
    have h2 := upto_split F (M - F)
    rw [show F + (M - F) = M by omega] at h2
    have h3 : Gn.upto M = upto F ++ innerK F (M - F) := h2
    rw [h3, List.map_append, List.sum_append] at h1
    exact h1)
  have h4 := Gn.sum_upto (fun y => Gn.detP (Gn.lapW M (wbF l)) (i :: innerK F (M - F)) (y :: innerK F (M - F))) F
  rw [← show upto F = Gn.upto F from rfl, key] at h4
  rw [h4]
  exact Gn.sumK_congr fun k hk => h.top hF0 hF hi ⟨by omega, by omega⟩
theorem Drawn.top_bd {most : Int} (h : Drawn most M F S l) (hF : F ≤ M) {i j : Int} (hi : 0 ≤ i ∧ i < F) (hj : 0 ≤ j ∧ j < F) : -7962624 ≤ topW M F l i j ∧ topW M F l i j ≤ 7962624 := by
  have hM5 : M ≤ 5 := by have := h.ok.h.n5; omega
  have hF2 : 2 ≤ F := by have := h.e2; omega
  have hl := innerK_len F (M - F)
  rw [h.ok.top (by omega) hF hi hj]
  have h1 := Gn.detP_bd (e := Gn.lapW M (wbF l)) (B := 24) (by omega) (i :: innerK F (M - F)) (j :: innerK F (M - F)) (by simp) (fun x hx y _ => h.lap_bd (by
    rcases List.mem_cons.1 hx with rfl | hx
    · omega
    · exact innerK_in hF x hx) y)
  obtain ⟨b3, b4, b0, b1, b2⟩ := bb_3
  rw [List.length_cons, hl] at h1
  generalize Gn.detP (Gn.lapW M (wbF l)) (i :: innerK F (M - F)) (j :: innerK F (M - F)) = d at h1 ⊢
  have : M - F = 0 ∨ M - F = 1 ∨ M - F = 2 ∨ M - F = 3 := by omega
  rcases this with e | e | e | e <;> rw [e] at h1 <;> simp only [Nat.reduceAdd] at h1 <;> omega
theorem Drawn.down_bd {most : Int} (h : Drawn most M F S l) (hF : F ≤ M) : 0 < S * downW M F l ∧ S * downW M F l ≤ 248832 := by
  have hM5 : M ≤ 5 := by have := h.ok.h.n5; omega
  have hF2 : 2 ≤ F := by have := h.e2; omega
  have hl := innerK_len F (M - F)
  have h0 := (h.ok.down_pos (by omega) hF).1
  refine ⟨(h.ok.sdown (by omega) hF).1, ?_⟩
  rw [h.ok.down hF] at h0 ⊢
  have h1 := (Gn.detP_bd (e := Gn.lapW M (wbF l)) (B := 24) (by omega) (innerK F (M - F)) (innerK F (M - F)) (by simp) (fun x hx y _ => h.lap_bd (innerK_in hF x hx) y)).2
  obtain ⟨b3, b4, b0, b1, b2⟩ := bb_3
  rw [hl] at h1
  have s3 := h.s3
  have s1 := h.ok.h.s1
  generalize Gn.detP (Gn.lapW M (wbF l)) (innerK F (M - F)) (innerK F (M - F)) = d at h0 h1 ⊢
  have h2 : d ≤ 82944 := by
    have : M - F = 0 ∨ M - F = 1 ∨ M - F = 2 ∨ M - F = 3 := by omega
    rcases this with e | e | e | e <;> rw [e] at h1 <;> omega
  have h3 := Gn.mul_bd' (x := S) (y := d) (X := 3) (Y := 82944) ⟨by omega, by omega⟩ ⟨by omega, by omega⟩
  omega
end
/-- the current at terminal i, of the first k potentials -/
def curK (T : Nat → Nat → Int) (v : List Int) (i k : Nat) : Int := Gn.sumK (fun j => T i j * v.getD j 0) k
/-- the power, rows before i, and k entries of row i -/
def powK (T : Nat → Nat → Int) (v : List Int) (F i k : Nat) : Int := Gn.sumK (fun p => Gn.sumK (fun j => T p j * v.getD p 0 * v.getD j 0) F) i + Gn.sumK (fun j => T i j * v.getD i 0 * v.getD j 0) k
/-- what the law on responses asks -/
structure RespLaw (M F : Nat) (S : Int) (l : List Wz) (v : List Int) (T : Nat → Nat → Int) (D : Int) : Prop where
  tb : ∀ i j, i < F → j < F → -7962624 ≤ T i j ∧ T i j ≤ 7962624
  dp : 0 < D ∧ D ≤ 248832
  cb : ∀ i k, i < F → k ≤ F → -300000000 ≤ curK T v i k ∧ curK T v i k ≤ 300000000
  pb : ∀ i k, i < F → k ≤ F → -10000000000 ≤ powK T v F i k ∧ powK T v F i k ≤ 10000000000
  rowr : ∀ i k, i < F → k < F → addR (Gn.rat (curK T v i k) D) (timesR (Gn.rat (T i k) D) (Gn.rat (v.getD k 0) 1)) = Gn.rat (curK T v i (k + 1)) D
  all : ∀ k, k < F → addR (Gn.rat (Gn.sumK (fun i => curK T v i F) k) D) (Gn.rat (curK T v k F) D) = Gn.rat (Gn.sumK (fun i => curK T v i F) (k + 1)) D
  fin : Gn.rat (Gn.sumK (fun i => curK T v i F) F) D = (0, 1)
  z : Gn.rat 0 D = (0, 1)
  nn : 0 ≤ (Gn.rat (powK T v F F 0) D).1
theorem ratN_nn {n d : Int} (hn : 0 ≤ n) (hd : 0 < d) (hf : Gn.fit n d = true) : 0 ≤ (Gn.rat n d).1 := by
  unfold Gn.rat; rw [if_pos hf]
  have h1 := Gn.rat_cross n d
  have h2 := Gn.ratD_pos n d (by omega)
  have h3 : 0 ≤ n * Gn.ratD n d := Int.mul_nonneg hn (by omega)
  simp only
  by_cases h : Gn.ratN n d < 0
  · have := Int.mul_pos (show 0 < -Gn.ratN n d by omega) hd
    rw [Int.neg_mul] at this; omega
  · omega
theorem respLaw {most : Int} {M F : Nat} {S : Int} {l : List Wz} (h : Drawn most M F S l) (hF : F ≤ M) {v : List Int} (hv : v.length = F) (hb : ∀ x ∈ v, -5 ≤ x ∧ x ≤ 5) :
    RespLaw M F S l v (fun i j => topW M F l i j) (S * downW M F l) := by
  have hM5 : M ≤ 5 := by have := h.ok.h.n5; omega
  have hF2 : 2 ≤ F := by have := h.e2; omega
  have hF1 : 1 ≤ F := by omega
  have hT : ∀ i j : Nat, i < F → j < F → -7962624 ≤ topW M F l i j ∧ topW M F l i j ≤ 7962624 := fun i j hi hj => h.top_bd hF ⟨by omega, by omega⟩ ⟨by omega, by omega⟩
  have hvb : ∀ j, -5 ≤ v.getD j 0 ∧ v.getD j 0 ≤ 5 := fun j => by
    rw [List.getD_eq_getElem?_getD]
    by_cases hj : j < v.length
    · rw [List.getElem?_eq_getElem hj, Option.getD_some]; exact hb _ (List.getElem_mem _)
    · rw [List.getElem?_eq_none (by omega)]; simp
  obtain ⟨d1, d2⟩ := h.down_bd hF
  have hc1 : ∀ i j : Nat, i < F → j < F → -39813120 ≤ topW M F l i j * v.getD j 0 ∧ topW M F l i j * v.getD j 0 ≤ 39813120 := fun i j hi hj => Gn.mul_bd' (X := 7962624) (Y := 5) (hT i j hi hj) (hvb j)
  have hc : ∀ i k : Nat, i < F → k ≤ F → -(k * 39813120) ≤ curK (fun i j => topW M F l i j) v i k ∧ curK (fun i j => topW M F l i j) v i k ≤ k * 39813120 := fun i k hi hk => Gn.sumK_bd (fun j hj => hc1 i j hi (by omega))
  have hp1 : ∀ i j : Nat, i < F → j < F → -199065600 ≤ topW M F l i j * v.getD i 0 * v.getD j 0 ∧ topW M F l i j * v.getD i 0 * v.getD j 0 ≤ 199065600 := fun i j hi hj => Gn.mul_bd' (X := 39813120) (Y := 5) (Gn.mul_bd' (X := 7962624) (Y := 5) (hT i j hi hj) (hvb i)) (hvb j)
  have hp2 : ∀ i k : Nat, i < F → k ≤ F → -(k * 199065600) ≤ Gn.sumK (fun j => topW M F l i j * v.getD i 0 * v.getD j 0) k ∧ Gn.sumK (fun j => topW M F l i j * v.getD i 0 * v.getD j 0) k ≤ k * 199065600 := fun i k hi hk => Gn.sumK_bd (fun j hj => hp1 i j hi (by omega))
  have hp3 : ∀ i : Nat, i ≤ F → -(i * 995328000) ≤ Gn.sumK (fun p => Gn.sumK (fun j => topW M F l p j * v.getD p 0 * v.getD j 0) F) i ∧ Gn.sumK (fun p => Gn.sumK (fun j => topW M F l p j * v.getD p 0 * v.getD j 0) F) i ≤ i * 995328000 := fun i hi => Gn.sumK_bd (fun p hp => by have := hp2 p F (by omega) (Nat.le_refl _); omega)
  have hfr' : ∀ x : Int, -10000000000 ≤ x ∧ x ≤ 10000000000 → Gn.Fr 10000000000 248832 x (S * downW M F l) := fun x hx => ⟨by omega, by omega, d1, d2, by decide, by decide⟩
  have hfr : ∀ x : Int, -1000000000 ≤ x ∧ x ≤ 1000000000 → Gn.Fr 1000000000 248832 x (S * downW M F l) := fun x hx => ⟨by omega, by omega, d1, d2, by decide, by decide⟩
  have hall : ∀ k, k ≤ F → -(k * 199065600) ≤ Gn.sumK (fun i => curK (fun i j => topW M F l i j) v i F) k ∧ Gn.sumK (fun i => curK (fun i j => topW M F l i j) v i F) k ≤ k * 199065600 := fun k hk => Gn.sumK_bd (fun p hp => by have := hc p F (by omega) (Nat.le_refl _); omega)
  have hzero : Gn.sumK (fun i => curK (fun i j => topW M F l i j) v i F) F = 0 := by
    unfold curK
    rw [Gn.sumK_comm, Gn.sumK_congr (h := fun _ => 0) (fun j hj => ?_), Gn.sumK_zero]
    rw [Gn.sumK_congr (h := fun i : Nat => v.getD j 0 * topW M F l j i) (fun i hi => by show topW M F l i j * _ = _; rw [h.ok.topSym hF1 hF (i := i) (j := j) ⟨by omega, by omega⟩ ⟨by omega, by omega⟩, Int.mul_comm]), Gn.sumK_mul, h.ok.topSum hF1 hF ⟨by omega, by omega⟩, Int.mul_zero]
  refine ⟨hT, ⟨d1, d2⟩, fun i k hi hk => ?_, fun i k hi hk => ?_, fun i k hi hk => ?_, fun k hk => ?_, ?_, Gn.rat_zero d1, ?_⟩
  · have := hc i k hi hk; omega
  · have h1 := hp2 i k hi hk
    have h2 := hp3 i (by omega)
    have h3 : powK (fun i j => topW M F l i j) v F i k = Gn.sumK (fun p => Gn.sumK (fun j => topW M F l p j * v.getD p 0 * v.getD j 0) F) i + Gn.sumK (fun j => topW M F l i j * v.getD i 0 * v.getD j 0) k := rfl
    rw [h3]; omega
  · have h1 := hc i k hi (by omega)
    have h2 := hc1 i k hi hk
    have h3 := hT i k hi hk
    have h4 := hvb k
    have a1 : Gn.Fr 7962624 248832 (topW M F l i k) (S * downW M F l) := ⟨by omega, by omega, d1, d2, by decide, by decide⟩
    have a2 : Gn.Fr 5 1 (v.getD k 0) 1 := ⟨by omega, by omega, by decide, by decide, by decide, by decide⟩
    show addR _ (timesR (Gn.rat (topW M F l i k) _) _) = _
    rw [times_rat a1 a2 ⟨by decide, by decide, by decide, by decide⟩, Int.mul_one, add_rat (hfr _ (by omega)) (hfr _ (by omega)) ⟨by decide, by decide, by decide, by decide⟩]
    refine Gn.rat_eq (Int.mul_pos d1 d1) d1 ?_
    show _ = (curK (fun i j => topW M F l i j) v i k + topW M F l i k * v.getD k 0) * _
    generalize curK (fun i j => topW M F l i j) v i k = x
    generalize topW M F l i k * v.getD k 0 = y
    generalize S * downW M F l = d
    grind
  · have h1 := hc k F hk (Nat.le_refl _)
    have h2 := hall k (by omega)
    rw [add_rat (hfr _ (by omega)) (hfr _ (by omega)) ⟨by decide, by decide, by decide, by decide⟩]
    refine Gn.rat_eq (Int.mul_pos d1 d1) d1 ?_
    show _ = (Gn.sumK (fun i => curK (fun i j => topW M F l i j) v i F) k + curK (fun i j => topW M F l i j) v k F) * _
    generalize curK (fun i j => topW M F l i j) v k F = x
    generalize Gn.sumK (fun i => curK (fun i j => topW M F l i j) v i F) k = y
    generalize S * downW M F l = d
    grind
  · rw [hzero]; exact Gn.rat_zero d1
  · have h1 := hp3 F (Nat.le_refl _)
    have h2 : powK (fun i j => topW M F l i j) v F F 0 = Gn.sumK (fun p => Gn.sumK (fun j => topW M F l p j * v.getD p 0 * v.getD j 0) F) F := by
      unfold powK; simp [Gn.sumK]
    rw [h2]
    refine ratN_nn (Gn.form_nn (fun i j => topW M F l i j) (fun p => v.getD p 0) F (fun i j hi hj => h.ok.topSym hF1 hF ⟨by omega, by omega⟩ ⟨by omega, by omega⟩) (fun i j hi hj hij => h.ok.topNeg hF1 hF ⟨by omega, by omega⟩ ⟨by omega, by omega⟩ (by omega)) (fun i hi => h.ok.topSum hF1 hF ⟨by omega, by omega⟩)) d1 (hfr' _ (by omega)).fit
theorem respM_at {M F : Nat} {S : Int} {l : List Wz} {i j : Nat} (hi : i < F) (hj : j < F) : atM (respM M F S l) i j = Gn.rat (topW M F l i j) (S * downW M F l) := by
  have hl : i < (respM M F S l).length := by simp [respM]; exact hi
  have hr : (respM M F S l)[i] = respRow M F S l i F := by simp [respM]
  have hj2 : j < (respM M F S l)[i].length := by rw [hr, respRow_len]; exact hj
  rw [atM_eq hl hj2]
  simp only [hr]
  simp [respRow, upto_at, respV]
/-- a drawn network's response is one -/
theorem respOk {most : Int} {M F : Nat} {S : Int} {l : List Wz} (h : Drawn most M F S l) (hF : F ≤ M) : RespOk (respM M F S l) F := by
  have hM5 : M ≤ 5 := by have := h.ok.h.n5; omega
  have hF2 : 2 ≤ F := by have := h.e2; omega
  have hF1 : 1 ≤ F := by omega
  obtain ⟨d1, d2⟩ := h.down_bd hF
  have hT : ∀ i j : Nat, i < F → j < F → -7962624 ≤ topW M F l i j ∧ topW M F l i j ≤ 7962624 := fun i j hi hj => h.top_bd hF ⟨by omega, by omega⟩ ⟨by omega, by omega⟩
  have hfr : ∀ x : Int, -100000000 ≤ x ∧ x ≤ 100000000 → Gn.Fr 100000000 248832 x (S * downW M F l) := fun x hx => ⟨by omega, by omega, d1, d2, by decide, by decide⟩
  have hlen : (respM M F S l).length = F := by simp [respM]
  have hrow : ∀ k (hk : k < (respM M F S l).length), (respM M F S l)[k] = respRow M F S l k F := fun k hk => by simp [respM]
  refine ⟨hF1, by omega, fun k hk => by rw [hrow k hk, respRow_len], fun k hk x hx => ?_, fun k hk => ⟨fun j hj => ?_, ?_⟩⟩
  · rw [hrow k hk] at hx
    unfold respRow at hx
    obtain ⟨q, hq, rfl⟩ := List.mem_map.1 hx
    have hq2 := (Gn.upto_mem F q).1 hq
    have := h.top_bd hF (i := k) (j := q) ⟨by omega, by omega⟩ hq2
    exact okZ_rat (hfr _ (by omega))
  · rw [hlen] at hk
    refine ⟨?_, ?_⟩
    · rw [respM_at hk hj, respM_at hj hk, h.ok.topSym hF1 hF ⟨by omega, by omega⟩ ⟨by omega, by omega⟩]
    · by_cases e : k = j
      · exact .inl e
      · right
        rw [respM_at hk hj]
        have hn := h.ok.topNeg hF1 hF (i := k) (j := j) ⟨by omega, by omega⟩ ⟨by omega, by omega⟩ (by omega)
        have hb := hT k j hk hj
        have hf := hfr (topW M F l k j) (by omega)
        rw [hf.rat]
        have h1 := Gn.rat_cross (topW M F l k j) (S * downW M F l)
        have h2 := Gn.ratD_pos (topW M F l k j) (S * downW M F l) (by omega)
        simp only
        by_cases h3 : 0 < Gn.ratN (topW M F l k j) (S * downW M F l)
        · have h4 := Int.mul_pos h3 d1
          have h5 := Gn.mul_pn h2 hn
          rw [Int.mul_comm] at h5; omega
        · omega
  · rw [hlen] at hk
    have hg : (respM M F S l).getD k [] = respRow M F S l k F := by
      rw [List.getD_eq_getElem?_getD, List.getElem?_eq_getElem (by rw [hlen]; exact hk), Option.getD_some, hrow]
    rw [hg]
    have key : ∀ q, q ≤ F → sumR ((respRow M F S l k F).take q) = Gn.rat (Gn.sumK (fun j => topW M F l k j) q) (S * downW M F l) := by
      intro q
      induction q with
      | zero => intro _; simp only [List.take_zero, Gn.sumK]; rw [Gn.rat_zero d1]; rfl
      | succ q ih =>
        intro hq
        have hq2 : q < (respRow M F S l k F).length := by rw [respRow_len]; omega
        rw [sumR_snoc hq2, ih (by omega)]
        have e1 : (respRow M F S l k F)[q] = Gn.rat (topW M F l k q) (S * downW M F l) := by simp [respRow, upto_at, respV]
        have hb := hT k q hk (by omega)
        have hs := Gn.sumK_bd (g := fun j : Nat => topW M F l k j) (B := 7962624) (n := q) (fun j hj => hT k j hk (by omega))
        rw [e1, add_rat (hfr _ (by omega)) (hfr _ (by omega)) ⟨by decide, by decide, by decide, by decide⟩]
        refine Gn.rat_eq (Int.mul_pos d1 d1) d1 ?_
        simp only [Gn.sumK]
        generalize Gn.sumK (fun j => topW M F l k j) q = x
        generalize topW M F l k q = y
        generalize S * downW M F l = d
        grind
    have h9 := key F (Nat.le_refl _)
    rw [List.take_of_length_le (by rw [respRow_len]; exact Nat.le_refl _), h.ok.topSum hF1 hF ⟨by omega, by omega⟩, Gn.rat_zero d1] at h9
    exact h9
end Go.Proofs.Ytjchindjoailbaa

/- The power of potentials that a small network has, and of potentials that are changed at one node. Plain Lean. -/
namespace Gn
set_option linter.unusedSimpArgs false
set_option linter.unusedVariables false
theorem mono1 {a : Int} (ha : 0 ≤ a ∧ a ≤ 4) : 0 ≤ a ∧ a ≤ 4 := ha
theorem mono2 {a b : Int} (ha : 0 ≤ a ∧ a ≤ 4) (hb : 0 ≤ b ∧ b ≤ 4) : 0 ≤ a * b ∧ a * b ≤ 16 := by
  have := mul_bd' (x := a) (y := b) (X := 4) (Y := 4) ⟨by omega, by omega⟩ ⟨by omega, by omega⟩
  exact ⟨Int.mul_nonneg ha.1 hb.1, by omega⟩
theorem mono3 {a b c : Int} (ha : 0 ≤ a ∧ a ≤ 4) (hb : 0 ≤ b ∧ b ≤ 4) (hc : 0 ≤ c ∧ c ≤ 4) : 0 ≤ a * b * c ∧ a * b * c ≤ 64 := by
  have h := mono2 ha hb
  have := mul_bd' (x := a * b) (y := c) (X := 16) (Y := 4) ⟨by omega, by omega⟩ ⟨by omega, by omega⟩
  exact ⟨Int.mul_nonneg h.1 hc.1, by omega⟩
set_option maxRecDepth 10000 in
set_option maxHeartbeats 16000000 in
theorem tree_poly2 (f : Int → Int → Int) (h : ∀ i j, f i j = f j i) : trS 2 (lapW 2 f) = f 0 1 := by
    obtain h01 := sym2 h
    simp [trS, potS, detP, dsumP, lapW, others, upto, List.range_succ, rowS, idx, sgn, srt2, h01]
    try (clear h h01; generalize f 0 1 = a01; grind)
set_option maxRecDepth 10000 in
set_option maxHeartbeats 16000000 in
theorem pot_poly2_0 (f : Int → Int → Int) (h : ∀ i j, f i j = f j i) : potS 2 (lapW 2 f) 0 1 0 = 1 := by
    obtain h01 := sym2 h
    simp [trS, potS, detP, dsumP, lapW, others, upto, List.range_succ, rowS, idx, sgn, srt2, h01]
    try (clear h h01; generalize f 0 1 = a01; grind)
set_option maxRecDepth 10000 in
set_option maxHeartbeats 16000000 in
theorem pot_poly2_1 (f : Int → Int → Int) (h : ∀ i j, f i j = f j i) : potS 2 (lapW 2 f) 0 1 1 = 0 := by
    obtain h01 := sym2 h
    simp [trS, potS, detP, dsumP, lapW, others, upto, List.range_succ, rowS, idx, sgn, srt2, h01]
    try (clear h h01; generalize f 0 1 = a01; grind)
set_option maxHeartbeats 4000000 in
theorem small2 (f : Int → Int → Int) (h : ∀ i j, f i j = f j i) (hb : ∀ i j, 0 ≤ f i j ∧ f i j ≤ 4) : (0 ≤ trS 2 (lapW 2 f) ∧ trS 2 (lapW 2 f) ≤ 1024) ∧ ∀ v : Int, 0 ≤ v ∧ v < 2 → 0 ≤ potS 2 (lapW 2 f) 0 1 v ∧ potS 2 (lapW 2 f) 0 1 v ≤ 128 := by
  constructor
  · rw [tree_poly2 f h]
    have m0 := mono1 (hb 0 1)
    omega
  · intro v hv
    have : v = 0 ∨ v = 1 := by omega
    rcases this with rfl | rfl
    · rw [pot_poly2_0 f h]
      omega
    · rw [pot_poly2_1 f h]
      omega
theorem form2 (f : Int → Int → Int) (y : Int → Int) : f 0 1 * ((y 0 - y 1) * (y 0 - y 1)) = y 0 * (f 0 1 * (y 0 - y 1)) + y 1 * (f 0 1 * (y 1 - y 0)) := by
  grind
set_option maxRecDepth 10000 in
set_option maxHeartbeats 16000000 in
theorem tree_poly3 (f : Int → Int → Int) (h : ∀ i j, f i j = f j i) : trS 3 (lapW 3 f) = f 0 1 * f 0 2 + f 0 1 * f 1 2 + f 0 2 * f 1 2 := by
    obtain ⟨h01, h02, h12⟩ := sym3 h
    simp [trS, potS, detP, dsumP, lapW, others, upto, List.range_succ, rowS, idx, sgn, srt2, h01, h02, h12]
    try (clear h h01 h02 h12; generalize f 0 1 = a01; generalize f 0 2 = a02; generalize f 1 2 = a12; grind)
set_option maxRecDepth 10000 in
set_option maxHeartbeats 16000000 in
theorem pot_poly3_0 (f : Int → Int → Int) (h : ∀ i j, f i j = f j i) : potS 3 (lapW 3 f) 0 1 0 = f 0 2 + f 1 2 := by
    obtain ⟨h01, h02, h12⟩ := sym3 h
    simp [trS, potS, detP, dsumP, lapW, others, upto, List.range_succ, rowS, idx, sgn, srt2, h01, h02, h12]
    try (clear h h01 h02 h12; generalize f 0 1 = a01; generalize f 0 2 = a02; generalize f 1 2 = a12; grind)
set_option maxRecDepth 10000 in
set_option maxHeartbeats 16000000 in
theorem pot_poly3_1 (f : Int → Int → Int) (h : ∀ i j, f i j = f j i) : potS 3 (lapW 3 f) 0 1 1 = 0 := by
    obtain ⟨h01, h02, h12⟩ := sym3 h
    simp [trS, potS, detP, dsumP, lapW, others, upto, List.range_succ, rowS, idx, sgn, srt2, h01, h02, h12]
    try (clear h h01 h02 h12; generalize f 0 1 = a01; generalize f 0 2 = a02; generalize f 1 2 = a12; grind)
set_option maxRecDepth 10000 in
set_option maxHeartbeats 16000000 in
theorem pot_poly3_2 (f : Int → Int → Int) (h : ∀ i j, f i j = f j i) : potS 3 (lapW 3 f) 0 1 2 = f 0 2 := by
    obtain ⟨h01, h02, h12⟩ := sym3 h
    simp [trS, potS, detP, dsumP, lapW, others, upto, List.range_succ, rowS, idx, sgn, srt2, h01, h02, h12]
    try (clear h h01 h02 h12; generalize f 0 1 = a01; generalize f 0 2 = a02; generalize f 1 2 = a12; grind)
set_option maxHeartbeats 4000000 in
theorem small3 (f : Int → Int → Int) (h : ∀ i j, f i j = f j i) (hb : ∀ i j, 0 ≤ f i j ∧ f i j ≤ 4) : (0 ≤ trS 3 (lapW 3 f) ∧ trS 3 (lapW 3 f) ≤ 1024) ∧ ∀ v : Int, 0 ≤ v ∧ v < 3 → 0 ≤ potS 3 (lapW 3 f) 0 1 v ∧ potS 3 (lapW 3 f) 0 1 v ≤ 128 := by
  constructor
  · rw [tree_poly3 f h]
    have m0 := mono2 (hb 0 1) (hb 0 2)
    have m1 := mono2 (hb 0 1) (hb 1 2)
    have m2 := mono2 (hb 0 2) (hb 1 2)
    omega
  · intro v hv
    have : v = 0 ∨ v = 1 ∨ v = 2 := by omega
    rcases this with rfl | rfl | rfl
    · rw [pot_poly3_0 f h]
      have m0 := mono1 (hb 0 2)
      have m1 := mono1 (hb 1 2)
      omega
    · rw [pot_poly3_1 f h]
      omega
    · rw [pot_poly3_2 f h]
      have m0 := mono1 (hb 0 2)
      omega
theorem form3 (f : Int → Int → Int) (y : Int → Int) : f 0 1 * ((y 0 - y 1) * (y 0 - y 1)) + f 0 2 * ((y 0 - y 2) * (y 0 - y 2)) + f 1 2 * ((y 1 - y 2) * (y 1 - y 2)) = y 0 * (f 0 1 * (y 0 - y 1) + f 0 2 * (y 0 - y 2)) + y 1 * (f 0 1 * (y 1 - y 0) + f 1 2 * (y 1 - y 2)) + y 2 * (f 0 2 * (y 2 - y 0) + f 1 2 * (y 2 - y 1)) := by
  grind
theorem formT3 (f : Int → Int → Int) (y : Int → Int) (S t : Int) : f 0 1 * (((7 * S * y 0) - (7 * S * y 1)) * ((7 * S * y 0) - (7 * S * y 1))) + f 0 2 * (((7 * S * y 0) - (7 * S * y 2 + t)) * ((7 * S * y 0) - (7 * S * y 2 + t))) + f 1 2 * (((7 * S * y 1) - (7 * S * y 2 + t)) * ((7 * S * y 1) - (7 * S * y 2 + t))) = 49 * S * S * (f 0 1 * ((y 0 - y 1) * (y 0 - y 1)) + f 0 2 * ((y 0 - y 2) * (y 0 - y 2)) + f 1 2 * ((y 1 - y 2) * (y 1 - y 2))) + 14 * S * t * (f 0 2 * (y 2 - y 0) + f 1 2 * (y 2 - y 1)) + t * t * (f 0 2 + f 1 2) := by
  grind
set_option maxRecDepth 10000 in
set_option maxHeartbeats 16000000 in
theorem tree_poly4 (f : Int → Int → Int) (h : ∀ i j, f i j = f j i) : trS 4 (lapW 4 f) = f 0 1 * f 0 2 * f 0 3 + f 0 1 * f 0 2 * f 1 3 + f 0 1 * f 0 2 * f 2 3 + f 0 1 * f 0 3 * f 1 2 + f 0 1 * f 0 3 * f 2 3 + f 0 1 * f 1 2 * f 1 3 + f 0 1 * f 1 2 * f 2 3 + f 0 1 * f 1 3 * f 2 3 + f 0 2 * f 0 3 * f 1 2 + f 0 2 * f 0 3 * f 1 3 + f 0 2 * f 1 2 * f 1 3 + f 0 2 * f 1 2 * f 2 3 + f 0 2 * f 1 3 * f 2 3 + f 0 3 * f 1 2 * f 1 3 + f 0 3 * f 1 2 * f 2 3 + f 0 3 * f 1 3 * f 2 3 := by
    obtain ⟨h01, h02, h03, h12, h13, h23⟩ := sym4 h
    simp [trS, potS, detP, dsumP, lapW, others, upto, List.range_succ, rowS, idx, sgn, srt2, h01, h02, h03, h12, h13, h23]
    try (clear h h01 h02 h03 h12 h13 h23; generalize f 0 1 = a01; generalize f 0 2 = a02; generalize f 0 3 = a03; generalize f 1 2 = a12; generalize f 1 3 = a13; generalize f 2 3 = a23; grind)
set_option maxRecDepth 10000 in
set_option maxHeartbeats 16000000 in
theorem pot_poly4_0 (f : Int → Int → Int) (h : ∀ i j, f i j = f j i) : potS 4 (lapW 4 f) 0 1 0 = f 0 2 * f 0 3 + f 0 2 * f 1 3 + f 0 2 * f 2 3 + f 0 3 * f 1 2 + f 0 3 * f 2 3 + f 1 2 * f 1 3 + f 1 2 * f 2 3 + f 1 3 * f 2 3 := by
    obtain ⟨h01, h02, h03, h12, h13, h23⟩ := sym4 h
    simp [trS, potS, detP, dsumP, lapW, others, upto, List.range_succ, rowS, idx, sgn, srt2, h01, h02, h03, h12, h13, h23]
    try (clear h h01 h02 h03 h12 h13 h23; generalize f 0 1 = a01; generalize f 0 2 = a02; generalize f 0 3 = a03; generalize f 1 2 = a12; generalize f 1 3 = a13; generalize f 2 3 = a23; grind)
set_option maxRecDepth 10000 in
set_option maxHeartbeats 16000000 in
theorem pot_poly4_1 (f : Int → Int → Int) (h : ∀ i j, f i j = f j i) : potS 4 (lapW 4 f) 0 1 1 = 0 := by
    obtain ⟨h01, h02, h03, h12, h13, h23⟩ := sym4 h
    simp [trS, potS, detP, dsumP, lapW, others, upto, List.range_succ, rowS, idx, sgn, srt2, h01, h02, h03, h12, h13, h23]
    try (clear h h01 h02 h03 h12 h13 h23; generalize f 0 1 = a01; generalize f 0 2 = a02; generalize f 0 3 = a03; generalize f 1 2 = a12; generalize f 1 3 = a13; generalize f 2 3 = a23; grind)
set_option maxRecDepth 10000 in
set_option maxHeartbeats 16000000 in
theorem pot_poly4_2 (f : Int → Int → Int) (h : ∀ i j, f i j = f j i) : potS 4 (lapW 4 f) 0 1 2 = f 0 2 * f 0 3 + f 0 2 * f 1 3 + f 0 2 * f 2 3 + f 0 3 * f 2 3 := by
    obtain ⟨h01, h02, h03, h12, h13, h23⟩ := sym4 h
    simp [trS, potS, detP, dsumP, lapW, others, upto, List.range_succ, rowS, idx, sgn, srt2, h01, h02, h03, h12, h13, h23]
    try (clear h h01 h02 h03 h12 h13 h23; generalize f 0 1 = a01; generalize f 0 2 = a02; generalize f 0 3 = a03; generalize f 1 2 = a12; generalize f 1 3 = a13; generalize f 2 3 = a23; grind)
set_option maxRecDepth 10000 in
set_option maxHeartbeats 16000000 in
theorem pot_poly4_3 (f : Int → Int → Int) (h : ∀ i j, f i j = f j i) : potS 4 (lapW 4 f) 0 1 3 = f 0 2 * f 0 3 + f 0 2 * f 2 3 + f 0 3 * f 1 2 + f 0 3 * f 2 3 := by
    obtain ⟨h01, h02, h03, h12, h13, h23⟩ := sym4 h
    simp [trS, potS, detP, dsumP, lapW, others, upto, List.range_succ, rowS, idx, sgn, srt2, h01, h02, h03, h12, h13, h23]
    try (clear h h01 h02 h03 h12 h13 h23; generalize f 0 1 = a01; generalize f 0 2 = a02; generalize f 0 3 = a03; generalize f 1 2 = a12; generalize f 1 3 = a13; generalize f 2 3 = a23; grind)
set_option maxHeartbeats 4000000 in
theorem small4 (f : Int → Int → Int) (h : ∀ i j, f i j = f j i) (hb : ∀ i j, 0 ≤ f i j ∧ f i j ≤ 4) : (0 ≤ trS 4 (lapW 4 f) ∧ trS 4 (lapW 4 f) ≤ 1024) ∧ ∀ v : Int, 0 ≤ v ∧ v < 4 → 0 ≤ potS 4 (lapW 4 f) 0 1 v ∧ potS 4 (lapW 4 f) 0 1 v ≤ 128 := by
  constructor
  · rw [tree_poly4 f h]
    have m0 := mono3 (hb 0 1) (hb 0 2) (hb 0 3)
    have m1 := mono3 (hb 0 1) (hb 0 2) (hb 1 3)
    have m2 := mono3 (hb 0 1) (hb 0 2) (hb 2 3)
    have m3 := mono3 (hb 0 1) (hb 0 3) (hb 1 2)
    have m4 := mono3 (hb 0 1) (hb 0 3) (hb 2 3)
    have m5 := mono3 (hb 0 1) (hb 1 2) (hb 1 3)
    have m6 := mono3 (hb 0 1) (hb 1 2) (hb 2 3)
    have m7 := mono3 (hb 0 1) (hb 1 3) (hb 2 3)
    have m8 := mono3 (hb 0 2) (hb 0 3) (hb 1 2)
    have m9 := mono3 (hb 0 2) (hb 0 3) (hb 1 3)
    have m10 := mono3 (hb 0 2) (hb 1 2) (hb 1 3)
    have m11 := mono3 (hb 0 2) (hb 1 2) (hb 2 3)
    have m12 := mono3 (hb 0 2) (hb 1 3) (hb 2 3)
    have m13 := mono3 (hb 0 3) (hb 1 2) (hb 1 3)
    have m14 := mono3 (hb 0 3) (hb 1 2) (hb 2 3)
    have m15 := mono3 (hb 0 3) (hb 1 3) (hb 2 3)
    omega
  · intro v hv
    have : v = 0 ∨ v = 1 ∨ v = 2 ∨ v = 3 := by omega
    rcases this with rfl | rfl | rfl | rfl
    · rw [pot_poly4_0 f h]
      have m0 := mono2 (hb 0 2) (hb 0 3)
      have m1 := mono2 (hb 0 2) (hb 1 3)
      have m2 := mono2 (hb 0 2) (hb 2 3)
      have m3 := mono2 (hb 0 3) (hb 1 2)
      have m4 := mono2 (hb 0 3) (hb 2 3)
      have m5 := mono2 (hb 1 2) (hb 1 3)
      have m6 := mono2 (hb 1 2) (hb 2 3)
      have m7 := mono2 (hb 1 3) (hb 2 3)
      omega
    · rw [pot_poly4_1 f h]
      omega
    · rw [pot_poly4_2 f h]
      have m0 := mono2 (hb 0 2) (hb 0 3)
      have m1 := mono2 (hb 0 2) (hb 1 3)
      have m2 := mono2 (hb 0 2) (hb 2 3)
      have m3 := mono2 (hb 0 3) (hb 2 3)
      omega
    · rw [pot_poly4_3 f h]
      have m0 := mono2 (hb 0 2) (hb 0 3)
      have m1 := mono2 (hb 0 2) (hb 2 3)
      have m2 := mono2 (hb 0 3) (hb 1 2)
      have m3 := mono2 (hb 0 3) (hb 2 3)
      omega
theorem form4 (f : Int → Int → Int) (y : Int → Int) : f 0 1 * ((y 0 - y 1) * (y 0 - y 1)) + f 0 2 * ((y 0 - y 2) * (y 0 - y 2)) + f 0 3 * ((y 0 - y 3) * (y 0 - y 3)) + f 1 2 * ((y 1 - y 2) * (y 1 - y 2)) + f 1 3 * ((y 1 - y 3) * (y 1 - y 3)) + f 2 3 * ((y 2 - y 3) * (y 2 - y 3)) = y 0 * (f 0 1 * (y 0 - y 1) + f 0 2 * (y 0 - y 2) + f 0 3 * (y 0 - y 3)) + y 1 * (f 0 1 * (y 1 - y 0) + f 1 2 * (y 1 - y 2) + f 1 3 * (y 1 - y 3)) + y 2 * (f 0 2 * (y 2 - y 0) + f 1 2 * (y 2 - y 1) + f 2 3 * (y 2 - y 3)) + y 3 * (f 0 3 * (y 3 - y 0) + f 1 3 * (y 3 - y 1) + f 2 3 * (y 3 - y 2)) := by
  grind
theorem formT4 (f : Int → Int → Int) (y : Int → Int) (S t : Int) : f 0 1 * (((7 * S * y 0) - (7 * S * y 1)) * ((7 * S * y 0) - (7 * S * y 1))) + f 0 2 * (((7 * S * y 0) - (7 * S * y 2)) * ((7 * S * y 0) - (7 * S * y 2))) + f 0 3 * (((7 * S * y 0) - (7 * S * y 3 + t)) * ((7 * S * y 0) - (7 * S * y 3 + t))) + f 1 2 * (((7 * S * y 1) - (7 * S * y 2)) * ((7 * S * y 1) - (7 * S * y 2))) + f 1 3 * (((7 * S * y 1) - (7 * S * y 3 + t)) * ((7 * S * y 1) - (7 * S * y 3 + t))) + f 2 3 * (((7 * S * y 2) - (7 * S * y 3 + t)) * ((7 * S * y 2) - (7 * S * y 3 + t))) = 49 * S * S * (f 0 1 * ((y 0 - y 1) * (y 0 - y 1)) + f 0 2 * ((y 0 - y 2) * (y 0 - y 2)) + f 0 3 * ((y 0 - y 3) * (y 0 - y 3)) + f 1 2 * ((y 1 - y 2) * (y 1 - y 2)) + f 1 3 * ((y 1 - y 3) * (y 1 - y 3)) + f 2 3 * ((y 2 - y 3) * (y 2 - y 3))) + 14 * S * t * (f 0 3 * (y 3 - y 0) + f 1 3 * (y 3 - y 1) + f 2 3 * (y 3 - y 2)) + t * t * (f 0 3 + f 1 3 + f 2 3) := by
  grind
end Gn

/- Exchanging two nodes leaves the sum over trees. Plain Lean, no program in sight. -/
namespace Gn
set_option linter.unusedSimpArgs false
set_option linter.unusedVariables false
def swp (a b v : Int) : Int := if v = a then b else if v = b then a else v
theorem swp_comm (a b v : Int) : swp a b v = swp b a v := by unfold swp; split <;> split <;> omega
theorem swp_self (a v : Int) : swp a a v = v := by unfold swp; split <;> omega
set_option maxRecDepth 10000 in
set_option maxHeartbeats 16000000 in
theorem sw2 (f : Int → Int → Int) (h : ∀ i j, f i j = f j i) (a b : Int) (ha : 0 ≤ a ∧ a < b) (hb : b < 2) : trS 2 (lapW 2 fun i j => f (swp a b i) (swp a b j)) = trS 2 (lapW 2 f) := by
  have h01 := sym2 h
  have : (a = 0 ∧ b = 1) := by omega
  rcases this with ⟨rfl, rfl⟩
  all_goals clear ha hb
  all_goals
    simp [trS, detP, dsumP, lapW, others, upto, List.range_succ, rowS, sgn, swp, h01]
    try (clear h h01; generalize f 0 1 = a01; grind)
set_option maxRecDepth 10000 in
set_option maxHeartbeats 16000000 in
theorem sw3 (f : Int → Int → Int) (h : ∀ i j, f i j = f j i) (a b : Int) (ha : 0 ≤ a ∧ a < b) (hb : b < 3) : trS 3 (lapW 3 fun i j => f (swp a b i) (swp a b j)) = trS 3 (lapW 3 f) := by
  obtain ⟨h01, h02, h12⟩ := sym3 h
  have : (a = 0 ∧ b = 1) ∨ (a = 0 ∧ b = 2) ∨ (a = 1 ∧ b = 2) := by omega
  rcases this with ⟨rfl, rfl⟩ | ⟨rfl, rfl⟩ | ⟨rfl, rfl⟩
  all_goals clear ha hb
  all_goals
    simp [trS, detP, dsumP, lapW, others, upto, List.range_succ, rowS, sgn, swp, h01, h02, h12]
    try (clear h h01 h02 h12; generalize f 0 1 = a01; generalize f 0 2 = a02; generalize f 1 2 = a12; grind)
set_option maxRecDepth 10000 in
set_option maxHeartbeats 16000000 in
theorem sw4 (f : Int → Int → Int) (h : ∀ i j, f i j = f j i) (a b : Int) (ha : 0 ≤ a ∧ a < b) (hb : b < 4) : trS 4 (lapW 4 fun i j => f (swp a b i) (swp a b j)) = trS 4 (lapW 4 f) := by
  obtain ⟨h01, h02, h03, h12, h13, h23⟩ := sym4 h
  have : (a = 0 ∧ b = 1) ∨ (a = 0 ∧ b = 2) ∨ (a = 0 ∧ b = 3) ∨ (a = 1 ∧ b = 2) ∨ (a = 1 ∧ b = 3) ∨ (a = 2 ∧ b = 3) := by omega
  rcases this with ⟨rfl, rfl⟩ | ⟨rfl, rfl⟩ | ⟨rfl, rfl⟩ | ⟨rfl, rfl⟩ | ⟨rfl, rfl⟩ | ⟨rfl, rfl⟩
  all_goals clear ha hb
  all_goals
    simp [trS, detP, dsumP, lapW, others, upto, List.range_succ, rowS, sgn, swp, h01, h02, h03, h12, h13, h23]
    try (clear h h01 h02 h03 h12 h13 h23; generalize f 0 1 = a01; generalize f 0 2 = a02; generalize f 0 3 = a03; generalize f 1 2 = a12; generalize f 1 3 = a13; generalize f 2 3 = a23; grind)
set_option maxRecDepth 10000 in
set_option maxHeartbeats 16000000 in
theorem sw5 (f : Int → Int → Int) (h : ∀ i j, f i j = f j i) (a b : Int) (ha : 0 ≤ a ∧ a < b) (hb : b < 5) : trS 5 (lapW 5 fun i j => f (swp a b i) (swp a b j)) = trS 5 (lapW 5 f) := by
  obtain ⟨h01, h02, h03, h04, h12, h13, h14, h23, h24, h34⟩ := sym5 h
  have : (a = 0 ∧ b = 1) ∨ (a = 0 ∧ b = 2) ∨ (a = 0 ∧ b = 3) ∨ (a = 0 ∧ b = 4) ∨ (a = 1 ∧ b = 2) ∨ (a = 1 ∧ b = 3) ∨ (a = 1 ∧ b = 4) ∨ (a = 2 ∧ b = 3) ∨ (a = 2 ∧ b = 4) ∨ (a = 3 ∧ b = 4) := by omega
  rcases this with ⟨rfl, rfl⟩ | ⟨rfl, rfl⟩ | ⟨rfl, rfl⟩ | ⟨rfl, rfl⟩ | ⟨rfl, rfl⟩ | ⟨rfl, rfl⟩ | ⟨rfl, rfl⟩ | ⟨rfl, rfl⟩ | ⟨rfl, rfl⟩ | ⟨rfl, rfl⟩
  all_goals clear ha hb
  all_goals
    simp [trS, detP, dsumP, lapW, others, upto, List.range_succ, rowS, sgn, swp, h01, h02, h03, h04, h12, h13, h14, h23, h24, h34]
    try (clear h h01 h02 h03 h04 h12 h13 h14 h23 h24 h34; generalize f 0 1 = a01; generalize f 0 2 = a02; generalize f 0 3 = a03; generalize f 0 4 = a04; generalize f 1 2 = a12; generalize f 1 3 = a13; generalize f 1 4 = a14; generalize f 2 3 = a23; generalize f 2 4 = a24; generalize f 3 4 = a34; grind)
theorem tree_sw {M : Nat} (hM : M ≤ 5) (f : Int → Int → Int) (h : ∀ i j, f i j = f j i) (a b : Int) (ha : 0 ≤ a ∧ a < M) (hb : 0 ≤ b ∧ b < M) : trS M (lapW M fun i j => f (swp a b i) (swp a b j)) = trS M (lapW M f) := by
  have key : ∀ a b : Int, (0 ≤ a ∧ a < b) → b < M → trS M (lapW M fun i j => f (swp a b i) (swp a b j)) = trS M (lapW M f) := by
    intro p q hp hq
    have : M = 2 ∨ M = 3 ∨ M = 4 ∨ M = 5 := by omega
    rcases this with rfl | rfl | rfl | rfl
    · exact sw2 f h p q hp hq
    · exact sw3 f h p q hp hq
    · exact sw4 f h p q hp hq
    · exact sw5 f h p q hp hq
  by_cases e : a = b
  · subst e; simp only [swp_self]
  · by_cases e2 : a < b
    · exact key a b ⟨ha.1, e2⟩ hb.2
    · have := key b a ⟨hb.1, by omega⟩ ha.2
      simp only [swp_comm b a] at this
      exact this
end Gn

/- Networks exchanged, divided, with a wire put: what the law on networks asks. Plain Lean. -/
namespace Go.Proofs.Ytjchindjoailbaa
set_option linter.unusedSimpArgs false
set_option linter.unusedVariables false
open Go.RowKit

theorem swapL_all {a b : Int} {l : List Wz} (hs : Srt l) (ha : Asc l) : Srt (swapL a b l) ∧ ∀ y, y ∈ swapL a b l ↔ ∃ e ∈ l, y = swI a b e := by
  have := swapL_told (a := a) (b := b) hs ha l.length (Nat.le_refl _)
  rwa [List.take_of_length_le (Nat.le_refl _)] at this
theorem swI_swI {a b : Int} {e : Wz} (h : e.1 < e.2.1) : swI a b (swI a b e) = e := by
  obtain ⟨x, y, z⟩ := e
  simp only at h
  have h1 := sw_sw a b x
  have h2 := sw_sw a b y
  simp only [swI]
  by_cases e : sw a b x ≤ sw a b y
  · rw [Int.min_eq_left e, Int.max_eq_right e, h1, h2, Int.min_eq_left (show x ≤ y by omega), Int.max_eq_right (show x ≤ y by omega)]
  · rw [Int.min_eq_right (show sw a b y ≤ sw a b x by omega), Int.max_eq_left (show sw a b y ≤ sw a b x by omega), h1, h2, Int.min_eq_right (show x ≤ y by omega), Int.max_eq_left (show x ≤ y by omega)]
theorem swap_swap {N E S : Int} {l : List Wz} (h : NetOk N E S l) {a b : Int} (h1 : 0 ≤ a ∧ a < N) (h2 : 0 ≤ b ∧ b < N) : swapL a b (swapL a b l) = l := by
  have k := h.swap h1 h2
  obtain ⟨s1, m1⟩ := swapL_all (a := a) (b := b) h.srt h.asc
  obtain ⟨s2, m2⟩ := swapL_all (a := a) (b := b) k.srt k.asc
  refine srt_eq s2 h.srt fun y => ?_
  rw [m2]
  constructor
  · rintro ⟨e, he, rfl⟩
    obtain ⟨e2, he2, rfl⟩ := (m1 e).1 he
    rw [swI_swI (h.asc _ he2)]; exact he2
  · intro hy
    exact ⟨swI a b y, (m1 _).2 ⟨y, hy, rfl⟩, (swI_swI (h.asc _ hy)).symm⟩
/-- the weight between two nodes in order, told by the members -/
theorem wbF_is {l : List Wz} (hs : Srt l) (ha : Asc l) {p q x : Int} (hm : (p, q, x) ∈ l) : wbF l p q = x := wbF_mem hs ha hm
theorem wbF_not {l : List Wz} (ha : Asc l) {p q : Int} (hpq : p < q) (hn : ∀ x, (p, q, x) ∉ l) : wbF l p q = 0 := by
  by_cases h : wbF l p q = 0
  · exact h
  · exact absurd (wbF_find ha hpq h) (hn _)
theorem wbF_swap {N E S : Int} {l : List Wz} (h : NetOk N E S l) {a b : Int} (h1 : 0 ≤ a ∧ a < N) (h2 : 0 ≤ b ∧ b < N) : wbF (swapL a b l) = fun i j => wbF l (sw a b i) (sw a b j) := by
  have k := h.swap h1 h2
  obtain ⟨s1, m1⟩ := swapL_all (a := a) (b := b) h.srt h.asc
  have key : ∀ i j : Int, i < j → wbF (swapL a b l) i j = wbF l (sw a b i) (sw a b j) := by
    intro i j hij
    have hne : sw a b i ≠ sw a b j := fun e => by have := sw_inj e; omega
    have hcomm : wbF l (sw a b i) (sw a b j) = wbF l (min (sw a b i) (sw a b j)) (max (sw a b i) (sw a b j)) := by
      by_cases e : sw a b i ≤ sw a b j
      · rw [Int.min_eq_left e, Int.max_eq_right e]
      · rw [Int.min_eq_right (by omega), Int.max_eq_left (by omega), wbF_comm]
    rw [hcomm]
    by_cases hx : ∃ x, (min (sw a b i) (sw a b j), max (sw a b i) (sw a b j), x) ∈ l
    · obtain ⟨x, hx⟩ := hx
      rw [wbF_is h.srt h.asc hx]
      have e1 : swI a b (i, j, x) = (min (sw a b i) (sw a b j), max (sw a b i) (sw a b j), x) := rfl
      have e2 := swI_swI (a := a) (b := b) (e := (i, j, x)) hij
      rw [e1] at e2
      exact wbF_is k.srt k.asc ((m1 _).2 ⟨_, hx, e2.symm⟩)
    · rw [wbF_not h.asc (by omega) (fun x hm => hx ⟨x, hm⟩)]
      refine wbF_not k.asc hij fun x hm => ?_
      obtain ⟨e, he, heq⟩ := (m1 _).1 hm
      have e2 := swI_swI (a := a) (b := b) (h.asc _ he)
      rw [← heq] at e2
      exact hx ⟨x, by have e3 : swI a b (i, j, x) = e := e2; rw [← e3] at he; exact he⟩
  funext i j
  by_cases e : i = j
  · subst e; rw [wbF_same k.asc, wbF_same h.asc]
  · by_cases e2 : i < j
    · exact key i j e2
    · rw [wbF_comm, key j i (by omega), wbF_comm]
theorem tree_swap {M : Nat} {E S : Int} {l : List Wz} (h : NetOk M E S l) {a b : Int} (h1 : 0 ≤ a ∧ a < M) (h2 : 0 ≤ b ∧ b < M) : leftW M (swapL a b l) [0] [0] = leftW M l [0] [0] := by
  have k := h.swap h1 h2
  rw [h.left (Nat.le_refl _), k.left (Nat.le_refl _), wbF_swap h h1 h2]
  exact Gn.tree_sw (by have := h.h.n5; omega) (wbF l) (wbF_comm l) a b h1 h2
theorem gL_div (g : Nat) (hg : 0 < g) : ∀ (l : List Wz) (s : Nat), g ∣ s → (∀ e ∈ l, g ∣ e.2.2.natAbs) → gL (s / g) (divL g l) = gL s l / g
  | [], s, _, _ => rfl
  | e :: l, s, h1, h2 => by
    have e1 : gL s (e :: l) = gL (Nat.gcd s e.2.2.natAbs) l := rfl
    have e2 : gL (s / g) (divL g (e :: l)) = gL (Nat.gcd (s / g) (Int.tdiv e.2.2 g).natAbs) (divL g l) := rfl
    have h3 := h2 e (by simp)
    rw [e1, e2, Int.natAbs_tdiv, Int.natAbs_natCast]
    show gL (Nat.gcd (s / g) (e.2.2.natAbs / g)) _ = _
    rw [Nat.gcd_div h1 h3]
    exact gL_div g hg l _ (Nat.dvd_gcd h1 h3) (fun x hx => h2 x (by simp [hx]))
theorem divL_one (l : List Wz) : divL 1 l = l := by
  unfold divL
  conv => rhs; rw [← List.map_id l]
  apply List.map_congr_left
  rintro ⟨x, y, z⟩ _
  simp
/-- a divided network is divided already -/
theorem canon_canon {N E S : Int} {l : List Wz} (h : NetOk N E S l) : gL (Int.tdiv S (gL S.toNat l)).toNat (divL (gL S.toNat l) l) = 1 := by
  obtain ⟨s, rfl⟩ : ∃ s : Nat, S = s := ⟨S.toNat, by have := h.h.s1; omega⟩
  have hs : 0 < s := by have := h.h.s1; omega
  have hp := gL_pos hs l
  have hd := gL_dvd l s
  simp only [Int.toNat_natCast]
  have e1 : Int.tdiv (s : Int) (gL s l) = ((s / gL s l : Nat) : Int) := rfl
  rw [e1, Int.toNat_natCast, gL_div _ hp l s hd.1 hd.2]
  exact Nat.div_self hp
theorem wbF_div {g : Nat} (l : List Wz) (hd : ∀ e ∈ l, g ∣ e.2.2.natAbs) (a b : Int) : wbF l a b = g * wbF (divL g l) a b := by
  induction l with
  | nil => simp [wbF, divL]
  | cons x t ih =>
    have e1 : divL g (x :: t) = (x.1, x.2.1, Int.tdiv x.2.2 g) :: divL g t := rfl
    rw [e1, wbF, wbF]
    by_cases hj : joins x a b
    · rw [if_pos hj, if_pos (show joins (x.1, x.2.1, Int.tdiv x.2.2 g) a b from hj)]
      have h1 : (g : Int) ∣ x.2.2 := Int.ofNat_dvd_left.2 (hd x (by simp))
      exact (Int.mul_tdiv_cancel' h1).symm
    · rw [if_neg hj, if_neg (show ¬ joins (x.1, x.2.1, Int.tdiv x.2.2 g) a b from hj)]
      exact ih (fun e he => hd e (by simp [he]))
end Go.Proofs.Ytjchindjoailbaa
namespace Gn
theorem rowS_mul (M : Nat) (f : Int → Int → Int) (c i : Int) : rowS M (fun a b => c * f a b) i = c * rowS M f i := by
  unfold rowS
  rw [← mul_sum c (fun k => if k = i then 0 else f i k)]
  congr 1
  apply List.map_congr_left
  intro k _
  by_cases e : k = i
  · simp [e]
  · simp [e]
theorem lapW_mul (M : Nat) (f : Int → Int → Int) (c i j : Int) : lapW M (fun a b => c * f a b) i j = c * lapW M f i j := by
  unfold lapW
  by_cases e : i = j
  · rw [if_pos e, if_pos e, rowS_mul]
  · rw [if_neg e, if_neg e, Int.mul_neg]
theorem detP_mul (e : Int → Int → Int) (c : Int) : ∀ rows cols : List Int, detP (fun i j => c * e i j) rows cols = c ^ rows.length * detP e rows cols
  | [], cols => by simp [detP]
  | r :: rs, cols => by
    have key : ∀ k, dsumP (fun i j => c * e i j) (detP (fun i j => c * e i j) rs) r cols k = c ^ (rs.length + 1) * dsumP e (detP e rs) r cols k := by
      intro k
      induction k with
      | zero => simp [dsumP]
      | succ k ih =>
        rw [dsumP, dsumP, ih, detP_mul e c rs]
        generalize dsumP e (detP e rs) r cols k = x
        generalize detP e rs (cols.eraseIdx k) = y
        generalize e r (cols.getD k 0) = z
        rw [Int.pow_succ]
        generalize c ^ rs.length = p
        generalize sgn k = q
        grind
    rw [detP, detP, key, List.length_cons]
end Gn
namespace Go.Proofs.Ytjchindjoailbaa
open Go.RowKit
theorem canon_alike {M F : Nat} {S : Int} {l : List Wz} (h : NetOk M F S l) : Alike M F S l M F (Int.tdiv S (gL S.toNat l)) (divL (gL S.toNat l) l) := by
  have hF0 : 1 ≤ F := by have := h.h.e1; omega
  have hF : F ≤ M := by have := h.h.eN; omega
  obtain ⟨s, rfl⟩ : ∃ s : Nat, S = s := ⟨S.toNat, by have := h.h.s1; omega⟩
  have hs : 0 < s := by have := h.h.s1; omega
  have hp := gL_pos hs l
  have hd := gL_dvd l s
  have k := h.canon (s := s) rfl
  simp only [Int.toNat_natCast]
  refine ⟨h, k, ?_⟩
  unfold respZ
  simp only [Int.toNat_natCast]
  unfold respM
  apply List.map_congr_left
  intro i hi
  rw [List.mem_range] at hi
  unfold respRow
  apply List.map_congr_left
  intro j hj
  have hj2 := (Gn.upto_mem F j).1 hj
  unfold respV
  have hw : wbF l = fun a b => (gL s l : Int) * wbF (divL (gL s l) l) a b := by
    funext a b; exact wbF_div l hd.2 a b
  have hlp : Gn.lapW M (wbF l) = fun a b => (gL s l : Int) * Gn.lapW M (wbF (divL (gL s l) l)) a b := by
    funext a b; rw [hw]; exact Gn.lapW_mul _ _ _ _ _
  have hS : (s : Int) = gL s l * Int.tdiv (s : Int) (gL s l) := (Int.mul_tdiv_cancel' (Int.natCast_dvd_natCast.2 hd.1)).symm
  rw [h.top hF0 hF ⟨by omega, by omega⟩ hj2, k.top hF0 hF ⟨by omega, by omega⟩ hj2, h.down hF, k.down hF, hlp, Gn.detP_mul, Gn.detP_mul, List.length_cons]
  generalize Gn.detP (Gn.lapW M (wbF (divL (gL s l) l))) ((i : Int) :: innerK F (M - F)) (j :: innerK F (M - F)) = x
  generalize Gn.detP (Gn.lapW M (wbF (divL (gL s l) l))) (innerK F (M - F)) (innerK F (M - F)) = y
  have hpow : 0 < ((gL s l : Nat) : Int) ^ ((innerK F (M - F)).length + 1) := Int.pow_pos (by omega)
  have e1 : (s : Int) * (((gL s l : Nat) : Int) ^ (innerK F (M - F)).length * y) = ((gL s l : Nat) : Int) ^ ((innerK F (M - F)).length + 1) * (Int.tdiv (s : Int) (gL s l) * y) := by
    rw [Int.pow_succ]
    generalize ((gL s l : Nat) : Int) ^ (innerK F (M - F)).length = p
    generalize Int.tdiv (s : Int) (gL s l) = t at hS
    rw [hS]
    grind
  rw [e1, Gn.rat_mul hpow]
/-- a wire put -/
theorem NetOk.put {N E S : Int} {l : List Wz} (h : NetOk N E S l) {p q w : Int} (hp : 0 ≤ p) (hpq : p < q) (hq : q < N) (hw : 1 ≤ w ∧ w ≤ 200) : NetOk N E S (putL l p q w false) := by
  refine ⟨h.h, fun k hk => ?_, next_of_srt (putL_srt h.srt _ _ _ _), fun v hv => (h.c v hv).put⟩
  rcases putL_mem.1 (List.getElem_mem hk) with e | ⟨hx, _⟩
  · rw [e]; exact ⟨hp, hpq, hq, hw.1, hw.2⟩
  · exact h.good hx
theorem drop_put {N E S : Int} {l : List Wz} (h : NetOk N E S l) : dropL l = l := by
  unfold dropL
  rw [List.filter_eq_self]
  intro x hx
  have := (h.good hx).2.2.2.1
  simp; omega
theorem put_at {M : Nat} {E S : Int} {l : List Wz} (h : NetOk M E S l) (h2 : 2 ≤ M) {w : Int} (hw : 1 ≤ w ∧ w ≤ 200) :
    wbF (putL l 0 ((M : Int) - 1) w false) 0 ((M : Int) - 1) = w ∧ atSum (putL l 0 ((M : Int) - 1) w false) 0 - w = atSum l 0 - wbF l 0 ((M : Int) - 1) := by
  have k := h.put (p := 0) (q := (M : Int) - 1) (by omega) (by omega) (by omega) hw
  have h1 : wbF (putL l 0 ((M : Int) - 1) w false) 0 ((M : Int) - 1) = w := wbF_is k.srt k.asc (putL_mem.2 (.inl rfl))
  refine ⟨h1, ?_⟩
  rw [k.at_row ⟨by omega, by omega⟩, h.at_row ⟨by omega, by omega⟩]
  have hot : ∀ j : Nat, j < M - 1 → wbF (putL l 0 ((M : Int) - 1) w false) 0 j = wbF l 0 j := by
    intro j hj
    by_cases e : j = 0
    · subst e
      have e1 := wbF_same k.asc 0
      have e2 := wbF_same h.asc 0
      exact e1.trans e2.symm
    · by_cases hx : ∃ x, ((0 : Int), (j : Int), x) ∈ l
      · obtain ⟨x, hx⟩ := hx
        rw [wbF_is h.srt h.asc hx]
        exact wbF_is k.srt k.asc (putL_mem.2 (.inr ⟨hx, fun e => by have := e.2; simp only at this; omega⟩))
      · rw [wbF_not h.asc (by omega) (fun x hm => hx ⟨x, hm⟩)]
        refine wbF_not k.asc (by omega) fun x hm => ?_
        rcases putL_mem.1 hm with e | ⟨hm, _⟩
        · simp only [Prod.mk.injEq] at e; omega
        · exact hx ⟨x, hm⟩
  obtain ⟨m, rfl⟩ : ∃ m, M = m + 1 := ⟨M - 1, by omega⟩
  unfold Gn.rowS
  rw [Gn.sum_upto, Gn.sum_upto]
  simp only [Gn.sumK]
  have e1 : ((m + 1 : Nat) : Int) - 1 = (m : Int) := by omega
  rw [e1] at h1 hot ⊢
  have hm0 : ¬ (m : Int) = 0 := by omega
  rw [if_neg hm0, if_neg hm0, h1]
  have e2 : Gn.sumK (fun j : Nat => if (j : Int) = 0 then 0 else wbF (putL l 0 (m : Int) w false) 0 j) m = Gn.sumK (fun j : Nat => if (j : Int) = 0 then 0 else wbF l 0 j) m :=
    Gn.sumK_congr fun j hj => by
      by_cases e : (j : Int) = 0
      · rw [if_pos e, if_pos e]
      · rw [if_neg e, if_neg e]; exact hot j (by omega)
  rw [e2]; omega
end Go.Proofs.Ytjchindjoailbaa

/- The power of a small network's potentials, changed at the last node or not. Plain Lean. -/
namespace Gn
/-- equal fractions have equal numerators over one denominator -/
theorem rat_inj {A B n n' d : Int} (h : Fr A B n d) (h' : Fr A B n' d) (e : rat n d = rat n' d) : n = n' := by
  have h1 := h.red
  have h2 := h'.red
  rw [e] at h1
  have h3 : n * (rat n' d).2 = n' * (rat n' d).2 := by rw [← h1.2, ← h2.2]
  exact Int.eq_of_mul_eq_mul_right (by have := h2.1.d1; omega) h3
end Gn
namespace Go.Proofs.Ytjchindjoailbaa
set_option linter.unusedSimpArgs false
set_option linter.unusedVariables false
open Go.RowKit
/-- the sum of the wires' squares -/
def sumW (y : Int → Int) (l : List Wz) : Int := (l.map fun e => e.2.2 * ((y e.1 - y e.2.1) * (y e.1 - y e.2.1))).sum
theorem sumW_app (y : Int → Int) (l m : List Wz) : sumW y (l ++ m) = sumW y l + sumW y m := by simp [sumW, List.sum_append]
theorem sumW_row (y : Int → Int) (f : Int → Int → Int) (i : Nat) : ∀ N, sumW y (rowL f N i) = Gn.sumK (fun j => if i < j then f i j * ((y i - y j) * (y i - y j)) else 0) N
  | 0 => by simp [sumW, rowL, Gn.sumK]
  | N + 1 => by
    have e1 : rowL f (N + 1) i = rowL f N i ++ (if i < N ∧ ¬ f i N = 0 then [((i : Int), (N : Int), f i N)] else []) := by
      unfold rowL
      rw [List.range_succ, List.filter_append, List.map_append]
      congr 1
      by_cases h1 : i < N
      · by_cases h2 : f i N = 0
        · simp [h2]
        · simp [h1, h2]
      · simp [h1]
    rw [e1, sumW_app, sumW_row y f i N]
    simp only [Gn.sumK]
    congr 1
    by_cases h1 : i < N
    · by_cases h2 : f i N = 0
      · simp [h2, sumW]
      · simp [h1, h2, sumW]
    · simp [h1, sumW]
theorem sumW_tab (y : Int → Int) (f : Int → Int → Int) (N : Nat) : ∀ k, sumW y (tabL f N k) = Gn.sumK (fun i => Gn.sumK (fun j => if i < j then f i j * ((y i - y j) * (y i - y j)) else 0) N) k
  | 0 => by simp [sumW, tabL, Gn.sumK]
  | k + 1 => by rw [tabL, sumW_app, sumW_tab y f N k, sumW_row]; rfl
/-- the power of potentials over one denominator -/
theorem pow_rat {S d : Int} {y : Int → Int} {Q : List Rz} (hS : 1 ≤ S ∧ S ≤ 3) (hd : 0 < d ∧ d ≤ 7168) {l : List Wz} (hl : l.length ≤ 25)
    (h : ∀ e ∈ l, (1 ≤ e.2.2 ∧ e.2.2 ≤ 4) ∧ (getR Q e.1 = Gn.rat (y e.1) d ∧ getR Q e.2.1 = Gn.rat (y e.2.1) d) ∧ ((-6784 ≤ y e.1 ∧ y e.1 ≤ 6784) ∧ (-6784 ≤ y e.2.1 ∧ y e.2.1 ≤ 6784)) ∧ (-6784 ≤ y e.1 - y e.2.1 ∧ y e.1 - y e.2.1 ≤ 6784)) :
    ∀ k, k ≤ l.length → powL S Q (l.take k) = Gn.rat (sumW y (l.take k)) (d * d * S) ∧ 0 ≤ sumW y (l.take k) ∧ sumW y (l.take k) ≤ k * 184090624 := by
  have hdd := Gn.mul_bd' (x := d) (y := d) (X := 7168) (Y := 7168) ⟨by omega, by omega⟩ ⟨by omega, by omega⟩
  have hdp := Int.mul_pos hd.1 hd.1
  have hds := Gn.mul_bd' (x := d * d) (y := S) (X := 51380224) (Y := 3) ⟨by omega, by omega⟩ ⟨by omega, by omega⟩
  have hdsp := Int.mul_pos hdp (show 0 < S by omega)
  intro k
  induction k with
  | zero => intro _; simp only [List.take_zero]; exact ⟨by show (0, 1) = _; rw [show sumW y [] = 0 from rfl, Gn.rat_zero hdsp], by simp [sumW], by simp [sumW]⟩
  | succ k ih =>
    intro hk
    obtain ⟨h1, h2, h3⟩ := ih (by omega)
    obtain ⟨hw, ⟨q1, q2⟩, ⟨b1, b2⟩, b3⟩ := h l[k] (List.getElem_mem _)
    have hs : sumW y (l.take (k + 1)) = sumW y (l.take k) + l[k].2.2 * ((y l[k].1 - y l[k].2.1) * (y l[k].1 - y l[k].2.1)) := by
      rw [List.take_succ_eq_append_getElem (by omega), sumW_app]; simp [sumW]
    have hstep : powL S Q (l.take (k + 1)) = powStep S Q (powL S Q (l.take k)) l[k] := powL_snoc (by omega)
    rw [hs, hstep, powStep, h1, q1, q2]
    generalize y l[k].1 = ya at b1 b3 ⊢
    generalize y l[k].2.1 = yb at b2 b3 ⊢
    generalize l[k].2.2 = wt at hw ⊢
    generalize sumW y (l.take k) = s at h2 h3 ⊢
    have f1 : Gn.Fr 6784 7168 ya d := ⟨by omega, by omega, hd.1, hd.2, by decide, by decide⟩
    have f2 : Gn.Fr 6784 7168 yb d := ⟨by omega, by omega, hd.1, hd.2, by decide, by decide⟩
    have e1 : diffR (Gn.rat ya d) (Gn.rat yb d) = Gn.rat (ya - yb) d := by
      rw [diff_rat f1 f2 ⟨by decide, by decide, by decide, by decide⟩]
      exact Gn.rat_eq hdp hd.1 (by grind)
    rw [e1]
    generalize ya - yb = z at b3 ⊢
    have f3 : Gn.Fr 6784 7168 z d := ⟨by omega, by omega, hd.1, hd.2, by decide, by decide⟩
    have hz := Gn.mul_bd' (x := z) (y := z) (X := 6784) (Y := 6784) b3 b3
    have hzn : 0 ≤ z * z := by
      by_cases h : 0 ≤ z
      · exact Int.mul_nonneg h h
      · exact Gn.mul_nn (by omega) (by omega)
    rw [times_rat f3 f3 ⟨by decide, by decide, by decide, by decide⟩]
    generalize z * z = zz at hz hzn ⊢
    have f4 : Gn.Fr 46022656 51380224 zz (d * d) := ⟨by omega, by omega, hdp, by omega, by decide, by decide⟩
    have f5 : Gn.Fr 4 3 wt S := ⟨by omega, by omega, by omega, by omega, by decide, by decide⟩
    have hzw := Gn.mul_bd' (x := zz) (y := wt) (X := 46022656) (Y := 4) ⟨by omega, by omega⟩ ⟨by omega, by omega⟩
    have hzwn := Int.mul_nonneg hzn (show 0 ≤ wt by omega)
    rw [times_rat f4 f5 ⟨by decide, by decide, by decide, by decide⟩, Int.mul_comm wt zz]
    generalize zz * wt = x at hzw hzwn ⊢
    generalize d * d * S = D at hds hdsp ⊢
    have f6 : Gn.Fr 4602265600 154140672 s D := ⟨by omega, by omega, hdsp, by omega, by decide, by decide⟩
    have f7 : Gn.Fr 184090624 154140672 x D := ⟨by omega, by omega, hdsp, by omega, by decide, by decide⟩
    rw [add_rat f6 f7 ⟨by decide, by decide, by decide, by decide⟩]
    exact ⟨Gn.rat_eq (Int.mul_pos hdsp hdsp) hdsp (by grind), by omega, by omega⟩
theorem wbF_bd4 {l : List Wz} (h : ∀ x ∈ l, 1 ≤ x.2.2 ∧ x.2.2 ≤ 4) (a b : Int) : 0 ≤ wbF l a b ∧ wbF l a b ≤ 4 := by
  induction l with
  | nil => simp [wbF]
  | cons x t ih =>
    rw [wbF]
    split
    · have := h x (by simp); omega
    · exact ih (fun y hy => h y (by simp [hy]))
/-- a small network: what its law asks of sums and potentials -/
structure SmallN (M : Nat) (E S : Int) (l : List Wz) : Prop where
  d : Drawn 4 M E S l
  w4 : ∀ x ∈ l, x.2.2 ≤ 4
section
variable {M : Nat} {E S : Int} {l : List Wz}
theorem SmallN.tree (h : SmallN M E S l) : 0 < leftW M l [0] [0] ∧ leftW M l [0] [0] ≤ 1024 ∧ ∀ v : Int, 0 ≤ v ∧ v < M → 0 ≤ potV M l 0 1 v ∧ potV M l 0 1 v ≤ 128 := by
  have hb := wbF_bd4 (l := l) (fun x hx => ⟨(h.d.ok.good hx).2.2.2.1, h.w4 x hx⟩)
  have h2 := h.d.n2
  have h4 := h.d.nm
  refine ⟨h.d.ok.tree_pos, ?_, fun v hv => ?_⟩
  · rw [h.d.ok.left (Nat.le_refl _)]
    show Gn.trS M (Gn.lapW M (wbF l)) ≤ _
    have : M = 2 ∨ M = 3 ∨ M = 4 := by omega
    rcases this with rfl | rfl | rfl
    · exact (Gn.small2 _ (wbF_comm l) hb).1.2
    · exact (Gn.small3 _ (wbF_comm l) hb).1.2
    · exact (Gn.small4 _ (wbF_comm l) hb).1.2
  · rw [h.d.ok.potV (by omega) (by omega) hv (by omega)]
    have : M = 2 ∨ M = 3 ∨ M = 4 := by omega
    rcases this with rfl | rfl | rfl
    · exact (Gn.small2 _ (wbF_comm l) hb).2 v hv
    · exact (Gn.small3 _ (wbF_comm l) hb).2 v hv
    · exact (Gn.small4 _ (wbF_comm l) hb).2 v hv
/-- the numerators, t times the sum over trees put on at the last node -/
def numT (M : Nat) (S : Int) (l : List Wz) (t u : Int) : Int := 7 * S * potV M l 0 1 u + (if u = (M : Int) - 1 then t * leftW M l [0] [0] else 0)
def degV (M : Nat) (l : List Wz) : Int := Gn.sumK (fun u => wbF l u ((M : Int) - 1)) (M - 1)
theorem flow_at (h : SmallN M E S l) {v : Int} (hv : 0 ≤ v ∧ v < M) : flowV M l 0 1 v M = (if v = 0 then leftW M l [0] [0] else 0) - (if v = 1 then leftW M l [0] [0] else 0) :=
  h.d.ok.flow (by have := h.d.n2; omega) (by have := h.d.n2; omega) hv (by omega)
theorem pot_one (M : Nat) (l : List Wz) : potV M l 0 1 1 = 0 := by unfold potV; rw [if_pos rfl]
theorem sum_form (h : SmallN M E S l) (t : Int) (ht : M = 2 → t = 0) :
    sumW (numT M S l t) l = 49 * S * S * (leftW M l [0] [0] * potV M l 0 1 0) + t * t * (leftW M l [0] [0] * leftW M l [0] [0]) * degV M l := by
  have hT := h.d.ok.tabL rfl
  have h2 := h.d.n2
  have h4 := h.d.nm
  have e0 : sumW (numT M S l t) l = sumW (numT M S l t) (tabL (wbF l) M M) := by rw [hT]
  rw [e0, sumW_tab]
  have c := wbF_comm l
  have p1 := pot_one M l
  have : M = 2 ∨ M = 3 ∨ M = 4 := by omega
  rcases this with rfl | rfl | rfl
  · have f0 := flow_at h (v := 0) (by omega)
    have ht0 := ht rfl
    subst ht0
    simp [flowV, upto, List.range_succ, p1] at f0
    simp [Gn.sumK, numT, degV, p1]
    generalize wbF l 0 1 = a at *
    generalize potV 2 l 0 1 0 = x at *
    generalize leftW 2 l [0] [0] = T at *
    grind
  · have f0 := flow_at h (v := 0) (by omega)
    have f1 := flow_at h (v := 1) (by omega)
    have f2 := flow_at h (v := 2) (by omega)
    simp [flowV, upto, List.range_succ, p1] at f0 f1 f2
    rw [c 1 0] at f1
    rw [c 2 0, c 2 1] at f2
    simp [Gn.sumK, numT, degV, p1]
    generalize wbF l 0 1 = a at *
    generalize wbF l 0 2 = b at *
    generalize wbF l 1 2 = d at *
    generalize potV 3 l 0 1 0 = x at *
    generalize potV 3 l 0 1 2 = z at *
    generalize leftW 3 l [0] [0] = T at *
    have key : a * (7 * S * x * (7 * S * x)) + b * ((7 * S * x - (7 * S * z + t * T)) * (7 * S * x - (7 * S * z + t * T))) + d * ((-(7 * S * z + t * T)) * (-(7 * S * z + t * T))) = 49 * S * S * (x * (a * x + b * (x - z)) + z * (b * (z - x) + d * z)) + 14 * S * (t * T) * (b * (z - x) + d * z) + t * T * (t * T) * (b + d) := by grind
    grind
  · have f0 := flow_at h (v := 0) (by omega)
    have f1 := flow_at h (v := 1) (by omega)
    have f2 := flow_at h (v := 2) (by omega)
    have f3 := flow_at h (v := 3) (by omega)
    simp [flowV, upto, List.range_succ, p1] at f0 f1 f2 f3
    rw [c 1 0] at f1
    rw [c 2 0, c 2 1] at f2
    rw [c 3 0, c 3 1, c 3 2] at f3
    simp [Gn.sumK, numT, degV, p1]
    generalize wbF l 0 1 = a at *
    generalize wbF l 0 2 = b at *
    generalize wbF l 1 2 = d at *
    generalize wbF l 0 3 = e at *
    generalize wbF l 1 3 = g at *
    generalize wbF l 2 3 = k at *
    generalize potV 4 l 0 1 0 = x at *
    generalize potV 4 l 0 1 2 = z at *
    generalize potV 4 l 0 1 3 = y at *
    generalize leftW 4 l [0] [0] = T at *
    have g0 : a * x + b * (x - z) + e * (x - y) = T := by grind
    have g2 : b * (z - x) + d * z + k * (z - y) = 0 := by grind
    have g3 : e * (y - x) + g * y + k * (y - z) = 0 := by grind
    have key : a * (7 * S * x * (7 * S * x)) + b * ((7 * S * x - 7 * S * z) * (7 * S * x - 7 * S * z)) + e * ((7 * S * x - (7 * S * y + t * T)) * (7 * S * x - (7 * S * y + t * T))) + d * (7 * S * z * (7 * S * z)) + g * ((7 * S * y + t * T) * (7 * S * y + t * T)) + k * ((7 * S * z - (7 * S * y + t * T)) * (7 * S * z - (7 * S * y + t * T)))
        = 49 * S * S * (x * (a * x + b * (x - z) + e * (x - y)) + z * (b * (z - x) + d * z + k * (z - y)) + y * (e * (y - x) + g * y + k * (y - z))) + 14 * S * (t * T) * (e * (y - x) + g * y + k * (y - z)) + t * T * (t * T) * (e + g + k) := by grind
    rw [g0, g2, g3] at key
    clear f0 f1 f2 f3 g0 g2 g3
    grind
theorem deg_pos (h : SmallN M E S l) (h3 : 3 ≤ M) : 0 < degV M l := by
  have hb := fun a b => (h.d.wb a b).1
  obtain ⟨i, j, a1, a2, a3, a4, a5, a6, a7⟩ := h.d.ok.cut (fun u => u = (M : Int) - 1) (by omega) ⟨(M : Int) - 1, by omega, by omega, rfl⟩
  subst a5
  rw [wbF_comm] at a7
  have h4 := h.d.nm
  have : M = 3 ∨ M = 4 := by omega
  rcases this with rfl | rfl
  · have b0 := hb 0 2
    have b1 := hb 1 2
    simp [degV, Gn.sumK]
    have : j = 0 ∨ j = 1 := by omega
    rcases this with rfl | rfl
    · have c0 : 0 < wbF l 0 2 := a7
      omega
    · have c0 : 0 < wbF l 1 2 := a7
      omega
  · have b0 := hb 0 3
    have b1 := hb 1 3
    have b2 := hb 2 3
    simp [degV, Gn.sumK]
    have : j = 0 ∨ j = 1 ∨ j = 2 := by omega
    rcases this with rfl | rfl | rfl
    · have c0 : 0 < wbF l 0 3 := a7
      omega
    · have c0 : 0 < wbF l 1 3 := a7
      omega
    · have c0 : 0 < wbF l 2 3 := a7
      omega
theorem num_bd (h : SmallN M E S l) {t : Int} (ht : -4 ≤ t ∧ t ≤ 4) {u : Int} (hu : 0 ≤ u ∧ u < M) : ∃ x z : Int, numT M S l t u = x + z ∧ (0 ≤ x ∧ x ≤ 2688) ∧ (-4096 ≤ z ∧ z ≤ 4096) ∧ (z = t * leftW M l [0] [0] ∨ z = 0) := by
  obtain ⟨t1, t2, t3⟩ := h.tree
  have hp := t3 u hu
  have s1 := h.d.ok.h.s1
  have s3 := h.d.s3
  have b1 := Gn.mul_bd' (x := 7 * S) (y := potV M l 0 1 u) (X := 21) (Y := 128) ⟨by omega, by omega⟩ ⟨by omega, by omega⟩
  have b2 := Gn.mul_bd' (x := t) (y := leftW M l [0] [0]) (X := 4) (Y := 1024) ⟨by omega, by omega⟩ ⟨by omega, by omega⟩
  have b3 := Int.mul_nonneg (show 0 ≤ 7 * S by omega) hp.1
  by_cases e : u = (M : Int) - 1
  · exact ⟨_, t * leftW M l [0] [0], by unfold numT; rw [if_pos e], ⟨b3, by omega⟩, ⟨by omega, by omega⟩, .inl rfl⟩
  · exact ⟨_, 0, by unfold numT; rw [if_neg e], ⟨b3, by omega⟩, ⟨by omega, by omega⟩, .inr rfl⟩
theorem pow_of (h : SmallN M E S l) (t : Int) (ht : -4 ≤ t ∧ t ≤ 4) (ht2 : M = 2 → t = 0) (Q : List Rz) (hlen : Q.length = M) (hQ : ∀ u : Nat, u < M → getR Q u = Gn.rat (numT M S l t u) (7 * leftW M l [0] [0])) :
    PowOk M E S l Q ∧ powL S Q l = Gn.rat (49 * S * S * (leftW M l [0] [0] * potV M l 0 1 0) + t * t * (leftW M l [0] [0] * leftW M l [0] [0]) * degV M l) (7 * leftW M l [0] [0] * (7 * leftW M l [0] [0]) * S) ∧
      (0 ≤ 49 * S * S * (leftW M l [0] [0] * potV M l 0 1 0) + t * t * (leftW M l [0] [0] * leftW M l [0] [0]) * degV M l ∧ 49 * S * S * (leftW M l [0] [0] * potV M l 0 1 0) + t * t * (leftW M l [0] [0] * leftW M l [0] [0]) * degV M l ≤ 4602265600) := by
  obtain ⟨t1, t2, t3⟩ := h.tree
  have s1 := h.d.ok.h.s1
  have s3 := h.d.s3
  have hfw := h.d.ok.few
  have hb : ∀ u : Int, 0 ≤ u → u < M → -6784 ≤ numT M S l t u ∧ numT M S l t u ≤ 6784 := fun u h1 h2 => by
    obtain ⟨x, z, e, hx, hz, _⟩ := num_bd h ht ⟨h1, h2⟩
    rw [e]; omega
  have hq : ∀ u : Int, 0 ≤ u → u < M → getR Q u = Gn.rat (numT M S l t u) (7 * leftW M l [0] [0]) := fun u h1 h2 => by
    have := hQ u.toNat (by omega)
    rwa [show ((u.toNat : Nat) : Int) = u by omega] at this
  have key := pow_rat (y := numT M S l t) (Q := Q) ⟨s1, s3⟩ (d := 7 * leftW M l [0] [0]) ⟨by omega, by omega⟩ hfw (fun e he => by
    obtain ⟨g1, g2, g3, g4, g5⟩ := h.d.ok.good he
    refine ⟨⟨g4, h.w4 e he⟩, ⟨hq _ g1 (by omega), hq _ (by omega) g3⟩, ⟨hb _ g1 (by omega), hb _ (by omega) g3⟩, ?_⟩
    obtain ⟨x, z, e1, hx, hz, hz0⟩ := num_bd h ht (u := e.1) ⟨g1, by omega⟩
    obtain ⟨x2, z2, e2, hx2, hz2, hz20⟩ := num_bd h ht (u := e.2.1) ⟨by omega, g3⟩
    rw [e1, e2]
    rcases hz0 with hz0 | hz0 <;> rcases hz20 with hz20 | hz20 <;> omega) l.length (Nat.le_refl _)
  rw [List.take_of_length_le (Nat.le_refl _), sum_form h t ht2] at key
  obtain ⟨k1, k2, k3⟩ := key
  have hup : (l.length : Int) * 184090624 ≤ 4602265600 := by omega
  have hdd := Gn.mul_bd' (x := 7 * leftW M l [0] [0]) (y := 7 * leftW M l [0] [0]) (X := 7168) (Y := 7168) ⟨by omega, by omega⟩ ⟨by omega, by omega⟩
  have hdp := Int.mul_pos (show 0 < 7 * leftW M l [0] [0] by omega) (show 0 < 7 * leftW M l [0] [0] by omega)
  have hds := Gn.mul_bd' (x := 7 * leftW M l [0] [0] * (7 * leftW M l [0] [0])) (y := S) (X := 51380224) (Y := 3) ⟨by omega, by omega⟩ ⟨by omega, by omega⟩
  have hdsp := Int.mul_pos hdp (show 0 < S by omega)
  refine ⟨⟨h.d.ok, by rw [hlen], fun x hx => ?_, ?_⟩, k1, k2, by omega⟩
  · obtain ⟨i, hi, rfl⟩ := List.getElem_of_mem hx
    rw [← getR_eq hi, hQ i (by omega)]
    have := hb i (by omega) (by omega)
    exact okZ_rat (A := 6784) (B := 7168) ⟨by omega, by omega, by omega, by omega, by decide, by decide⟩
  · rw [k1]
    exact okZ_rat (A := 4602265600) (B := 154140672) ⟨by omega, by omega, hdsp, by omega, by decide, by decide⟩
/-- what the law on power asks -/
structure PowerLaw (M : Nat) (E S : Int) (l : List Wz) : Prop where
  p : PowOk M E S l (potR M S l 0 1 M)
  x : powL S (potR M S l 0 1 M) l = Gn.rat (S * forestV M l 0 1) (leftW M l [0] [0])
  q : ∀ t : Int, (-4 ≤ t ∧ t ≤ 4) → 3 ≤ M → ∀ (v : Nat), v = M - 1 → ∀ (r : Rz), getR (potR M S l 0 1 M) v = r → ∀ Y : Rz, powL S ((potR M S l 0 1 M).set v (addR r (Gn.rat t 7))) l = Y →
    PowOk M E S l ((potR M S l 0 1 M).set v (addR r (Gn.rat t 7))) ∧ (addR r (Gn.rat t 7) = r ↔ t = 0) ∧ (Y = Gn.rat (S * forestV M l 0 1) (leftW M l [0] [0]) ↔ t = 0) ∧ okZ Y.1 Y.2 ∧ okZ (Gn.rat (S * forestV M l 0 1) (leftW M l [0] [0])).1 (Gn.rat (S * forestV M l 0 1) (leftW M l [0] [0])).2 ∧
      0 ≤ Y.1 * (Gn.rat (S * forestV M l 0 1) (leftW M l [0] [0])).2 - (Gn.rat (S * forestV M l 0 1) (leftW M l [0] [0])).1 * Y.2
theorem potR_get' {M : Nat} {S : Int} {l : List Wz} {p q : Int} {k v : Nat} (h : v < (potR M S l p q k).length) : (potR M S l p q k)[v] = Gn.rat (S * potV M l p q v) (leftW M l [0] [0]) := by
  simp [potR, upto]
theorem powerLaw (h : SmallN M E S l) : PowerLaw M E S l := by
  obtain ⟨t1, t2, t3⟩ := h.tree
  have s1 := h.d.ok.h.s1
  have s3 := h.d.s3
  have m2 := h.d.n2
  have hlen := potR_len M S l 0 1 M
  have hP : ∀ u : Nat, u < M → getR (potR M S l 0 1 M) u = Gn.rat (numT M S l 0 u) (7 * leftW M l [0] [0]) := fun u hu => by
    have hu2 : u < (potR M S l 0 1 M).length := by rw [hlen]; exact hu
    rw [getR_eq hu2, potR_get' hu2]
    have e1 : numT M S l 0 u = 7 * (S * potV M l 0 1 u) := by
      unfold numT
      by_cases e : (u : Int) = (M : Int) - 1
      · rw [if_pos e]; grind
      · rw [if_neg e]; grind
    rw [e1, Gn.rat_mul (by omega)]
  obtain ⟨k1, k2, k3⟩ := pow_of h 0 (by omega) (fun _ => rfl) (potR M S l 0 1 M) hlen hP
  have hfo : forestV M l 0 1 = potV M l 0 1 0 := by
    have e1 := h.d.ok.pot (p := 0) (q := 1) (x := 0) (by omega) (by omega) (by omega) (by omega)
    have e2 : forestV M l 0 0 = 0 := by unfold forestV; rw [if_pos rfl]
    unfold potI at e1
    omega
  have hdp := Int.mul_pos (show 0 < 7 * leftW M l [0] [0] by omega) (show 0 < 7 * leftW M l [0] [0] by omega)
  have hdsp := Int.mul_pos hdp (show 0 < S by omega)
  have hdd := Gn.mul_bd' (x := 7 * leftW M l [0] [0]) (y := 7 * leftW M l [0] [0]) (X := 7168) (Y := 7168) ⟨by omega, by omega⟩ ⟨by omega, by omega⟩
  have hds := Gn.mul_bd' (x := 7 * leftW M l [0] [0] * (7 * leftW M l [0] [0])) (y := S) (X := 51380224) (Y := 3) ⟨by omega, by omega⟩ ⟨by omega, by omega⟩
  have hx0 := t3 0 (by omega)
  have hX : Gn.rat (S * forestV M l 0 1) (leftW M l [0] [0]) = Gn.rat (49 * S * S * (leftW M l [0] [0] * potV M l 0 1 0)) (7 * leftW M l [0] [0] * (7 * leftW M l [0] [0]) * S) := by
    rw [hfo]
    refine Gn.rat_eq t1 hdsp ?_
    generalize potV M l 0 1 0 = x
    generalize leftW M l [0] [0] = T
    grind
  have hA : (0 : Int) ≤ 49 * S * S * (leftW M l [0] [0] * potV M l 0 1 0) ∧ 49 * S * S * (leftW M l [0] [0] * potV M l 0 1 0) ≤ 4602265600 := by
    have := k3
    simp only [Int.mul_zero, Int.zero_mul, Int.add_zero] at this
    exact this
  have hFX : Gn.Fr 4602265600 154140672 (49 * S * S * (leftW M l [0] [0] * potV M l 0 1 0)) (7 * leftW M l [0] [0] * (7 * leftW M l [0] [0]) * S) := ⟨by omega, by omega, hdsp, by omega, by decide, by decide⟩
  refine ⟨k1, ?_, fun t ht h3 v hv r hr Y hY => ?_⟩
  · rw [k2, hX]; simp only [Int.mul_zero, Int.zero_mul, Int.add_zero]
  · have hvM : v < M := by omega
    have hvc : (v : Int) = (M : Int) - 1 := by omega
    have hv2 : v < (potR M S l 0 1 M).length := by rw [hlen]; exact hvM
    have hr2 : r = Gn.rat (S * potV M l 0 1 v) (leftW M l [0] [0]) := by rw [← hr, getR_eq hv2, potR_get' hv2]
    have hpv := t3 v ⟨by omega, by omega⟩
    have b1 := Gn.mul_bd' (x := S) (y := potV M l 0 1 v) (X := 3) (Y := 128) ⟨by omega, by omega⟩ ⟨by omega, by omega⟩
    have fr1 : Gn.Fr 384 1024 (S * potV M l 0 1 v) (leftW M l [0] [0]) := ⟨by omega, by omega, t1, t2, by decide, by decide⟩
    have fr2 : Gn.Fr 4 7 t 7 := ⟨by omega, by omega, by omega, by omega, by decide, by decide⟩
    have hnv : numT M S l t v = 7 * S * potV M l 0 1 v + t * leftW M l [0] [0] := by unfold numT; rw [if_pos hvc]
    have hqv : addR r (Gn.rat t 7) = Gn.rat (numT M S l t v) (7 * leftW M l [0] [0]) := by
      rw [hr2, add_rat fr1 fr2 ⟨by decide, by decide, by decide, by decide⟩, hnv]
      refine Gn.rat_eq (Int.mul_pos t1 (by omega)) (by omega) ?_
      generalize potV M l 0 1 v = x
      generalize leftW M l [0] [0] = T
      grind
    have hQ : ∀ u : Nat, u < M → getR ((potR M S l 0 1 M).set v (addR r (Gn.rat t 7))) u = Gn.rat (numT M S l t u) (7 * leftW M l [0] [0]) := fun u hu => by
      have hu2 : u < ((potR M S l 0 1 M).set v (addR r (Gn.rat t 7))).length := by rw [List.length_set, hlen]; exact hu
      rw [getR_eq hu2, List.getElem_set]
      by_cases e : v = u
      · subst e; rw [if_pos rfl, hqv]
      · rw [if_neg e]
        have hu3 : u < (potR M S l 0 1 M).length := by rw [hlen]; exact hu
        have := hP u hu
        rw [getR_eq hu3] at this
        rw [this]
        unfold numT
        rw [if_neg (by omega), if_neg (by omega)]
    obtain ⟨j1, j2, j3⟩ := pow_of h t ht (fun e => by omega) ((potR M S l 0 1 M).set v (addR r (Gn.rat t 7))) (by rw [List.length_set, hlen]) hQ
    rw [hY] at j2
    have hdeg := deg_pos h h3
    have htt : 0 ≤ t * t := by
      by_cases h0 : 0 ≤ t
      · exact Int.mul_nonneg h0 h0
      · exact Gn.mul_nn (by omega) (by omega)
    have hTT := Int.mul_pos t1 t1
    have hex : 0 ≤ t * t * (leftW M l [0] [0] * leftW M l [0] [0]) * degV M l := Int.mul_nonneg (Int.mul_nonneg htt (by omega)) (by omega)
    have hex0 : t * t * (leftW M l [0] [0] * leftW M l [0] [0]) * degV M l = 0 → t = 0 := fun e => by
      have e1 := Gn.zero_of_mul hdeg (by rw [Int.mul_comm]; exact e)
      have e2 := Gn.zero_of_mul hTT (by rw [Int.mul_comm]; exact e1)
      rcases Int.mul_eq_zero.1 e2 with e3 | e3 <;> exact e3
    have hFY : Gn.Fr 4602265600 154140672 (49 * S * S * (leftW M l [0] [0] * potV M l 0 1 0) + t * t * (leftW M l [0] [0] * leftW M l [0] [0]) * degV M l) (7 * leftW M l [0] [0] * (7 * leftW M l [0] [0]) * S) := ⟨by omega, by omega, hdsp, by omega, by decide, by decide⟩
    refine ⟨j1, ?_, ?_, ?_, ?_, ?_⟩
    · constructor
      · intro e
        have e0 : r = Gn.rat (numT M S l 0 v) (7 * leftW M l [0] [0]) := by rw [← hr]; exact hP v hvM
        have hn0 : numT M S l 0 v = 7 * S * potV M l 0 1 v := by unfold numT; rw [if_pos hvc]; omega
        rw [hqv] at e
        have e1 := e.trans e0
        rw [hnv, hn0] at e1
        have b3 := Gn.mul_bd' (x := 7 * S) (y := potV M l 0 1 v) (X := 21) (Y := 128) ⟨by omega, by omega⟩ ⟨by omega, by omega⟩
        have b4 := Gn.mul_bd' (x := t) (y := leftW M l [0] [0]) (X := 4) (Y := 1024) ⟨by omega, by omega⟩ ⟨by omega, by omega⟩
        have e2 := Gn.rat_inj (A := 6784) (B := 7168) ⟨by omega, by omega, by omega, by omega, by decide, by decide⟩ ⟨by omega, by omega, by omega, by omega, by decide, by decide⟩ e1
        exact Gn.zero_of_mul t1 (by rw [Int.mul_comm]; omega)
      · intro e
        subst e
        rw [hqv, ← hr]; exact (hP v hvM).symm
    · rw [j2, hX]
      constructor
      · intro e
        have := Gn.rat_inj hFY hFX e
        exact hex0 (by omega)
      · intro e
        subst e
        simp only [Int.mul_zero, Int.zero_mul, Int.add_zero]
    · rw [j2]; exact okZ_rat hFY
    · rw [hX]; exact okZ_rat hFX
    · rw [j2, hX]
      obtain ⟨r1, r2⟩ := hFY.red
      obtain ⟨r3, r4⟩ := hFX.red
      have d1 := r1.d1
      have d3 := r3.d1
      generalize (Gn.rat (49 * S * S * (leftW M l [0] [0] * potV M l 0 1 0) + t * t * (leftW M l [0] [0] * leftW M l [0] [0]) * degV M l) (7 * leftW M l [0] [0] * (7 * leftW M l [0] [0]) * S)).1 = y1 at *
      generalize (Gn.rat (49 * S * S * (leftW M l [0] [0] * potV M l 0 1 0) + t * t * (leftW M l [0] [0] * leftW M l [0] [0]) * degV M l) (7 * leftW M l [0] [0] * (7 * leftW M l [0] [0]) * S)).2 = y2 at *
      generalize (Gn.rat (49 * S * S * (leftW M l [0] [0] * potV M l 0 1 0)) (7 * leftW M l [0] [0] * (7 * leftW M l [0] [0]) * S)).1 = x1 at *
      generalize (Gn.rat (49 * S * S * (leftW M l [0] [0] * potV M l 0 1 0)) (7 * leftW M l [0] [0] * (7 * leftW M l [0] [0]) * S)).2 = x2 at *
      generalize 49 * S * S * (leftW M l [0] [0] * potV M l 0 1 0) = A at *
      generalize t * t * (leftW M l [0] [0] * leftW M l [0] [0]) * degV M l = B at *
      generalize 7 * leftW M l [0] [0] * (7 * leftW M l [0] [0]) * S = D at *
      have e1 : (y1 * x2 - x1 * y2) * D = B * (y2 * x2) := by
        have : (y1 * x2 - x1 * y2) * D = (y1 * D) * x2 - (x1 * D) * y2 := by grind
        rw [this, r2, r4]; grind
      have e2 : 0 ≤ B * (y2 * x2) := Int.mul_nonneg hex (Int.le_of_lt (Int.mul_pos d1 d3))
      rw [← e1] at e2
      by_cases hneg : y1 * x2 - x1 * y2 < 0
      · have := Int.mul_pos (show 0 < -(y1 * x2 - x1 * y2) by omega) hdsp
        rw [Int.neg_mul] at this; omega
      · omega
end
end Go.Proofs.Ytjchindjoailbaa

/- MakeSmall: a network with at most four nodes and small weights that a code draws. -/
namespace Go.Proofs.Ytjchindjoailbaa
set_option linter.unusedSimpArgs false
set_option linter.unusedVariables false
open Go.RowKit

theorem wires_set (x : Int) : ∀ (L : List Wz) (k : Nat) (h : k < L.length), (wires L).set (k * 3 + 2) (.int .i64 x) = wires (L.set k (L[k].1, L[k].2.1, x))
  | [], k, h => absurd h (by simp)
  | e :: t, 0, h => by simp [wires, wireV]
  | e :: t, k + 1, h => by
    have ih := wires_set x t k (by simpa using h)
    have e1 : wires (e :: t) = wireV e ++ wires t := rfl
    have e2 : (k + 1) * 3 + 2 = (wireV e).length + (k * 3 + 2) := by simp [wireV]; omega
    rw [e1, e2, List.set_append_right _ _ (by omega), Nat.add_sub_cancel_left, ih]
    rfl
theorem Rch.ends {l m : List Wz} (h : ∀ x ∈ l, ∃ z ∈ m, z.1 = x.1 ∧ z.2.1 = x.2.1) {v : Int} (hr : Rch l v) : Rch m v := by
  induction hr with
  | zero => exact .zero
  | fwd hx _ ih => obtain ⟨z, hz, e1, e2⟩ := h _ hx; rw [← e2]; exact .fwd hz (by rw [e1]; exact ih)
  | bwd hx _ ih => obtain ⟨z, hz, e1, e2⟩ := h _ hx; rw [← e1]; exact .bwd hz (by rw [e2]; exact ih)
theorem set_ends {L : List Wz} {k : Nat} (h : k < L.length) (x : Int) (j : Nat) (hj : j < (L.set k (L[k].1, L[k].2.1, x)).length) : ((L.set k (L[k].1, L[k].2.1, x))[j]).1 = (L[j]'(by simpa using hj)).1 ∧ ((L.set k (L[k].1, L[k].2.1, x))[j]).2.1 = (L[j]'(by simpa using hj)).2.1 ∧ ((L.set k (L[k].1, L[k].2.1, x))[j]).2.2 = if k = j then x else (L[j]'(by simpa using hj)).2.2 := by
  rw [List.getElem_set]
  by_cases e : k = j
  · subst e; simp
  · simp [e]
theorem Drawn.set {most M E S : Int} {L : List Wz} (h : Drawn most M E S L) {k : Nat} (hk : k < L.length) {x : Int} (hx : 1 ≤ x ∧ x ≤ 6) : Drawn most M E S (L.set k (L[k].1, L[k].2.1, x)) := by
  have hs := set_ends hk x
  refine ⟨⟨h.ok.h, fun j hj => ?_, fun j hj => ?_, fun v hv => (h.ok.c v hv).ends fun y hy => ?_⟩, h.n2, h.nm, h.e2, h.s3, fun y hy => ?_⟩
  · obtain ⟨e1, e2, e3⟩ := hs j hj
    have hw := h.ok.w j (by simpa using hj)
    unfold good at hw ⊢
    rw [e1, e2, e3]
    split <;> omega
  · obtain ⟨e1, e2, _⟩ := hs j (by omega)
    obtain ⟨e3, e4, _⟩ := hs (j + 1) hj
    have ho := h.ok.o j (by simpa using hj)
    unfold lexlt at ho ⊢
    rw [e1, e2, e3, e4]; exact ho
  · obtain ⟨j, hj, rfl⟩ := List.getElem_of_mem hy
    have hj2 : j < (L.set k (L[k].1, L[k].2.1, x)).length := by simpa using hj
    exact ⟨_, List.getElem_mem hj2, (hs j hj2).1, (hs j hj2).2.1⟩
  · obtain ⟨j, hj, rfl⟩ := List.getElem_of_mem hy
    rw [(hs j hj).2.2]
    have := h.w6 _ (List.getElem_mem (show j < L.length by simpa using hj))
    split <;> omega
/-- the first k weights are small -/
structure Sm (M E S : Int) (L : List Wz) (m k : Nat) : Prop where
  d : Drawn 4 M E S L
  len : L.length = m
  w4 : ∀ j (h : j < L.length), j < k → L[j].2.2 ≤ 4
theorem Sm.set {M E S : Int} {L : List Wz} {m k : Nat} (h : Sm M E S L m k) (hk : k < L.length) {x : Int} (hx : 1 ≤ x ∧ x ≤ 4) : Sm M E S (L.set k (L[k].1, L[k].2.1, x)) m (k + 1) := by
  refine ⟨h.d.set hk ⟨hx.1, by omega⟩, by rw [List.length_set]; exact h.len, fun j hj hjk => ?_⟩
  rw [(set_ends hk x j hj).2.2]
  by_cases e : k = j
  · rw [if_pos e]; omega
  · rw [if_neg e]; exact h.w4 j _ (by omega)
set_option maxRecDepth 100000 in
set_option maxHeartbeats 8000000 in
theorem specMakeSmall (a : Option Addr) (n c : Nat) (zs : List Int) (w : World) (hr : ArgRow w a n c 1 (u8s zs)) (hn : n ≤ 1048576) :
    Calls Try.prog 25 #[.slice a n c] w fun e w' => ∃ (M : Nat) (E S : Int) (l : List Wz) (a' : Option Addr) (c' : Nat), e = .returned (netV M E S a' l.length c') ∧ Drawn 4 M E S l ∧ (∀ x ∈ l, x.2.2 ≤ 4) ∧ ArgRow w' a' l.length c' 3 (wires l) ∧ Below w.heap.size w w' := by
  have HR := Lib.hid hr
  have R0 : Hid ((w.alloc (.cells #[.int .i64 0, .int .i64 0, .int .i64 0, .slice none 0 0] 25)).rowIs w.heap.size 25 4 (netAt (.int .i64 0) (.int .i64 0) (.int .i64 0) (.slice none 0 0))) := netAt_new _ _ _ _ _ _
  have HBK : Hid (∀ ad, a = some ad → 0 < n → ad.block < w.heap.size) := fun ad e h0 => by
    obtain ⟨b, o, e2, hb, _⟩ := hr.form h0
    rw [e] at e2; cases e2; exact hb
  clear hr
  go_enter Try.func25, Try.ntmps25
  go_wp2_with fail
  refine (specNew a n c zs _ (HR.out.below (balloc (Below.refl _ _) _)) hn).mono ?_
  rintro e w1 ⟨g, rfl, hg, hc1, hb1⟩
  have hgw : w.heap.size < g := by simp at hg; omega
  have C1 := Lib.hid hc1
  have R1 := Lib.hid (R0.out.of_block (hb1.block _ R0.out.lt))
  have B1 : Hid (Below w.heap.size w w1) := bstep (balloc (Below.refl _ _) _) hb1
  clear hc1 hb1 R0 hg
  go_wp2_with fail
  refine (specDrawNet 4 (.inl rfl) g a n c zs _ C1.out).mono ?_
  rintro e w2 ⟨M, E, S, l, a', c', rfl, hD, hO, hC2, hG2⟩
  have hg1 := C1.out.lt
  have R2 := R1.out.of_block (hG2.block _ R1.out.lt (by simp; omega))
  have B2 := below_grown B1.out B1.out.size hG2 (by omega)
  have HS0 : Hid (Sm M E S l l.length 0) := ⟨hD, rfl, fun j _ h => absurd h (by omega)⟩
  have O3 := Lib.hid (hO.alloc (.cells #[.int .i64 M, .int .i64 E, .int .i64 S, .slice a' l.length c'] 25))
  have R3 := Lib.hid (R2.alloc (.cells #[.int .i64 M, .int .i64 E, .int .i64 S, .slice a' l.length c'] 25))
  have C3 := Lib.hid (hC2.below (balloc (Below.refl _ _) (.cells #[.int .i64 M, .int .i64 E, .int .i64 S, .slice a' l.length c'] 25)))
  have B3 := Lib.hid (balloc B2 (.cells #[.int .i64 M, .int .i64 E, .int .i64 S, .slice a' l.length c'] 25))
  have N3 := Lib.hid (netAt_new w2 (.int .i64 M) (.int .i64 E) (.int .i64 S) (.slice a' l.length c') 25)
  have hgs := hG2.size
  have HAL : Hid (∀ ad, a' = some ad → ad.block < w2.heap.size) := fun ad e => (own_base hO ad e).2
  have hfew := hD.ok.few
  obtain ⟨m, hm⟩ : ∃ m, l.length = m := ⟨_, rfl⟩
  rw [hm] at HS0 O3 R3 C3 B3 N3 hfew ⊢
  clear hD hO hC2 hG2 R2 B2 R1 C1 B1
  go_wp2_with fail
  go_loopw [13] (fun u wr => ∃ (k : Nat) (L : List Wz), k ≤ m ∧ u = .int .i64 k ∧ Hid (Sm M E S L m k) ∧ Hid (wr.ownsRow w1.heap.size 102 3 (.slice a' m c') m (wires L)) ∧ Hid (wr.rowIs w.heap.size 25 4 (netAt (.int .i64 0) (.int .i64 0) (.int .i64 0) (.slice none 0 0))) ∧ Hid (wr.rowIs w2.heap.size 25 4 (netAt (.int .i64 M) (.int .i64 E) (.int .i64 S) (.slice a' m c'))) ∧ Hid (Curs wr g a n c zs) ∧ Hid (Below w.heap.size w wr)) (fun u _ => m - (intOf u).toNat)
  case atStart => exact ⟨0, l, by omega, rfl, HS0.out, O3.out, R3.out, N3.out, C3.out, B3.out⟩
  case round =>
    clear HS0 O3 R3 N3 C3 B3
    obtain ⟨k, L, hk, rfl, HS, HO, HRr, HN, HC, HB⟩ := hrel
    obtain ⟨n0, n1, n2, n3⟩ := netAt_cells HN.out
    have hln := HN.out.lt
    by_cases hlt : k < m
    · obtain ⟨g3, c3, e3⟩ := own_some HO.out (by omega)
      cases e3
      have hg3 := own_base HO.out _ rfl
      simp only at hg3
      have hg4 := HAL.out _ rfl
      simp only at hg4
      have hkl : k < L.length := by rw [HS.out.len]; exact hlt
      have hold : wr.cell? ⟨g3, k * 3 + 2, none⟩ = some (.int .i64 L[k].2.2) := by
        rw [HO.out.cellAt (k * 3 + 2) (by omega)]
        exact (wires_get L k hkl).2.2
      have hfz := HO.out.frozenAt (k * 3 + 2)
      have KX := Lib.hid (specDraw 4 (by omega) g a n c zs wr.drew HC.out)
      have hne1 : ¬ g3 = g := by omega
      have hne2 : ¬ w2.heap.size = g := by omega
      have hg3l := hg3.2
      have HBK3 : Hid (∀ ad, a = some ad → 0 < n → ad.block ≠ g3) := fun ad e h0 => by have := HBK.out ad e h0; omega
      generalize L[k].2.2 = old at hold
      go_wp2_with fail
      go_region_with (go_at_call 83; ((with_reducible refine KX.out.mono ?_); rintro e wX ⟨x, rfl, hx, hcX, hgX⟩; obtain ⟨uX, vX, zX, nX, mX⟩ := gltn hgX (b := w2.heap.size) (by (first | omega | (simp only [World.size_alloc, World.size_setCell, World.size_drew, World.heap_drewN]; omega))) (by omega); obtain ⟨uY, vY, zY, nY, mY⟩ := gltn hgX (b := g3) (by (first | omega | (simp only [World.size_alloc, World.size_setCell, World.size_drew, World.heap_drewN]; omega))) (by omega); have wX9 : IntKind.i64.wrap (1 + x) = 1 + x := IntWalk.i64_in _ (by omega)))
      all_goals
        have hgX' : wr.grownBy wX (some g) := grown_trans (grown_drewN wr 1 _) hgX
        have HS7 := Lib.hid (HS.out.set hkl (x := 1 + x) ⟨by omega, by omega⟩)
        have HO7 : Hid ((wX.setCell ⟨g3, k * 3 + 2, none⟩ (.int .i64 (1 + x))).ownsRow w1.heap.size 102 3 (.slice (some ⟨g3, 0, none⟩) m c') m (wires (L.set k (L[k].1, L[k].2.1, 1 + x)))) := by
          show World.ownsRow _ _ _ _ _ _ _
          rw [← wires_set (1 + x) L k hkl]
          exact ((HO.out.kept hgX' (.inr (by simp [Value.ownBlock]; omega))).stored (k * 3 + 2) (.int .i64 (1 + x))).1
        have HR7 := Lib.hid ((HRr.out.of_block (hgX'.block _ HRr.out.lt (by simp; omega))).setOther (a := ⟨g3, k * 3 + 2, none⟩) (by show w.heap.size ≠ g3; omega) (.int .i64 (1 + x)))
        have HN7 := Lib.hid ((HN.out.of_block (hgX'.block _ HN.out.lt (by simp; omega))).setOther (a := ⟨g3, k * 3 + 2, none⟩) (by show w2.heap.size ≠ g3; omega) (.int .i64 (1 + x)))
        have HC7 := Lib.hid (hcX.grown (grown_set' wX ⟨g3, k * 3 + 2, none⟩ (.int .i64 (1 + x))) (by simp; omega) (fun ad e h0 => by have := HBK3.out ad e h0; simp; exact this))
        have HB7 : Hid (Below w.heap.size w (wX.setCell ⟨g3, k * 3 + 2, none⟩ (.int .i64 (1 + x)))) := bset (below_grown HB.out HB.out.size hgX' (by omega)) (by show _ ≤ g3; omega) _
        clear hcX hgX hgX' wX9
        go_wp2_with fail
        go_roundw
        case rel => exact ⟨k + 1, _, by omega, by go_num, HS7.out, HO7.out, HR7.out, HN7.out, HC7.out, HB7.out⟩
        case measure => simp [intOf]; omega
    · obtain rfl : k = m := by omega
      obtain ⟨r0, r1, r2, r3⟩ := netAt_cells HRr.out
      have f0 := HRr.out.frozen 0
      have f1 := HRr.out.frozen 1
      have f2 := HRr.out.frozen 2
      have f3 := HRr.out.frozen 3
      have hlr := HRr.out.lt
      go_wp2_with fail
      have rs0 : (wr.cell? { block := w.heap.size, off := 0 }).isSome = true := by simp [go_sem, *]
      have rs1 : (wr.cell? { block := w.heap.size, off := 1 }).isSome = true := by simp [go_sem, *]
      have rs2 : (wr.cell? { block := w.heap.size, off := 2 }).isSome = true := by simp [go_sem, *]
      have rs3 : (wr.cell? { block := w.heap.size, off := 3 }).isSome = true := by simp [go_sem, *]
      refine bodyPost_ret (v := (netV M E S a' k c')) (by simp [results, Try.results25, go_sem, rs0, rs1, rs2, rs3]; try rfl) rfl ?_
      refine ⟨M, E, S, L, a', c', by rw [HS.out.len], HS.out.d, fun x hx => ?_, ?_, ?_⟩
      · obtain ⟨j, hj, rfl⟩ := List.getElem_of_mem hx
        exact HS.out.w4 j hj (by rw [← HS.out.len]; exact hj)
      · rw [HS.out.len]
        have o9 := HO.out
        refine ArgRow.own (base := w1.heap.size) (e := 102) ?_
        repeat' (first | with_reducible exact o9 | (with_reducible refine ownsRow_setCell_below ?_ ?_ _) | (dsimp only; omega) | omega)
      · have := HB.out
        (repeat' (first | (with_reducible exact Below.refl _ _) | (with_reducible assumption) | (with_reducible refine balloc ?_ _) | (with_reducible refine Below.drew ?_) | (with_reducible refine below_drewN ?_ _) | (with_reducible refine bset ?_ ?_ _) | (with_reducible refine bstep ?_ (by assumption)) | go_size))
end Go.Proofs.Ytjchindjoailbaa

/- The law on power: the dissipated power is the resistance, and no other potentials with the same difference dissipate less. -/
namespace Go.Proofs.Ytjchindjoailbaa
set_option linter.unusedSimpArgs false
set_option linter.unusedVariables false
open Go.RowKit

theorem rats_set (x : Rz) : ∀ (L : List Rz) (k : Nat), ((rats L).set (k * 2) (.int .i64 x.1)).set (k * 2 + 1) (.int .i64 x.2) = rats (L.set k x)
  | [], k => by simp [rats]
  | e :: t, 0 => by simp [rats, ratC]
  | e :: t, k + 1 => by
    have ih := rats_set x t k
    have e1 : rats (e :: t) = [.int .i64 e.1, .int .i64 e.2] ++ rats t := rfl
    rw [e1, show (k + 1) * 2 = [Value.int .i64 e.1, .int .i64 e.2].length + k * 2 by simp; omega, List.set_append_right _ _ (by omega), Nat.add_sub_cancel_left,
      show [Value.int .i64 e.1, .int .i64 e.2].length + k * 2 + 1 = [Value.int .i64 e.1, .int .i64 e.2].length + (k * 2 + 1) by omega, List.set_append_right _ _ (by omega), Nat.add_sub_cancel_left, ih]
    rfl
set_option maxRecDepth 100000 in
set_option maxHeartbeats 16000000 in
theorem walk_FnPower (a : Option Addr) (n c : Nat) (zs : List Int) (w : World) (hr : ArgRow w a n c 1 (u8s zs)) :
    Calls Try.prog 4 #[.slice a n c] w fun e w' => e = .returned (.bool true) ∧ Below w.heap.size w w' := by
  have hn := hr.le
  unfold maxLen at hn
  by_cases hb : 1048576 < n
  · clear hr
    go_enter Try.func4, Try.ntmps4
    go_wp2_with fail
    go_ret
    exact ⟨rfl, Below.refl _ _⟩
  have HR := Lib.hid hr
  have hn' : n ≤ 1048576 := by omega
  clear hr hb hn
  obtain ⟨i0, hi, hz0, hz1, hz2⟩ := info_parts infoRat
  have HI := Lib.hid (And.intro hi (And.intro hz0 (And.intro hz1 hz2)))
  clear hi hz0 hz1 hz2
  go_enter Try.func4, Try.ntmps4
  go_wp2_with fail
  refine (specMakeSmall a n c zs _ HR.out hn').mono ?_
  rintro e w1 ⟨M, E, S, l, a', c', rfl, hD, hw4, hO, hb1⟩
  have HD := Lib.hid hD
  have HPL := Lib.hid (powerLaw ⟨hD, hw4⟩)
  have B1 : Hid (Below w.heap.size w (w1.alloc (.cells #[.int .i64 M, .int .i64 E, .int .i64 S, .slice a' l.length c'] 25))) := balloc hb1 _
  have N1 : Hid ((w1.alloc (.cells #[.int .i64 M, .int .i64 E, .int .i64 S, .slice a' l.length c'] 25)).rowIs w1.heap.size 25 4 (netAt (.int .i64 M) (.int .i64 E) (.int .i64 S) (.slice a' l.length c'))) := netAt_new _ _ _ _ _ _
  have RW1 : Hid (ArgRow (w1.alloc (.cells #[.int .i64 M, .int .i64 E, .int .i64 S, .slice a' l.length c'] 25)) a' l.length c' 3 (wires l)) := hO.below (balloc (Below.refl _ _) _)
  have hM2 : 2 ≤ M := by have := hD.n2; omega
  have hM4 : M ≤ 4 := by have := hD.nm; omega
  clear hD hO hb1 hw4
  go_upto_region 4 with fail
  obtain ⟨bn, hbn⟩ : ∃ bn, w1.heap.size = bn := ⟨_, rfl⟩
  obtain ⟨wa, hwa⟩ : ∃ wa, w1.alloc (.cells #[.int .i64 M, .int .i64 E, .int .i64 S, .slice a' l.length c'] 25) = wa := ⟨_, rfl⟩
  rw [hwa] at B1 N1 RW1 ⊢
  rw [hbn] at N1 ⊢
  clear hbn hwa
  have hok := HD.out.ok
  have KRes := Lib.hid (fun (w : World) rr => implResistanceOf M E S a' l.length c' l 0 1 ⟨by omega, by omega⟩ ⟨by omega, by omega⟩ hok w rr rfl)
  have HPL2 := HPL.out.p
  have HPX := HPL.out.x
  have KP1 := fun (aq : Option Addr) (cq : Nat) (w : World) r1 r2 => implPowerOf M E S a' l.length c' l aq M cq (potR M S l 0 1 M) true ⟨fun _ => HPL2, fun _ => rfl⟩ w r1 rfl r2
  simp only [sel_true, HPX] at KP1
  have KP1 := Lib.hid KP1
  have HQ := Lib.hid HPL.out.q
  have HPO : PotOk M E S l 0 1 := ⟨hok, ⟨by omega, by omega⟩, ⟨by omega, by omega⟩, by omega⟩
  have KP := fun (w : World) rr => implPotentialsOf M E S a' l.length c' l 0 1 HPO w rr rfl
  unfold PotRes at KP
  have HL := potR_len M S l 0 1 M
  simp only [HL] at KP
  have KP := Lib.hid KP
  have KP2 := (fun (Q : List Rz) (hQ : PowOk M E S l Q) (aq : Option Addr) (cq : Nat) (w : World) r1 r2 => implPowerOf M E S a' l.length c' l aq M cq Q true ⟨fun _ => hQ, fun _ => rfl⟩ w r1 rfl r2)
  simp only [sel_true] at KP2
  have KP2 := Lib.hid KP2
  have HL := Lib.hid HL
  generalize potR M S l 0 1 M = PR at KP KP1 HQ HL HPL2
  generalize hX : Gn.rat (S * forestV M l 0 1) (leftW M l [0] [0]) = X at KRes KP1 HQ
  clear hX HPX HPL HPO hok HPL2
  obtain ⟨X0, X1⟩ := X
  simp only at KRes KP1
  obtain ⟨m0, m1, m2, m3⟩ := netAt_cells N1.out
  have hlb := N1.out.lt
  go_wp2_with fail
  refine (KP.out _ RW1.out).mono ?_
  rintro e we ⟨⟨gp, cp, rfl, op⟩, hbe⟩
  have RP4 := Lib.hid (ArgRow.own op)
  have B4 : Hid (Below w.heap.size w we) := bstep B1.out hbe
  have N4 := Lib.hid (N1.out.of_block (hbe.block _ N1.out.lt))
  have RW4 := Lib.hid (RW1.out.below hbe)
  have hgp : gp < we.heap.size := (own_base op _ rfl).2
  clear op hbe m0 m1 m2 m3 hlb N1 B1 RW1 KP
  obtain ⟨m0, m1, m2, m3⟩ := netAt_cells N4.out
  have hlb := N4.out.lt
  go_wp2_with fail
  refine (KRes.out _ RW4.out).mono ?_
  rintro e wR ⟨rfl, hbR⟩
  have B5 : Hid (Below w.heap.size w wR) := bstep B4.out hbR
  have N5 := Lib.hid (N4.out.of_block (hbR.block _ N4.out.lt))
  have RW5 := Lib.hid (RW4.out.below hbR)
  have RP5 := Lib.hid (RP4.out.below hbR)
  have hgp5 : gp < wR.heap.size := Nat.lt_of_lt_of_le hgp hbR.size
  clear hbR m0 m1 m2 m3 hlb N4 B4 RW4 RP4 KRes hgp
  obtain ⟨m0, m1, m2, m3⟩ := netAt_cells N5.out
  have hlb := N5.out.lt
  go_wp2_with fail
  refine (KP1.out _ _ _ (RW5.out.below (balloc (Below.refl _ _) _)) (RP5.out.below (balloc (Below.refl _ _) _))).mono ?_
  rintro e wS ⟨rfl, hbS⟩
  have NX : Hid (wS.rowIs wR.heap.size 32 2 (ratAt (X0, X1))) := (ratAt_new wR X0 X1 32).of_block (hbS.block _ (by simp))
  have B6 : Hid (Below w.heap.size w wS) := bstep (balloc B5.out _) hbS
  have N6 := Lib.hid ((N5.out.alloc _).of_block (hbS.block _ (N5.out.alloc _).lt))
  have RW6 := Lib.hid ((RW5.out.below (balloc (Below.refl _ _) _)).below hbS)
  have RP6 := Lib.hid ((RP5.out.below (balloc (Below.refl _ _) _)).below hbS)
  have hgp6 : gp < wS.heap.size := by have := hbS.size; simp at this; omega
  clear hbS m0 m1 m2 m3 hlb N5 B5 RW5 RP5 KP1 hgp5
  obtain ⟨m0, m1, m2, m3⟩ := netAt_cells N6.out
  have hlb := N6.out.lt
  obtain ⟨x0, x1⟩ := ratAt_cells NX.out
  have hlx := NX.out.lt
  have hMM : ((M : Int) != (M : Int)) = false := by simp
  obtain ⟨v, hv⟩ : ∃ v : Nat, v = M - 1 := ⟨_, rfl⟩
  have hvw : IntKind.i64.wrap ((M : Int) - 1) = (v : Int) := by rw [IntWalk.i64_in _ (by omega)]; omega
  have hvw2 : wrap64 ((M : Int) - 1) = (v : Int) := by unfold wrap64; omega
  have HV := Lib.hid hv
  have hvM : v < M := by omega
  clear hv
  by_cases h2 : v < 2
  · go_wp2_with fail
    go_ret
    exact ⟨rfl, by have := B6.out; (repeat' (first | (with_reducible exact Below.refl _ _) | (with_reducible assumption) | (with_reducible refine balloc ?_ _) | (with_reducible refine Below.drew ?_) | (with_reducible refine below_drewN ?_ _) | (with_reducible refine bset ?_ ?_ _) | (with_reducible refine bstep ?_ (by assumption)) | go_size))⟩
  have hv3 : 3 ≤ M := by omega
  have h2' : ¬ (v : Int) < 2 := by omega
  have h2'' : ((v : Int) < 2) = False := by simp; omega
  have N7 : Hid ((wS.alloc (.cells #[.int .i64 X0, .int .i64 X1] 32)).rowIs bn 25 4 (netAt (.int .i64 M) (.int .i64 E) (.int .i64 S) (.slice a' l.length c'))) := N6.out.alloc _
  have NX7 : Hid ((wS.alloc (.cells #[.int .i64 X0, .int .i64 X1] 32)).rowIs wS.heap.size 32 2 (ratAt (X0, X1))) := ratAt_new _ _ _ _
  have RW7 : Hid (ArgRow (wS.alloc (.cells #[.int .i64 X0, .int .i64 X1] 32)) a' l.length c' 3 (wires l)) := RW6.out.below (balloc (Below.refl _ _) _)
  have RP7 : Hid (ArgRow (wS.alloc (.cells #[.int .i64 X0, .int .i64 X1] 32)) (some ⟨gp, 0, none⟩) M cp 2 (rats PR)) := RP6.out.below (balloc (Below.refl _ _) _)
  have B7 : Hid (Below w.heap.size w (wS.alloc (.cells #[.int .i64 X0, .int .i64 X1] 32))) := balloc B6.out _
  have hgp7 : gp < (wS.alloc (.cells #[.int .i64 X0, .int .i64 X1] 32)).heap.size := by simp; omega
  have hown : ((wS.alloc (.cells #[.int .i64 X0, .int .i64 X1] 32)).alloc (.cells #[] 32)).ownsRow (wS.heap.size + 1) 32 2 (.slice (some ⟨wS.heap.size + 1, 0, none⟩) 0 0) 0 [] := by
    have h := World.ownsRow_lit (e := 32) (base := (wS.alloc (.cells #[.int .i64 X0, .int .i64 X1] 32)).heap.size) (size := 2) (wS.alloc (.cells #[.int .i64 X0, .int .i64 X1] 32)) #[] 0 (Nat.le_refl _) (by simp) rfl
    simpa only [World.size_alloc] using h
  have hnews : ∀ j u, (rats PR)[j]? = some u → ((wS.alloc (.cells #[.int .i64 X0, .int .i64 X1] 32)).alloc (.cells #[] 32)).cell? ((⟨gp, 0, none⟩ : Addr).add j) = some u := by
    intro j u hu
    obtain ⟨hj, rfl⟩ := List.getElem?_eq_some_iff.1 hu
    obtain ⟨b, off, e, _, hcc⟩ := (RP7.out.below (balloc (Below.refl _ _) (.cells #[] 32))).form (by omega)
    cases e
    rw [Addr.add_lit]
    exact hcc j hj
  have hone : ∀ u ∈ rats PR, u.oneCell' = true := by
    intro u hu
    unfold rats at hu
    rw [List.mem_flatMap] at hu
    obtain ⟨z, _, h⟩ := hu
    simp [ratC] at h
    rcases h with rfl | rfl <;> rfl
  have hlr := RP7.out.1
  go_wp2_with (at_builtin; refine wpList_append_own _ rfl (.tmp 62) (.tmp 63) 28 rfl (wS.heap.size + 1) 32 i0 (.agg #[.int .i64 0, .int .i64 0]) 2 16 Try.underlying28 HI.out.1 HI.out.2.1 HI.out.2.2.1 HI.out.2.2.2 rfl (by decide) _ _ _ rfl hown ⟨gp, 0, none⟩ M cp (rats PR) rfl ?c1 ?c2 ?c3 ?c4 ?c5 ?c6 ?_)
  case c1 => exact hlr
  case c2 => exact hnews
  case c3 => exact hone
  case c4 => unfold maxLen; omega
  case c5 => omega
  case c6 => simp
  intro v' w8 hown' hgrow _
  obtain ⟨gq, cq, rfl⟩ := own_some hown' (by omega)
  have hgq := own_base hown' _ rfl
  simp only at hgq
  have B8' : Below (wS.alloc (.cells #[.int .i64 X0, .int .i64 X1] 32)).heap.size (wS.alloc (.cells #[.int .i64 X0, .int .i64 X1] 32)) w8 := (balloc (Below.refl _ _) _).grown hgrow (by simp) (fun k hk => by simp [Value.ownBlock] at hk ⊢; omega)
  have B8 : Hid (Below w.heap.size w w8) := bstep B7.out B8'
  have N8 := Lib.hid (N7.out.of_block (B8'.block _ N7.out.lt))
  have NX8 := Lib.hid (NX7.out.of_block (B8'.block _ NX7.out.lt))
  have RW8 := Lib.hid (RW7.out.below B8')
  have RP8 := Lib.hid (RP7.out.below B8')
  have OQ := Lib.hid hown'
  have hgp8 : gp < w8.heap.size := Nat.lt_of_lt_of_le hgp7 B8'.size
  have hne1 : ¬ gq = gp := by omega
  have hne2 : ¬ gp = gq := by omega
  have hvl : v < PR.length := by rw [HL.out]; exact hvM
  obtain ⟨pv0, pv1⟩ := rat_cells RP8.out v hvl
  simp only [Nat.zero_add] at pv0 pv1
  have qv0 : w8.cell? ⟨gq, v * 2, none⟩ = some (.int .i64 PR[v].1) := by
    have := (rat_cells (ArgRow.own hown') v hvl).1
    simpa only [Nat.zero_add] using this
  have qv1 : w8.cell? ⟨gq, v * 2 + 1, none⟩ = some (.int .i64 PR[v].2) := by
    have := (rat_cells (ArgRow.own hown') v hvl).2
    simpa only [Nat.zero_add] using this
  have qf0 := hown'.frozenAt (v * 2)
  have qf1 := hown'.frozenAt (v * 2 + 1)
  have HRV : Hid (getR PR v = PR[v]) := getR_eq hvl
  obtain ⟨r, hr⟩ : ∃ r, PR[v] = r := ⟨_, rfl⟩
  rw [hr] at pv0 pv1 qv0 qv1 HRV
  obtain ⟨r0, r1⟩ := r
  simp only at pv0 pv1 qv0 qv1
  have hgq2 := hgq.2
  have hvi1 : (0 : Int) ≤ v := by omega
  have hvi2 : (v : Int) < M := by omega
  have HB8 := Lib.hid B8'
  clear hown hnews hone hlr hown' hgrow N6 NX RW6 RP6 B6 m0 m1 m2 m3 hlb x0 x1 hlx hgp6 hvw hvw2 hMM B8' hr hvl
  have KNum : Hid (∀ w : World, ArgRow w a n c 1 (u8s zs) → Calls Try.prog 16 #[.slice a n c, .int .i64 40] w fun e w' => ∃ x : Int, e = .returned (.int .i64 x) ∧ (0 ≤ x ∧ x < 65536) ∧ Below w.heap.size w w') := fun w rr => specNum 40 (by omega) a n c zs w rr hn'
  have BW : Hid (Below w.heap.size w w8.drew) := B8.out.drew
  go_wp2_with fail
  go_region_held3 (fun w' => w'.cell? ⟨gp, v * 2, none⟩ = some (.int .i64 r0) ∧ w'.cell? ⟨gp, v * 2 + 1, none⟩ = some (.int .i64 r1)) (go_keep)
    ((first
    | (go_at_call 16; ((with_reducible refine (KNum.out _ (HR.out.below BW.out)).mono ?_); rintro e wX ⟨x, rfl, hx, hbX⟩); (try (replace hbX := bdrew hbX)); obtain ⟨t, ht, ht2, htw1, htw2⟩ : ∃ t : Int, Int.tmod x 9 = t + 4 ∧ (-4 ≤ t ∧ t ≤ 4) ∧ IntKind.i64.wrap (t + 4) = t + 4 ∧ IntKind.i64.wrap t = t := ⟨x % 9 - 4, by rw [Int.tmod_eq_emod_of_nonneg hx.1]; omega, by omega, IntWalk.i64_in _ (by omega), IntWalk.i64_in _ (by omega)⟩; (try (have hq_ := bltn hbX (b := gp) (by (first | omega | (simp only [World.size_alloc, World.size_setCell, World.size_drew, World.heap_drewN]; omega))); obtain ⟨uu, vv, zz, nn, mm⟩ := hq_)); (try (have hq_ := bltn hbX (b := gq) (by (first | omega | (simp only [World.size_alloc, World.size_setCell, World.size_drew, World.heap_drewN]; omega))); obtain ⟨uu, vv, zz, nn, mm⟩ := hq_)))
    | (go_at_call 21; ((with_reducible refine (implRatioOf t 7 _ (by omega) (by omega) (by omega) (by omega)).mono ?_); rintro e wY ⟨rfl, hbY⟩); (try (have hq_ := bltn hbY (b := gp) (by (first | omega | (simp only [World.size_alloc, World.size_setCell, World.size_drew, World.heap_drewN]; omega))); obtain ⟨uu, vv, zz, nn, mm⟩ := hq_)); (try (have hq_ := bltn hbY (b := gq) (by (first | omega | (simp only [World.size_alloc, World.size_setCell, World.size_drew, World.heap_drewN]; omega))); obtain ⟨uu, vv, zz, nn, mm⟩ := hq_)))
    | (go_at_call 23; ((with_reducible refine (implSumR (r0, r1) (Gn.rat t 7) _).mono ?_); rintro e wZ ⟨rfl, hbZ⟩); (try (have hq_ := bltn hbZ (b := gp) (by (first | omega | (simp only [World.size_alloc, World.size_setCell, World.size_drew, World.heap_drewN]; omega))); obtain ⟨uu, vv, zz, nn, mm⟩ := hq_)); (try (have hq_ := bltn hbZ (b := gq) (by (first | omega | (simp only [World.size_alloc, World.size_setCell, World.size_drew, World.heap_drewN]; omega))); obtain ⟨uu, vv, zz, nn, mm⟩ := hq_)))))
  all_goals
    have B9 : Below w8.heap.size w8 wZ := bstep (bstep hbX hbY) hbZ
    obtain ⟨pok, e1, e2, okY, okX, hge⟩ := HQ.out t ht2 hv3 v HV.out (r0, r1) HRV.out _ rfl
    have OQ9 : Hid (((wZ.setCell ⟨gq, v * 2, none⟩ (.int .i64 (addR (r0, r1) (Gn.rat t 7)).1)).setCell ⟨gq, v * 2 + 1, none⟩ (.int .i64 (addR (r0, r1) (Gn.rat t 7)).2)).ownsRow (wS.heap.size + 1) 32 2 (.slice (some ⟨gq, 0, none⟩) M cq) M (rats (PR.set v (addR (r0, r1) (Gn.rat t 7))))) := by
      show World.ownsRow _ _ _ _ _ _ _
      rw [← rats_set]
      exact (((own_below OQ.out B9).stored (v * 2) _).1.stored (v * 2 + 1) _).1
    have BQ : Below (wS.alloc (.cells #[.int .i64 X0, .int .i64 X1] 32)).heap.size (wS.alloc (.cells #[.int .i64 X0, .int .i64 X1] 32)) ((wZ.setCell ⟨gq, v * 2, none⟩ (.int .i64 (addR (r0, r1) (Gn.rat t 7)).1)).setCell ⟨gq, v * 2 + 1, none⟩ (.int .i64 (addR (r0, r1) (Gn.rat t 7)).2)) := bset (bset (bstep HB8.out B9) (by simp; omega) _) (by simp; omega) _
    have KPQ := Lib.hid (KP2.out _ pok)
    generalize addR (r0, r1) (Gn.rat t 7) = Qv at *
    obtain ⟨q0, q1⟩ := Qv
    generalize powL S (PR.set v (q0, q1)) l = Y at *
    obtain ⟨y0, y1⟩ := Y
    simp only at *
    obtain ⟨wQ, hwQ⟩ : ∃ wQ, (wZ.setCell ⟨gq, v * 2, none⟩ (.int .i64 q0)).setCell ⟨gq, v * 2 + 1, none⟩ (.int .i64 q1) = wQ := ⟨_, rfl⟩
    rw [hwQ] at OQ9 BQ ⊢
    have N9 := Lib.hid (N7.out.of_block (BQ.block _ N7.out.lt))
    have NX9 := Lib.hid (NX7.out.of_block (BQ.block _ NX7.out.lt))
    have RW9 := Lib.hid (RW7.out.below BQ)
    have RP9 := Lib.hid (RP7.out.below BQ)
    have BB9 : Hid (Below w.heap.size w wQ) := bstep B7.out BQ
    have hlQ : PR.length = M := HL.out
    obtain ⟨pv0, pv1⟩ := rat_cells RP9.out v (by omega)
    have hRV2 : PR[v]'(by omega) = (r0, r1) := by rw [← HRV.out]; exact (getR_eq (by omega)).symm
    rw [hRV2] at pv0 pv1
    simp only [Nat.zero_add] at pv0 pv1
    have hgpQ : gp < wQ.heap.size := by have := BQ.size; simp at this hgp7; omega
    obtain ⟨qv0, qv1⟩ := rat_cells (ArgRow.own OQ9.out) v (by rw [List.length_set]; omega)
    simp only [Nat.zero_add, List.getElem_set_self] at qv0 qv1
    have hgqQ := (own_base OQ9.out _ rfl).2
    simp only at hgqQ
    have hcase : (q0 = r0 ∧ q1 = r1 ∧ y0 = X0 ∧ y1 = X1) ∨ (¬ ((q0, q1) : Rz) = (r0, r1) ∧ ¬ ((y0, y1) : Rz) = (X0, X1)) := by
      by_cases ht0 : t = 0
      · have f1 := e1.2 ht0
        have f2 := e2.2 ht0
        simp only [Prod.mk.injEq] at f1 f2
        exact .inl ⟨f1.1, f1.2, f2.1, f2.2⟩
      · exact .inr ⟨fun h => ht0 (e1.1 h), fun h => ht0 (e2.1 h)⟩
    have KC := fun w => implCmp y0 y1 X0 X1 w true ⟨fun _ => ⟨okY, okX⟩, fun _ => rfl⟩
    have hsg : 0 ≤ sg (y0 * X1 - X0 * y1) := by
      unfold sg
      rw [if_neg (by omega)]
      split <;> omega
    simp only [cmpR_true] at KC
    generalize sg (y0 * X1 - X0 * y1) = sgn at KC hsg
    have KC := Lib.hid KC
    clear hwQ hbX hbY hbZ B9 e1 e2 okY okX hge pok OQ BQ HRV HV HQ HL hlQ hRV2 N7 NX7 RW7 RP7 B7 HB8 N8 NX8 RW8 RP8 B8 qf0 qf1 RP9 htw1 htw2 ht ht2 hx uu vv zz nn mm
    obtain ⟨m0, m1, m2, m3⟩ := netAt_cells N9.out
    have hlb := N9.out.lt
    go_wp2_with fail
    refine (KPQ.out _ _ _ RW9.out (ArgRow.own OQ9.out)).mono ?_
    rintro e wU ⟨rfl, hbU⟩
    have HU : Hid (Below wQ.heap.size wQ (wU.alloc (.cells #[.int .i64 y0, .int .i64 y1] 32))) := balloc hbU _
    have BU : Hid (Below w.heap.size w (wU.alloc (.cells #[.int .i64 y0, .int .i64 y1] 32))) := bstep BB9.out HU.out
    have hszU := hbU.size
    obtain ⟨x0, x1⟩ := ratAt_cells NX9.out
    have hlx := NX9.out.lt
    have hrd : Hid (∀ w', Below (wU.heap.size + 1) (wU.alloc (.cells #[.int .i64 y0, .int .i64 y1] 32)) w' → w'.cell? ⟨wU.heap.size, 0, none⟩ = some (.int .i64 y0) ∧ w'.cell? ⟨wU.heap.size, 1, none⟩ = some (.int .i64 y1) ∧ w'.cell? ⟨wS.heap.size, 0, none⟩ = some (.int .i64 X0) ∧ w'.cell? ⟨wS.heap.size, 1, none⟩ = some (.int .i64 X1) ∧ w'.cell? ⟨gq, v * 2, none⟩ = some (.int .i64 q0) ∧ w'.cell? ⟨gq, v * 2 + 1, none⟩ = some (.int .i64 q1) ∧ w'.cell? ⟨gp, v * 2, none⟩ = some (.int .i64 r0) ∧ w'.cell? ⟨gp, v * 2 + 1, none⟩ = some (.int .i64 r1)) := by
      intro w' h
      obtain ⟨f0, f1⟩ := ratAt_cells (ratAt_new wU y0 y1 32)
      have h2 : Below wQ.heap.size wQ w' := HU.out.trans (h.mono (by omega))
      exact ⟨(h.cell (p := ⟨wU.heap.size, 0, none⟩) (by show wU.heap.size < _; simp)).trans f0, (h.cell (p := ⟨wU.heap.size, 1, none⟩) (by show wU.heap.size < _; simp)).trans f1, (h2.cell (p := ⟨wS.heap.size, 0, none⟩) hlx).trans x0, (h2.cell (p := ⟨wS.heap.size, 1, none⟩) hlx).trans x1, (h2.cell (p := ⟨gq, _, none⟩) hgqQ).trans qv0, (h2.cell (p := ⟨gq, _, none⟩) hgqQ).trans qv1, (h2.cell (p := ⟨gp, _, none⟩) hgpQ).trans pv0, (h2.cell (p := ⟨gp, _, none⟩) hgpQ).trans pv1⟩
    clear hbU m0 m1 m2 m3 hlb N9 NX9 RW9 OQ9 KPQ x0 x1 qv0 qv1 pv0 pv1 BB9
    rcases hcase with ⟨rfl, rfl, rfl, rfl⟩ | ⟨hq9, hy9⟩
    · skip
      go_wp2_with fail
      refine wp_region_quiet (C := fun w' => Below (wU.heap.size + 1) (wU.alloc (.cells #[.int .i64 y0, .int .i64 y1] 32)) w') (by kernel_rfl) (by kernel_rfl) (Below.refl _ _).drew ?_
      refine wpQuiet_step (fun K hK => ?_)
      go_simp
      apply Exists.intro
      constructor
      · intro w' hw'; exact rfl
      refine hK _ ?_
      clear hK K
      refine wpQuiet_step (fun K hK => ?_)
      go_simp
      apply Exists.intro
      constructor
      · intro w' hw'; exact rfl
      refine hK _ ?_
      clear hK K
      refine wpQuiet_step (fun K hK => ?_)
      go_simp
      refine ⟨.agg #[.int .i64 y0, .int .i64 y1], fun w' hw' => ?_, hK _ ?_⟩
      · obtain ⟨g0, g1, g2, g3, g4, g5, g6, g7⟩ := hrd.out w' hw'
        go_simp
      clear hK K
      refine wpQuiet_step (fun K hK => ?_)
      go_simp
      refine ⟨.agg #[.int .i64 y0, .int .i64 y1], fun w' hw' => ?_, hK _ ?_⟩
      · obtain ⟨g0, g1, g2, g3, g4, g5, g6, g7⟩ := hrd.out w' hw'
        go_simp
      clear hK K
      refine wpQuiet_step (fun K hK => ?_)
      go_simp
      refine ⟨.int .i64 sgn, fun w' hw' => (KC.out w').mono (fun e w'' h => ⟨h.1, hw'.trans (h.2.mono (by have := hw'.size; simpa using this))⟩), hK _ ?_⟩
      clear hK K
      refine wpQuiet_step (fun K hK => ?_)
      go_simp
      apply Exists.intro
      constructor
      · intro w' hw'; exact rfl
      refine hK _ ?_
      clear hK K
      refine wpQuiet_step (fun K hK => ?_)
      go_simp
      apply Exists.intro
      constructor
      · intro w' hw'; exact rfl
      refine hK _ ?_
      clear hK K
      refine wpQuiet_step (fun K hK => ?_)
      go_simp
      apply Exists.intro
      constructor
      · intro w' hw'; exact rfl
      refine hK _ ?_
      clear hK K
      refine wpQuiet_step (fun K hK => ?_)
      go_simp
      apply Exists.intro
      constructor
      · intro w' hw'; exact rfl
      refine hK _ ?_
      clear hK K
      refine wpQuiet_step (fun K hK => ?_)
      go_simp
      apply Exists.intro
      constructor
      · intro w' hw'; exact rfl
      refine hK _ ?_
      clear hK K
      refine wpQuiet_step (fun K hK => ?_)
      go_simp
      apply Exists.intro
      constructor
      · intro w' hw'; exact rfl
      refine hK _ ?_
      clear hK K
      refine wpQuiet_step (fun K hK => ?_)
      go_simp
      refine ⟨.agg #[.int .i64 q0, .int .i64 q1], fun w' hw' => ?_, hK _ ?_⟩
      · obtain ⟨g0, g1, g2, g3, g4, g5, g6, g7⟩ := hrd.out w' hw'
        go_simp
      clear hK K
      refine wpQuiet_step (fun K hK => ?_)
      go_simp
      apply Exists.intro
      constructor
      · intro w' hw'; exact rfl
      refine hK _ ?_
      clear hK K
      refine wpQuiet_step (fun K hK => ?_)
      go_simp
      apply Exists.intro
      constructor
      · intro w' hw'; exact rfl
      refine hK _ ?_
      clear hK K
      refine wpQuiet_step (fun K hK => ?_)
      go_simp
      apply Exists.intro
      constructor
      · intro w' hw'; exact rfl
      refine hK _ ?_
      clear hK K
      refine wpQuiet_step (fun K hK => ?_)
      go_simp
      refine ⟨.agg #[.int .i64 q0, .int .i64 q1], fun w' hw' => ?_, hK _ ?_⟩
      · obtain ⟨g0, g1, g2, g3, g4, g5, g6, g7⟩ := hrd.out w' hw'
        go_simp
      clear hK K
      refine wpQuiet_step (fun K hK => ?_)
      go_simp
      apply Exists.intro
      constructor
      · intro w' hw'; exact rfl
      refine hK _ ?_
      clear hK K
      refine wpQuiet_step (fun K hK => ?_)
      go_simp
      refine ⟨.agg #[.int .i64 y0, .int .i64 y1], fun w' hw' => ?_, hK _ ?_⟩
      · obtain ⟨g0, g1, g2, g3, g4, g5, g6, g7⟩ := hrd.out w' hw'
        go_simp
      clear hK K
      refine wpQuiet_step (fun K hK => ?_)
      go_simp
      refine ⟨.agg #[.int .i64 y0, .int .i64 y1], fun w' hw' => ?_, hK _ ?_⟩
      · obtain ⟨g0, g1, g2, g3, g4, g5, g6, g7⟩ := hrd.out w' hw'
        go_simp
      clear hK K
      refine wpQuiet_step (fun K hK => ?_)
      go_simp
      apply Exists.intro
      constructor
      · intro w' hw'; exact rfl
      refine hK _ ?_
      clear hK K
      refine wpQuiet_step (fun K hK => ?_)
      go_simp
      apply Exists.intro
      constructor
      · intro w' hw'; exact rfl
      refine hK _ ?_
      clear hK K
      refine wpQuiet_step (fun K hK => ?_)
      go_simp
      apply Exists.intro
      constructor
      · intro w' hw'; exact rfl
      refine hK _ ?_
      clear hK K
      refine wpQuiet_step (fun K hK => ?_)
      go_simp
      apply Exists.intro
      constructor
      · intro w' hw'; exact rfl
      refine hK _ ?_
      clear hK K
      refine wpQuiet_nil ?_
      intro wF hF
      have BF : Hid (Below w.heap.size w wF) := BU.out.trans (hF.mono (by have := BU.out.size; simpa using this))
      clear hF
      go_wp2_with fail
      go_ret
      exact ⟨rfl, BF.out⟩
    · rcases bne_pair hq9 with hq1 | ⟨hq1, hq2⟩
      · rcases bne_pair hy9 with hy1 | ⟨hy1, hy2⟩
        · simp only at hq1 hy1
          clear hq9 hy9
          go_wp2_with fail
          refine wp_region_quiet (C := fun w' => Below (wU.heap.size + 1) (wU.alloc (.cells #[.int .i64 y0, .int .i64 y1] 32)) w') (by kernel_rfl) (by kernel_rfl) (Below.refl _ _).drew ?_
          refine wpQuiet_step (fun K hK => ?_)
          go_simp
          apply Exists.intro
          constructor
          · intro w' hw'; exact rfl
          refine hK _ ?_
          clear hK K
          refine wpQuiet_step (fun K hK => ?_)
          go_simp
          apply Exists.intro
          constructor
          · intro w' hw'; exact rfl
          refine hK _ ?_
          clear hK K
          refine wpQuiet_step (fun K hK => ?_)
          go_simp
          refine ⟨.agg #[.int .i64 y0, .int .i64 y1], fun w' hw' => ?_, hK _ ?_⟩
          · obtain ⟨g0, g1, g2, g3, g4, g5, g6, g7⟩ := hrd.out w' hw'
            go_simp
          clear hK K
          refine wpQuiet_step (fun K hK => ?_)
          go_simp
          refine ⟨.agg #[.int .i64 X0, .int .i64 X1], fun w' hw' => ?_, hK _ ?_⟩
          · obtain ⟨g0, g1, g2, g3, g4, g5, g6, g7⟩ := hrd.out w' hw'
            go_simp
          clear hK K
          refine wpQuiet_step (fun K hK => ?_)
          go_simp
          refine ⟨.int .i64 sgn, fun w' hw' => (KC.out w').mono (fun e w'' h => ⟨h.1, hw'.trans (h.2.mono (by have := hw'.size; simpa using this))⟩), hK _ ?_⟩
          clear hK K
          refine wpQuiet_step (fun K hK => ?_)
          go_simp
          apply Exists.intro
          constructor
          · intro w' hw'; exact rfl
          refine hK _ ?_
          clear hK K
          refine wpQuiet_step (fun K hK => ?_)
          go_simp
          apply Exists.intro
          constructor
          · intro w' hw'; exact rfl
          refine hK _ ?_
          clear hK K
          refine wpQuiet_step (fun K hK => ?_)
          go_simp
          apply Exists.intro
          constructor
          · intro w' hw'; exact rfl
          refine hK _ ?_
          clear hK K
          refine wpQuiet_step (fun K hK => ?_)
          go_simp
          apply Exists.intro
          constructor
          · intro w' hw'; exact rfl
          refine hK _ ?_
          clear hK K
          refine wpQuiet_step (fun K hK => ?_)
          go_simp
          apply Exists.intro
          constructor
          · intro w' hw'; exact rfl
          refine hK _ ?_
          clear hK K
          refine wpQuiet_step (fun K hK => ?_)
          go_simp
          apply Exists.intro
          constructor
          · intro w' hw'; exact rfl
          refine hK _ ?_
          clear hK K
          refine wpQuiet_step (fun K hK => ?_)
          go_simp
          refine ⟨.agg #[.int .i64 q0, .int .i64 q1], fun w' hw' => ?_, hK _ ?_⟩
          · obtain ⟨g0, g1, g2, g3, g4, g5, g6, g7⟩ := hrd.out w' hw'
            go_simp
          clear hK K
          refine wpQuiet_step (fun K hK => ?_)
          go_simp
          apply Exists.intro
          constructor
          · intro w' hw'; exact rfl
          refine hK _ ?_
          clear hK K
          refine wpQuiet_step (fun K hK => ?_)
          go_simp
          apply Exists.intro
          constructor
          · intro w' hw'; exact rfl
          refine hK _ ?_
          clear hK K
          refine wpQuiet_step (fun K hK => ?_)
          go_simp
          apply Exists.intro
          constructor
          · intro w' hw'; exact rfl
          refine hK _ ?_
          clear hK K
          refine wpQuiet_step (fun K hK => ?_)
          go_simp
          refine ⟨.agg #[.int .i64 r0, .int .i64 r1], fun w' hw' => ?_, hK _ ?_⟩
          · obtain ⟨g0, g1, g2, g3, g4, g5, g6, g7⟩ := hrd.out w' hw'
            go_simp
          clear hK K
          refine wpQuiet_step (fun K hK => ?_)
          go_simp
          apply Exists.intro
          constructor
          · intro w' hw'; exact rfl
          refine hK _ ?_
          clear hK K
          refine wpQuiet_step (fun K hK => ?_)
          go_simp
          refine ⟨.agg #[.int .i64 y0, .int .i64 y1], fun w' hw' => ?_, hK _ ?_⟩
          · obtain ⟨g0, g1, g2, g3, g4, g5, g6, g7⟩ := hrd.out w' hw'
            go_simp
          clear hK K
          refine wpQuiet_step (fun K hK => ?_)
          go_simp
          refine ⟨.agg #[.int .i64 X0, .int .i64 X1], fun w' hw' => ?_, hK _ ?_⟩
          · obtain ⟨g0, g1, g2, g3, g4, g5, g6, g7⟩ := hrd.out w' hw'
            go_simp
          clear hK K
          refine wpQuiet_step (fun K hK => ?_)
          go_simp
          apply Exists.intro
          constructor
          · intro w' hw'; exact rfl
          refine hK _ ?_
          clear hK K
          refine wpQuiet_step (fun K hK => ?_)
          go_simp
          apply Exists.intro
          constructor
          · intro w' hw'; exact rfl
          refine hK _ ?_
          clear hK K
          refine wpQuiet_step (fun K hK => ?_)
          go_simp
          apply Exists.intro
          constructor
          · intro w' hw'; exact rfl
          refine hK _ ?_
          clear hK K
          refine wpQuiet_step (fun K hK => ?_)
          go_simp
          apply Exists.intro
          constructor
          · intro w' hw'; exact rfl
          refine hK _ ?_
          clear hK K
          refine wpQuiet_nil ?_
          intro wF hF
          have BF : Hid (Below w.heap.size w wF) := BU.out.trans (hF.mono (by have := BU.out.size; simpa using this))
          clear hF
          go_wp2_with fail
          go_ret
          exact ⟨rfl, BF.out⟩
        · simp only at hq1 hy1 hy2
          clear hq9 hy9
          subst hy1
          go_wp2_with fail
          refine wp_region_quiet (C := fun w' => Below (wU.heap.size + 1) (wU.alloc (.cells #[.int .i64 y0, .int .i64 y1] 32)) w') (by kernel_rfl) (by kernel_rfl) (Below.refl _ _).drew ?_
          refine wpQuiet_step (fun K hK => ?_)
          go_simp
          apply Exists.intro
          constructor
          · intro w' hw'; exact rfl
          refine hK _ ?_
          clear hK K
          refine wpQuiet_step (fun K hK => ?_)
          go_simp
          apply Exists.intro
          constructor
          · intro w' hw'; exact rfl
          refine hK _ ?_
          clear hK K
          refine wpQuiet_step (fun K hK => ?_)
          go_simp
          refine ⟨.agg #[.int .i64 y0, .int .i64 y1], fun w' hw' => ?_, hK _ ?_⟩
          · obtain ⟨g0, g1, g2, g3, g4, g5, g6, g7⟩ := hrd.out w' hw'
            go_simp
          clear hK K
          refine wpQuiet_step (fun K hK => ?_)
          go_simp
          refine ⟨.agg #[.int .i64 y0, .int .i64 X1], fun w' hw' => ?_, hK _ ?_⟩
          · obtain ⟨g0, g1, g2, g3, g4, g5, g6, g7⟩ := hrd.out w' hw'
            go_simp
          clear hK K
          refine wpQuiet_step (fun K hK => ?_)
          go_simp
          refine ⟨.int .i64 sgn, fun w' hw' => (KC.out w').mono (fun e w'' h => ⟨h.1, hw'.trans (h.2.mono (by have := hw'.size; simpa using this))⟩), hK _ ?_⟩
          clear hK K
          refine wpQuiet_step (fun K hK => ?_)
          go_simp
          apply Exists.intro
          constructor
          · intro w' hw'; exact rfl
          refine hK _ ?_
          clear hK K
          refine wpQuiet_step (fun K hK => ?_)
          go_simp
          apply Exists.intro
          constructor
          · intro w' hw'; exact rfl
          refine hK _ ?_
          clear hK K
          refine wpQuiet_step (fun K hK => ?_)
          go_simp
          apply Exists.intro
          constructor
          · intro w' hw'; exact rfl
          refine hK _ ?_
          clear hK K
          refine wpQuiet_step (fun K hK => ?_)
          go_simp
          apply Exists.intro
          constructor
          · intro w' hw'; exact rfl
          refine hK _ ?_
          clear hK K
          refine wpQuiet_step (fun K hK => ?_)
          go_simp
          apply Exists.intro
          constructor
          · intro w' hw'; exact rfl
          refine hK _ ?_
          clear hK K
          refine wpQuiet_step (fun K hK => ?_)
          go_simp
          apply Exists.intro
          constructor
          · intro w' hw'; exact rfl
          refine hK _ ?_
          clear hK K
          refine wpQuiet_step (fun K hK => ?_)
          go_simp
          refine ⟨.agg #[.int .i64 q0, .int .i64 q1], fun w' hw' => ?_, hK _ ?_⟩
          · obtain ⟨g0, g1, g2, g3, g4, g5, g6, g7⟩ := hrd.out w' hw'
            go_simp
          clear hK K
          refine wpQuiet_step (fun K hK => ?_)
          go_simp
          apply Exists.intro
          constructor
          · intro w' hw'; exact rfl
          refine hK _ ?_
          clear hK K
          refine wpQuiet_step (fun K hK => ?_)
          go_simp
          apply Exists.intro
          constructor
          · intro w' hw'; exact rfl
          refine hK _ ?_
          clear hK K
          refine wpQuiet_step (fun K hK => ?_)
          go_simp
          apply Exists.intro
          constructor
          · intro w' hw'; exact rfl
          refine hK _ ?_
          clear hK K
          refine wpQuiet_step (fun K hK => ?_)
          go_simp
          refine ⟨.agg #[.int .i64 r0, .int .i64 r1], fun w' hw' => ?_, hK _ ?_⟩
          · obtain ⟨g0, g1, g2, g3, g4, g5, g6, g7⟩ := hrd.out w' hw'
            go_simp
          clear hK K
          refine wpQuiet_step (fun K hK => ?_)
          go_simp
          apply Exists.intro
          constructor
          · intro w' hw'; exact rfl
          refine hK _ ?_
          clear hK K
          refine wpQuiet_step (fun K hK => ?_)
          go_simp
          refine ⟨.agg #[.int .i64 y0, .int .i64 y1], fun w' hw' => ?_, hK _ ?_⟩
          · obtain ⟨g0, g1, g2, g3, g4, g5, g6, g7⟩ := hrd.out w' hw'
            go_simp
          clear hK K
          refine wpQuiet_step (fun K hK => ?_)
          go_simp
          refine ⟨.agg #[.int .i64 y0, .int .i64 X1], fun w' hw' => ?_, hK _ ?_⟩
          · obtain ⟨g0, g1, g2, g3, g4, g5, g6, g7⟩ := hrd.out w' hw'
            go_simp
          clear hK K
          refine wpQuiet_step (fun K hK => ?_)
          go_simp
          apply Exists.intro
          constructor
          · intro w' hw'; exact rfl
          refine hK _ ?_
          clear hK K
          refine wpQuiet_step (fun K hK => ?_)
          go_simp
          apply Exists.intro
          constructor
          · intro w' hw'; exact rfl
          refine hK _ ?_
          clear hK K
          refine wpQuiet_step (fun K hK => ?_)
          go_simp
          apply Exists.intro
          constructor
          · intro w' hw'; exact rfl
          refine hK _ ?_
          clear hK K
          refine wpQuiet_step (fun K hK => ?_)
          go_simp
          apply Exists.intro
          constructor
          · intro w' hw'; exact rfl
          refine hK _ ?_
          clear hK K
          refine wpQuiet_nil ?_
          intro wF hF
          have BF : Hid (Below w.heap.size w wF) := BU.out.trans (hF.mono (by have := BU.out.size; simpa using this))
          clear hF
          go_wp2_with fail
          go_ret
          exact ⟨rfl, BF.out⟩
      · rcases bne_pair hy9 with hy1 | ⟨hy1, hy2⟩
        · simp only at hq1 hq2 hy1
          clear hq9 hy9
          subst hq1
          go_wp2_with fail
          refine wp_region_quiet (C := fun w' => Below (wU.heap.size + 1) (wU.alloc (.cells #[.int .i64 y0, .int .i64 y1] 32)) w') (by kernel_rfl) (by kernel_rfl) (Below.refl _ _).drew ?_
          refine wpQuiet_step (fun K hK => ?_)
          go_simp
          apply Exists.intro
          constructor
          · intro w' hw'; exact rfl
          refine hK _ ?_
          clear hK K
          refine wpQuiet_step (fun K hK => ?_)
          go_simp
          apply Exists.intro
          constructor
          · intro w' hw'; exact rfl
          refine hK _ ?_
          clear hK K
          refine wpQuiet_step (fun K hK => ?_)
          go_simp
          refine ⟨.agg #[.int .i64 y0, .int .i64 y1], fun w' hw' => ?_, hK _ ?_⟩
          · obtain ⟨g0, g1, g2, g3, g4, g5, g6, g7⟩ := hrd.out w' hw'
            go_simp
          clear hK K
          refine wpQuiet_step (fun K hK => ?_)
          go_simp
          refine ⟨.agg #[.int .i64 X0, .int .i64 X1], fun w' hw' => ?_, hK _ ?_⟩
          · obtain ⟨g0, g1, g2, g3, g4, g5, g6, g7⟩ := hrd.out w' hw'
            go_simp
          clear hK K
          refine wpQuiet_step (fun K hK => ?_)
          go_simp
          refine ⟨.int .i64 sgn, fun w' hw' => (KC.out w').mono (fun e w'' h => ⟨h.1, hw'.trans (h.2.mono (by have := hw'.size; simpa using this))⟩), hK _ ?_⟩
          clear hK K
          refine wpQuiet_step (fun K hK => ?_)
          go_simp
          apply Exists.intro
          constructor
          · intro w' hw'; exact rfl
          refine hK _ ?_
          clear hK K
          refine wpQuiet_step (fun K hK => ?_)
          go_simp
          apply Exists.intro
          constructor
          · intro w' hw'; exact rfl
          refine hK _ ?_
          clear hK K
          refine wpQuiet_step (fun K hK => ?_)
          go_simp
          apply Exists.intro
          constructor
          · intro w' hw'; exact rfl
          refine hK _ ?_
          clear hK K
          refine wpQuiet_step (fun K hK => ?_)
          go_simp
          apply Exists.intro
          constructor
          · intro w' hw'; exact rfl
          refine hK _ ?_
          clear hK K
          refine wpQuiet_step (fun K hK => ?_)
          go_simp
          apply Exists.intro
          constructor
          · intro w' hw'; exact rfl
          refine hK _ ?_
          clear hK K
          refine wpQuiet_step (fun K hK => ?_)
          go_simp
          apply Exists.intro
          constructor
          · intro w' hw'; exact rfl
          refine hK _ ?_
          clear hK K
          refine wpQuiet_step (fun K hK => ?_)
          go_simp
          refine ⟨.agg #[.int .i64 q0, .int .i64 q1], fun w' hw' => ?_, hK _ ?_⟩
          · obtain ⟨g0, g1, g2, g3, g4, g5, g6, g7⟩ := hrd.out w' hw'
            go_simp
          clear hK K
          refine wpQuiet_step (fun K hK => ?_)
          go_simp
          apply Exists.intro
          constructor
          · intro w' hw'; exact rfl
          refine hK _ ?_
          clear hK K
          refine wpQuiet_step (fun K hK => ?_)
          go_simp
          apply Exists.intro
          constructor
          · intro w' hw'; exact rfl
          refine hK _ ?_
          clear hK K
          refine wpQuiet_step (fun K hK => ?_)
          go_simp
          apply Exists.intro
          constructor
          · intro w' hw'; exact rfl
          refine hK _ ?_
          clear hK K
          refine wpQuiet_step (fun K hK => ?_)
          go_simp
          refine ⟨.agg #[.int .i64 q0, .int .i64 r1], fun w' hw' => ?_, hK _ ?_⟩
          · obtain ⟨g0, g1, g2, g3, g4, g5, g6, g7⟩ := hrd.out w' hw'
            go_simp
          clear hK K
          refine wpQuiet_step (fun K hK => ?_)
          go_simp
          apply Exists.intro
          constructor
          · intro w' hw'; exact rfl
          refine hK _ ?_
          clear hK K
          refine wpQuiet_step (fun K hK => ?_)
          go_simp
          refine ⟨.agg #[.int .i64 y0, .int .i64 y1], fun w' hw' => ?_, hK _ ?_⟩
          · obtain ⟨g0, g1, g2, g3, g4, g5, g6, g7⟩ := hrd.out w' hw'
            go_simp
          clear hK K
          refine wpQuiet_step (fun K hK => ?_)
          go_simp
          refine ⟨.agg #[.int .i64 X0, .int .i64 X1], fun w' hw' => ?_, hK _ ?_⟩
          · obtain ⟨g0, g1, g2, g3, g4, g5, g6, g7⟩ := hrd.out w' hw'
            go_simp
          clear hK K
          refine wpQuiet_step (fun K hK => ?_)
          go_simp
          apply Exists.intro
          constructor
          · intro w' hw'; exact rfl
          refine hK _ ?_
          clear hK K
          refine wpQuiet_step (fun K hK => ?_)
          go_simp
          apply Exists.intro
          constructor
          · intro w' hw'; exact rfl
          refine hK _ ?_
          clear hK K
          refine wpQuiet_step (fun K hK => ?_)
          go_simp
          apply Exists.intro
          constructor
          · intro w' hw'; exact rfl
          refine hK _ ?_
          clear hK K
          refine wpQuiet_step (fun K hK => ?_)
          go_simp
          apply Exists.intro
          constructor
          · intro w' hw'; exact rfl
          refine hK _ ?_
          clear hK K
          refine wpQuiet_nil ?_
          intro wF hF
          have BF : Hid (Below w.heap.size w wF) := BU.out.trans (hF.mono (by have := BU.out.size; simpa using this))
          clear hF
          go_wp2_with fail
          go_ret
          exact ⟨rfl, BF.out⟩
        · simp only at hq1 hq2 hy1 hy2
          clear hq9 hy9
          subst hq1 hy1
          go_wp2_with fail
          refine wp_region_quiet (C := fun w' => Below (wU.heap.size + 1) (wU.alloc (.cells #[.int .i64 y0, .int .i64 y1] 32)) w') (by kernel_rfl) (by kernel_rfl) (Below.refl _ _).drew ?_
          refine wpQuiet_step (fun K hK => ?_)
          go_simp
          apply Exists.intro
          constructor
          · intro w' hw'; exact rfl
          refine hK _ ?_
          clear hK K
          refine wpQuiet_step (fun K hK => ?_)
          go_simp
          apply Exists.intro
          constructor
          · intro w' hw'; exact rfl
          refine hK _ ?_
          clear hK K
          refine wpQuiet_step (fun K hK => ?_)
          go_simp
          refine ⟨.agg #[.int .i64 y0, .int .i64 y1], fun w' hw' => ?_, hK _ ?_⟩
          · obtain ⟨g0, g1, g2, g3, g4, g5, g6, g7⟩ := hrd.out w' hw'
            go_simp
          clear hK K
          refine wpQuiet_step (fun K hK => ?_)
          go_simp
          refine ⟨.agg #[.int .i64 y0, .int .i64 X1], fun w' hw' => ?_, hK _ ?_⟩
          · obtain ⟨g0, g1, g2, g3, g4, g5, g6, g7⟩ := hrd.out w' hw'
            go_simp
          clear hK K
          refine wpQuiet_step (fun K hK => ?_)
          go_simp
          refine ⟨.int .i64 sgn, fun w' hw' => (KC.out w').mono (fun e w'' h => ⟨h.1, hw'.trans (h.2.mono (by have := hw'.size; simpa using this))⟩), hK _ ?_⟩
          clear hK K
          refine wpQuiet_step (fun K hK => ?_)
          go_simp
          apply Exists.intro
          constructor
          · intro w' hw'; exact rfl
          refine hK _ ?_
          clear hK K
          refine wpQuiet_step (fun K hK => ?_)
          go_simp
          apply Exists.intro
          constructor
          · intro w' hw'; exact rfl
          refine hK _ ?_
          clear hK K
          refine wpQuiet_step (fun K hK => ?_)
          go_simp
          apply Exists.intro
          constructor
          · intro w' hw'; exact rfl
          refine hK _ ?_
          clear hK K
          refine wpQuiet_step (fun K hK => ?_)
          go_simp
          apply Exists.intro
          constructor
          · intro w' hw'; exact rfl
          refine hK _ ?_
          clear hK K
          refine wpQuiet_step (fun K hK => ?_)
          go_simp
          apply Exists.intro
          constructor
          · intro w' hw'; exact rfl
          refine hK _ ?_
          clear hK K
          refine wpQuiet_step (fun K hK => ?_)
          go_simp
          apply Exists.intro
          constructor
          · intro w' hw'; exact rfl
          refine hK _ ?_
          clear hK K
          refine wpQuiet_step (fun K hK => ?_)
          go_simp
          refine ⟨.agg #[.int .i64 q0, .int .i64 q1], fun w' hw' => ?_, hK _ ?_⟩
          · obtain ⟨g0, g1, g2, g3, g4, g5, g6, g7⟩ := hrd.out w' hw'
            go_simp
          clear hK K
          refine wpQuiet_step (fun K hK => ?_)
          go_simp
          apply Exists.intro
          constructor
          · intro w' hw'; exact rfl
          refine hK _ ?_
          clear hK K
          refine wpQuiet_step (fun K hK => ?_)
          go_simp
          apply Exists.intro
          constructor
          · intro w' hw'; exact rfl
          refine hK _ ?_
          clear hK K
          refine wpQuiet_step (fun K hK => ?_)
          go_simp
          apply Exists.intro
          constructor
          · intro w' hw'; exact rfl
          refine hK _ ?_
          clear hK K
          refine wpQuiet_step (fun K hK => ?_)
          go_simp
          refine ⟨.agg #[.int .i64 q0, .int .i64 r1], fun w' hw' => ?_, hK _ ?_⟩
          · obtain ⟨g0, g1, g2, g3, g4, g5, g6, g7⟩ := hrd.out w' hw'
            go_simp
          clear hK K
          refine wpQuiet_step (fun K hK => ?_)
          go_simp
          apply Exists.intro
          constructor
          · intro w' hw'; exact rfl
          refine hK _ ?_
          clear hK K
          refine wpQuiet_step (fun K hK => ?_)
          go_simp
          refine ⟨.agg #[.int .i64 y0, .int .i64 y1], fun w' hw' => ?_, hK _ ?_⟩
          · obtain ⟨g0, g1, g2, g3, g4, g5, g6, g7⟩ := hrd.out w' hw'
            go_simp
          clear hK K
          refine wpQuiet_step (fun K hK => ?_)
          go_simp
          refine ⟨.agg #[.int .i64 y0, .int .i64 X1], fun w' hw' => ?_, hK _ ?_⟩
          · obtain ⟨g0, g1, g2, g3, g4, g5, g6, g7⟩ := hrd.out w' hw'
            go_simp
          clear hK K
          refine wpQuiet_step (fun K hK => ?_)
          go_simp
          apply Exists.intro
          constructor
          · intro w' hw'; exact rfl
          refine hK _ ?_
          clear hK K
          refine wpQuiet_step (fun K hK => ?_)
          go_simp
          apply Exists.intro
          constructor
          · intro w' hw'; exact rfl
          refine hK _ ?_
          clear hK K
          refine wpQuiet_step (fun K hK => ?_)
          go_simp
          apply Exists.intro
          constructor
          · intro w' hw'; exact rfl
          refine hK _ ?_
          clear hK K
          refine wpQuiet_step (fun K hK => ?_)
          go_simp
          apply Exists.intro
          constructor
          · intro w' hw'; exact rfl
          refine hK _ ?_
          clear hK K
          refine wpQuiet_nil ?_
          intro wF hF
          have BF : Hid (Below w.heap.size w wF) := BU.out.trans (hF.mono (by have := BU.out.size; simpa using this))
          clear hF
          go_wp2_with fail
          go_ret
          exact ⟨rfl, BF.out⟩
end Go.Proofs.Ytjchindjoailbaa

/- A caller's bytes, opened. -/
namespace Go.Proofs.Ytjchindjoailbaa
set_option linter.unusedSimpArgs false
set_option linter.unusedVariables false
set_option maxRecDepth 100000
open Go.RowKit Go.ChangeShapes Go.WideShapes Go.ChangeAt

theorem flat_u8 : ∀ l : List Int, l.flatMap (fun z => [Value.int .u8 z]) = u8s l
  | [] => rfl
  | a :: l => by rw [List.flatMap_cons, flat_u8 l]; rfl
section
variable {H : Type} {enc : TypeId × Value → H} {w : World} {base : Nat} {spare : Nat → Bool} {held : Bool}
theorem open_bytes {fuel : Nat} {cs : List Value} {x : DataW H × List MemPlace} (h : DataW.trod enc Try.prog w base spare held fuel 22 cs = some x) :
    ∃ (a : Option Addr) (n c : Nat) (l : List Int), cs = [.slice a n c] ∧ ArgRow w a n c 1 (u8s l) := by
  obtain ⟨a, n, c, l, e, _, hr, _⟩ := open_rows Try.underlying22 (by kernel_rfl) (Nat.zero_lt_one) (fun z : Int => [.int .u8 z]) (fun _ => True) (fun _ => rfl)
    (fun n cs y h => by obtain ⟨z, h1, _, _⟩ := DataW.trod_int Try.underlying5 h; exact ⟨z, h1, trivial⟩) h
  rw [flat_u8] at hr
  exact ⟨a, n, c, l, e, hr⟩
end
end Go.Proofs.Ytjchindjoailbaa

/- For every code the law FnPower (power) answers true and leaves its argument as it was. -/
namespace Go.Proofs.Ytjchindjoailbaa
set_option linter.unusedSimpArgs false
set_option linter.unusedVariables false
open Go.ChangeShapes Go.WideShapes Go.ChangeAt Go.RowKit
open Go.ChangeMaps (open_string shut_string)
set_option linter.unusedVariables false

set_option maxRecDepth 100000 in
theorem lifted_FnPower (os : Os) (started : os.Started) (H : Type) (enc : TypeId × Value → H) :
    ReturnsInHanded {} Try.checked os 4 .any (Rows.fnPowerSpec.pre6 enc Try.prog Try.f4 Rows.fnPowerRow.domain false) (Rows.fnPowerSpec.post enc Try.prog Try.f4 false true false false) := by
  refine returnsInHanded_of_change (C := Try.checked) own started (by kernel_rfl) Try.func4
    (ChangeSpec.witness6 (enc := enc) (C := Try.checked) false ⟨#[], #[.slice none 0 0], []⟩ 8 (by kernel_rfl) (by kernel_rfl) (by kernel_rfl) (by kernel_rfl)) ?_
  intro W base args ds gs before hval0 hW hcnd _
  have hval : ∀ (j : Nat) t v, Try.f4.params[j]? = some t → args[j]? = some v → Value.okWide Try.prog W .any base t v := hval0
  have hW' := hW
  obtain ⟨p, q, hA0, hV, rfl, hfz, hnd⟩ := hW
  have hA : DataW.TrodAll enc Try.prog W 0 (fun _ => true) true Try.f4.params.toList args.toList ds p := hA0
  rw [Try.params4] at hA hval
  obtain ⟨v0, vs0, d0, ds0, p0, q0, hargs, rfl, rfl, h0, r0⟩ := trodAll_cons hA
  obtain ⟨rfl, rfl, rfl⟩ := trodAll_nil r0
  obtain rfl : args = #[v0] := by cases args; simp_all
  obtain ⟨rfl, rfl⟩ := trodVars_none hV
  have k0 := h0
  have lt0 : ∀ x ∈ p0, x.block < W.heap.size := by obtain ⟨m, hm⟩ := k0; exact DataW.trod_lt m _ _ _ hm
  obtain ⟨b0, bn0, bc0, rfl⟩ := okWide_slice Try.underlying22 (hval 0 22 v0 rfl rfl)
  obtain ⟨fu0, hm0⟩ := h0
  obtain ⟨a0, n0, c0, l0, e0, w0⟩ := open_bytes hm0
  have e0 : [Value.slice b0 bn0 bc0] = [Value.slice a0 n0 c0] := e0
  simp only [List.cons.injEq, Value.slice.injEq, and_true] at e0
  obtain ⟨rfl, rfl, rfl⟩ := e0
  clear hA0 hval0
  refine (walk_FnPower _ _ _ l0 W w0).mono fun e W' ⟨he, bel⟩ => ?_
  subst he
  exact ⟨_, rfl, _, _, _, [], _, [], hW', trodAll_mk1 (shut_bool Try.underlying4 _), (trodAll_cons_mk (Below.trod laidOut (by kernel_rfl) (of_decide_eq_true (by kernel_rfl)) k0 bel lt0) trodAll_mk0), rfl, bel.frame _, fun h => by cases h⟩

set_option maxRecDepth 100000 in
set_option maxHeartbeats 8000000 in
theorem closed_FnPower : joinedFacts Try.pinned.checked.prog 4 Try.f4 Rows.fnPowerSpec Rows.fnPowerRow = true := by
  unfold joinedFacts
  repeat' (with_reducible refine band ?_ ?_)
  all_goals first | (with_reducible exact mayEnter_p) | ((with_reducible refine bmake (finals_p.trans ?_)); rfl) | ((with_reducible refine beq_iff_eq.2 (make_p.trans ?_)); rfl) | (as_aux_lemma => kernel_rfl)

theorem fnPower_holds : Rows.FnPowerSaid :=
  OpenClaim.holds_of_wide 4 Try.f4 rfl rfl rfl rfl rfl rfl rfl ⟨rfl, rfl, rfl, rfl, rfl⟩ rfl rfl rfl rfl rfl (by kernel_rfl) Try.func4 closed_FnPower
    (of_decide_eq_true (by kernel_rfl)) (by unfold Func.isWrapper; first | (rw [if_pos (by decide +kernel)]; kernel_rfl) | (rw [if_neg (by decide +kernel)]; exact ⟨rfl, rfl⟩))
    (fun os started H enc _ => lifted_FnPower os started H enc)

end Go.Proofs.Ytjchindjoailbaa
