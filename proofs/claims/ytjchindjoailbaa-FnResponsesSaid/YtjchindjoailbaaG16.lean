/- The potentials, in plain Lean. -/
import Derived.Test.YtjchindjoailbaaG15
import Derived.Test.YtjchindjoailbaaG14
import Derived.Test.YtjchindjoailbaaG02
import Derived.Test.YtjchindjoailbaaG07
import Derived.Deep.RegionHeld3
import Derived.Test.YtjchindjoailbaaG13
import Derived.Test.YtjchindjoailbaaG08
namespace Gn
/-- a fraction's numbers both multiplied -/
theorem rat_mul {k : Int} (hk : 0 < k) (n d : Int) : rat (k * n) (k * d) = rat n d := by
  obtain ⟨m, rfl⟩ : ∃ m : Nat, k = m := ⟨k.toNat, by omega⟩
  have hm : 0 < m := by omega
  have hg : gz (m * n) (m * d) = m * gz n d := by
    unfold gz; rw [Int.natAbs_mul, Int.natAbs_mul, Int.natAbs_natCast, Nat.gcd_mul_left]
  have h1 : ((m : Int) * n).natAbs / gz (m * n) (m * d) = n.natAbs / gz n d := by
    rw [hg, Int.natAbs_mul, Int.natAbs_natCast, Nat.mul_div_mul_left _ _ hm]
  have h2 : ((m : Int) * d).natAbs / gz (m * n) (m * d) = d.natAbs / gz n d := by
    rw [hg, Int.natAbs_mul, Int.natAbs_natCast, Nat.mul_div_mul_left _ _ hm]
  have neg : ∀ x : Int, ((m : Int) * x < 0) = (x < 0) := fun x => by
    apply propext
    constructor
    · intro h
      by_cases hx : x < 0
      · exact hx
      · have := Int.mul_nonneg (show 0 ≤ (m : Int) by omega) (show 0 ≤ x by omega); omega
    · intro h
      have := Int.mul_pos (show 0 < (m : Int) by omega) (show 0 < -x by omega)
      rw [Int.mul_neg] at this; omega
  have hz : ((m : Int) * d ≠ 0) = (d ≠ 0) := by
    apply propext
    constructor
    · intro h e; exact h (by rw [e, Int.mul_zero])
    · intro h e; rcases Int.mul_eq_zero.1 e with e | e
      · omega
      · exact h e
  have hN : ratN (m * n) (m * d) = ratN n d := by
    unfold ratN; rw [h1]; simp only [neg]
  have hD : ratD (m * n) (m * d) = ratD n d := by unfold ratD; rw [h2]
  have hF : fit (m * n) (m * d) = fit n d := by unfold fit; rw [h1, h2]; simp only [hz]
  unfold rat; rw [hF, hN, hD]
end Gn
namespace Go.Proofs.Ytjchindjoailbaa
set_option linter.unusedSimpArgs false
set_option linter.unusedVariables false
open Go.RowKit
/-- a potential, as the program has it (twice) -/
def potI (M : Nat) (l : List Wz) (p q x : Int) : Int := forestV M l p q + forestV M l x q - forestV M l p x
/-- a potential, as the reference has it -/
def potV (M : Nat) (l : List Wz) (p q v : Int) : Int :=
  if v = q then 0 else if (Gn.idx p q + Gn.idx v q) % 2 ≠ 0 then -(leftW M l (Gn.srt2 p q) (Gn.srt2 v q)) else leftW M l (Gn.srt2 p q) (Gn.srt2 v q)
theorem others_gn (M : Nat) (q : List Int) : Gn.others M q = others M q := rfl
theorem NetOk.left {M : Nat} {E S : Int} {l : List Wz} (h : NetOk M E S l) {rows cols : List Int} (hc : (others M cols).length ≤ (others M rows).length) : leftW M l rows cols = Gn.detP (Gn.lapW M (wbF l)) (Gn.others M rows) (Gn.others M cols) :=
  h.det (by have := others_len M rows; have := h.h.n5; omega) hc (fun _ hx => others_mem hx) (fun _ hx => others_mem hx)
theorem NetOk.forest {M : Nat} {E S : Int} {l : List Wz} (h : NetOk M E S l) (p q : Int) : forestV M l p q = Gn.fo M (Gn.lapW M (wbF l)) p q := by
  unfold forestV Gn.fo
  split
  · rfl
  · exact h.left (Nat.le_refl _)
theorem srt2_two {M : Nat} (hM : M ≤ 5) {p q : Int} (hp : 0 ≤ p ∧ p < M) (hq : 0 ≤ q ∧ q < M) (hpq : ¬ p = q) : (others M (Gn.srt2 p q)).length = M - 2 := by
  unfold Gn.srt2
  split
  · exact others_two hM hq hp (fun e => hpq e.symm)
  · exact others_two hM hp hq hpq
theorem NetOk.potV {M : Nat} {E S : Int} {l : List Wz} (h : NetOk M E S l) {p q v : Int} (hp : 0 ≤ p ∧ p < M) (hq : 0 ≤ q ∧ q < M) (hv : 0 ≤ v ∧ v < M) (hpq : ¬ p = q) : potV M l p q v = Gn.potS M (Gn.lapW M (wbF l)) p q v := by
  have h5 : M ≤ 5 := by have := h.h.n5; omega
  unfold Proofs.Ytjchindjoailbaa.potV Gn.potS
  by_cases e : v = q
  · rw [if_pos e, if_pos e]
  · have e1 := srt2_two h5 hp hq hpq
    have e2 := srt2_two h5 hv hq e
    rw [if_neg e, if_neg e, h.left (by omega)]
theorem NetOk.pot {M : Nat} {E S : Int} {l : List Wz} (h : NetOk M E S l) {p q x : Int} (hp : 0 ≤ p ∧ p < M) (hq : 0 ≤ q ∧ q < M) (hx : 0 ≤ x ∧ x < M) (hpq : ¬ p = q) : potI M l p q x = 2 * Proofs.Ytjchindjoailbaa.potV M l p q x := by
  rw [h.potV hp hq hx hpq]
  unfold potI
  rw [h.forest, h.forest, h.forest]
  exact Gn.pot_twice (by have := h.h.n5; omega) _ (wbF_comm l) p q x hp hq hx hpq
theorem potI_bd {M : Nat} {E S : Int} {l : List Wz} (h : NetOk M E S l) {p q x : Int} (hp : 0 ≤ p ∧ p < M) (hq : 0 ≤ q ∧ q < M) (hx : 0 ≤ x ∧ x < M) : -2250000000000 ≤ potI M l p q x ∧ potI M l p q x ≤ 2250000000000 := by
  have h1 := forestV_bd h hp hq
  have h2 := forestV_bd h hx hq
  have h3 := forestV_bd h hp hx
  unfold potI; omega
theorem potV_bd {M : Nat} {E S : Int} {l : List Wz} (h : NetOk M E S l) {p q x : Int} (hp : 0 ≤ p ∧ p < M) (hq : 0 ≤ q ∧ q < M) (hx : 0 ≤ x ∧ x < M) (hpq : ¬ p = q) : -750000000000 ≤ potV M l p q x ∧ potV M l p q x ≤ 750000000000 := by
  have key : ∀ a b, (0 ≤ a ∧ a < (M : Int)) → (0 ≤ b ∧ b < (M : Int)) → ¬ a = b → ∃ c d, Gn.srt2 a b = [c, d] ∧ (0 ≤ c ∧ c < (M : Int)) ∧ (0 ≤ d ∧ d < (M : Int)) ∧ c ≠ d := by
    intro a b ha hb hab
    unfold Gn.srt2
    split
    · exact ⟨b, a, rfl, hb, ha, fun e => hab e.symm⟩
    · exact ⟨a, b, rfl, ha, hb, hab⟩
  unfold potV
  by_cases e : x = q
  · rw [if_pos e]; omega
  · obtain ⟨c1, d1, e1, g1, g2, g3⟩ := key p q hp hq hpq
    obtain ⟨c2, d2, e2, g4, g5, g6⟩ := key x q hx hq e
    have := forest_bd h g1 g2 g4 g5 g3 g6
    rw [if_neg e, e1, e2]
    split <;> omega
/-- the potentials of a network's first k nodes -/
def potR (M : Nat) (S : Int) (l : List Wz) (p q : Int) (k : Nat) : List Rz := (upto k).map fun x => Gn.rat (S * potV M l p q x) (leftW M l [0] [0])
theorem potR_len (M : Nat) (S : Int) (l : List Wz) (p q : Int) (k : Nat) : (potR M S l p q k).length = k := by simp [potR, upto_len]
theorem potR_succ (M : Nat) (S : Int) (l : List Wz) (p q : Int) (k : Nat) : potR M S l p q (k + 1) = potR M S l p q k ++ [Gn.rat (S * potV M l p q k) (leftW M l [0] [0])] := by
  simp only [potR, upto_succ, List.map_append, List.map_cons, List.map_nil]
theorem rats_snoc (l : List Rz) (x : Rz) : rats (l ++ [x]) = rats l ++ [.int .i64 x.1, .int .i64 x.2] := by
  simp only [rats, List.flatMap_append, List.flatMap_cons, List.flatMap_nil, List.append_nil, ratC]
theorem NetOk.pot_rat {M : Nat} {E S : Int} {l : List Wz} (h : NetOk M E S l) {p q x : Int} (hp : 0 ≤ p ∧ p < M) (hq : 0 ≤ q ∧ q < M) (hx : 0 ≤ x ∧ x < M) (hpq : ¬ p = q) : Gn.rat (S * potI M l p q x) (2 * leftW M l [0] [0]) = Gn.rat (S * Proofs.Ytjchindjoailbaa.potV M l p q x) (leftW M l [0] [0]) := by
  rw [h.pot hp hq hx hpq, show S * (2 * Proofs.Ytjchindjoailbaa.potV M l p q x) = 2 * (S * Proofs.Ytjchindjoailbaa.potV M l p q x) by grind]
  exact Gn.rat_mul (by omega) _ _
structure PotOk (N E S : Int) (l : List Wz) (p q : Int) : Prop where
  net : NetOk N E S l
  hp : 0 ≤ p ∧ p < N
  hq : 0 ≤ q ∧ q < N
  ne : ¬ p = q
/-- what PotentialsOf gives where it gives something -/
def PotRes (e : Ending) (w w' : World) (L : List Rz) : Prop :=
  ∃ g c', e = .returned (.tuple #[.slice (some ⟨g, 0, none⟩) L.length c', .bool true]) ∧ w'.ownsRow w.heap.size 32 2 (.slice (some ⟨g, 0, none⟩) L.length c') L.length (rats L)
theorem infoRat : (Try.prog.info? 32).map (fun i => (i.zero, i.size, i.bytes)) = some (some (.agg #[.int .i64 0, .int .i64 0]), 2, 16) := by kernel_rfl
end Go.Proofs.Ytjchindjoailbaa

/- A region that draws its order and whose first operation, a move, only the tail waits for: the move first, then the quiet head in any order, then the tail. -/
namespace Go.Proofs.Ytjchindjoailbaa
set_option linter.unusedSimpArgs false
set_option linter.unusedVariables false
open Go.RowKit

section
variable {P : Program} {ops : Array Oper} {md : Region.Mode} {C : World → Prop}
def sinkM (md : Region.Mode) (ops : Array Oper) (n : Nat) : Bool :=
  (List.range n).all fun i => i == 0 || (List.range (n + 1)).any fun j => decide (i < j) && Region.waitsFor md ops j i
theorem tail_waitsM {n : Nat} {listed : Array Bool} (hs : sinkM md ops n = true) (hc : Region.chainB md ops n = true) (hn : n < ops.size) (inv : HeadInv md ops n listed) (hl0 : listed.getD 0 true = true) :
    ∀ (d i : Nat), n - i = d → i < n → listed.getD i true = false → ∀ t, n ≤ t → t ∉ Region.ready md ops listed := by
  intro d
  induction d using Nat.strongRecOn with
  | _ d ih =>
    intro i hd hi hun t ht hr
    obtain ⟨_, ot, hot, hall⟩ := mem_ready.1 hr
    have htlt : t < ops.size := (Array.getElem?_eq_some_iff.1 hot).1
    have hi0 : i ≠ 0 := fun e => by subst e; rw [hl0] at hun; cases hun
    by_cases htn : t = n
    · subst htn
      have h1 := List.all_eq_true.1 hs i (List.mem_range.2 hi)
      simp only [Bool.or_eq_true, beq_iff_eq] at h1
      obtain ⟨j, hj, hj2⟩ := List.any_eq_true.1 (h1.resolve_left hi0)
      simp only [Bool.and_eq_true, decide_eq_true_eq] at hj2
      obtain ⟨oj, hoj, e, he, hb, hon⟩ := Region.waitsFor_spec hj2.2
      have hjle : j ≤ t := by have := List.mem_range.1 hj; omega
      by_cases hjt : j = t
      · subst hjt
        have : oj = ot := Option.some.inj (hoj.symm.trans hot)
        subst this
        have h2 := hall e he hb
        rw [hon, getD_both hun] at h2
        cases h2
      · cases hl : listed.getD j false with
        | true =>
          have h2 := inv.closed j oj hoj hl e he hb
          rw [hon, getD_both hun] at h2
          cases h2
        | false =>
          have hjs : j < listed.size := by rw [inv.size]; omega
          exact ih (t - j) (by omega) j rfl (by omega) (getD_in hjs hl) t (Nat.le_refl _) hr
    · have h1 := List.all_eq_true.1 hc t (List.mem_range.2 htlt)
      simp only [Bool.or_eq_true, decide_eq_true_eq] at h1
      rcases h1 with h1 | h1
      · omega
      · obtain ⟨o', ho', e, he, hb, hon⟩ := Region.waitsFor_spec h1
        have : o' = ot := Option.some.inj (ho'.symm.trans hot)
        subst this
        have h2 := hall e he hb
        rw [hon, getD_both (inv.tail (t - 1) (by omega) (by omega))] at h2
        cases h2
theorem qHead_firstM {n i : Nat} {oi : Oper} {v : Value} {L : Array Bool → Act → Prop} (hi : ops[i]? = some oi) (hsel : ∀ (j : Nat) (o : Oper) cs b, ops[j]? = some o → o.op ≠ .select cs b)
    (hs : sinkM md ops n = true) (hc : Region.chainB md ops n = true) (hn : n < ops.size) (hin : i < n) (hL : ∀ listed a, L listed a → ∀ j ∈ Region.ready md ops listed, n ≤ j) (f : Nat) :
    ∀ (listed : Array Bool) (a : Act), HeadInv md ops n listed → listed.getD 0 true = true →
      (∀ j oj, ops[j]? = some oj → j ≠ i → listed.getD j true = false → (∀ e ∈ oj.after, Region.binds md e = true → e.on ≠ i) → oi.apart ops oj = true) →
      i ∈ Region.ready md ops listed → YieldsIn P ops C oi v a → qHead P md ops C n L f (listed.setIfInBounds i true) (a.put oi.dst v) → qHead P md ops C n L (f + 1) listed a := by
  induction f with
  | zero =>
    intro listed a inv h0 _ hr hy H
    refine ⟨List.ne_nil_of_mem hr, fun j hj => ?_⟩
    have hjn : j < n := Nat.lt_of_not_le fun h => tail_waitsM hs hc hn inv h0 _ i rfl hin (mem_ready.1 hr).1 j h hj
    refine ⟨hjn, ?_⟩
    by_cases e : j = i
    · subst e; exact hy.qOp hi H
    · exact absurd (hL _ _ H j (ready_mono hj e)) (by omega)
  | succ f ih =>
    intro listed a inv h0 hfree hr hy H
    refine ⟨List.ne_nil_of_mem hr, fun j hj => ?_⟩
    have hun := (mem_ready.1 hr).1
    have hjn : j < n := Nat.lt_of_not_le fun h => tail_waitsM hs hc hn inv h0 _ i rfl hin hun j h hj
    refine ⟨hjn, ?_⟩
    by_cases e : j = i
    · subst e; exact hy.qOp hi H
    · obtain ⟨hjun, oj, hoj, hall⟩ := mem_ready.1 hj
      have hno : ∀ d ∈ oj.after, Region.binds md d = true → d.on ≠ i := fun d hd hb he => by
        have h1 := hall d hd hb
        rw [he, getD_both hun] at h1
        exact absurd h1 (by simp)
      have h2 := qOp_put hoj (hfree j oj hoj e hjun hno) (fun cs b => hsel i oi cs b hi) (fun cs b => hsel j oj cs b hoj) hy (H.2 j (ready_mono hj e)).2
      have hj0 : j ≠ 0 := fun e0 => by subst e0; rw [h0] at hjun; cases hjun
      refine qOp_mono (fun a' h3 => ih (listed.setIfInBounds j true) a' (inv.set hj hjn) (by rw [getD_set_ne true hj0]; exact h0) ?_ (ready_mono hr (Ne.symm e)) h3.1 ?_) h2
      · intro k ok hk hki hku hkn
        refine hfree k ok hk hki ?_ hkn
        by_cases e2 : j = k
        · subst e2; exact hjun
        · rwa [getD_set_ne true e2] at hku
      · rw [Array.setIfInBounds_comm _ _ e]; exact h3.2
theorem qHead_lexM {n g : Nat} {R : Act → Prop} (hsel : Region.noSelect ops = true) (hs : sinkM md ops n = true) (hc : Region.chainB md ops n = true) (hn : n < ops.size) (l : List Oper) :
    ∀ (k : Nat) (listed : Array Bool) (a : Act), (∀ j, j < l.length → l[j]? = ops[k + j]?) → k + l.length = n → HeadInv md ops n listed → listed.getD 0 true = true → Region.lexHead md ops g l.length k listed = true → wpQuiet P ops C R l a →
      qHead P md ops C n (fun listed' a' => Region.seqB md ops g n listed' = true ∧ R a') l.length listed a := by
  induction l with
  | nil =>
    intro k listed a _ hk _ _ hB h
    obtain rfl : k = n := hk
    exact ⟨hB, h⟩
  | cons o l ih =>
    intro k listed a hl hk inv hz hB h
    have h0 : ops[k]? = some o := (hl 0 (by simp)).symm
    simp only [List.length_cons, Region.lexHead, Bool.and_eq_true] at hB
    have hkn : k < n := by simp only [List.length_cons] at hk; omega
    have hr : k ∈ Region.ready md ops listed := by simpa using hB.1.1
    have hq : qOp P ops C k (wpQuiet P ops C R l) a := by unfold qOp; rw [h0]; exact h
    obtain ⟨v, hy, hK⟩ := yieldsIn_of_qOp h0 hq
    have hk0 : k ≠ 0 := fun e0 => by subst e0; have := (mem_ready.1 hr).1; rw [hz] at this; cases this
    refine qHead_firstM h0 (Region.noSelect_spec hsel) hs hc hn hkn (fun _ _ hL => seqB_ready hL.1) l.length listed a inv hz (Region.free_spec h0 hB.1.2) hr hy ?_
    refine ih (k + 1) _ _ (fun j hj => ?_) (by simp only [List.length_cons] at hk; omega) (inv.set hr hkn) (by rw [getD_set_ne true hk0]; exact hz) hB.2 hK
    have := hl (j + 1) (by simp; omega)
    simpa [Nat.add_assoc, Nat.add_comm 1 j] using this
def lexTailM (md : Region.Mode) (ops : Array Oper) (n : Nat) : Bool :=
  Region.noSelect ops && decide (0 < n) && decide (n < ops.size) && sinkM md ops n && Region.chainB md ops n && ((Region.ready md ops (Array.replicate ops.size false)).contains 0 && Region.free md ops (Array.replicate ops.size false) 0) &&
    Region.lexHead md ops (ops.size - n) (n - 1) 1 ((Array.replicate ops.size false).setIfInBounds 0 true)
end
theorem region_quiet_tail_move {P : Program} {id : Nat} {Q : Exit → Act → World → Prop} {a : Act} {w : World} {o0 : Oper} {l : List Oper} {v : Value} (C : World → Prop) (n : Nat) (hm : P.follows .mixedOrders = true) (hB : lexTailM .any (o0 :: l).toArray (n + 1) = true) (hC : C { w with drawn := w.drawn + 1 })
    (hy : Yields P (o0 :: l).toArray o0 v a)
    (h : wpQuiet P (o0 :: l).toArray C (fun a' => ∀ w', C w' → wpList P (o0 :: l).toArray (NoPanic Q) (l.drop n) a' w') (l.take n) (a.put o0.dst v)) : (Code.region id (o0 :: l).toArray true).wp P Q a w := by
  simp only [lexTailM, Bool.and_eq_true, decide_eq_true_eq] at hB
  obtain ⟨⟨⟨⟨⟨⟨hsel, _⟩, hn⟩, hs⟩, hc⟩, hr0, hf0⟩, hlex⟩ := hB
  refine wp_region_noPanic ?_
  refine wp_region_any hm ?_
  have hn' : n < l.length := by simpa using hn
  have ht : (l.take n).length = n := by rw [List.length_take]; omega
  have inv0 : HeadInv .any (o0 :: l).toArray (n + 1) (Array.replicate (o0 :: l).toArray.size false) :=
    ⟨by simp, fun j oj _ hl => by rw [getD_replicate_false] at hl; exact absurd hl (by simp), fun t _ h2 => getD_in (by simpa using h2) (getD_replicate_false _ _)⟩
  have hz : ((Array.replicate (o0 :: l).toArray.size false).setIfInBounds 0 true).getD 0 true = true := by simp
  have hr0' : 0 ∈ Region.ready .any (o0 :: l).toArray (Array.replicate (o0 :: l).toArray.size false) := by simpa using hr0
  have inv := inv0.set hr0' (by omega)
  have H := qHead_lexM (md := .any) (g := (o0 :: l).toArray.size - (n + 1)) hsel hs hc hn (l.take n) 1 _ (a.put o0.dst v) (fun j hj => by
    rw [ht] at hj
    simp [hj, Nat.add_comm 1 j]) (by omega) inv hz (by rw [ht]; exact hlex) h
  have hd : (l.drop n).length = (o0 :: l).toArray.size - (n + 1) := by simp
  have key := any_of_qHead (Q' := NoPanic Q) (g := (o0 :: l).toArray.size - (n + 1)) (fun listed a' w' hw' hL => by
    have h9 := wpAny_of_seq (md := .any) (Q' := NoPanic Q) (l.drop n) (n + 1) listed a' w' (fun j => by simp [List.getElem?_drop, Nat.add_right_comm]) (by rw [hd]; exact hL.1) (hL.2 w' hw')
    rwa [hd] at h9) _ _ _ { w with drawn := w.drawn + 1 } hC H
  have hsz : (o0 :: l).toArray.size = (n + ((o0 :: l).toArray.size - (n + 1))) + 1 := by simp at hn ⊢; omega
  have := wpAny_take (Q := NoPanic Q) (md := .any) (ops := (o0 :: l).toArray) (i := 0) (oi := o0) (listed := Array.replicate (o0 :: l).toArray.size false) (by simp) hsel hf0 hr0 (fun c a w h => h) hy (by rw [ht] at key; exact key)
  rw [← hsz] at this
  exact this
end Go.Proofs.Ytjchindjoailbaa

/- PotentialsOf of the program. -/
namespace Go.Proofs.Ytjchindjoailbaa
set_option linter.unusedSimpArgs false
set_option linter.unusedVariables false
open Go.RowKit

set_option maxRecDepth 100000 in
set_option maxHeartbeats 8000000 in
theorem implPotential (M : Nat) (E S : Int) (a : Option Addr) (n c : Nat) (l : List Wz) (p q x : Int) (hp : 0 ≤ p ∧ p < M) (hq : 0 ≤ q ∧ q < M) (hx : 0 ≤ x ∧ x < M) (hok : NetOk M E S l) (w : World) (hr : ArgRow w a n c 3 (wires l)) (hl : l.length = n) :
    Calls Try.prog 78 #[netV M E S a n c, .int .i64 p, .int .i64 q, .int .i64 x] w fun e w' => e = .returned (.int .i64 (potI M l p q x)) ∧ Below w.heap.size w w' := by
  have HR := Lib.hid hr
  have K1 := Lib.hid (fun (w : World) rr => implForest M E S a n c l p q hp hq hok w rr hl)
  have K2 := Lib.hid (fun (w : World) rr => implForest M E S a n c l x q hx hq hok w rr hl)
  have K3 := Lib.hid (fun (w : World) rr => implForest M E S a n c l p x hp hx hok w rr hl)
  have b1 := forestV_bd hok hp hq
  have b2 := forestV_bd hok hx hq
  have b3 := forestV_bd hok hp hx
  unfold potI
  generalize forestV M l p q = F1 at K1 b1 ⊢
  generalize forestV M l x q = F2 at K2 b2 ⊢
  generalize forestV M l p x = F3 at K3 b3 ⊢
  have HM := Lib.hid (show IntKind.i64.wrap (IntKind.i64.wrap (F1 + F2) - F3) = F1 + F2 - F3 by rw [IntWalk.i64_in (F1 + F2) (by omega)]; exact IntWalk.i64_in _ (by omega))
  have hbr := Lib.hid (fun (w' : World) (h : Below (w.heap.size + 1) (w.alloc (.cells #[.int .i64 M, .int .i64 E, .int .i64 S, .slice a n c] 25)) w') => (bstep (balloc (Below.refl _ _) _) (show Below (w.alloc (.cells #[.int .i64 M, .int .i64 E, .int .i64 S, .slice a n c] 25)).heap.size (w.alloc (.cells #[.int .i64 M, .int .i64 E, .int .i64 S, .slice a n c] 25)) w' by simpa using h) : Below w.heap.size w w'))
  have hrd : ∀ w', Below (w.heap.size + 1) (w.alloc (.cells #[.int .i64 M, .int .i64 E, .int .i64 S, .slice a n c] 25)) w' → w'.cell? ⟨w.heap.size, 0, none⟩ = some (.int .i64 M) ∧ w'.cell? ⟨w.heap.size, 1, none⟩ = some (.int .i64 E) ∧ w'.cell? ⟨w.heap.size, 2, none⟩ = some (.int .i64 S) ∧ w'.cell? ⟨w.heap.size, 3, none⟩ = some (.slice a n c) := fun w' h => by
    refine ⟨(h.cell (p := ⟨w.heap.size, 0, none⟩) (by simp)).trans ?_, (h.cell (p := ⟨w.heap.size, 1, none⟩) (by simp)).trans ?_, (h.cell (p := ⟨w.heap.size, 2, none⟩) (by simp)).trans ?_, (h.cell (p := ⟨w.heap.size, 3, none⟩) (by simp)).trans ?_⟩ <;> simp [go_sem]
  replace hrd := Lib.hid hrd
  clear hr hok hp hq hx b1 b2 b3
  go_enter Try.func78, Try.ntmps78
  go_wp2_with fail
  refine region_quiet_tail_in (fun w' => Below (w.heap.size + 1) (w.alloc (.cells #[.int .i64 M, .int .i64 E, .int .i64 S, .slice a n c] 25)) w') 14 (by kernel_rfl) (by kernel_rfl) (Below.refl _ _).drew ?_
  simp only [List.take_succ_cons, List.take_zero, List.drop_succ_cons, List.drop_zero]
  refine wpQuiet_step (fun K hK => ?_)
  go_simp
  refine ⟨.agg #[.int .i64 M, .int .i64 E, .int .i64 S, .slice a n c], fun w' hw' => ?_, hK _ ?_⟩
  · obtain ⟨c0, c1, c2, c3⟩ := hrd.out w' hw'
    go_simp
  clear hK K
  refine wpQuiet_step (fun K hK => ?_)
  go_simp
  apply Exists.intro
  constructor
  · intro w' hw'; exact rfl
  refine hK _ ?_
  clear hK K
  refine wpQuiet_step (fun K hK => ?_)
  go_simp
  apply Exists.intro
  constructor
  · intro w' hw'; exact rfl
  refine hK _ ?_
  clear hK K
  refine wpQuiet_step (fun K hK => ?_)
  go_simp
  refine ⟨.int .i64 F1, fun w' hw' => (K1.out w' (HR.out.below (hbr.out w' hw'))).mono (fun e w'' h => ⟨h.1, hw'.trans (h.2.mono (by have := hw'.size; simpa using this))⟩), hK _ ?_⟩
  clear hK K
  refine wpQuiet_step (fun K hK => ?_)
  go_simp
  refine ⟨.agg #[.int .i64 M, .int .i64 E, .int .i64 S, .slice a n c], fun w' hw' => ?_, hK _ ?_⟩
  · obtain ⟨c0, c1, c2, c3⟩ := hrd.out w' hw'
    go_simp
  clear hK K
  refine wpQuiet_step (fun K hK => ?_)
  go_simp
  apply Exists.intro
  constructor
  · intro w' hw'; exact rfl
  refine hK _ ?_
  clear hK K
  refine wpQuiet_step (fun K hK => ?_)
  go_simp
  apply Exists.intro
  constructor
  · intro w' hw'; exact rfl
  refine hK _ ?_
  clear hK K
  refine wpQuiet_step (fun K hK => ?_)
  go_simp
  refine ⟨.int .i64 F2, fun w' hw' => (K2.out w' (HR.out.below (hbr.out w' hw'))).mono (fun e w'' h => ⟨h.1, hw'.trans (h.2.mono (by have := hw'.size; simpa using this))⟩), hK _ ?_⟩
  clear hK K
  refine wpQuiet_step (fun K hK => ?_)
  go_simp
  apply Exists.intro
  constructor
  · intro w' hw'; exact rfl
  refine hK _ ?_
  clear hK K
  refine wpQuiet_step (fun K hK => ?_)
  go_simp
  refine ⟨.agg #[.int .i64 M, .int .i64 E, .int .i64 S, .slice a n c], fun w' hw' => ?_, hK _ ?_⟩
  · obtain ⟨c0, c1, c2, c3⟩ := hrd.out w' hw'
    go_simp
  clear hK K
  refine wpQuiet_step (fun K hK => ?_)
  go_simp
  apply Exists.intro
  constructor
  · intro w' hw'; exact rfl
  refine hK _ ?_
  clear hK K
  refine wpQuiet_step (fun K hK => ?_)
  go_simp
  apply Exists.intro
  constructor
  · intro w' hw'; exact rfl
  refine hK _ ?_
  clear hK K
  refine wpQuiet_step (fun K hK => ?_)
  go_simp
  refine ⟨.int .i64 F3, fun w' hw' => (K3.out w' (HR.out.below (hbr.out w' hw'))).mono (fun e w'' h => ⟨h.1, hw'.trans (h.2.mono (by have := hw'.size; simpa using this))⟩), hK _ ?_⟩
  clear hK K
  refine wpQuiet_step (fun K hK => ?_)
  go_simp
  apply Exists.intro
  constructor
  · intro w' hw'; exact rfl
  refine hK _ ?_
  clear hK K
  refine wpQuiet_nil ?_
  intro wZ hZ
  go_wp2_with fail
  go_ret
  exact ⟨ret_int HM.out, hbr.out _ hZ⟩
set_option maxRecDepth 100000 in
set_option maxHeartbeats 8000000 in
theorem implPotentialsOf0 (N E S : Int) (a : Option Addr) (n c : Nat) (l : List Wz) (p q : Int) (hno : ¬ PotOk N E S l p q) (w : World) (hr : ArgRow w a n c 3 (wires l)) (hl : l.length = n) :
    Calls Try.prog 17 #[netV N E S a n c, .int .i64 p, .int .i64 q] w fun e w' => e = .returned (.tuple #[.slice none 0 0, .bool false]) ∧ Below w.heap.size w w' := by
  have HR := Lib.hid hr
  have HP0 : Hid ((w.alloc (.cells #[.int .i64 N, .int .i64 E, .int .i64 S, .slice a n c] 25)).rowIs w.heap.size 25 4 (netAt (.int .i64 N) (.int .i64 E) (.int .i64 S) (.slice a n c))) := netAt_new _ _ _ _ _ _
  obtain ⟨ok, hok⟩ := bool_of (NetOk N E S l)
  obtain ⟨t0, ht0⟩ := bool_of (0 ≤ p ∧ p < N)
  obtain ⟨t1, ht1⟩ := bool_of (0 ≤ q ∧ q < N)
  have KN := Lib.hid (fun (w : World) rr => implNetOk N E S a n c l ok hok w rr hl)
  have KP := Lib.hid (fun (w : World) => implIsNode N E S a n c p t0 ht0 w)
  have KQ := Lib.hid (fun (w : World) => implIsNode N E S a n c q t1 ht1 w)
  have hend : ok = true → t0 = true → t1 = true → p = q := fun h1 h2 h3 => by
    by_cases e : p = q
    · exact e
    · exact absurd ⟨hok.1 h1, ht0.1 h2, ht1.1 h3, e⟩ hno
  replace hend := Lib.hid hend
  clear hr hno ht0 ht1 hok
  go_enter Try.func17, Try.ntmps17
  go_wp2_with fail
  refine (KN.out _ (HR.out.below (by (repeat' (first | (with_reducible exact Below.refl _ _) | (with_reducible assumption) | (with_reducible refine balloc ?_ _) | (with_reducible refine Below.drew ?_) | (with_reducible refine below_drewN ?_ _) | (with_reducible refine bset ?_ ?_ _) | (with_reducible refine bstep ?_ (by assumption)) | go_size))))).mono ?_
  rintro e w1 ⟨rfl, hb1⟩
  have HN1 := Lib.hid (HP0.out.of_block (hb1.block _ HP0.out.lt))
  have B1 : Hid (Below w.heap.size w w1) := bstep (by (repeat' (first | (with_reducible exact Below.refl _ _) | (with_reducible assumption) | (with_reducible refine balloc ?_ _) | (with_reducible refine Below.drew ?_) | (with_reducible refine below_drewN ?_ _) | (with_reducible refine bset ?_ ?_ _) | (with_reducible refine bstep ?_ (by assumption)) | go_size))) hb1
  clear hb1
  obtain ⟨n1_0, n1_1, n1_2, n1_3⟩ := netAt_cells HN1.out
  have hl1 := HN1.out.lt
  cases ok
  · go_wp2_with fail
    go_returns
    exact ⟨rfl, B1.out⟩
  go_wp2_with fail
  refine (KP.out _).mono ?_
  rintro e w2 ⟨rfl, hb2⟩
  have HN2 := Lib.hid (HN1.out.of_block (hb2.block _ HN1.out.lt))
  have B2 : Hid (Below w.heap.size w w2) := bstep B1.out hb2
  clear hb2
  obtain ⟨n2_0, n2_1, n2_2, n2_3⟩ := netAt_cells HN2.out
  have hl2 := HN2.out.lt
  cases t0
  · go_wp2_with fail
    go_returns
    exact ⟨rfl, B2.out⟩
  go_wp2_with fail
  refine (KQ.out _).mono ?_
  rintro e w3 ⟨rfl, hb3⟩
  have HN3 := Lib.hid (HN2.out.of_block (hb3.block _ HN2.out.lt))
  have B3 : Hid (Below w.heap.size w w3) := bstep B2.out hb3
  clear hb3
  obtain ⟨n3_0, n3_1, n3_2, n3_3⟩ := netAt_cells HN3.out
  have hl3 := HN3.out.lt
  cases t1
  · go_wp2_with fail
    go_returns
    exact ⟨rfl, B3.out⟩
  obtain rfl : p = q := by have := hend.out; simpa using this
  go_wp2_with fail
  go_returns
  exact ⟨rfl, B3.out⟩
set_option maxRecDepth 100000 in
set_option maxHeartbeats 16000000 in
theorem implPotentialsOf (M : Nat) (E S : Int) (a : Option Addr) (n c : Nat) (l : List Wz) (p q : Int) (hok : PotOk M E S l p q) (w : World) (hr : ArgRow w a n c 3 (wires l)) (hl : l.length = n) :
    Calls Try.prog 17 #[netV M E S a n c, .int .i64 p, .int .i64 q] w fun e w' => PotRes e w w' (potR M S l p q M) ∧ Below w.heap.size w w' := by
  obtain ⟨i0, hi, hz0, hz1, hz2⟩ := info_parts infoRat
  have HI := Lib.hid (And.intro hi (And.intro hz0 (And.intro hz1 hz2)))
  clear hi hz0 hz1 hz2
  have HR := Lib.hid hr
  have HP0 : Hid ((w.alloc (.cells #[.int .i64 M, .int .i64 E, .int .i64 S, .slice a n c] 25)).rowIs w.heap.size 25 4 (netAt (.int .i64 M) (.int .i64 E) (.int .i64 S) (.slice a n c))) := netAt_new _ _ _ _ _ _
  have KN := Lib.hid (fun (w : World) rr => implNetOk M E S a n c l true ⟨fun _ => hok.net, fun _ => rfl⟩ w rr hl)
  have KP := Lib.hid (fun (w : World) => implIsNode M E S a n c p true ⟨fun _ => hok.hp, fun _ => rfl⟩ w)
  have KQ := Lib.hid (fun (w : World) => implIsNode M E S a n c q true ⟨fun _ => hok.hq, fun _ => rfl⟩ w)
  have hpq : (p == q) = false := by simp [hok.ne]
  have hM1 := hok.net.h.n1
  have hM5 := hok.net.h.n5
  have hS1 := hok.net.h.s1
  have hS2 := hok.net.h.s2
  have HSU := Lib.hid (fun (k : Nat) (hk : k < M) => (by rw [potR_succ, hok.net.pot_rat hok.hp hok.hq ⟨by omega, by omega⟩ hok.ne] : potR M S l p q (k + 1) = potR M S l p q k ++ [Gn.rat (S * potI M l p q k) (2 * leftW M l [0] [0])]))
  have KPO := Lib.hid (fun (k : Nat) (hk : k < M) (w : World) rr => implPotential M E S a n c l p q k hok.hp hok.hq ⟨by omega, by omega⟩ hok.net w rr hl)
  have KT := Lib.hid (fun (w : World) rr => implTreeSum M E S a n c l hok.net w rr hl)
  have HBP := Lib.hid (fun (k : Nat) (hk : k < M) => potI_bd hok.net hok.hp hok.hq (x := k) ⟨by omega, by omega⟩)
  have HBT := Lib.hid (tree_bd hok.net)
  have hPL := Lib.hid (fun k => potR_len M S l p q k)
  have HP00 : Hid (potR M S l p q 0 = []) := rfl
  generalize hpr : potR M S l p q = PR at HSU hPL HP00 ⊢
  clear hpr
  clear hr hok
  go_enter Try.func17, Try.ntmps17
  go_wp2_with fail
  refine (KN.out _ (HR.out.below (by (repeat' (first | (with_reducible exact Below.refl _ _) | (with_reducible assumption) | (with_reducible refine balloc ?_ _) | (with_reducible refine Below.drew ?_) | (with_reducible refine below_drewN ?_ _) | (with_reducible refine bset ?_ ?_ _) | (with_reducible refine bstep ?_ (by assumption)) | go_size))))).mono ?_
  rintro e w1 ⟨rfl, hb1⟩
  have HN1 := Lib.hid (HP0.out.of_block (hb1.block _ HP0.out.lt))
  have B1 : Hid (Below w.heap.size w w1) := bstep (by (repeat' (first | (with_reducible exact Below.refl _ _) | (with_reducible assumption) | (with_reducible refine balloc ?_ _) | (with_reducible refine Below.drew ?_) | (with_reducible refine below_drewN ?_ _) | (with_reducible refine bset ?_ ?_ _) | (with_reducible refine bstep ?_ (by assumption)) | go_size))) hb1
  clear hb1
  obtain ⟨n1_0, n1_1, n1_2, n1_3⟩ := netAt_cells HN1.out
  have hl1 := HN1.out.lt
  go_wp2_with fail
  refine (KP.out _).mono ?_
  rintro e w2 ⟨rfl, hb2⟩
  have HN2 := Lib.hid (HN1.out.of_block (hb2.block _ HN1.out.lt))
  have B2 : Hid (Below w.heap.size w w2) := bstep B1.out hb2
  clear hb2
  obtain ⟨n2_0, n2_1, n2_2, n2_3⟩ := netAt_cells HN2.out
  have hl2 := HN2.out.lt
  go_wp2_with fail
  refine (KQ.out _).mono ?_
  rintro e w3 ⟨rfl, hb3⟩
  have HN3 := Lib.hid (HN2.out.of_block (hb3.block _ HN2.out.lt))
  have B3 : Hid (Below w.heap.size w w3) := bstep B2.out hb3
  clear hb3
  obtain ⟨n3_0, n3_1, n3_2, n3_3⟩ := netAt_cells HN3.out
  have hl3 := HN3.out.lt
  go_wp2_with fail
  obtain ⟨wb, rfl⟩ : ∃ wb : World, wb = w3 := ⟨_, rfl⟩
  have HNB := HN3
  have HBW := B3
  have HO0 : Hid ((wb.alloc (.cells #[] 32)).ownsRow wb.heap.size 32 2 (.slice (some ⟨wb.heap.size, 0, none⟩) 0 0) 0 (rats (PR 0))) := by
    show World.ownsRow _ _ _ _ _ _ _
    rw [HP00.out]
    exact World.ownsRow_lit (base := wb.heap.size) (size := 2) wb #[] 0 (Nat.le_refl _) (by simp) rfl
  clear HN1 B1 hl1 n1_0 n1_1 n1_2 n1_3 HN2 B2 hl2 n2_0 n2_1 n2_2 n2_3 HN3 B3 hl3 n3_0 n3_1 n3_2 n3_3 HP0 HP00
  go_loopw [8, 33] (fun v u wr => ∃ (k g cq : Nat), k ≤ M ∧ u = .int .i64 k ∧ v = .slice (some ⟨g, 0, none⟩) k cq ∧ Hid (wr.ownsRow wb.heap.size 32 2 (.slice (some ⟨g, 0, none⟩) k cq) k (rats (PR k))) ∧ Hid (Below wb.heap.size wb wr)) (fun _ u _ => M - (intOf u).toNat)
  case atStart => exact ⟨0, wb.heap.size, 0, by omega, rfl, rfl, HO0.out, balloc (Below.refl _ _) _⟩
  case round =>
    clear HO0
    obtain ⟨k, g, cq, hk, rfl, rfl, H, HB⟩ := hrel
    by_cases hlt : k < M
    · have hnw := netAt_cells (HNB.out.of_block (HB.out.block _ HNB.out.lt))
      obtain ⟨y0, y1, y2, y3⟩ := hnw
      have hly := (HNB.out.of_block (HB.out.block _ HNB.out.lt)).lt
      have hrd : ∀ w', Below wr.heap.size wr w' → w'.cell? ⟨w.heap.size, 0, none⟩ = some (.int .i64 M) ∧ w'.cell? ⟨w.heap.size, 1, none⟩ = some (.int .i64 E) ∧ w'.cell? ⟨w.heap.size, 2, none⟩ = some (.int .i64 S) ∧ w'.cell? ⟨w.heap.size, 3, none⟩ = some (.slice a n c) := fun w' h => netAt_cells ((HNB.out.of_block (HB.out.block _ HNB.out.lt)).of_block (h.block _ (HNB.out.of_block (HB.out.block _ HNB.out.lt)).lt))
      have hbr := Lib.hid (fun (w' : World) (h : Below wr.heap.size wr w') => (bstep (HBW.out.trans (HB.out.mono HBW.out.size)) h : Below w.heap.size w w'))
      replace hrd := Lib.hid hrd
      have HV := HSU.out k hlt
      have hbp := HBP.out k hlt
      have hbt := HBT.out
      have KPK := Lib.hid (fun w rr => KPO.out k hlt w rr)
      obtain ⟨P, hP⟩ : ∃ P, potI M l p q k = P := ⟨_, rfl⟩
      obtain ⟨T, hT⟩ : ∃ T, leftW M l [0] [0] = T := ⟨_, rfl⟩
      rw [hP] at HV hbp KPK
      rw [hT] at HV hbt
      have KT1 := KT
      rw [hT] at KT1
      clear hP hT
      have hb2 := mul_bd (x := S) (X := 1000) (by have := hS1; have := hS2; omega) hbp
      have m1 : IntKind.i64.wrap (S * P) = S * P := IntWalk.i64_in _ (by omega)
      have m2 : IntKind.i64.wrap (2 * T) = 2 * T := IntWalk.i64_in _ (by omega)
      have KR := fun w => implRatioOf (S * P) (2 * T) w (by omega) (by omega) (by omega) (by omega)
      generalize Gn.rat (S * P) (2 * T) = Q at HV KR
      obtain ⟨R0, R1⟩ := Q
      replace HV := Lib.hid HV
      replace KR := Lib.hid KR
      clear hbp hbt hb2
      go_wp2_with fail
      clear y0 y1 y2 y3
      refine region_quiet_tail_move (v := .slice (some ⟨g, 0, none⟩) k cq) (fun w' => Below wr.heap.size wr w') 12 (by kernel_rfl) (by kernel_rfl) (Below.refl _ _).drew (.inl ⟨rfl, fun _ => rfl⟩) ?_
      simp only [List.take_succ_cons, List.take_zero, List.drop_succ_cons, List.drop_zero]
      refine wpQuiet_step (fun K hK => ?_)
      go_simp
      apply Exists.intro
      constructor
      · intro w' hw'; exact rfl
      refine hK _ ?_
      clear hK K
      refine wpQuiet_step (fun K hK => ?_)
      go_simp
      refine ⟨.int .i64 S, fun w' hw' => ?_, hK _ ?_⟩
      · obtain ⟨c0, c1, c2, c3⟩ := hrd.out w' hw'
        go_simp
      clear hK K
      refine wpQuiet_step (fun K hK => ?_)
      go_simp
      refine ⟨.agg #[.int .i64 M, .int .i64 E, .int .i64 S, .slice a n c], fun w' hw' => ?_, hK _ ?_⟩
      · obtain ⟨c0, c1, c2, c3⟩ := hrd.out w' hw'
        go_simp
      clear hK K
      refine wpQuiet_step (fun K hK => ?_)
      go_simp
      apply Exists.intro
      constructor
      · intro w' hw'; exact rfl
      refine hK _ ?_
      clear hK K
      refine wpQuiet_step (fun K hK => ?_)
      go_simp
      apply Exists.intro
      constructor
      · intro w' hw'; exact rfl
      refine hK _ ?_
      clear hK K
      refine wpQuiet_step (fun K hK => ?_)
      go_simp
      apply Exists.intro
      constructor
      · intro w' hw'; exact rfl
      refine hK _ ?_
      clear hK K
      refine wpQuiet_step (fun K hK => ?_)
      go_simp
      refine ⟨.int .i64 P, fun w' hw' => (KPK.out w' (HR.out.below (hbr.out w' hw'))).mono (fun e w'' h => ⟨h.1, hw'.trans (h.2.mono (by have := hw'.size; simpa using this))⟩), hK _ ?_⟩
      clear hK K
      refine wpQuiet_step (fun K hK => ?_)
      go_simp
      apply Exists.intro
      constructor
      · intro w' hw'; exact rfl
      refine hK _ ?_
      clear hK K
      refine wpQuiet_step (fun K hK => ?_)
      go_simp
      refine ⟨.agg #[.int .i64 M, .int .i64 E, .int .i64 S, .slice a n c], fun w' hw' => ?_, hK _ ?_⟩
      · obtain ⟨c0, c1, c2, c3⟩ := hrd.out w' hw'
        go_simp
      clear hK K
      refine wpQuiet_step (fun K hK => ?_)
      go_simp
      refine ⟨.int .i64 T, fun w' hw' => (KT1.out w' (HR.out.below (hbr.out w' hw'))).mono (fun e w'' h => ⟨h.1, hw'.trans (h.2.mono (by have := hw'.size; simpa using this))⟩), hK _ ?_⟩
      clear hK K
      refine wpQuiet_step (fun K hK => ?_)
      go_simp
      apply Exists.intro
      constructor
      · intro w' hw'; exact rfl
      refine hK _ ?_
      clear hK K
      refine wpQuiet_step (fun K hK => ?_)
      go_simp
      refine ⟨ratV R0 R1, fun w' hw' => (KR.out w').mono (fun e w'' h => ⟨h.1, hw'.trans (h.2.mono (by have := hw'.size; simpa using this))⟩), hK _ ?_⟩
      clear hK K
      refine wpQuiet_nil ?_
      intro wZ hZ
      have hown := own_below H.out hZ
      have hzl := hZ.size
      go_wp2_with (at_builtin; refine wpList_append_own _ rfl _ _ 28 rfl wb.heap.size 32 i0 (.agg #[.int .i64 0, .int .i64 0]) 2 16 Try.underlying28 HI.out.1 HI.out.2.1 HI.out.2.2.1 HI.out.2.2.2 rfl (by decide) _ _ _ rfl (hown.alloc _) ⟨wZ.heap.size, 0, none⟩ 1 1 [.int .i64 R0, .int .i64 R1] rfl rfl ?c1 ?c2 ?c3 ?c4 ?c5 ?_)
      case c1 => exact World.news_of_block (cs := #[.int .i64 R0, .int .i64 R1]) (t := 32) (fr := (0, 0)) (heap_alloc_new wZ _)
      case c2 => intro v hv; simp at hv; rcases hv with rfl | rfl <;> rfl
      case c3 => unfold maxLen; omega
      case c4 => omega
      case c5 => have := HB.out.size; simp; omega
      intro v' w7 hown' hgrow _
      obtain ⟨g3, c3, rfl⟩ := own_some hown' (by omega)
      have H3 : Hid (w7.ownsRow wb.heap.size 32 2 (.slice (some ⟨g3, 0, none⟩) (k + 1) c3) (k + 1) (rats (PR (k + 1)))) := by
        show World.ownsRow _ _ _ _ _ _ _
        rw [HV.out, rats_snoc]; exact hown'
      have HB3 : Hid (Below wb.heap.size wb w7) := (balloc (HB.out.trans (hZ.mono HB.out.size)) _).grown hgrow (by have := HB.out.size; simp; omega) (fun k hk => (hown.lt k hk).1)
      clear hown hown' hgrow hZ hzl
      go_wp2_with fail
      refine NoPanic.normal ?_
      go_wp2_with fail
      go_roundw
      case rel => exact ⟨k + 1, g3, c3, by omega, by go_num, rfl, H3.out, HB3.out⟩
      case measure => simp [intOf]; omega
    · obtain rfl : k = M := by omega
      have hnw := netAt_cells (HNB.out.of_block (HB.out.block _ HNB.out.lt))
      obtain ⟨y0, y1, y2, y3⟩ := hnw
      go_wp2_with fail
      go_returns
      refine ⟨⟨g, cq, by rw [hPL.out]; rfl, ?_⟩, HBW.out.trans (HB.out.mono HBW.out.size)⟩
      rw [hPL.out]
      exact H.out.mono HBW.out.size
end Go.Proofs.Ytjchindjoailbaa

/- PotentialsOf of the reference. -/
namespace Go.Proofs.Ytjchindjoailbaa
set_option linter.unusedSimpArgs false
set_option linter.unusedVariables false
open Go.RowKit

set_option maxRecDepth 100000 in
set_option maxHeartbeats 8000000 in
theorem specSorted (p q : Int) (w : World) :
    Calls Try.prog 145 #[.int .i64 p, .int .i64 q] w fun e w' => ∃ g, e = .returned (.slice (some ⟨g, 0, none⟩) 2 2) ∧ ArgRow w' (some ⟨g, 0, none⟩) 2 2 1 (ints (Gn.srt2 p q)) ∧ Below w.heap.size w w' := by
  by_cases h : q < p
  · have e1 : Gn.srt2 p q = [q, p] := by unfold Gn.srt2; rw [if_pos h]
    have h2 : ¬ p ≤ q := by omega
    rw [e1]
    clear e1
    go_enter Try.func145, Try.ntmps145
    go_wp2_with fail
    go_ret
    exact ⟨_, rfl, by rw [show min p q = q by omega, show max p q = p by omega]; exact row_two w q p, balloc (Below.refl _ _) _⟩
  · have e1 : Gn.srt2 p q = [p, q] := by unfold Gn.srt2; rw [if_neg h]
    have h2 : p ≤ q := by omega
    rw [e1]
    clear e1
    go_enter Try.func145, Try.ntmps145
    go_wp2_with fail
    go_ret
    exact ⟨_, rfl, by rw [show min p q = p by omega, show max p q = q by omega]; exact row_two w p q, balloc (Below.refl _ _) _⟩
set_option maxRecDepth 100000 in
set_option maxHeartbeats 8000000 in
theorem specIndex (v b : Int) (w : World) (hv : 0 ≤ v ∧ v < 6) :
    Calls Try.prog 146 #[.int .i64 v, .int .i64 b] w fun e w' => e = .returned (.int .i64 (Gn.idx v b)) ∧ w = w' := by
  unfold Gn.idx
  by_cases h : b < v
  · rw [if_pos h]
    go_enter Try.func146, Try.ntmps146
    go_wp2_with fail
    go_ret
    exact ⟨rfl, rfl⟩
  · rw [if_neg h]
    go_enter Try.func146, Try.ntmps146
    go_wp2_with fail
    go_ret
    exact ⟨rfl, rfl⟩
set_option maxRecDepth 100000 in
set_option maxHeartbeats 8000000 in
theorem specPotential (M : Nat) (E S : Int) (a : Option Addr) (n c : Nat) (l : List Wz) (p q v : Int) (hp : 0 ≤ p ∧ p < M) (hq : 0 ≤ q ∧ q < M) (hv : 0 ≤ v ∧ v < M) (hpq : ¬ p = q) (hok : NetOk M E S l) (w : World) (hr : ArgRow w a n c 3 (wires l)) (hl : l.length = n) :
    Calls Try.prog 114 #[netV M E S a n c, .int .i64 p, .int .i64 q, .int .i64 v] w fun e w' => e = .returned (.int .i64 (potV M l p q v)) ∧ Below w.heap.size w w' := by
  have hM5 := hok.h.n5
  by_cases e : v = q
  · subst e
    have e1 : potV M l p v v = 0 := by unfold potV; rw [if_pos rfl]
    rw [e1]
    clear hr hok e1
    go_enter Try.func114, Try.ntmps114
    go_wp2_with fail
    go_ret
    exact ⟨rfl, by (repeat' (first | (with_reducible exact Below.refl _ _) | (with_reducible assumption) | (with_reducible refine balloc ?_ _) | (with_reducible refine Below.drew ?_) | (with_reducible refine below_drewN ?_ _) | (with_reducible refine bset ?_ ?_ _) | (with_reducible refine bstep ?_ (by assumption)) | go_size))⟩
  have hpvb := potV_bd hok hp hq hv hpq
  have e2 : (v == q) = false := by simp [e]
  have l1 := srt2_two (M := M) (by omega) hp hq hpq
  have l2 := srt2_two (M := M) (by omega) hv hq e
  have HR := Lib.hid hr
  have KA := Lib.hid (fun (w : World) => specSorted p q w)
  have KB := Lib.hid (fun (w : World) => specSorted v q w)
  have KM := Lib.hid (fun (g1 g2 : Nat) (w : World) rr r1 r2 => specMinor M E S a n c l g1 g2 2 2 2 2 (Gn.srt2 p q) (Gn.srt2 v q) (by omega) hok w rr hl r1 r2)
  have KI := Lib.hid (fun (w : World) => specIndex p q w (by omega))
  have KJ := Lib.hid (fun (w : World) => specIndex v q w (by omega))
  have i1 : 0 ≤ Gn.idx p q ∧ Gn.idx p q < 6 := by unfold Gn.idx; split <;> omega
  have i2 : 0 ≤ Gn.idx v q ∧ Gn.idx v q < 6 := by unfold Gn.idx; split <;> omega
  have HV : Hid (potV M l p q v = if (Gn.idx p q + Gn.idx v q) % 2 ≠ 0 then -(leftW M l (Gn.srt2 p q) (Gn.srt2 v q)) else leftW M l (Gn.srt2 p q) (Gn.srt2 v q)) := by
    show _ = _; unfold potV; rw [if_neg e]
  generalize potV M l p q v = PV at HV hpvb ⊢
  generalize leftW M l (Gn.srt2 p q) (Gn.srt2 v q) = D at KM HV
  generalize Gn.srt2 p q = s1 at KA KM
  generalize Gn.srt2 v q = s2 at KB KM
  generalize Gn.idx p q = j1 at KI HV i1
  generalize Gn.idx v q = j2 at KJ HV i2
  clear hr hok e l1 l2 hp hq hv hpq hM5
  have hDB : -750000000000 ≤ D ∧ D ≤ 750000000000 := by
    have := HV.out
    split at this <;> omega
  by_cases hpar : (j1 + j2) % 2 = 0
  all_goals
    have HV2 := HV
    first
      | (have HV3 : Hid (PV = D) := by (have := HV2.out; rw [if_neg (by omega)] at this; exact this))
      | (have HV3 : Hid (PV = -D) := by (have := HV2.out; rw [if_pos hpar] at this; exact this))
    clear HV HV2 hpvb
    go_enter Try.func114, Try.ntmps114
    go_wp2_with fail
    go_upto_region 3 with fail
    go_cut [9] (fun s9 wc => s9 = .int .i64 D ∧ Hid (Below w.heap.size w wc))
    case first =>
      go_region_held3 (fun w' => w'.cell? ⟨w.heap.size, 0, none⟩ = some (.int .i64 M) ∧ w'.cell? ⟨w.heap.size, 1, none⟩ = some (.int .i64 E) ∧ w'.cell? ⟨w.heap.size, 2, none⟩ = some (.int .i64 S) ∧ w'.cell? ⟨w.heap.size, 3, none⟩ = some (.slice a n c)) (go_keep)
        ((first
        | (go_at_call_of 145 p; ((with_reducible refine (KA.out _).mono ?_); rintro e wA ⟨gA, rfl, oA, hbA⟩); (try (replace hbA := bdrew hbA)); have RA := Lib.hid oA; clear oA; (try (have hq_ := bltn hbA (b := w.heap.size) (by (first | omega | (simp only [World.size_alloc, World.size_setCell, World.size_drew, World.heap_drewN]; omega))); obtain ⟨uu, vv, zz, nn, mm⟩ := hq_)))
        | (go_at_call_of 145 v; ((with_reducible refine (KB.out _).mono ?_); rintro e wB ⟨gB, rfl, oB, hbB⟩); (try (replace hbB := bdrew hbB)); have RB := Lib.hid oB; clear oB; (try (have hq_ := bltn hbB (b := w.heap.size) (by (first | omega | (simp only [World.size_alloc, World.size_setCell, World.size_drew, World.heap_drewN]; omega))); obtain ⟨uu, vv, zz, nn, mm⟩ := hq_)))
        | (go_at_call 144; ((with_reducible refine (KM.out gA gB _ (HR.out.below (by (repeat' (first | (with_reducible exact Below.refl _ _) | (with_reducible assumption) | (with_reducible refine balloc ?_ _) | (with_reducible refine Below.drew ?_) | (with_reducible refine below_drewN ?_ _) | (with_reducible refine bset ?_ ?_ _) | (with_reducible refine bstep ?_ (by assumption)) | go_size))))
            (by first | exact RA.out | exact RA.out.below hbB)
            (by first | exact RB.out | exact RB.out.below hbA)).mono ?_); rintro e wD ⟨rfl, hbD⟩); (try (have hq_ := bltn hbD (b := w.heap.size) (by (first | omega | (simp only [World.size_alloc, World.size_setCell, World.size_drew, World.heap_drewN]; omega))); obtain ⟨uu, vv, zz, nn, mm⟩ := hq_)))))
      all_goals
        go_wp2_with fail
        go_meet
        exact ⟨rfl, by show Below _ _ _; (repeat' (first | (with_reducible exact Below.refl _ _) | (with_reducible assumption) | (with_reducible refine balloc ?_ _) | (with_reducible refine Below.drew ?_) | (with_reducible refine below_drewN ?_ _) | (with_reducible refine bset ?_ ?_ _) | (with_reducible refine bstep ?_ (by assumption)) | go_size))⟩
    case rest =>
      obtain ⟨rfl, HB⟩ := hcut
      go_wp2_with fail
      refine (KI.out _).mono ?_
      rintro e w9 ⟨rfl, rfl⟩
      go_wp2_with fail
      refine (KJ.out _).mono ?_
      rintro e w9 ⟨rfl, rfl⟩
      go_wp2_with fail
      go_ret
      exact ⟨ret_int HV3.out.symm, HB.out⟩
set_option maxRecDepth 100000 in
set_option maxHeartbeats 8000000 in
theorem specPotentialsOf0 (N E S : Int) (a : Option Addr) (n c : Nat) (l : List Wz) (p q : Int) (hno : ¬ PotOk N E S l p q) (w : World) (hr : ArgRow w a n c 3 (wires l)) (hl : l.length = n) :
    Calls Try.prog 69 #[netV N E S a n c, .int .i64 p, .int .i64 q] w fun e w' => e = .returned (.tuple #[.slice none 0 0, .bool false]) ∧ Below w.heap.size w w' := by
  have HR := Lib.hid hr
  have HP0 : Hid ((w.alloc (.cells #[.int .i64 N, .int .i64 E, .int .i64 S, .slice a n c] 25)).rowIs w.heap.size 25 4 (netAt (.int .i64 N) (.int .i64 E) (.int .i64 S) (.slice a n c))) := netAt_new _ _ _ _ _ _
  obtain ⟨ok, hok⟩ := bool_of (NetOk N E S l)
  obtain ⟨t0, ht0⟩ := bool_of (0 ≤ p ∧ p ≤ N - 1)
  obtain ⟨t1, ht1⟩ := bool_of (0 ≤ q ∧ q ≤ N - 1)
  have KN := Lib.hid (fun (w : World) rr => specNetOk N E S a n c l ok hok w rr hl)
  have KP := Lib.hid (fun (w : World) => specIn p 0 (N - 1) t0 ht0 w)
  have KQ := Lib.hid (fun (w : World) => specIn q 0 (N - 1) t1 ht1 w)
  have hNB : ok = true → 1 ≤ N ∧ N ≤ 5 := fun h => ⟨(hok.1 h).h.n1, (hok.1 h).h.n5⟩
  have hend : ok = true → t0 = true → t1 = true → p = q := fun h1 h2 h3 => by
    by_cases e : p = q
    · exact e
    · exact absurd ⟨hok.1 h1, by have := ht0.1 h2; omega, by have := ht1.1 h3; omega, e⟩ hno
  replace hend := Lib.hid hend
  clear hr hno ht0 ht1 hok
  go_enter Try.func69, Try.ntmps69
  go_wp2_with fail
  refine (KN.out _ (HR.out.below (by (repeat' (first | (with_reducible exact Below.refl _ _) | (with_reducible assumption) | (with_reducible refine balloc ?_ _) | (with_reducible refine Below.drew ?_) | (with_reducible refine below_drewN ?_ _) | (with_reducible refine bset ?_ ?_ _) | (with_reducible refine bstep ?_ (by assumption)) | go_size))))).mono ?_
  rintro e w1 ⟨rfl, hb1⟩
  have HN1 := Lib.hid (HP0.out.of_block (hb1.block _ HP0.out.lt))
  have B1 : Hid (Below w.heap.size w w1) := bstep (by (repeat' (first | (with_reducible exact Below.refl _ _) | (with_reducible assumption) | (with_reducible refine balloc ?_ _) | (with_reducible refine Below.drew ?_) | (with_reducible refine below_drewN ?_ _) | (with_reducible refine bset ?_ ?_ _) | (with_reducible refine bstep ?_ (by assumption)) | go_size))) hb1
  clear hb1
  obtain ⟨n1_0, n1_1, n1_2, n1_3⟩ := netAt_cells HN1.out
  have hl1 := HN1.out.lt
  cases ok
  · go_wp2_with fail
    go_returns
    exact ⟨rfl, B1.out⟩
  have hNB2 := hNB rfl
  go_wp2_with fail
  refine (KP.out _).mono ?_
  rintro e w9 ⟨rfl, rfl⟩
  cases t0
  · go_wp2_with fail
    go_returns
    exact ⟨rfl, B1.out⟩
  go_wp2_with fail
  refine (KQ.out _).mono ?_
  rintro e w9 ⟨rfl, rfl⟩
  cases t1
  · go_wp2_with fail
    go_returns
    exact ⟨rfl, B1.out⟩
  obtain rfl : p = q := by have := hend.out; simpa using this
  go_wp2_with fail
  go_returns
  exact ⟨rfl, B1.out⟩
set_option maxRecDepth 100000 in
set_option maxHeartbeats 16000000 in
theorem specPotentialsOf (M : Nat) (E S : Int) (a : Option Addr) (n c : Nat) (l : List Wz) (p q : Int) (hok : PotOk M E S l p q) (w : World) (hr : ArgRow w a n c 3 (wires l)) (hl : l.length = n) :
    Calls Try.prog 69 #[netV M E S a n c, .int .i64 p, .int .i64 q] w fun e w' => PotRes e w w' (potR M S l p q M) ∧ Below w.heap.size w w' := by
  obtain ⟨i0, hi, hz0, hz1, hz2⟩ := info_parts infoRat
  have HI := Lib.hid (And.intro hi (And.intro hz0 (And.intro hz1 hz2)))
  clear hi hz0 hz1 hz2
  have HR := Lib.hid hr
  have HP0 : Hid ((w.alloc (.cells #[.int .i64 M, .int .i64 E, .int .i64 S, .slice a n c] 25)).rowIs w.heap.size 25 4 (netAt (.int .i64 M) (.int .i64 E) (.int .i64 S) (.slice a n c))) := netAt_new _ _ _ _ _ _
  have KN := Lib.hid (fun (w : World) rr => specNetOk M E S a n c l true ⟨fun _ => hok.net, fun _ => rfl⟩ w rr hl)
  have KP := Lib.hid (fun (w : World) => specIn p 0 ((M : Int) - 1) true ⟨fun _ => by have := hok.hp; omega, fun _ => rfl⟩ w)
  have KQ := Lib.hid (fun (w : World) => specIn q 0 ((M : Int) - 1) true ⟨fun _ => by have := hok.hq; omega, fun _ => rfl⟩ w)
  have hpq : (p == q) = false := by simp [hok.ne]
  have hM1 := hok.net.h.n1
  have hM5 := hok.net.h.n5
  have hS1 := hok.net.h.s1
  have hS2 := hok.net.h.s2
  have HSU := Lib.hid (fun (k : Nat) => potR_succ M S l p q k)
  have KPO := Lib.hid (fun (k : Nat) (hk : k < M) (w : World) rr => specPotential M E S a n c l p q k hok.hp hok.hq ⟨by omega, by omega⟩ hok.ne hok.net w rr hl)
  have KSC := Lib.hid (fun (k : Nat) (hk : k < M) (w : World) rr => specScaled M E S a n c l (potV M l p q k) (potV_bd hok.net hok.hp hok.hq ⟨by omega, by omega⟩ hok.ne) hok.net w rr hl)
  have hPL := Lib.hid (fun k => potR_len M S l p q k)
  have HP00 : Hid (potR M S l p q 0 = []) := rfl
  generalize hpr : potR M S l p q = PR at HSU hPL HP00 ⊢
  clear hpr
  clear hr hok
  go_enter Try.func69, Try.ntmps69
  go_wp2_with fail
  refine (KN.out _ (HR.out.below (by (repeat' (first | (with_reducible exact Below.refl _ _) | (with_reducible assumption) | (with_reducible refine balloc ?_ _) | (with_reducible refine Below.drew ?_) | (with_reducible refine below_drewN ?_ _) | (with_reducible refine bset ?_ ?_ _) | (with_reducible refine bstep ?_ (by assumption)) | go_size))))).mono ?_
  rintro e w1 ⟨rfl, hb1⟩
  have HN1 := Lib.hid (HP0.out.of_block (hb1.block _ HP0.out.lt))
  have B1 : Hid (Below w.heap.size w w1) := bstep (by (repeat' (first | (with_reducible exact Below.refl _ _) | (with_reducible assumption) | (with_reducible refine balloc ?_ _) | (with_reducible refine Below.drew ?_) | (with_reducible refine below_drewN ?_ _) | (with_reducible refine bset ?_ ?_ _) | (with_reducible refine bstep ?_ (by assumption)) | go_size))) hb1
  clear hb1
  obtain ⟨n1_0, n1_1, n1_2, n1_3⟩ := netAt_cells HN1.out
  have hl1 := HN1.out.lt
  go_wp2_with fail
  refine (KP.out _).mono ?_
  rintro e w9 ⟨rfl, rfl⟩
  go_wp2_with fail
  refine (KQ.out _).mono ?_
  rintro e w9 ⟨rfl, rfl⟩
  go_wp2_with fail
  obtain ⟨wb, rfl⟩ : ∃ wb : World, wb = w1 := ⟨_, rfl⟩
  have HNB := HN1
  have HBW := B1
  have HO0 : Hid ((wb.alloc (.cells #[] 32)).ownsRow wb.heap.size 32 2 (.slice (some ⟨wb.heap.size, 0, none⟩) 0 0) 0 (rats (PR 0))) := by
    show World.ownsRow _ _ _ _ _ _ _
    rw [HP00.out]
    exact World.ownsRow_lit (base := wb.heap.size) (size := 2) wb #[] 0 (Nat.le_refl _) (by simp) rfl
  clear HN1 B1 hl1 n1_0 n1_1 n1_2 n1_3 HP0 HP00
  go_loopw [8, 9] (fun v u wr => ∃ (k g cq : Nat), k ≤ M ∧ u = .int .i64 k ∧ v = .slice (some ⟨g, 0, none⟩) k cq ∧ Hid (wr.ownsRow wb.heap.size 32 2 (.slice (some ⟨g, 0, none⟩) k cq) k (rats (PR k))) ∧ Hid (Below wb.heap.size wb wr)) (fun _ u _ => M - (intOf u).toNat)
  case atStart => exact ⟨0, wb.heap.size, 0, by omega, rfl, rfl, HO0.out, balloc (Below.refl _ _) _⟩
  case round =>
    clear HO0
    obtain ⟨k, g, cq, hk, rfl, rfl, H, HB⟩ := hrel
    by_cases hlt : k < M
    · have hnw := netAt_cells (HNB.out.of_block (HB.out.block _ HNB.out.lt))
      obtain ⟨y0, y1, y2, y3⟩ := hnw
      have hly := (HNB.out.of_block (HB.out.block _ HNB.out.lt)).lt
      have hrd : ∀ w', Below wr.heap.size wr w' → w'.cell? ⟨w.heap.size, 0, none⟩ = some (.int .i64 M) ∧ w'.cell? ⟨w.heap.size, 1, none⟩ = some (.int .i64 E) ∧ w'.cell? ⟨w.heap.size, 2, none⟩ = some (.int .i64 S) ∧ w'.cell? ⟨w.heap.size, 3, none⟩ = some (.slice a n c) := fun w' h => netAt_cells ((HNB.out.of_block (HB.out.block _ HNB.out.lt)).of_block (h.block _ (HNB.out.of_block (HB.out.block _ HNB.out.lt)).lt))
      have hbr := Lib.hid (fun (w' : World) (h : Below wr.heap.size wr w') => (bstep (HBW.out.trans (HB.out.mono HBW.out.size)) h : Below w.heap.size w w'))
      replace hrd := Lib.hid hrd
      have HV := HSU.out k
      have KPK := Lib.hid (fun w rr => KPO.out k hlt w rr)
      have KS := fun w rr => KSC.out k hlt w rr
      obtain ⟨P, hP⟩ : ∃ P, potV M l p q k = P := ⟨_, rfl⟩
      rw [hP] at HV KPK
      simp only [hP] at KS
      clear hP
      generalize Gn.rat (S * P) (leftW M l [0] [0]) = Q at HV KS
      obtain ⟨R0, R1⟩ := Q
      replace HV := Lib.hid HV
      replace KS := Lib.hid KS
      go_wp2_with fail
      clear y0 y1 y2 y3
      refine region_quiet_tail_move (v := .slice (some ⟨g, 0, none⟩) k cq) (fun w' => Below wr.heap.size wr w') 7 (by kernel_rfl) (by kernel_rfl) (Below.refl _ _).drew (.inl ⟨rfl, fun _ => rfl⟩) ?_
      simp only [List.take_succ_cons, List.take_zero, List.drop_succ_cons, List.drop_zero]
      refine wpQuiet_step (fun K hK => ?_)
      go_simp
      refine ⟨.agg #[.int .i64 M, .int .i64 E, .int .i64 S, .slice a n c], fun w' hw' => ?_, hK _ ?_⟩
      · obtain ⟨c0, c1, c2, c3⟩ := hrd.out w' hw'
        go_simp
      clear hK K
      refine wpQuiet_step (fun K hK => ?_)
      go_simp
      refine ⟨.agg #[.int .i64 M, .int .i64 E, .int .i64 S, .slice a n c], fun w' hw' => ?_, hK _ ?_⟩
      · obtain ⟨c0, c1, c2, c3⟩ := hrd.out w' hw'
        go_simp
      clear hK K
      refine wpQuiet_step (fun K hK => ?_)
      go_simp
      apply Exists.intro
      constructor
      · intro w' hw'; exact rfl
      refine hK _ ?_
      clear hK K
      refine wpQuiet_step (fun K hK => ?_)
      go_simp
      apply Exists.intro
      constructor
      · intro w' hw'; exact rfl
      refine hK _ ?_
      clear hK K
      refine wpQuiet_step (fun K hK => ?_)
      go_simp
      apply Exists.intro
      constructor
      · intro w' hw'; exact rfl
      refine hK _ ?_
      clear hK K
      refine wpQuiet_step (fun K hK => ?_)
      go_simp
      refine ⟨.int .i64 P, fun w' hw' => (KPK.out w' (HR.out.below (hbr.out w' hw'))).mono (fun e w'' h => ⟨h.1, hw'.trans (h.2.mono (by have := hw'.size; simpa using this))⟩), hK _ ?_⟩
      clear hK K
      refine wpQuiet_step (fun K hK => ?_)
      go_simp
      refine ⟨ratV R0 R1, fun w' hw' => (KS.out w' (HR.out.below (hbr.out w' hw'))).mono (fun e w'' h => ⟨h.1, hw'.trans (h.2.mono (by have := hw'.size; simpa using this))⟩), hK _ ?_⟩
      clear hK K
      refine wpQuiet_nil ?_
      intro wZ hZ
      have hown := own_below H.out hZ
      have hzl := hZ.size
      go_wp2_with (at_builtin; refine wpList_append_own _ rfl _ _ 28 rfl wb.heap.size 32 i0 (.agg #[.int .i64 0, .int .i64 0]) 2 16 Try.underlying28 HI.out.1 HI.out.2.1 HI.out.2.2.1 HI.out.2.2.2 rfl (by decide) _ _ _ rfl (hown.alloc _) ⟨wZ.heap.size, 0, none⟩ 1 1 [.int .i64 R0, .int .i64 R1] rfl rfl ?c1 ?c2 ?c3 ?c4 ?c5 ?_)
      case c1 => exact World.news_of_block (cs := #[.int .i64 R0, .int .i64 R1]) (t := 32) (fr := (0, 0)) (heap_alloc_new wZ _)
      case c2 => intro v hv; simp at hv; rcases hv with rfl | rfl <;> rfl
      case c3 => unfold maxLen; omega
      case c4 => omega
      case c5 => have := HB.out.size; simp; omega
      intro v' w7 hown' hgrow _
      obtain ⟨g3, c3, rfl⟩ := own_some hown' (by omega)
      have H3 : Hid (w7.ownsRow wb.heap.size 32 2 (.slice (some ⟨g3, 0, none⟩) (k + 1) c3) (k + 1) (rats (PR (k + 1)))) := by
        show World.ownsRow _ _ _ _ _ _ _
        rw [HV.out, rats_snoc]; exact hown'
      have HB3 : Hid (Below wb.heap.size wb w7) := (balloc (HB.out.trans (hZ.mono HB.out.size)) _).grown hgrow (by have := HB.out.size; simp; omega) (fun k hk => (hown.lt k hk).1)
      clear hown hown' hgrow hZ hzl
      go_wp2_with fail
      refine NoPanic.normal ?_
      go_wp2_with fail
      go_roundw
      case rel => exact ⟨k + 1, g3, c3, by omega, by go_num, rfl, H3.out, HB3.out⟩
      case measure => simp [intOf]; omega
    · obtain rfl : k = M := by omega
      have hnw := netAt_cells (HNB.out.of_block (HB.out.block _ HNB.out.lt))
      obtain ⟨y0, y1, y2, y3⟩ := hnw
      go_wp2_with fail
      go_returns
      refine ⟨⟨g, cq, by rw [hPL.out]; rfl, ?_⟩, HBW.out.trans (HB.out.mono HBW.out.size)⟩
      rw [hPL.out]
      exact H.out.mono HBW.out.size
end Go.Proofs.Ytjchindjoailbaa
