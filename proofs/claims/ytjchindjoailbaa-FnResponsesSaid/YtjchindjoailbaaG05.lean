/- RatioOf of the program and of the reference reduce a fraction alike. -/
import Derived.Test.YtjchindjoailbaaG04
namespace Go.Proofs.Ytjchindjoailbaa
set_option linter.unusedSimpArgs false
set_option linter.unusedVariables false
open Go.RowKit

theorem ratV_eq {a b c d : Int} (h1 : a = c) (h2 : b = d) : ratV a b = ratV c d := by rw [h1, h2]

theorem fit_false {n d : Int} (h : Gn.fit n d = false) : Gn.rat n d = (0, 0) := by unfold Gn.rat; rw [if_neg (by simp [h])]
theorem fit_true {n d : Int} (h : Gn.fit n d = true) : Gn.rat n d = (Gn.ratN n d, Gn.ratD n d) := by unfold Gn.rat; rw [if_pos h]
theorem fit_zero (n : Int) : Gn.fit n 0 = false := by simp [Gn.fit]
theorem fit_iff {n d : Int} (hd : d ≠ 0) : Gn.fit n d = true ↔ n.natAbs / Gn.gz n d ≤ 1000000000000000000 ∧ d.natAbs / Gn.gz n d ≤ 1000000000000000 := by
  simp [Gn.fit, hd]

theorem ratN_of_same {n d : Int} {a : Nat} (h : n.natAbs / Gn.gz n d = a) (hs : n < 0 ↔ d < 0) : Gn.ratN n d = (a : Int) := by
  unfold Gn.ratN; rw [if_neg (by simp [hs]), h]
theorem ratN_of_other {n d : Int} {a : Nat} (h : n.natAbs / Gn.gz n d = a) (hs : ¬ (n < 0 ↔ d < 0)) : Gn.ratN n d = -(a : Int) := by
  unfold Gn.ratN
  rw [if_pos (by by_cases h1 : n < 0 <;> by_cases h2 : d < 0 <;> simp_all), h]

set_option maxRecDepth 100000 in
set_option maxHeartbeats 1000000 in
theorem implRatioOf (n d : Int) (w : World) (hn1 : -9223372036854775808 ≤ n) (hn2 : n ≤ 9223372036854775807) (hd1 : -9223372036854775808 ≤ d) (hd2 : d ≤ 9223372036854775807) :
    Calls Try.prog 21 #[.int .i64 n, .int .i64 d] w fun e w' => e = .returned (ratV (Gn.rat n d).1 (Gn.rat n d).2) ∧ Below w.heap.size w w' := by
  by_cases h0 : d = 0
  · subst h0
    have HF := Lib.hid (fit_false (fit_zero n))
    go_enter Try.func21, Try.ntmps21
    go_wp2_with fail
    go_returns
    exact ⟨ret_val (by rw [HF.out]), by (repeat' (first | (with_reducible exact Below.refl _ _) | (with_reducible assumption) | (with_reducible refine balloc ?_ _) | (with_reducible refine Below.drew ?_) | (with_reducible refine below_drewN ?_ _) | (with_reducible refine bset ?_ ?_ _) | (with_reducible refine bstep ?_ (by assumption)) | go_size))⟩
  have h0' : (d == 0) = false := by simp [h0]
  have hg := Gn.gz_pos n d h0
  have hgl : Gn.gz n d ≤ 9223372036854775808 := Nat.le_trans (Nat.gcd_le_right _ (by omega)) (by omega)
  have hfit := fit_iff (n := n) h0
  have hA : n.natAbs / Gn.gz n d ≤ 9223372036854775808 := Nat.le_trans (Nat.div_le_self _ _) (by omega)
  have hB : d.natAbs / Gn.gz n d ≤ 9223372036854775808 := Nat.le_trans (Nat.div_le_self _ _) (by omega)
  obtain ⟨a, ha⟩ : ∃ a, n.natAbs / Gn.gz n d = a := ⟨_, rfl⟩
  obtain ⟨b, hb⟩ : ∃ b, d.natAbs / Gn.gz n d = b := ⟨_, rfl⟩
  rw [ha] at hA; rw [hb] at hB; rw [ha, hb] at hfit
  have hzn : n.natAbs ≤ 9223372036854775808 := by omega
  have hzd : d.natAbs ≤ 9223372036854775808 := by omega
  have CC := Lib.hid (fun w => implCommon n.natAbs d.natAbs w hzn hzd)
  have HG : Hid (Nat.gcd n.natAbs d.natAbs = Gn.gz n d) := rfl
  have HA := Lib.hid ha
  have HB := Lib.hid hb
  have HFI := Lib.hid hfit
  have HD := Lib.hid h0
  clear ha hb hfit h0
  obtain ⟨g, hgE⟩ : ∃ g, Gn.gz n d = g := ⟨_, rfl⟩
  rw [hgE] at HG HA HB hg hgl
  have HE := Lib.hid hgE
  clear hgE
  have g0 : ((g : Int) == 0) = false := by simp; omega
  have qa : (n.natAbs : Int) / (g : Int) = (a : Int) := by rw [← HA.out]; rfl
  have qb : (d.natAbs : Int) / (g : Int) = (b : Int) := by rw [← HB.out]; rfl
  by_cases ha1 : 1000000000000000000 < a
  · have HF := Lib.hid (fit_false (n := n) (d := d) (by cases hf : Gn.fit n d with | false => rfl | true => have := HFI.out.1 hf; omega))
    go_enter Try.func21, Try.ntmps21
    go_wp2_with fail
    refine (implSize n _ hn1 hn2).mono ?_
    rintro e w' ⟨rfl, rfl⟩
    go_wp2_with fail
    refine (implSize d _ hd1 hd2).mono ?_
    rintro e w' ⟨rfl, rfl⟩
    go_wp2_with fail
    refine (CC.out _).mono ?_
    rw [HG.out]
    rintro e w1 ⟨rfl, k, rfl⟩
    go_wp2_with fail
    refine (implSize n _ hn1 hn2).mono ?_
    rintro e w' ⟨rfl, rfl⟩
    go_wp2_with fail
    refine (implSize d _ hd1 hd2).mono ?_
    rintro e w' ⟨rfl, rfl⟩
    go_wp2_with fail
    go_returns
    exact ⟨ret_val (by rw [HF.out]), by (repeat' (first | (with_reducible exact Below.refl _ _) | (with_reducible assumption) | (with_reducible refine balloc ?_ _) | (with_reducible refine Below.drew ?_) | (with_reducible refine below_drewN ?_ _) | (with_reducible refine bset ?_ ?_ _) | (with_reducible refine bstep ?_ (by assumption)) | go_size))⟩
  by_cases hb1 : 1000000000000000 < b
  · have HF := Lib.hid (fit_false (n := n) (d := d) (by cases hf : Gn.fit n d with | false => rfl | true => have := HFI.out.1 hf; omega))
    go_enter Try.func21, Try.ntmps21
    go_wp2_with fail
    refine (implSize n _ hn1 hn2).mono ?_
    rintro e w' ⟨rfl, rfl⟩
    go_wp2_with fail
    refine (implSize d _ hd1 hd2).mono ?_
    rintro e w' ⟨rfl, rfl⟩
    go_wp2_with fail
    refine (CC.out _).mono ?_
    rw [HG.out]
    rintro e w1 ⟨rfl, k, rfl⟩
    go_wp2_with fail
    refine (implSize n _ hn1 hn2).mono ?_
    rintro e w' ⟨rfl, rfl⟩
    go_wp2_with fail
    refine (implSize d _ hd1 hd2).mono ?_
    rintro e w' ⟨rfl, rfl⟩
    go_wp2_with fail
    go_returns
    exact ⟨ret_val (by rw [HF.out]), by (repeat' (first | (with_reducible exact Below.refl _ _) | (with_reducible assumption) | (with_reducible refine balloc ?_ _) | (with_reducible refine Below.drew ?_) | (with_reducible refine below_drewN ?_ _) | (with_reducible refine bset ?_ ?_ _) | (with_reducible refine bstep ?_ (by assumption)) | go_size))⟩
  have HF := Lib.hid (fit_true (n := n) (d := d) (HFI.out.2 ⟨by omega, by omega⟩))
  have HQ : Hid (Gn.ratD n d = (b : Int)) := by
    show _ = _
    unfold Gn.ratD; rw [HE.out, HB.out]
  by_cases s1 : n < 0
  · by_cases s2 : d < 0
    · have HP := Lib.hid (ratN_of_same (a := a) (n := n) (d := d) (by rw [HE.out]; exact HA.out) (by omega))
      have t1 : decide (n < 0) = true := by simp; omega
      have t2 : decide (d < 0) = true := by simp; omega
      go_enter Try.func21, Try.ntmps21
      go_wp2_with fail
      refine (implSize n _ hn1 hn2).mono ?_
      rintro e w' ⟨rfl, rfl⟩
      go_wp2_with fail
      refine (implSize d _ hd1 hd2).mono ?_
      rintro e w' ⟨rfl, rfl⟩
      go_wp2_with fail
      refine (CC.out _).mono ?_
      rw [HG.out]
      rintro e w1 ⟨rfl, k, rfl⟩
      go_wp2_with fail
      refine (implSize n _ hn1 hn2).mono ?_
      rintro e w' ⟨rfl, rfl⟩
      go_wp2_with fail
      refine (implSize d _ hd1 hd2).mono ?_
      rintro e w' ⟨rfl, rfl⟩
      go_wp2_with fail
      go_returns
      exact ⟨ret_val (by rw [HF.out]; exact ratV_eq HP.out.symm HQ.out.symm), by (repeat' (first | (with_reducible exact Below.refl _ _) | (with_reducible assumption) | (with_reducible refine balloc ?_ _) | (with_reducible refine Below.drew ?_) | (with_reducible refine below_drewN ?_ _) | (with_reducible refine bset ?_ ?_ _) | (with_reducible refine bstep ?_ (by assumption)) | go_size))⟩
    · have HP := Lib.hid (ratN_of_other (a := a) (n := n) (d := d) (by rw [HE.out]; exact HA.out) (by omega))
      have t1 : decide (n < 0) = true := by simp; omega
      have t2 : decide (d < 0) = false := by simp; omega
      go_enter Try.func21, Try.ntmps21
      go_wp2_with fail
      refine (implSize n _ hn1 hn2).mono ?_
      rintro e w' ⟨rfl, rfl⟩
      go_wp2_with fail
      refine (implSize d _ hd1 hd2).mono ?_
      rintro e w' ⟨rfl, rfl⟩
      go_wp2_with fail
      refine (CC.out _).mono ?_
      rw [HG.out]
      rintro e w1 ⟨rfl, k, rfl⟩
      go_wp2_with fail
      refine (implSize n _ hn1 hn2).mono ?_
      rintro e w' ⟨rfl, rfl⟩
      go_wp2_with fail
      refine (implSize d _ hd1 hd2).mono ?_
      rintro e w' ⟨rfl, rfl⟩
      go_wp2_with fail
      go_returns
      exact ⟨ret_val (by rw [HF.out]; exact ratV_eq HP.out.symm HQ.out.symm), by (repeat' (first | (with_reducible exact Below.refl _ _) | (with_reducible assumption) | (with_reducible refine balloc ?_ _) | (with_reducible refine Below.drew ?_) | (with_reducible refine below_drewN ?_ _) | (with_reducible refine bset ?_ ?_ _) | (with_reducible refine bstep ?_ (by assumption)) | go_size))⟩
  · by_cases s2 : d < 0
    · have HP := Lib.hid (ratN_of_other (a := a) (n := n) (d := d) (by rw [HE.out]; exact HA.out) (by omega))
      have t1 : decide (n < 0) = false := by simp; omega
      have t2 : decide (d < 0) = true := by simp; omega
      go_enter Try.func21, Try.ntmps21
      go_wp2_with fail
      refine (implSize n _ hn1 hn2).mono ?_
      rintro e w' ⟨rfl, rfl⟩
      go_wp2_with fail
      refine (implSize d _ hd1 hd2).mono ?_
      rintro e w' ⟨rfl, rfl⟩
      go_wp2_with fail
      refine (CC.out _).mono ?_
      rw [HG.out]
      rintro e w1 ⟨rfl, k, rfl⟩
      go_wp2_with fail
      refine (implSize n _ hn1 hn2).mono ?_
      rintro e w' ⟨rfl, rfl⟩
      go_wp2_with fail
      refine (implSize d _ hd1 hd2).mono ?_
      rintro e w' ⟨rfl, rfl⟩
      go_wp2_with fail
      go_returns
      exact ⟨ret_val (by rw [HF.out]; exact ratV_eq HP.out.symm HQ.out.symm), by (repeat' (first | (with_reducible exact Below.refl _ _) | (with_reducible assumption) | (with_reducible refine balloc ?_ _) | (with_reducible refine Below.drew ?_) | (with_reducible refine below_drewN ?_ _) | (with_reducible refine bset ?_ ?_ _) | (with_reducible refine bstep ?_ (by assumption)) | go_size))⟩
    · have HP := Lib.hid (ratN_of_same (a := a) (n := n) (d := d) (by rw [HE.out]; exact HA.out) (by omega))
      have t1 : decide (n < 0) = false := by simp; omega
      have t2 : decide (d < 0) = false := by simp; omega
      go_enter Try.func21, Try.ntmps21
      go_wp2_with fail
      refine (implSize n _ hn1 hn2).mono ?_
      rintro e w' ⟨rfl, rfl⟩
      go_wp2_with fail
      refine (implSize d _ hd1 hd2).mono ?_
      rintro e w' ⟨rfl, rfl⟩
      go_wp2_with fail
      refine (CC.out _).mono ?_
      rw [HG.out]
      rintro e w1 ⟨rfl, k, rfl⟩
      go_wp2_with fail
      refine (implSize n _ hn1 hn2).mono ?_
      rintro e w' ⟨rfl, rfl⟩
      go_wp2_with fail
      refine (implSize d _ hd1 hd2).mono ?_
      rintro e w' ⟨rfl, rfl⟩
      go_wp2_with fail
      go_returns
      exact ⟨ret_val (by rw [HF.out]; exact ratV_eq HP.out.symm HQ.out.symm), by (repeat' (first | (with_reducible exact Below.refl _ _) | (with_reducible assumption) | (with_reducible refine balloc ?_ _) | (with_reducible refine Below.drew ?_) | (with_reducible refine below_drewN ?_ _) | (with_reducible refine bset ?_ ?_ _) | (with_reducible refine bstep ?_ (by assumption)) | go_size))⟩

theorem tdiv_nat (n : Int) (g : Nat) : n.tdiv (g : Int) = if n < 0 then -((n.natAbs / g : Nat) : Int) else ((n.natAbs / g : Nat) : Int) := by
  split
  · have e1 : (-(-n)).tdiv (g : Int) = -((-n).tdiv (g : Int)) := Int.neg_tdiv _ _
    rw [Int.neg_neg] at e1
    rw [e1, Int.tdiv_eq_ediv_of_nonneg (by omega), show -n = (n.natAbs : Int) by omega]
    rfl
  · rw [Int.tdiv_eq_ediv_of_nonneg (by omega)]
    have : n = (n.natAbs : Int) := by omega
    rw [this]; rfl

theorem ratN_tdiv (n d : Int) : n.tdiv (if d < 0 then -(Gn.gz n d : Int) else (Gn.gz n d : Int)) = Gn.ratN n d := by
  unfold Gn.ratN
  by_cases h2 : d < 0
  · rw [if_pos h2, Int.tdiv_neg, tdiv_nat]
    by_cases h1 : n < 0 <;> simp [h1, h2]
  · rw [if_neg h2, tdiv_nat]
    by_cases h1 : n < 0 <;> simp [h1, h2]
theorem ratD_tdiv (n d : Int) : d.tdiv (if d < 0 then -(Gn.gz n d : Int) else (Gn.gz n d : Int)) = Gn.ratD n d := by
  unfold Gn.ratD
  by_cases h2 : d < 0
  · rw [if_pos h2, Int.tdiv_neg, tdiv_nat]; simp [h2]
  · rw [if_neg h2, tdiv_nat]; simp [h2]

theorem ratN_bd (n d : Int) (h1 : -9223372036854775807 ≤ n) (h2 : n ≤ 9223372036854775807) : -9223372036854775807 ≤ Gn.ratN n d ∧ Gn.ratN n d ≤ 9223372036854775807 := by
  have h := Gn.ratN_abs n d
  have := Nat.div_le_self n.natAbs (Gn.gz n d)
  omega
theorem ratD_bd (n d : Int) (h0 : d ≠ 0) (h1 : -9223372036854775807 ≤ d) (h2 : d ≤ 9223372036854775807) : 1 ≤ Gn.ratD n d ∧ Gn.ratD n d ≤ 9223372036854775807 := by
  have h := Gn.ratD_abs n d
  have hp := Gn.ratD_pos n d h0
  have := Nat.div_le_self d.natAbs (Gn.gz n d)
  omega
theorem gcdZ_nat {a b : Int} (ha : -9223372036854775807 ≤ a) (hb : -9223372036854775807 ≤ b) : gcdZ a b = (Nat.gcd a.natAbs b.natAbs : Nat) := by
  unfold gcdZ; exact if_neg (by omega)
theorem fit_ok (n d : Int) (h0 : d ≠ 0) (h1 : -9223372036854775807 ≤ n) (h2 : n ≤ 9223372036854775807) (h3 : -9223372036854775807 ≤ d) (h4 : d ≤ 9223372036854775807) :
    Gn.fit n d = true ↔ okZ (Gn.ratN n d) (Gn.ratD n d) := by
  have b1 := ratN_bd n d h1 h2
  have b2 := ratD_bd n d h0 h3 h4
  have a1 := Gn.ratN_abs n d
  have a2 := Gn.ratD_abs n d
  rw [fit_iff h0]
  unfold okZ
  rw [gcdZ_nat (by omega) (by omega), Gn.rat_coprime n d h0]
  omega

set_option maxRecDepth 100000 in
set_option maxHeartbeats 1000000 in
theorem specRatioOf (n d : Int) (w : World) (hn1 : -9223372036854775807 ≤ n) (hn2 : n ≤ 9223372036854775807) (hd1 : -9223372036854775807 ≤ d) (hd2 : d ≤ 9223372036854775807) :
    Calls Try.prog 86 #[.int .i64 n, .int .i64 d] w fun e w' => e = .returned (ratV (Gn.rat n d).1 (Gn.rat n d).2) ∧ Below w.heap.size w w' := by
  have hgZ : gcdZ n d = (Gn.gz n d : Nat) := gcdZ_nat hn1 hd1
  have C := fun w => specGcd n d w (by omega) hn2 (by omega) hd2
  rw [hgZ] at C
  by_cases h0 : d = 0
  · subst h0
    have HF := Lib.hid (fit_false (fit_zero n))
    have hg0 : ((Gn.gz n 0 : Int) == 0) = true ∨ ((Gn.gz n 0 : Int) == 0) = false := by cases ((Gn.gz n 0 : Int) == 0) <;> simp
    obtain ⟨g, hgE⟩ : ∃ g, Gn.gz n 0 = g := ⟨_, rfl⟩
    rw [hgE] at C hg0
    have K := Lib.hid C
    clear C hgZ hgE
    rcases hg0 with hg0 | hg0
    all_goals
      go_enter Try.func86, Try.ntmps86
      go_wp2_with fail
      refine (K.out _).mono ?_
      rintro e w1 ⟨rfl, k, rfl⟩
      go_wp2_with fail
      go_returns
      exact ⟨ret_val (by rw [HF.out]), by (repeat' (first | (with_reducible exact Below.refl _ _) | (with_reducible assumption) | (with_reducible refine balloc ?_ _) | (with_reducible refine Below.drew ?_) | (with_reducible refine below_drewN ?_ _) | (with_reducible refine bset ?_ ?_ _) | (with_reducible refine bstep ?_ (by assumption)) | go_size))⟩
  have hg := Gn.gz_pos n d h0
  have hgl : Gn.gz n d ≤ 9223372036854775807 := Nat.le_trans (Nat.gcd_le_right _ (by omega)) (by omega)
  have hp := ratN_bd n d hn1 hn2
  have hq := ratD_bd n d h0 hd1 hd2
  have hfit := fit_ok n d h0 hn1 hn2 hd1 hd2
  have hpt := ratN_tdiv n d
  have hqt := ratD_tdiv n d
  have HR : Hid (Gn.rat n d = if Gn.fit n d = true then (Gn.ratN n d, Gn.ratD n d) else (0, 0)) := rfl
  have h0' : (d == 0) = false := by simp [h0]
  obtain ⟨g, hgE⟩ : ∃ g, Gn.gz n d = g := ⟨_, rfl⟩
  rw [hgE] at C hg hgl hpt hqt
  have g0 : ((g : Int) == 0) = false := by simp; omega
  obtain ⟨f, hfE⟩ : ∃ f, Gn.fit n d = f := ⟨_, rfl⟩
  obtain ⟨p, hpE⟩ : ∃ p, Gn.ratN n d = p := ⟨_, rfl⟩
  obtain ⟨q, hqE⟩ : ∃ q, Gn.ratD n d = q := ⟨_, rfl⟩
  rw [hfE, hpE, hqE] at HR
  rw [hfE, hpE, hqE] at hfit
  rw [hpE] at hp hpt
  rw [hqE] at hq hqt
  have K := Lib.hid C
  have HF := Lib.hid hfit
  have wp : IntKind.i64.wrap p = p := IntWalk.i64_in _ (by omega)
  have wq : IntKind.i64.wrap q = q := IntWalk.i64_in _ (by omega)
  clear C hgZ hgE hfE hpE hqE hfit
  have K2 := Lib.hid (fun w => specRatioOk p q w f HF.out)
  clear HF
  by_cases s2 : d < 0
  · rw [if_pos s2] at hpt hqt
    have g1 : ((-(g : Int)) == 0) = false := by simp; omega
    cases f
    all_goals
      go_enter Try.func86, Try.ntmps86
      go_wp2_with fail
      refine (K.out _).mono ?_
      rintro e w1 ⟨rfl, k, rfl⟩
      go_wp2_with fail
      go_region
      go_wp2_with fail
      refine (K2.out _).mono ?_
      rintro e w1 ⟨rfl, hb1⟩
      obtain ⟨hc1, hf1⟩ := bcell hb1
      have hz1 := bsize hb1
      have g1 := hb1
      go_wp2_with fail
      have rs0 : (w1.cell? { block := w.heap.size, off := 0 }).isSome = true := by simp [go_sem, hc1]
      have rs1 : (w1.cell? { block := w.heap.size, off := 1 }).isSome = true := by simp [go_sem, hc1]
      refine bodyPost_ret (v := _) (by simp [results, Try.results86, go_sem, rs0, rs1]; try rfl) rfl ?_
      exact ⟨ret_val (by rw [HR.out]; rfl), by (repeat' (first | (with_reducible exact Below.refl _ _) | (with_reducible assumption) | (with_reducible refine balloc ?_ _) | (with_reducible refine Below.drew ?_) | (with_reducible refine below_drewN ?_ _) | (with_reducible refine bset ?_ ?_ _) | (with_reducible refine bstep ?_ (by assumption)) | go_size))⟩
  · rw [if_neg s2] at hpt hqt
    cases f
    all_goals
      go_enter Try.func86, Try.ntmps86
      go_wp2_with fail
      refine (K.out _).mono ?_
      rintro e w1 ⟨rfl, k, rfl⟩
      go_wp2_with fail
      go_region
      go_wp2_with fail
      refine (K2.out _).mono ?_
      rintro e w1 ⟨rfl, hb1⟩
      obtain ⟨hc1, hf1⟩ := bcell hb1
      have hz1 := bsize hb1
      have g1 := hb1
      go_wp2_with fail
      have rs0 : (w1.cell? { block := w.heap.size, off := 0 }).isSome = true := by simp [go_sem, hc1]
      have rs1 : (w1.cell? { block := w.heap.size, off := 1 }).isSome = true := by simp [go_sem, hc1]
      refine bodyPost_ret (v := _) (by simp [results, Try.results86, go_sem, rs0, rs1]; try rfl) rfl ?_
      exact ⟨ret_val (by rw [HR.out]; rfl), by (repeat' (first | (with_reducible exact Below.refl _ _) | (with_reducible assumption) | (with_reducible refine balloc ?_ _) | (with_reducible refine Below.drew ?_) | (with_reducible refine below_drewN ?_ _) | (with_reducible refine bset ?_ ?_ _) | (with_reducible refine bstep ?_ (by assumption)) | go_size))⟩

end Go.Proofs.Ytjchindjoailbaa

/- When four products of two fractions fit: the tests of the program and of the reference. -/
namespace Go.Proofs.Ytjchindjoailbaa
set_option linter.unusedSimpArgs false
set_option linter.unusedVariables false
open Go.RowKit

/-- the product of two numbers is at most MaxNum -/
def fitsZ (a b : Int) : Prop := a = 0 ∨ b = 0 ∨ a.natAbs ≤ 1000000000000000000 / b.natAbs

theorem fits_mul {a b : Int} (h : fitsZ a b) : -1000000000000000000 ≤ a * b ∧ a * b ≤ 1000000000000000000 := by
  rcases h with h | h | h
  · subst h; simp
  · subst h; simp
  · have h1 : a.natAbs * b.natAbs ≤ 1000000000000000000 := by
      by_cases hb : b.natAbs = 0
      · rw [hb]; simp
      · exact (Nat.le_div_iff_mul_le (by omega)).1 h
    have := Int.natAbs_mul a b
    omega

theorem fits_comm {a b : Int} (h : fitsZ a b) : fitsZ b a := by
  by_cases ha : a = 0
  · exact .inr (.inl ha)
  by_cases hb : b = 0
  · exact .inl hb
  rcases h with h | h | h
  · exact absurd h ha
  · exact absurd h hb
  · exact .inr (.inr ((Nat.le_div_iff_mul_le (by omega)).2 (by rw [Nat.mul_comm]; exact (Nat.le_div_iff_mul_le (by omega)).1 h)))

set_option maxHeartbeats 400000 in
theorem implFits (a b : Int) (w : World) (ha1 : -1000000000000000000 ≤ a) (ha2 : a ≤ 1000000000000000000) (hb1 : -1000000000000000000 ≤ b) (hb2 : b ≤ 1000000000000000000)
    (f : Bool) (hf : f = true ↔ fitsZ a b) :
    Calls Try.prog 126 #[.int .i64 a, .int .i64 b] w fun e w' => e = .returned (.bool f) ∧ w = w' := by
  have HF := Lib.hid hf
  clear hf
  by_cases h1 : a = 0
  · have HT : Hid (f = true) := HF.out.2 (.inl h1)
    subst h1
    go_enter Try.func126, Try.ntmps126
    go_wp2_with fail
    go_ret
    exact ⟨ret_bool HT.out.symm, rfl⟩
  have h1' : (a == 0) = false := by simp [h1]
  by_cases h2 : b = 0
  · have HT : Hid (f = true) := HF.out.2 (.inr (.inl h2))
    subst h2
    go_enter Try.func126, Try.ntmps126
    go_wp2_with fail
    go_ret
    exact ⟨ret_bool HT.out.symm, rfl⟩
  have h2' : (b == 0) = false := by simp [h2]
  have h2'' : ((b.natAbs : Int) == 0) = false := by simp; omega
  obtain ⟨q, hq⟩ : ∃ q : Nat, 1000000000000000000 / b.natAbs = q := ⟨_, rfl⟩
  have hq' : (1000000000000000000 : Int) / (b.natAbs : Int) = (q : Int) := by rw [← hq]; rfl
  have hql : q ≤ 1000000000000000000 := by rw [← hq]; exact Nat.div_le_self _ _
  by_cases h3 : a.natAbs ≤ q
  · have HT : Hid (f = true) := HF.out.2 (.inr (.inr (by rw [hq]; exact h3)))
    clear hq h1
    go_enter Try.func126, Try.ntmps126
    go_wp2_with fail
    refine (implSize a _ (by omega) (by omega)).mono ?_
    rintro e w' ⟨rfl, rfl⟩
    go_wp2_with fail
    refine (implSize b _ (by omega) (by omega)).mono ?_
    rintro e w' ⟨rfl, rfl⟩
    go_wp2_with fail
    go_ret
    exact ⟨ret_bool HT.out.symm, rfl⟩
  · have HT : Hid (f = false) := bfalse HF.out (by unfold fitsZ; rw [hq]; omega)
    clear hq h1
    go_enter Try.func126, Try.ntmps126
    go_wp2_with fail
    refine (implSize a _ (by omega) (by omega)).mono ?_
    rintro e w' ⟨rfl, rfl⟩
    go_wp2_with fail
    refine (implSize b _ (by omega) (by omega)).mono ?_
    rintro e w' ⟨rfl, rfl⟩
    go_wp2_with fail
    go_ret
    exact ⟨ret_bool HT.out.symm, rfl⟩

/-- x, or 0 where it does not fit -/
def pz (f : Bool) (x : Int) : Int := if f = true then x else 0
theorem pz_true (x : Int) : pz true x = x := rfl
theorem pz_false (x : Int) : pz false x = 0 := rfl

set_option maxHeartbeats 1000000 in
theorem specProduct (a b : Int) (w : World) (ha1 : -1000000000000000000 ≤ a) (ha2 : a ≤ 1000000000000000000) (hb1 : -1000000000000000000 ≤ b) (hb2 : b ≤ 1000000000000000000)
    (f : Bool) (hf : f = true ↔ fitsZ a b) :
    Calls Try.prog 162 #[.int .i64 a, .int .i64 b] w fun e w' => e = .returned (.tuple #[.int .i64 (pz f (a * b)), .bool f]) ∧ w = w' := by
  have HF := Lib.hid hf
  clear hf
  by_cases h1 : a = 0
  · obtain rfl : f = true := HF.out.2 (.inl h1)
    subst h1
    go_enter Try.func162, Try.ntmps162
    go_wp2_with fail
    go_ret2
    exact ⟨ret_val (by simp [pz_true, pz_false]), rfl⟩
  have h1' : (a == 0) = false := by simp [h1]
  by_cases h2 : b = 0
  · obtain rfl : f = true := HF.out.2 (.inr (.inl h2))
    subst h2
    go_enter Try.func162, Try.ntmps162
    go_wp2_with fail
    go_ret2
    exact ⟨ret_val (by simp [pz_true, pz_false]), rfl⟩
  have h2' : (b == 0) = false := by simp [h2]
  obtain ⟨q, hq⟩ : ∃ q : Nat, 1000000000000000000 / b.natAbs = q := ⟨_, rfl⟩
  have hql : q ≤ 1000000000000000000 := by rw [← hq]; exact Nat.div_le_self _ _
  have hqa : 0 < b → (1000000000000000000 : Int) / b = (q : Int) := fun hb => by rw [← hq, show b = (b.natAbs : Int) by omega]; rfl
  have hqb : b < 0 → Int.tdiv 1000000000000000000 b = -(q : Int) := fun hb => by
    rw [← hq, show b = -(b.natAbs : Int) by omega, Int.tdiv_neg, Int.tdiv_eq_ediv_of_nonneg (by omega)]; simp
  by_cases h3 : a.natAbs ≤ q
  · have hfz : fitsZ a b := .inr (.inr (by rw [hq]; exact h3))
    obtain rfl : f = true := HF.out.2 hfz
    have hm := fits_mul hfz
    clear HF hfz hq
    by_cases s1 : a < 0
    · by_cases s2 : b < 0
      · have hz := hqb s2
        have hz' : (-b == 0) = false := by simp; omega
        clear hqa hqb
        go_enter Try.func162, Try.ntmps162
        go_wp2_with fail
        go_ret2
        exact ⟨ret_val (by simp [pz_true, pz_false]), rfl⟩
      · have hz := hqa (by omega)
        clear hqa hqb
        go_enter Try.func162, Try.ntmps162
        go_wp2_with fail
        go_ret2
        exact ⟨ret_val (by simp [pz_true, pz_false]), rfl⟩
    · by_cases s2 : b < 0
      · have hz := hqb s2
        have hz' : (-b == 0) = false := by simp; omega
        clear hqa hqb
        go_enter Try.func162, Try.ntmps162
        go_wp2_with fail
        go_ret2
        exact ⟨ret_val (by simp [pz_true, pz_false]), rfl⟩
      · have hz := hqa (by omega)
        clear hqa hqb
        go_enter Try.func162, Try.ntmps162
        go_wp2_with fail
        go_ret2
        exact ⟨ret_val (by simp [pz_true, pz_false]), rfl⟩
  · obtain rfl : f = false := bfalse HF.out (by unfold fitsZ; rw [hq]; omega)
    clear HF hq
    by_cases s1 : a < 0
    · by_cases s2 : b < 0
      · have hz := hqb s2
        have hz' : (-b == 0) = false := by simp; omega
        clear hqa hqb
        go_enter Try.func162, Try.ntmps162
        go_wp2_with fail
        go_ret2
        exact ⟨ret_val (by simp [pz_true, pz_false]), rfl⟩
      · have hz := hqa (by omega)
        clear hqa hqb
        go_enter Try.func162, Try.ntmps162
        go_wp2_with fail
        go_ret2
        exact ⟨ret_val (by simp [pz_true, pz_false]), rfl⟩
    · by_cases s2 : b < 0
      · have hz := hqb s2
        have hz' : (-b == 0) = false := by simp; omega
        clear hqa hqb
        go_enter Try.func162, Try.ntmps162
        go_wp2_with fail
        go_ret2
        exact ⟨ret_val (by simp [pz_true, pz_false]), rfl⟩
      · have hz := hqa (by omega)
        clear hqa hqb
        go_enter Try.func162, Try.ntmps162
        go_wp2_with fail
        go_ret2
        exact ⟨ret_val (by simp [pz_true, pz_false]), rfl⟩

end Go.Proofs.Ytjchindjoailbaa
