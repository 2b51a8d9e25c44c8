/- RatioCmp, RatioMin and RatioMax of the program and of the reference: both compare the cross products. -/
import Derived.Test.YticfjfdfgcfnnaaLawRat
namespace Go.Proofs.Yticfjfdfgcfnnaa
set_option linter.unusedSimpArgs false
set_option linter.unusedVariables false
open Go.RowKit

/-- the sign of a number -/
def sg (x : Int) : Int := if x < 0 then -1 else if x = 0 then 0 else 1
theorem sg_neg {x : Int} (h : x < 0) : sg x = -1 := by unfold sg; rw [if_pos h]
theorem sg_zero {x : Int} (h : x = 0) : sg x = 0 := by unfold sg; rw [if_neg (by omega), if_pos h]
theorem sg_pos {x : Int} (h : 0 < x) : sg x = 1 := by unfold sg; rw [if_neg (by omega), if_neg (by omega)]
theorem sg_cases (x : Int) : sg x = -1 ∨ sg x = 0 ∨ sg x = 1 := by unfold sg; split <;> (try split) <;> simp

theorem floor_parts (a b : Int) (hb : 0 < b) : ∃ x, a / b = x ∧ x * b ≤ a ∧ a < x * b + b := by
  refine ⟨_, rfl, Int.ediv_mul_le _ (by omega), ?_⟩
  have h1 := Int.mul_ediv_add_emod a b
  have h2 := Int.emod_lt_of_pos a hb
  rw [Int.mul_comm] at h1
  omega
theorem cross_lt {a b c d x y : Int} (hb : 0 < b) (hd : 0 < d) (h1 : a < x * b + b) (h2 : y * d ≤ c) (h : x < y) : a * d - c * b < 0 := by
  have e1 : x * b + b ≤ y * b := by
    have := Int.mul_le_mul_of_nonneg_right (show x + 1 ≤ y by omega) (show 0 ≤ b by omega)
    rw [Int.add_mul, Int.one_mul] at this; exact this
  have e2 : a * d < y * b * d := Int.mul_lt_mul_of_pos_right (by omega) hd
  have e3 : y * d * b ≤ c * b := Int.mul_le_mul_of_nonneg_right h2 (by omega)
  have e4 : y * b * d = y * d * b := by rw [Int.mul_assoc, Int.mul_comm b d, ← Int.mul_assoc]
  omega
theorem cross_step (a b c d x : Int) : d * (a - x * b) - b * (c - x * d) = a * d - c * b := by
  rw [Int.mul_sub, Int.mul_sub]
  have e1 : d * (x * b) = b * (x * d) := by rw [Int.mul_comm d, Int.mul_assoc, Int.mul_comm b d, ← Int.mul_assoc, Int.mul_comm x d, Int.mul_comm (d * x) b, Int.mul_comm d x]
  rw [Int.mul_comm d a, Int.mul_comm b c]
  omega
theorem cross_zero {a b c d x : Int} (ha : a - x * b = 0) (hc : c - x * d = 0) : a * d - c * b = 0 := by
  rw [← cross_step a b c d x, ha, hc]; simp
theorem cross_neg {a b c d x : Int} (hb : 0 < b) (ha : a - x * b = 0) (hc : 0 < c - x * d) : a * d - c * b < 0 := by
  rw [← cross_step a b c d x, ha]
  have := Int.mul_pos hb hc
  simp; omega
theorem cross_pos {a b c d x : Int} (hd : 0 < d) (ha : 0 < a - x * b) (hc : c - x * d = 0) : 0 < a * d - c * b := by
  rw [← cross_step a b c d x, hc]
  have := Int.mul_pos hd ha
  simp; omega
theorem cross_gt {a b c d x y : Int} (hb : 0 < b) (hd : 0 < d) (h1 : x * b ≤ a) (h2 : c < y * d + d) (h : y < x) : 0 < a * d - c * b := by
  have := cross_lt (a := c) (b := d) (c := a) (d := b) hd hb h2 h1 h
  omega

set_option maxHeartbeats 1000000 in
theorem implCompare (k : Nat) : ∀ (a b c d : Int) (w : World), b + d ≤ k → 0 < b → b ≤ 1000000000000000000 → 0 < d → d ≤ 1000000000000000000 →
    -1000000000000000000 ≤ a → a ≤ 1000000000000000000 → -1000000000000000000 ≤ c → c ≤ 1000000000000000000 →
    Calls Try.prog 94 #[.int .i64 a, .int .i64 b, .int .i64 c, .int .i64 d] w fun e w' => e = .returned (.int .i64 (sg (a * d - c * b))) ∧ w = w' := by
  induction k with
  | zero => intro a b c d w h1 h2 h3 h4; omega
  | succ k ih =>
    intro a b c d w hk hb hb2 hd hd2 ha1 ha2 hc1 hc2
    have IH := Lib.hid ih
    clear ih
    obtain ⟨x, hx, hx1, hx2⟩ := floor_parts a b hb
    obtain ⟨y, hy, hy1, hy2⟩ := floor_parts c d hd
    have F1 := Lib.hid (fun w => implFloor a b w hb hb2 ha1 ha2)
    have F2 := Lib.hid (fun w => implFloor c d w hd hd2 hc1 hc2)
    simp only [hx] at F1
    simp only [hy] at F2
    clear hx hy
    by_cases h1 : x < y
    · have HS := Lib.hid (sg_neg (cross_lt hb hd hx2 hy1 h1))
      go_enter Try.func94, Try.ntmps94
      go_wp2_with fail
      refine (F1.out _).mono ?_
      rintro e w' ⟨rfl, rfl⟩
      go_wp2_with fail
      refine (F2.out _).mono ?_
      rintro e w' ⟨rfl, rfl⟩
      go_wp2_with fail
      go_ret
      exact ⟨ret_int HS.out.symm, rfl⟩
    by_cases h2 : y < x
    · have HS := Lib.hid (sg_pos (cross_gt hb hd hx1 hy2 h2))
      go_enter Try.func94, Try.ntmps94
      go_wp2_with fail
      refine (F1.out _).mono ?_
      rintro e w' ⟨rfl, rfl⟩
      go_wp2_with fail
      refine (F2.out _).mono ?_
      rintro e w' ⟨rfl, rfl⟩
      go_wp2_with fail
      go_ret
      exact ⟨ret_int HS.out.symm, rfl⟩
    obtain rfl : x = y := by omega
    by_cases h3 : a - x * b = 0
    · by_cases h4 : c - x * d = 0
      · have HS := Lib.hid (sg_zero (cross_zero h3 h4))
        have t1 : (a - x * b == 0) = true := by simp [h3]
        have t2 : (c - x * d == 0) = true := by simp [h4]
        clear h3 h4
        go_enter Try.func94, Try.ntmps94
        go_wp2_with fail
        refine (F1.out _).mono ?_
        rintro e w' ⟨rfl, rfl⟩
        go_wp2_with fail
        refine (F2.out _).mono ?_
        rintro e w' ⟨rfl, rfl⟩
        go_wp2_with fail
        go_ret
        exact ⟨ret_int HS.out.symm, rfl⟩
      · have HS := Lib.hid (sg_neg (cross_neg (d := d) (c := c) hb h3 (by omega)))
        have t1 : (a - x * b == 0) = true := by simp [h3]
        have t2 : (c - x * d == 0) = false := by simp [h4]
        clear h3 h4
        go_enter Try.func94, Try.ntmps94
        go_wp2_with fail
        refine (F1.out _).mono ?_
        rintro e w' ⟨rfl, rfl⟩
        go_wp2_with fail
        refine (F2.out _).mono ?_
        rintro e w' ⟨rfl, rfl⟩
        go_wp2_with fail
        go_ret
        exact ⟨ret_int HS.out.symm, rfl⟩
    · have t1 : (a - x * b == 0) = false := by simp [h3]
      by_cases h4 : c - x * d = 0
      · have HS := Lib.hid (sg_pos (cross_pos (a := a) (b := b) hd (by omega) h4))
        have t2 : (c - x * d == 0) = true := by simp [h4]
        clear h3 h4
        go_enter Try.func94, Try.ntmps94
        go_wp2_with fail
        refine (F1.out _).mono ?_
        rintro e w' ⟨rfl, rfl⟩
        go_wp2_with fail
        refine (F2.out _).mono ?_
        rintro e w' ⟨rfl, rfl⟩
        go_wp2_with fail
        go_ret
        exact ⟨ret_int HS.out.symm, rfl⟩
      · have t2 : (c - x * d == 0) = false := by simp [h4]
        have HI := Lib.hid (fun w => IH.out d (c - x * d) b (a - x * b) w (by omega) (by omega) (by omega) (by omega) (by omega) (by omega) (by omega) (by omega) (by omega))
        simp only [cross_step] at HI
        clear h3 h4
        go_enter Try.func94, Try.ntmps94
        go_wp2_with fail
        refine (F1.out _).mono ?_
        rintro e w' ⟨rfl, rfl⟩
        go_wp2_with fail
        refine (F2.out _).mono ?_
        rintro e w' ⟨rfl, rfl⟩
        go_wp2_with fail
        refine (HI.out _).mono ?_
        rintro e w' ⟨rfl, rfl⟩
        go_wp2_with fail
        go_ret
        exact ⟨rfl, rfl⟩

/-- two valid fractions -/
def bothZ (n1 d1 n2 d2 : Int) : Prop := okZ n1 d1 ∧ okZ n2 d2
def cmpR (f : Bool) (n1 d1 n2 d2 : Int) : Int := if f = true then sg (n1 * d2 - n2 * d1) else 0
theorem cmpR_true (n1 d1 n2 d2 : Int) : cmpR true n1 d1 n2 d2 = sg (n1 * d2 - n2 * d1) := rfl
theorem cmpR_false (n1 d1 n2 d2 : Int) : cmpR false n1 d1 n2 d2 = 0 := rfl

set_option maxHeartbeats 2000000 in
theorem implCmp (n1 d1 n2 d2 : Int) (w : World) (f : Bool) (hf : f = true ↔ bothZ n1 d1 n2 d2) :
    Calls Try.prog 67 #[ratV n1 d1, ratV n2 d2] w fun e w' => e = .returned (.int .i64 (cmpR f n1 d1 n2 d2)) ∧ Below w.heap.size w w' := by
  by_cases g1 : okZ n1 d1
  case neg =>
    obtain rfl : f = false := bfalse hf (fun h => g1 h.1)
    clear hf
    have N1 := Lib.hid g1
    clear g1
    go_enter Try.func67, Try.ntmps67
    go_wp2_with fail
    refine (implRatioOk n1 d1 _ false ⟨fun h => (by cases h), fun h => absurd h N1.out⟩).mono ?_
    rintro e w1 ⟨rfl, hb1⟩
    obtain ⟨hc1, hf1⟩ := bcell hb1
    have hz1 := bsize hb1
    have g1 := hb1
    go_wp2_with fail
    go_ret
    exact ⟨rfl, by (repeat' (first | (with_reducible exact Below.refl _ _) | (with_reducible assumption) | (with_reducible refine balloc ?_ _) | (with_reducible refine Below.drew ?_) | (with_reducible refine below_drewN ?_ _) | (with_reducible refine bset ?_ ?_ _) | (with_reducible refine bstep ?_ (by assumption)) | go_size))⟩
  have G1 := Lib.hid g1
  have bd1 := okZ_i64 g1
  clear g1
  by_cases g2 : okZ n2 d2
  case neg =>
    obtain rfl : f = false := bfalse hf (fun h => g2 h.2)
    clear hf
    have N2 := Lib.hid g2
    clear g2
    go_enter Try.func67, Try.ntmps67
    go_wp2_with fail
    refine (implRatioOk n1 d1 _ true ⟨fun _ => G1.out, fun _ => rfl⟩).mono ?_
    rintro e w1 ⟨rfl, hb1⟩
    obtain ⟨hc1, hf1⟩ := bcell hb1
    have hz1 := bsize hb1
    have g1 := hb1
    go_wp2_with fail
    refine (implRatioOk n2 d2 _ false ⟨fun h => (by cases h), fun h => absurd h N2.out⟩).mono ?_
    rintro e w2 ⟨rfl, hb2⟩
    obtain ⟨hc2, hf2⟩ := bcell hb2
    have hz2 := bsize hb2
    have g2 := bjoin g1 (by (repeat' (first | (with_reducible exact Below.refl _ _) | (with_reducible assumption) | (with_reducible refine balloc ?_ _) | (with_reducible refine Below.drew ?_) | (with_reducible refine below_drewN ?_ _) | (with_reducible refine bset ?_ ?_ _) | (with_reducible refine bstep ?_ (by assumption)) | go_size))) hb2
    clear g1
    obtain ⟨gc2, gf2⟩ := bcell g2
    have gz2 := bsize g2
    go_wp2_with fail
    go_ret
    exact ⟨rfl, by (repeat' (first | (with_reducible exact Below.refl _ _) | (with_reducible assumption) | (with_reducible refine balloc ?_ _) | (with_reducible refine Below.drew ?_) | (with_reducible refine below_drewN ?_ _) | (with_reducible refine bset ?_ ?_ _) | (with_reducible refine bstep ?_ (by assumption)) | go_size))⟩
  have G2 := Lib.hid g2
  have bd2 := okZ_i64 g2
  clear g2
  obtain rfl : f = true := hf.2 ⟨G1.out, G2.out⟩
  clear hf
  have K := Lib.hid (fun w => implCompare (d1 + d2).toNat n1 d1 n2 d2 w (by omega) (by omega) (by omega) (by omega) (by omega) (by omega) (by omega) (by omega) (by omega))
  go_enter Try.func67, Try.ntmps67
  go_wp2_with fail
  refine (implRatioOk n1 d1 _ true ⟨fun _ => G1.out, fun _ => rfl⟩).mono ?_
  rintro e w1 ⟨rfl, hb1⟩
  obtain ⟨hc1, hf1⟩ := bcell hb1
  have hz1 := bsize hb1
  have g1 := hb1
  go_wp2_with fail
  refine (implRatioOk n2 d2 _ true ⟨fun _ => G2.out, fun _ => rfl⟩).mono ?_
  rintro e w2 ⟨rfl, hb2⟩
  obtain ⟨hc2, hf2⟩ := bcell hb2
  have hz2 := bsize hb2
  have g2 := bjoin g1 (by (repeat' (first | (with_reducible exact Below.refl _ _) | (with_reducible assumption) | (with_reducible refine balloc ?_ _) | (with_reducible refine Below.drew ?_) | (with_reducible refine below_drewN ?_ _) | (with_reducible refine bset ?_ ?_ _) | (with_reducible refine bstep ?_ (by assumption)) | go_size))) hb2
  clear g1
  obtain ⟨gc2, gf2⟩ := bcell g2
  have gz2 := bsize g2
  go_wp2_with fail
  refine (K.out _).mono ?_
  rintro e w' ⟨rfl, rfl⟩
  go_wp2_with fail
  go_ret
  exact ⟨rfl, by (repeat' (first | (with_reducible exact Below.refl _ _) | (with_reducible assumption) | (with_reducible refine balloc ?_ _) | (with_reducible refine Below.drew ?_) | (with_reducible refine below_drewN ?_ _) | (with_reducible refine bset ?_ ?_ _) | (with_reducible refine bstep ?_ (by assumption)) | go_size))⟩

set_option maxHeartbeats 4000000 in
theorem specCmp (n1 d1 n2 d2 : Int) (w : World) (f : Bool) (hf : f = true ↔ bothZ n1 d1 n2 d2) :
    Calls Try.prog 66 #[ratV n1 d1, ratV n2 d2] w fun e w' => e = .returned (.int .i64 (cmpR f n1 d1 n2 d2)) ∧ Below w.heap.size w w' := by
  by_cases g1 : okZ n1 d1
  case neg =>
    obtain rfl : f = false := bfalse hf (fun h => g1 h.1)
    clear hf
    have N1 := Lib.hid g1
    clear g1
    go_enter Try.func66, Try.ntmps66
    go_wp2_with fail
    refine (specRatioOk n1 d1 _ false ⟨fun h => (by cases h), fun h => absurd h N1.out⟩).mono ?_
    rintro e w1 ⟨rfl, hb1⟩
    obtain ⟨hc1, hf1⟩ := bcell hb1
    have hz1 := bsize hb1
    have g1 := hb1
    go_wp2_with fail
    go_ret
    exact ⟨rfl, by (repeat' (first | (with_reducible exact Below.refl _ _) | (with_reducible assumption) | (with_reducible refine balloc ?_ _) | (with_reducible refine Below.drew ?_) | (with_reducible refine below_drewN ?_ _) | (with_reducible refine bset ?_ ?_ _) | (with_reducible refine bstep ?_ (by assumption)) | go_size))⟩
  have G1 := Lib.hid g1
  have bd1 := okZ_i64 g1
  clear g1
  by_cases g2 : okZ n2 d2
  case neg =>
    obtain rfl : f = false := bfalse hf (fun h => g2 h.2)
    clear hf
    have N2 := Lib.hid g2
    clear g2
    go_enter Try.func66, Try.ntmps66
    go_wp2_with fail
    refine (specRatioOk n1 d1 _ true ⟨fun _ => G1.out, fun _ => rfl⟩).mono ?_
    rintro e w1 ⟨rfl, hb1⟩
    obtain ⟨hc1, hf1⟩ := bcell hb1
    have hz1 := bsize hb1
    have g1 := hb1
    go_wp2_with fail
    refine (specRatioOk n2 d2 _ false ⟨fun h => (by cases h), fun h => absurd h N2.out⟩).mono ?_
    rintro e w2 ⟨rfl, hb2⟩
    obtain ⟨hc2, hf2⟩ := bcell hb2
    have hz2 := bsize hb2
    have g2 := bjoin g1 (by (repeat' (first | (with_reducible exact Below.refl _ _) | (with_reducible assumption) | (with_reducible refine balloc ?_ _) | (with_reducible refine Below.drew ?_) | (with_reducible refine below_drewN ?_ _) | (with_reducible refine bset ?_ ?_ _) | (with_reducible refine bstep ?_ (by assumption)) | go_size))) hb2
    clear g1
    obtain ⟨gc2, gf2⟩ := bcell g2
    have gz2 := bsize g2
    go_wp2_with fail
    go_ret
    exact ⟨rfl, by (repeat' (first | (with_reducible exact Below.refl _ _) | (with_reducible assumption) | (with_reducible refine balloc ?_ _) | (with_reducible refine Below.drew ?_) | (with_reducible refine below_drewN ?_ _) | (with_reducible refine bset ?_ ?_ _) | (with_reducible refine bstep ?_ (by assumption)) | go_size))⟩
  have G2 := Lib.hid g2
  have bd2 := okZ_i64 g2
  clear g2
  obtain rfl : f = true := hf.2 ⟨G1.out, G2.out⟩
  clear hf
  go_enter Try.func66, Try.ntmps66
  go_wp2_with fail
  refine (specRatioOk n1 d1 _ true ⟨fun _ => G1.out, fun _ => rfl⟩).mono ?_
  rintro e w1 ⟨rfl, hb1⟩
  obtain ⟨hc1, hf1⟩ := bcell hb1
  have hz1 := bsize hb1
  have g1 := hb1
  go_wp2_with fail
  refine (specRatioOk n2 d2 _ true ⟨fun _ => G2.out, fun _ => rfl⟩).mono ?_
  rintro e w2 ⟨rfl, hb2⟩
  obtain ⟨hc2, hf2⟩ := bcell hb2
  have hz2 := bsize hb2
  have g2 := bjoin g1 (by (repeat' (first | (with_reducible exact Below.refl _ _) | (with_reducible assumption) | (with_reducible refine balloc ?_ _) | (with_reducible refine Below.drew ?_) | (with_reducible refine below_drewN ?_ _) | (with_reducible refine bset ?_ ?_ _) | (with_reducible refine bstep ?_ (by assumption)) | go_size))) hb2
  clear g1
  obtain ⟨gc2, gf2⟩ := bcell g2
  have gz2 := bsize g2
  go_wp2_with fail
  have HB : Hid (Below w.heap.size w w2) := by (show Below _ _ _; (repeat' (first | (with_reducible exact Below.refl _ _) | (with_reducible assumption) | (with_reducible refine balloc ?_ _) | (with_reducible refine Below.drew ?_) | (with_reducible refine below_drewN ?_ _) | (with_reducible refine bset ?_ ?_ _) | (with_reducible refine bstep ?_ (by assumption)) | go_size)))
  clear hb1 hc1 hf1 hz1 hb2 hc2 hf2 hz2 g2 gc2 gf2 gz2
  go_loop [5, 6, 7, 8, 9] (fun v5 v6 v7 v8 v9 => ∃ a b c d s : Int, v5 = .int .i64 a ∧ v6 = .int .i64 b ∧ v7 = .int .i64 c ∧ v8 = .int .i64 d ∧ v9 = .int .i64 s ∧ (s = 1 ∨ s = -1) ∧
      (0 < b ∧ b ≤ 1000000000000000000) ∧ (0 < d ∧ d ≤ 1000000000000000000) ∧ (-1000000000000000000 ≤ a ∧ a ≤ 1000000000000000000) ∧ (-1000000000000000000 ≤ c ∧ c ≤ 1000000000000000000) ∧
      Hid (s * sg (a * d - c * b) = sg (n1 * d2 - n2 * d1))) (fun _ v6 _ v8 _ => (intOf v6 + intOf v8).toNat)
  case atStart => exact ⟨n1, d1, n2, d2, 1, rfl, rfl, rfl, rfl, rfl, .inl rfl, by omega, by omega, by omega, by omega, by show _ = _; rw [Int.one_mul]⟩
  case round =>
    obtain ⟨a, b, c, d, s, rfl, rfl, rfl, rfl, rfl, hs, hb, hd, ha, hc, HS⟩ := hrel
    obtain ⟨x, hx, hx1, hx2⟩ := floor_parts a b hb.1
    obtain ⟨y, hy, hy1, hy2⟩ := floor_parts c d hd.1
    have F1 := Lib.hid (fun w => specFloor a b w hb.1 hb.2 ha.1 ha.2)
    have F2 := Lib.hid (fun w => specFloor c d w hd.1 hd.2 hc.1 hc.2)
    simp only [hx] at F1
    simp only [hy] at F2
    clear hx hy
    have HSG := Lib.hid hs
    have hs1 : -1 ≤ s := by omega
    have hs2 : s ≤ 1 := by omega
    clear hs
    by_cases h1 : x < y
    · have HV : Hid (sg (n1 * d2 - n2 * d1) = -s) := by
        have := HS.out; rw [sg_neg (cross_lt hb.1 hd.1 hx2 hy1 h1)] at this
        show _ = _; omega
      have t : (x != y) = true := by simp; omega
      go_wp2_with fail
      refine (F1.out _).mono ?_
      rintro e w' ⟨rfl, rfl⟩
      go_wp2_with fail
      refine (F2.out _).mono ?_
      rintro e w' ⟨rfl, rfl⟩
      go_wp2_with fail
      go_ret
      exact ⟨ret_int (by rw [cmpR_true, HV.out]), HB.out⟩
    by_cases h2 : y < x
    · have HV : Hid (sg (n1 * d2 - n2 * d1) = s) := by
        have := HS.out; rw [sg_pos (cross_gt hb.1 hd.1 hx1 hy2 h2)] at this
        show _ = _; omega
      have t : (x != y) = true := by simp; omega
      go_wp2_with fail
      refine (F1.out _).mono ?_
      rintro e w' ⟨rfl, rfl⟩
      go_wp2_with fail
      refine (F2.out _).mono ?_
      rintro e w' ⟨rfl, rfl⟩
      go_wp2_with fail
      go_ret
      exact ⟨ret_int (by rw [cmpR_true, HV.out]), HB.out⟩
    obtain rfl : x = y := by omega
    by_cases h3 : a - x * b = 0
    · have t1 : (a - x * b == 0) = true := by simp [h3]
      by_cases h4 : c - x * d = 0
      · have HV : Hid (sg (n1 * d2 - n2 * d1) = 0) := by
          have := HS.out; rw [sg_zero (cross_zero h3 h4)] at this
          show _ = _; omega
        have t2 : (c - x * d == 0) = true := by simp [h4]
        clear h3 h4
        go_wp2_with fail
        refine (F1.out _).mono ?_
        rintro e w' ⟨rfl, rfl⟩
        go_wp2_with fail
        refine (F2.out _).mono ?_
        rintro e w' ⟨rfl, rfl⟩
        go_wp2_with fail
        go_ret
        exact ⟨ret_int (by rw [cmpR_true, HV.out]), HB.out⟩
      · have HV : Hid (sg (n1 * d2 - n2 * d1) = -s) := by
          have := HS.out; rw [sg_neg (cross_neg (d := d) (c := c) hb.1 h3 (by omega))] at this
          show _ = _; omega
        have t2 : (c - x * d == 0) = false := by simp [h4]
        clear h3 h4
        go_wp2_with fail
        refine (F1.out _).mono ?_
        rintro e w' ⟨rfl, rfl⟩
        go_wp2_with fail
        refine (F2.out _).mono ?_
        rintro e w' ⟨rfl, rfl⟩
        go_wp2_with fail
        go_ret
        exact ⟨ret_int (by rw [cmpR_true, HV.out]), HB.out⟩
    · have t1 : (a - x * b == 0) = false := by simp [h3]
      by_cases h4 : c - x * d = 0
      · have HV : Hid (sg (n1 * d2 - n2 * d1) = s) := by
          have := HS.out; rw [sg_pos (cross_pos (a := a) (b := b) hd.1 (by omega) h4)] at this
          show _ = _; omega
        have t2 : (c - x * d == 0) = true := by simp [h4]
        clear h3 h4
        go_wp2_with fail
        refine (F1.out _).mono ?_
        rintro e w' ⟨rfl, rfl⟩
        go_wp2_with fail
        refine (F2.out _).mono ?_
        rintro e w' ⟨rfl, rfl⟩
        go_wp2_with fail
        go_ret
        exact ⟨ret_int (by rw [cmpR_true, HV.out]), HB.out⟩
      · have t2 : (c - x * d == 0) = false := by simp [h4]
        have HV : Hid (-s * sg (b * (c - x * d) - d * (a - x * b)) = sg (n1 * d2 - n2 * d1)) := by
          have e1 := HS.out
          have e2 : b * (c - x * d) - d * (a - x * b) = -(a * d - c * b) := by have := cross_step a b c d x; omega
          show _ = _
          rw [e2, ← e1]
          generalize a * d - c * b = z
          unfold sg
          by_cases z1 : z < 0
          · rw [if_pos z1, if_neg (by omega), if_neg (by omega)]; omega
          · by_cases z2 : z = 0
            · rw [if_neg (by omega), if_pos (by omega), if_neg z1, if_pos z2]; omega
            · rw [if_pos (by omega), if_neg z1, if_neg z2]; omega
        have hp1 : 0 < a - x * b := by omega
        have hp2 : 0 < c - x * d := by omega
        clear h3 h4
        go_wp2_with fail
        refine (F1.out _).mono ?_
        rintro e w' ⟨rfl, rfl⟩
        go_wp2_with fail
        refine (F2.out _).mono ?_
        rintro e w' ⟨rfl, rfl⟩
        go_wp2_with fail
        go_round
        case rel => exact ⟨b, a - x * b, d, c - x * d, -s, rfl, rfl, rfl, rfl, rfl, by have := HSG.out; omega, by omega, by omega, by omega, by omega, HV.out⟩
        case measure => simp [intOf]; omega

theorem both_sym {n1 d1 n2 d2 : Int} {f : Bool} (h : f = true ↔ bothZ n1 d1 n2 d2) : f = true → okZ n1 d1 ∧ okZ n2 d2 := fun e => h.1 e
/-- the smaller of two fractions; the greater -/
def minR (f : Bool) (n1 d1 n2 d2 : Int) : Int × Int := if f = true then (if sg (n1 * d2 - n2 * d1) ≤ 0 then (n1, d1) else (n2, d2)) else (0, 0)
def maxR (f : Bool) (n1 d1 n2 d2 : Int) : Int × Int := if f = true then (if 0 ≤ sg (n1 * d2 - n2 * d1) then (n1, d1) else (n2, d2)) else (0, 0)

set_option maxRecDepth 100000 in
set_option maxHeartbeats 4000000 in
theorem implMin (n1 d1 n2 d2 : Int) (w : World) (f : Bool) (hf : f = true ↔ bothZ n1 d1 n2 d2) :
    Calls Try.prog 71 #[ratV n1 d1, ratV n2 d2] w fun e w' => e = .returned (pairV (minR f n1 d1 n2 d2)) ∧ Below w.heap.size w w' := by
  have K := Lib.hid (fun w => implCmp n1 d1 n2 d2 w f hf)
  by_cases g1 : okZ n1 d1
  case neg =>
    obtain rfl : f = false := bfalse hf (fun h => g1 h.1)
    clear hf
    have N1 := Lib.hid g1
    clear g1
    go_enter Try.func71, Try.ntmps71
    go_wp2_with fail
    refine (implRatioOk n1 d1 _ false ⟨fun h => (by cases h), fun h => absurd h N1.out⟩).mono ?_
    rintro e w1 ⟨rfl, hb1⟩
    obtain ⟨hc1, hf1⟩ := bcell hb1
    have hz1 := bsize hb1
    have g1 := hb1
    go_wp2_with fail
    have rs0 : (w1.cell? { block := w.heap.size + 2, off := 0 }).isSome = true := by simp [go_sem, hc1]
    have rs1 : (w1.cell? { block := w.heap.size + 2, off := 1 }).isSome = true := by simp [go_sem, hc1]
    refine bodyPost_ret (v := _) (by simp [results, Try.results71, go_sem, rs0, rs1]; try rfl) rfl ?_
    exact ⟨rfl, by (repeat' (first | (with_reducible exact Below.refl _ _) | (with_reducible assumption) | (with_reducible refine balloc ?_ _) | (with_reducible refine Below.drew ?_) | (with_reducible refine below_drewN ?_ _) | (with_reducible refine bset ?_ ?_ _) | (with_reducible refine bstep ?_ (by assumption)) | go_size))⟩
  have G1 := Lib.hid g1
  have bd1 := okZ_i64 g1
  clear g1
  by_cases g2 : okZ n2 d2
  case neg =>
    obtain rfl : f = false := bfalse hf (fun h => g2 h.2)
    clear hf
    have N2 := Lib.hid g2
    clear g2
    go_enter Try.func71, Try.ntmps71
    go_wp2_with fail
    refine (implRatioOk n1 d1 _ true ⟨fun _ => G1.out, fun _ => rfl⟩).mono ?_
    rintro e w1 ⟨rfl, hb1⟩
    obtain ⟨hc1, hf1⟩ := bcell hb1
    have hz1 := bsize hb1
    have g1 := hb1
    go_wp2_with fail
    refine (implRatioOk n2 d2 _ false ⟨fun h => (by cases h), fun h => absurd h N2.out⟩).mono ?_
    rintro e w2 ⟨rfl, hb2⟩
    obtain ⟨hc2, hf2⟩ := bcell hb2
    have hz2 := bsize hb2
    have g2 := bjoin g1 (by (repeat' (first | (with_reducible exact Below.refl _ _) | (with_reducible assumption) | (with_reducible refine balloc ?_ _) | (with_reducible refine Below.drew ?_) | (with_reducible refine below_drewN ?_ _) | (with_reducible refine bset ?_ ?_ _) | (with_reducible refine bstep ?_ (by assumption)) | go_size))) hb2
    clear g1
    obtain ⟨gc2, gf2⟩ := bcell g2
    have gz2 := bsize g2
    go_wp2_with fail
    have rs0 : (w2.cell? { block := w.heap.size + 2, off := 0 }).isSome = true := by simp [go_sem, gc2]
    have rs1 : (w2.cell? { block := w.heap.size + 2, off := 1 }).isSome = true := by simp [go_sem, gc2]
    refine bodyPost_ret (v := _) (by simp [results, Try.results71, go_sem, rs0, rs1]; try rfl) rfl ?_
    exact ⟨rfl, by (repeat' (first | (with_reducible exact Below.refl _ _) | (with_reducible assumption) | (with_reducible refine balloc ?_ _) | (with_reducible refine Below.drew ?_) | (with_reducible refine below_drewN ?_ _) | (with_reducible refine bset ?_ ?_ _) | (with_reducible refine bstep ?_ (by assumption)) | go_size))⟩
  have G2 := Lib.hid g2
  have bd2 := okZ_i64 g2
  clear g2
  obtain rfl : f = true := hf.2 ⟨G1.out, G2.out⟩
  clear hf
  simp only [cmpR_true] at K
  by_cases hc : sg (n1 * d2 - n2 * d1) ≤ 0
  · have HV : Hid (minR true n1 d1 n2 d2 = (n1, d1)) := by show _ = _; unfold minR; rw [if_pos rfl, if_pos hc]
    generalize sg (n1 * d2 - n2 * d1) = z at K hc
    go_enter Try.func71, Try.ntmps71
    go_wp2_with fail
    refine (implRatioOk n1 d1 _ true ⟨fun _ => G1.out, fun _ => rfl⟩).mono ?_
    rintro e w1 ⟨rfl, hb1⟩
    obtain ⟨hc1, hf1⟩ := bcell hb1
    have hz1 := bsize hb1
    have g1 := hb1
    go_wp2_with fail
    refine (implRatioOk n2 d2 _ true ⟨fun _ => G2.out, fun _ => rfl⟩).mono ?_
    rintro e w2 ⟨rfl, hb2⟩
    obtain ⟨hc2, hf2⟩ := bcell hb2
    have hz2 := bsize hb2
    have g2 := bjoin g1 (by (repeat' (first | (with_reducible exact Below.refl _ _) | (with_reducible assumption) | (with_reducible refine balloc ?_ _) | (with_reducible refine Below.drew ?_) | (with_reducible refine below_drewN ?_ _) | (with_reducible refine bset ?_ ?_ _) | (with_reducible refine bstep ?_ (by assumption)) | go_size))) hb2
    clear g1
    obtain ⟨gc2, gf2⟩ := bcell g2
    have gz2 := bsize g2
    go_wp2_with fail
    refine (K.out _).mono ?_
    rintro e w3 ⟨rfl, hb3⟩
    obtain ⟨hc3, hf3⟩ := bcell hb3
    have hz3 := bsize hb3
    have g3 := bjoin g2 (by (repeat' (first | (with_reducible exact Below.refl _ _) | (with_reducible assumption) | (with_reducible refine balloc ?_ _) | (with_reducible refine Below.drew ?_) | (with_reducible refine below_drewN ?_ _) | (with_reducible refine bset ?_ ?_ _) | (with_reducible refine bstep ?_ (by assumption)) | go_size))) hb3
    clear g2
    obtain ⟨gc3, gf3⟩ := bcell g3
    have gz3 := bsize g3
    clear gc2 gf2 gz2
    go_wp2_with fail
    have rs0 : (w3.cell? { block := w.heap.size + 2, off := 0 }).isSome = true := by simp [go_sem, gc3]
    have rs1 : (w3.cell? { block := w.heap.size + 2, off := 1 }).isSome = true := by simp [go_sem, gc3]
    refine bodyPost_ret (v := _) (by simp [results, Try.results71, go_sem, rs0, rs1]; try rfl) rfl ?_
    exact ⟨ret_val (by rw [HV.out]; rfl), by (repeat' (first | (with_reducible exact Below.refl _ _) | (with_reducible assumption) | (with_reducible refine balloc ?_ _) | (with_reducible refine Below.drew ?_) | (with_reducible refine below_drewN ?_ _) | (with_reducible refine bset ?_ ?_ _) | (with_reducible refine bstep ?_ (by assumption)) | go_size))⟩
  · have HV : Hid (minR true n1 d1 n2 d2 = (n2, d2)) := by show _ = _; unfold minR; rw [if_pos rfl, if_neg hc]
    generalize sg (n1 * d2 - n2 * d1) = z at K hc
    go_enter Try.func71, Try.ntmps71
    go_wp2_with fail
    refine (implRatioOk n1 d1 _ true ⟨fun _ => G1.out, fun _ => rfl⟩).mono ?_
    rintro e w1 ⟨rfl, hb1⟩
    obtain ⟨hc1, hf1⟩ := bcell hb1
    have hz1 := bsize hb1
    have g1 := hb1
    go_wp2_with fail
    refine (implRatioOk n2 d2 _ true ⟨fun _ => G2.out, fun _ => rfl⟩).mono ?_
    rintro e w2 ⟨rfl, hb2⟩
    obtain ⟨hc2, hf2⟩ := bcell hb2
    have hz2 := bsize hb2
    have g2 := bjoin g1 (by (repeat' (first | (with_reducible exact Below.refl _ _) | (with_reducible assumption) | (with_reducible refine balloc ?_ _) | (with_reducible refine Below.drew ?_) | (with_reducible refine below_drewN ?_ _) | (with_reducible refine bset ?_ ?_ _) | (with_reducible refine bstep ?_ (by assumption)) | go_size))) hb2
    clear g1
    obtain ⟨gc2, gf2⟩ := bcell g2
    have gz2 := bsize g2
    go_wp2_with fail
    refine (K.out _).mono ?_
    rintro e w3 ⟨rfl, hb3⟩
    obtain ⟨hc3, hf3⟩ := bcell hb3
    have hz3 := bsize hb3
    have g3 := bjoin g2 (by (repeat' (first | (with_reducible exact Below.refl _ _) | (with_reducible assumption) | (with_reducible refine balloc ?_ _) | (with_reducible refine Below.drew ?_) | (with_reducible refine below_drewN ?_ _) | (with_reducible refine bset ?_ ?_ _) | (with_reducible refine bstep ?_ (by assumption)) | go_size))) hb3
    clear g2
    obtain ⟨gc3, gf3⟩ := bcell g3
    have gz3 := bsize g3
    clear gc2 gf2 gz2
    go_wp2_with fail
    have rs0 : (w3.cell? { block := w.heap.size + 2, off := 0 }).isSome = true := by simp [go_sem, gc3]
    have rs1 : (w3.cell? { block := w.heap.size + 2, off := 1 }).isSome = true := by simp [go_sem, gc3]
    refine bodyPost_ret (v := _) (by simp [results, Try.results71, go_sem, rs0, rs1]; try rfl) rfl ?_
    exact ⟨ret_val (by rw [HV.out]; rfl), by (repeat' (first | (with_reducible exact Below.refl _ _) | (with_reducible assumption) | (with_reducible refine balloc ?_ _) | (with_reducible refine Below.drew ?_) | (with_reducible refine below_drewN ?_ _) | (with_reducible refine bset ?_ ?_ _) | (with_reducible refine bstep ?_ (by assumption)) | go_size))⟩

set_option maxRecDepth 100000 in
set_option maxHeartbeats 4000000 in
theorem specMin (n1 d1 n2 d2 : Int) (w : World) (f : Bool) (hf : f = true ↔ bothZ n1 d1 n2 d2) :
    Calls Try.prog 70 #[ratV n1 d1, ratV n2 d2] w fun e w' => e = .returned (pairV (minR f n1 d1 n2 d2)) ∧ Below w.heap.size w w' := by
  have K := Lib.hid (fun w => specCmp n1 d1 n2 d2 w f hf)
  by_cases g1 : okZ n1 d1
  case neg =>
    obtain rfl : f = false := bfalse hf (fun h => g1 h.1)
    clear hf
    have N1 := Lib.hid g1
    clear g1
    go_enter Try.func70, Try.ntmps70
    go_wp2_with fail
    refine (specRatioOk n1 d1 _ false ⟨fun h => (by cases h), fun h => absurd h N1.out⟩).mono ?_
    rintro e w1 ⟨rfl, hb1⟩
    obtain ⟨hc1, hf1⟩ := bcell hb1
    have hz1 := bsize hb1
    have g1 := hb1
    go_wp2_with fail
    have rs0 : (w1.cell? { block := w.heap.size + 2, off := 0 }).isSome = true := by simp [go_sem, hc1]
    have rs1 : (w1.cell? { block := w.heap.size + 2, off := 1 }).isSome = true := by simp [go_sem, hc1]
    refine bodyPost_ret (v := _) (by simp [results, Try.results70, go_sem, rs0, rs1]; try rfl) rfl ?_
    exact ⟨rfl, by (repeat' (first | (with_reducible exact Below.refl _ _) | (with_reducible assumption) | (with_reducible refine balloc ?_ _) | (with_reducible refine Below.drew ?_) | (with_reducible refine below_drewN ?_ _) | (with_reducible refine bset ?_ ?_ _) | (with_reducible refine bstep ?_ (by assumption)) | go_size))⟩
  have G1 := Lib.hid g1
  have bd1 := okZ_i64 g1
  clear g1
  by_cases g2 : okZ n2 d2
  case neg =>
    obtain rfl : f = false := bfalse hf (fun h => g2 h.2)
    clear hf
    have N2 := Lib.hid g2
    clear g2
    go_enter Try.func70, Try.ntmps70
    go_wp2_with fail
    refine (specRatioOk n1 d1 _ true ⟨fun _ => G1.out, fun _ => rfl⟩).mono ?_
    rintro e w1 ⟨rfl, hb1⟩
    obtain ⟨hc1, hf1⟩ := bcell hb1
    have hz1 := bsize hb1
    have g1 := hb1
    go_wp2_with fail
    refine (specRatioOk n2 d2 _ false ⟨fun h => (by cases h), fun h => absurd h N2.out⟩).mono ?_
    rintro e w2 ⟨rfl, hb2⟩
    obtain ⟨hc2, hf2⟩ := bcell hb2
    have hz2 := bsize hb2
    have g2 := bjoin g1 (by (repeat' (first | (with_reducible exact Below.refl _ _) | (with_reducible assumption) | (with_reducible refine balloc ?_ _) | (with_reducible refine Below.drew ?_) | (with_reducible refine below_drewN ?_ _) | (with_reducible refine bset ?_ ?_ _) | (with_reducible refine bstep ?_ (by assumption)) | go_size))) hb2
    clear g1
    obtain ⟨gc2, gf2⟩ := bcell g2
    have gz2 := bsize g2
    go_wp2_with fail
    have rs0 : (w2.cell? { block := w.heap.size + 2, off := 0 }).isSome = true := by simp [go_sem, gc2]
    have rs1 : (w2.cell? { block := w.heap.size + 2, off := 1 }).isSome = true := by simp [go_sem, gc2]
    refine bodyPost_ret (v := _) (by simp [results, Try.results70, go_sem, rs0, rs1]; try rfl) rfl ?_
    exact ⟨rfl, by (repeat' (first | (with_reducible exact Below.refl _ _) | (with_reducible assumption) | (with_reducible refine balloc ?_ _) | (with_reducible refine Below.drew ?_) | (with_reducible refine below_drewN ?_ _) | (with_reducible refine bset ?_ ?_ _) | (with_reducible refine bstep ?_ (by assumption)) | go_size))⟩
  have G2 := Lib.hid g2
  have bd2 := okZ_i64 g2
  clear g2
  obtain rfl : f = true := hf.2 ⟨G1.out, G2.out⟩
  clear hf
  simp only [cmpR_true] at K
  by_cases hc : sg (n1 * d2 - n2 * d1) ≤ 0
  · have HV : Hid (minR true n1 d1 n2 d2 = (n1, d1)) := by show _ = _; unfold minR; rw [if_pos rfl, if_pos hc]
    generalize sg (n1 * d2 - n2 * d1) = z at K hc
    go_enter Try.func70, Try.ntmps70
    go_wp2_with fail
    refine (specRatioOk n1 d1 _ true ⟨fun _ => G1.out, fun _ => rfl⟩).mono ?_
    rintro e w1 ⟨rfl, hb1⟩
    obtain ⟨hc1, hf1⟩ := bcell hb1
    have hz1 := bsize hb1
    have g1 := hb1
    go_wp2_with fail
    refine (specRatioOk n2 d2 _ true ⟨fun _ => G2.out, fun _ => rfl⟩).mono ?_
    rintro e w2 ⟨rfl, hb2⟩
    obtain ⟨hc2, hf2⟩ := bcell hb2
    have hz2 := bsize hb2
    have g2 := bjoin g1 (by (repeat' (first | (with_reducible exact Below.refl _ _) | (with_reducible assumption) | (with_reducible refine balloc ?_ _) | (with_reducible refine Below.drew ?_) | (with_reducible refine below_drewN ?_ _) | (with_reducible refine bset ?_ ?_ _) | (with_reducible refine bstep ?_ (by assumption)) | go_size))) hb2
    clear g1
    obtain ⟨gc2, gf2⟩ := bcell g2
    have gz2 := bsize g2
    go_wp2_with fail
    refine (K.out _).mono ?_
    rintro e w3 ⟨rfl, hb3⟩
    obtain ⟨hc3, hf3⟩ := bcell hb3
    have hz3 := bsize hb3
    have g3 := bjoin g2 (by (repeat' (first | (with_reducible exact Below.refl _ _) | (with_reducible assumption) | (with_reducible refine balloc ?_ _) | (with_reducible refine Below.drew ?_) | (with_reducible refine below_drewN ?_ _) | (with_reducible refine bset ?_ ?_ _) | (with_reducible refine bstep ?_ (by assumption)) | go_size))) hb3
    clear g2
    obtain ⟨gc3, gf3⟩ := bcell g3
    have gz3 := bsize g3
    clear gc2 gf2 gz2
    go_wp2_with fail
    have rs0 : (w3.cell? { block := w.heap.size + 2, off := 0 }).isSome = true := by simp [go_sem, gc3]
    have rs1 : (w3.cell? { block := w.heap.size + 2, off := 1 }).isSome = true := by simp [go_sem, gc3]
    refine bodyPost_ret (v := _) (by simp [results, Try.results70, go_sem, rs0, rs1]; try rfl) rfl ?_
    exact ⟨ret_val (by rw [HV.out]; rfl), by (repeat' (first | (with_reducible exact Below.refl _ _) | (with_reducible assumption) | (with_reducible refine balloc ?_ _) | (with_reducible refine Below.drew ?_) | (with_reducible refine below_drewN ?_ _) | (with_reducible refine bset ?_ ?_ _) | (with_reducible refine bstep ?_ (by assumption)) | go_size))⟩
  · have HV : Hid (minR true n1 d1 n2 d2 = (n2, d2)) := by show _ = _; unfold minR; rw [if_pos rfl, if_neg hc]
    generalize sg (n1 * d2 - n2 * d1) = z at K hc
    go_enter Try.func70, Try.ntmps70
    go_wp2_with fail
    refine (specRatioOk n1 d1 _ true ⟨fun _ => G1.out, fun _ => rfl⟩).mono ?_
    rintro e w1 ⟨rfl, hb1⟩
    obtain ⟨hc1, hf1⟩ := bcell hb1
    have hz1 := bsize hb1
    have g1 := hb1
    go_wp2_with fail
    refine (specRatioOk n2 d2 _ true ⟨fun _ => G2.out, fun _ => rfl⟩).mono ?_
    rintro e w2 ⟨rfl, hb2⟩
    obtain ⟨hc2, hf2⟩ := bcell hb2
    have hz2 := bsize hb2
    have g2 := bjoin g1 (by (repeat' (first | (with_reducible exact Below.refl _ _) | (with_reducible assumption) | (with_reducible refine balloc ?_ _) | (with_reducible refine Below.drew ?_) | (with_reducible refine below_drewN ?_ _) | (with_reducible refine bset ?_ ?_ _) | (with_reducible refine bstep ?_ (by assumption)) | go_size))) hb2
    clear g1
    obtain ⟨gc2, gf2⟩ := bcell g2
    have gz2 := bsize g2
    go_wp2_with fail
    refine (K.out _).mono ?_
    rintro e w3 ⟨rfl, hb3⟩
    obtain ⟨hc3, hf3⟩ := bcell hb3
    have hz3 := bsize hb3
    have g3 := bjoin g2 (by (repeat' (first | (with_reducible exact Below.refl _ _) | (with_reducible assumption) | (with_reducible refine balloc ?_ _) | (with_reducible refine Below.drew ?_) | (with_reducible refine below_drewN ?_ _) | (with_reducible refine bset ?_ ?_ _) | (with_reducible refine bstep ?_ (by assumption)) | go_size))) hb3
    clear g2
    obtain ⟨gc3, gf3⟩ := bcell g3
    have gz3 := bsize g3
    clear gc2 gf2 gz2
    go_wp2_with fail
    have rs0 : (w3.cell? { block := w.heap.size + 2, off := 0 }).isSome = true := by simp [go_sem, gc3]
    have rs1 : (w3.cell? { block := w.heap.size + 2, off := 1 }).isSome = true := by simp [go_sem, gc3]
    refine bodyPost_ret (v := _) (by simp [results, Try.results70, go_sem, rs0, rs1]; try rfl) rfl ?_
    exact ⟨ret_val (by rw [HV.out]; rfl), by (repeat' (first | (with_reducible exact Below.refl _ _) | (with_reducible assumption) | (with_reducible refine balloc ?_ _) | (with_reducible refine Below.drew ?_) | (with_reducible refine below_drewN ?_ _) | (with_reducible refine bset ?_ ?_ _) | (with_reducible refine bstep ?_ (by assumption)) | go_size))⟩

set_option maxRecDepth 100000 in
set_option maxHeartbeats 4000000 in
theorem implMax (n1 d1 n2 d2 : Int) (w : World) (f : Bool) (hf : f = true ↔ bothZ n1 d1 n2 d2) :
    Calls Try.prog 69 #[ratV n1 d1, ratV n2 d2] w fun e w' => e = .returned (pairV (maxR f n1 d1 n2 d2)) ∧ Below w.heap.size w w' := by
  have K := Lib.hid (fun w => implCmp n1 d1 n2 d2 w f hf)
  by_cases g1 : okZ n1 d1
  case neg =>
    obtain rfl : f = false := bfalse hf (fun h => g1 h.1)
    clear hf
    have N1 := Lib.hid g1
    clear g1
    go_enter Try.func69, Try.ntmps69
    go_wp2_with fail
    refine (implRatioOk n1 d1 _ false ⟨fun h => (by cases h), fun h => absurd h N1.out⟩).mono ?_
    rintro e w1 ⟨rfl, hb1⟩
    obtain ⟨hc1, hf1⟩ := bcell hb1
    have hz1 := bsize hb1
    have g1 := hb1
    go_wp2_with fail
    have rs0 : (w1.cell? { block := w.heap.size + 2, off := 0 }).isSome = true := by simp [go_sem, hc1]
    have rs1 : (w1.cell? { block := w.heap.size + 2, off := 1 }).isSome = true := by simp [go_sem, hc1]
    refine bodyPost_ret (v := _) (by simp [results, Try.results69, go_sem, rs0, rs1]; try rfl) rfl ?_
    exact ⟨rfl, by (repeat' (first | (with_reducible exact Below.refl _ _) | (with_reducible assumption) | (with_reducible refine balloc ?_ _) | (with_reducible refine Below.drew ?_) | (with_reducible refine below_drewN ?_ _) | (with_reducible refine bset ?_ ?_ _) | (with_reducible refine bstep ?_ (by assumption)) | go_size))⟩
  have G1 := Lib.hid g1
  have bd1 := okZ_i64 g1
  clear g1
  by_cases g2 : okZ n2 d2
  case neg =>
    obtain rfl : f = false := bfalse hf (fun h => g2 h.2)
    clear hf
    have N2 := Lib.hid g2
    clear g2
    go_enter Try.func69, Try.ntmps69
    go_wp2_with fail
    refine (implRatioOk n1 d1 _ true ⟨fun _ => G1.out, fun _ => rfl⟩).mono ?_
    rintro e w1 ⟨rfl, hb1⟩
    obtain ⟨hc1, hf1⟩ := bcell hb1
    have hz1 := bsize hb1
    have g1 := hb1
    go_wp2_with fail
    refine (implRatioOk n2 d2 _ false ⟨fun h => (by cases h), fun h => absurd h N2.out⟩).mono ?_
    rintro e w2 ⟨rfl, hb2⟩
    obtain ⟨hc2, hf2⟩ := bcell hb2
    have hz2 := bsize hb2
    have g2 := bjoin g1 (by (repeat' (first | (with_reducible exact Below.refl _ _) | (with_reducible assumption) | (with_reducible refine balloc ?_ _) | (with_reducible refine Below.drew ?_) | (with_reducible refine below_drewN ?_ _) | (with_reducible refine bset ?_ ?_ _) | (with_reducible refine bstep ?_ (by assumption)) | go_size))) hb2
    clear g1
    obtain ⟨gc2, gf2⟩ := bcell g2
    have gz2 := bsize g2
    go_wp2_with fail
    have rs0 : (w2.cell? { block := w.heap.size + 2, off := 0 }).isSome = true := by simp [go_sem, gc2]
    have rs1 : (w2.cell? { block := w.heap.size + 2, off := 1 }).isSome = true := by simp [go_sem, gc2]
    refine bodyPost_ret (v := _) (by simp [results, Try.results69, go_sem, rs0, rs1]; try rfl) rfl ?_
    exact ⟨rfl, by (repeat' (first | (with_reducible exact Below.refl _ _) | (with_reducible assumption) | (with_reducible refine balloc ?_ _) | (with_reducible refine Below.drew ?_) | (with_reducible refine below_drewN ?_ _) | (with_reducible refine bset ?_ ?_ _) | (with_reducible refine bstep ?_ (by assumption)) | go_size))⟩
  have G2 := Lib.hid g2
  have bd2 := okZ_i64 g2
  clear g2
  obtain rfl : f = true := hf.2 ⟨G1.out, G2.out⟩
  clear hf
  simp only [cmpR_true] at K
  by_cases hc : 0 ≤ sg (n1 * d2 - n2 * d1)
  · have HV : Hid (maxR true n1 d1 n2 d2 = (n1, d1)) := by show _ = _; unfold maxR; rw [if_pos rfl, if_pos hc]
    generalize sg (n1 * d2 - n2 * d1) = z at K hc
    go_enter Try.func69, Try.ntmps69
    go_wp2_with fail
    refine (implRatioOk n1 d1 _ true ⟨fun _ => G1.out, fun _ => rfl⟩).mono ?_
    rintro e w1 ⟨rfl, hb1⟩
    obtain ⟨hc1, hf1⟩ := bcell hb1
    have hz1 := bsize hb1
    have g1 := hb1
    go_wp2_with fail
    refine (implRatioOk n2 d2 _ true ⟨fun _ => G2.out, fun _ => rfl⟩).mono ?_
    rintro e w2 ⟨rfl, hb2⟩
    obtain ⟨hc2, hf2⟩ := bcell hb2
    have hz2 := bsize hb2
    have g2 := bjoin g1 (by (repeat' (first | (with_reducible exact Below.refl _ _) | (with_reducible assumption) | (with_reducible refine balloc ?_ _) | (with_reducible refine Below.drew ?_) | (with_reducible refine below_drewN ?_ _) | (with_reducible refine bset ?_ ?_ _) | (with_reducible refine bstep ?_ (by assumption)) | go_size))) hb2
    clear g1
    obtain ⟨gc2, gf2⟩ := bcell g2
    have gz2 := bsize g2
    go_wp2_with fail
    refine (K.out _).mono ?_
    rintro e w3 ⟨rfl, hb3⟩
    obtain ⟨hc3, hf3⟩ := bcell hb3
    have hz3 := bsize hb3
    have g3 := bjoin g2 (by (repeat' (first | (with_reducible exact Below.refl _ _) | (with_reducible assumption) | (with_reducible refine balloc ?_ _) | (with_reducible refine Below.drew ?_) | (with_reducible refine below_drewN ?_ _) | (with_reducible refine bset ?_ ?_ _) | (with_reducible refine bstep ?_ (by assumption)) | go_size))) hb3
    clear g2
    obtain ⟨gc3, gf3⟩ := bcell g3
    have gz3 := bsize g3
    clear gc2 gf2 gz2
    go_wp2_with fail
    have rs0 : (w3.cell? { block := w.heap.size + 2, off := 0 }).isSome = true := by simp [go_sem, gc3]
    have rs1 : (w3.cell? { block := w.heap.size + 2, off := 1 }).isSome = true := by simp [go_sem, gc3]
    refine bodyPost_ret (v := _) (by simp [results, Try.results69, go_sem, rs0, rs1]; try rfl) rfl ?_
    exact ⟨ret_val (by rw [HV.out]; rfl), by (repeat' (first | (with_reducible exact Below.refl _ _) | (with_reducible assumption) | (with_reducible refine balloc ?_ _) | (with_reducible refine Below.drew ?_) | (with_reducible refine below_drewN ?_ _) | (with_reducible refine bset ?_ ?_ _) | (with_reducible refine bstep ?_ (by assumption)) | go_size))⟩
  · have HV : Hid (maxR true n1 d1 n2 d2 = (n2, d2)) := by show _ = _; unfold maxR; rw [if_pos rfl, if_neg hc]
    generalize sg (n1 * d2 - n2 * d1) = z at K hc
    go_enter Try.func69, Try.ntmps69
    go_wp2_with fail
    refine (implRatioOk n1 d1 _ true ⟨fun _ => G1.out, fun _ => rfl⟩).mono ?_
    rintro e w1 ⟨rfl, hb1⟩
    obtain ⟨hc1, hf1⟩ := bcell hb1
    have hz1 := bsize hb1
    have g1 := hb1
    go_wp2_with fail
    refine (implRatioOk n2 d2 _ true ⟨fun _ => G2.out, fun _ => rfl⟩).mono ?_
    rintro e w2 ⟨rfl, hb2⟩
    obtain ⟨hc2, hf2⟩ := bcell hb2
    have hz2 := bsize hb2
    have g2 := bjoin g1 (by (repeat' (first | (with_reducible exact Below.refl _ _) | (with_reducible assumption) | (with_reducible refine balloc ?_ _) | (with_reducible refine Below.drew ?_) | (with_reducible refine below_drewN ?_ _) | (with_reducible refine bset ?_ ?_ _) | (with_reducible refine bstep ?_ (by assumption)) | go_size))) hb2
    clear g1
    obtain ⟨gc2, gf2⟩ := bcell g2
    have gz2 := bsize g2
    go_wp2_with fail
    refine (K.out _).mono ?_
    rintro e w3 ⟨rfl, hb3⟩
    obtain ⟨hc3, hf3⟩ := bcell hb3
    have hz3 := bsize hb3
    have g3 := bjoin g2 (by (repeat' (first | (with_reducible exact Below.refl _ _) | (with_reducible assumption) | (with_reducible refine balloc ?_ _) | (with_reducible refine Below.drew ?_) | (with_reducible refine below_drewN ?_ _) | (with_reducible refine bset ?_ ?_ _) | (with_reducible refine bstep ?_ (by assumption)) | go_size))) hb3
    clear g2
    obtain ⟨gc3, gf3⟩ := bcell g3
    have gz3 := bsize g3
    clear gc2 gf2 gz2
    go_wp2_with fail
    have rs0 : (w3.cell? { block := w.heap.size + 2, off := 0 }).isSome = true := by simp [go_sem, gc3]
    have rs1 : (w3.cell? { block := w.heap.size + 2, off := 1 }).isSome = true := by simp [go_sem, gc3]
    refine bodyPost_ret (v := _) (by simp [results, Try.results69, go_sem, rs0, rs1]; try rfl) rfl ?_
    exact ⟨ret_val (by rw [HV.out]; rfl), by (repeat' (first | (with_reducible exact Below.refl _ _) | (with_reducible assumption) | (with_reducible refine balloc ?_ _) | (with_reducible refine Below.drew ?_) | (with_reducible refine below_drewN ?_ _) | (with_reducible refine bset ?_ ?_ _) | (with_reducible refine bstep ?_ (by assumption)) | go_size))⟩

set_option maxRecDepth 100000 in
set_option maxHeartbeats 4000000 in
theorem specMax (n1 d1 n2 d2 : Int) (w : World) (f : Bool) (hf : f = true ↔ bothZ n1 d1 n2 d2) :
    Calls Try.prog 68 #[ratV n1 d1, ratV n2 d2] w fun e w' => e = .returned (pairV (maxR f n1 d1 n2 d2)) ∧ Below w.heap.size w w' := by
  have K := Lib.hid (fun w => specCmp n1 d1 n2 d2 w f hf)
  by_cases g1 : okZ n1 d1
  case neg =>
    obtain rfl : f = false := bfalse hf (fun h => g1 h.1)
    clear hf
    have N1 := Lib.hid g1
    clear g1
    go_enter Try.func68, Try.ntmps68
    go_wp2_with fail
    refine (specRatioOk n1 d1 _ false ⟨fun h => (by cases h), fun h => absurd h N1.out⟩).mono ?_
    rintro e w1 ⟨rfl, hb1⟩
    obtain ⟨hc1, hf1⟩ := bcell hb1
    have hz1 := bsize hb1
    have g1 := hb1
    go_wp2_with fail
    have rs0 : (w1.cell? { block := w.heap.size + 2, off := 0 }).isSome = true := by simp [go_sem, hc1]
    have rs1 : (w1.cell? { block := w.heap.size + 2, off := 1 }).isSome = true := by simp [go_sem, hc1]
    refine bodyPost_ret (v := _) (by simp [results, Try.results68, go_sem, rs0, rs1]; try rfl) rfl ?_
    exact ⟨rfl, by (repeat' (first | (with_reducible exact Below.refl _ _) | (with_reducible assumption) | (with_reducible refine balloc ?_ _) | (with_reducible refine Below.drew ?_) | (with_reducible refine below_drewN ?_ _) | (with_reducible refine bset ?_ ?_ _) | (with_reducible refine bstep ?_ (by assumption)) | go_size))⟩
  have G1 := Lib.hid g1
  have bd1 := okZ_i64 g1
  clear g1
  by_cases g2 : okZ n2 d2
  case neg =>
    obtain rfl : f = false := bfalse hf (fun h => g2 h.2)
    clear hf
    have N2 := Lib.hid g2
    clear g2
    go_enter Try.func68, Try.ntmps68
    go_wp2_with fail
    refine (specRatioOk n1 d1 _ true ⟨fun _ => G1.out, fun _ => rfl⟩).mono ?_
    rintro e w1 ⟨rfl, hb1⟩
    obtain ⟨hc1, hf1⟩ := bcell hb1
    have hz1 := bsize hb1
    have g1 := hb1
    go_wp2_with fail
    refine (specRatioOk n2 d2 _ false ⟨fun h => (by cases h), fun h => absurd h N2.out⟩).mono ?_
    rintro e w2 ⟨rfl, hb2⟩
    obtain ⟨hc2, hf2⟩ := bcell hb2
    have hz2 := bsize hb2
    have g2 := bjoin g1 (by (repeat' (first | (with_reducible exact Below.refl _ _) | (with_reducible assumption) | (with_reducible refine balloc ?_ _) | (with_reducible refine Below.drew ?_) | (with_reducible refine below_drewN ?_ _) | (with_reducible refine bset ?_ ?_ _) | (with_reducible refine bstep ?_ (by assumption)) | go_size))) hb2
    clear g1
    obtain ⟨gc2, gf2⟩ := bcell g2
    have gz2 := bsize g2
    go_wp2_with fail
    have rs0 : (w2.cell? { block := w.heap.size + 2, off := 0 }).isSome = true := by simp [go_sem, gc2]
    have rs1 : (w2.cell? { block := w.heap.size + 2, off := 1 }).isSome = true := by simp [go_sem, gc2]
    refine bodyPost_ret (v := _) (by simp [results, Try.results68, go_sem, rs0, rs1]; try rfl) rfl ?_
    exact ⟨rfl, by (repeat' (first | (with_reducible exact Below.refl _ _) | (with_reducible assumption) | (with_reducible refine balloc ?_ _) | (with_reducible refine Below.drew ?_) | (with_reducible refine below_drewN ?_ _) | (with_reducible refine bset ?_ ?_ _) | (with_reducible refine bstep ?_ (by assumption)) | go_size))⟩
  have G2 := Lib.hid g2
  have bd2 := okZ_i64 g2
  clear g2
  obtain rfl : f = true := hf.2 ⟨G1.out, G2.out⟩
  clear hf
  simp only [cmpR_true] at K
  by_cases hc : 0 ≤ sg (n1 * d2 - n2 * d1)
  · have HV : Hid (maxR true n1 d1 n2 d2 = (n1, d1)) := by show _ = _; unfold maxR; rw [if_pos rfl, if_pos hc]
    generalize sg (n1 * d2 - n2 * d1) = z at K hc
    go_enter Try.func68, Try.ntmps68
    go_wp2_with fail
    refine (specRatioOk n1 d1 _ true ⟨fun _ => G1.out, fun _ => rfl⟩).mono ?_
    rintro e w1 ⟨rfl, hb1⟩
    obtain ⟨hc1, hf1⟩ := bcell hb1
    have hz1 := bsize hb1
    have g1 := hb1
    go_wp2_with fail
    refine (specRatioOk n2 d2 _ true ⟨fun _ => G2.out, fun _ => rfl⟩).mono ?_
    rintro e w2 ⟨rfl, hb2⟩
    obtain ⟨hc2, hf2⟩ := bcell hb2
    have hz2 := bsize hb2
    have g2 := bjoin g1 (by (repeat' (first | (with_reducible exact Below.refl _ _) | (with_reducible assumption) | (with_reducible refine balloc ?_ _) | (with_reducible refine Below.drew ?_) | (with_reducible refine below_drewN ?_ _) | (with_reducible refine bset ?_ ?_ _) | (with_reducible refine bstep ?_ (by assumption)) | go_size))) hb2
    clear g1
    obtain ⟨gc2, gf2⟩ := bcell g2
    have gz2 := bsize g2
    go_wp2_with fail
    refine (K.out _).mono ?_
    rintro e w3 ⟨rfl, hb3⟩
    obtain ⟨hc3, hf3⟩ := bcell hb3
    have hz3 := bsize hb3
    have g3 := bjoin g2 (by (repeat' (first | (with_reducible exact Below.refl _ _) | (with_reducible assumption) | (with_reducible refine balloc ?_ _) | (with_reducible refine Below.drew ?_) | (with_reducible refine below_drewN ?_ _) | (with_reducible refine bset ?_ ?_ _) | (with_reducible refine bstep ?_ (by assumption)) | go_size))) hb3
    clear g2
    obtain ⟨gc3, gf3⟩ := bcell g3
    have gz3 := bsize g3
    clear gc2 gf2 gz2
    go_wp2_with fail
    have rs0 : (w3.cell? { block := w.heap.size + 2, off := 0 }).isSome = true := by simp [go_sem, gc3]
    have rs1 : (w3.cell? { block := w.heap.size + 2, off := 1 }).isSome = true := by simp [go_sem, gc3]
    refine bodyPost_ret (v := _) (by simp [results, Try.results68, go_sem, rs0, rs1]; try rfl) rfl ?_
    exact ⟨ret_val (by rw [HV.out]; rfl), by (repeat' (first | (with_reducible exact Below.refl _ _) | (with_reducible assumption) | (with_reducible refine balloc ?_ _) | (with_reducible refine Below.drew ?_) | (with_reducible refine below_drewN ?_ _) | (with_reducible refine bset ?_ ?_ _) | (with_reducible refine bstep ?_ (by assumption)) | go_size))⟩
  · have HV : Hid (maxR true n1 d1 n2 d2 = (n2, d2)) := by show _ = _; unfold maxR; rw [if_pos rfl, if_neg hc]
    generalize sg (n1 * d2 - n2 * d1) = z at K hc
    go_enter Try.func68, Try.ntmps68
    go_wp2_with fail
    refine (specRatioOk n1 d1 _ true ⟨fun _ => G1.out, fun _ => rfl⟩).mono ?_
    rintro e w1 ⟨rfl, hb1⟩
    obtain ⟨hc1, hf1⟩ := bcell hb1
    have hz1 := bsize hb1
    have g1 := hb1
    go_wp2_with fail
    refine (specRatioOk n2 d2 _ true ⟨fun _ => G2.out, fun _ => rfl⟩).mono ?_
    rintro e w2 ⟨rfl, hb2⟩
    obtain ⟨hc2, hf2⟩ := bcell hb2
    have hz2 := bsize hb2
    have g2 := bjoin g1 (by (repeat' (first | (with_reducible exact Below.refl _ _) | (with_reducible assumption) | (with_reducible refine balloc ?_ _) | (with_reducible refine Below.drew ?_) | (with_reducible refine below_drewN ?_ _) | (with_reducible refine bset ?_ ?_ _) | (with_reducible refine bstep ?_ (by assumption)) | go_size))) hb2
    clear g1
    obtain ⟨gc2, gf2⟩ := bcell g2
    have gz2 := bsize g2
    go_wp2_with fail
    refine (K.out _).mono ?_
    rintro e w3 ⟨rfl, hb3⟩
    obtain ⟨hc3, hf3⟩ := bcell hb3
    have hz3 := bsize hb3
    have g3 := bjoin g2 (by (repeat' (first | (with_reducible exact Below.refl _ _) | (with_reducible assumption) | (with_reducible refine balloc ?_ _) | (with_reducible refine Below.drew ?_) | (with_reducible refine below_drewN ?_ _) | (with_reducible refine bset ?_ ?_ _) | (with_reducible refine bstep ?_ (by assumption)) | go_size))) hb3
    clear g2
    obtain ⟨gc3, gf3⟩ := bcell g3
    have gz3 := bsize g3
    clear gc2 gf2 gz2
    go_wp2_with fail
    have rs0 : (w3.cell? { block := w.heap.size + 2, off := 0 }).isSome = true := by simp [go_sem, gc3]
    have rs1 : (w3.cell? { block := w.heap.size + 2, off := 1 }).isSome = true := by simp [go_sem, gc3]
    refine bodyPost_ret (v := _) (by simp [results, Try.results68, go_sem, rs0, rs1]; try rfl) rfl ?_
    exact ⟨ret_val (by rw [HV.out]; rfl), by (repeat' (first | (with_reducible exact Below.refl _ _) | (with_reducible assumption) | (with_reducible refine balloc ?_ _) | (with_reducible refine Below.drew ?_) | (with_reducible refine below_drewN ?_ _) | (with_reducible refine bset ?_ ?_ _) | (with_reducible refine bstep ?_ (by assumption)) | go_size))⟩

end Go.Proofs.Yticfjfdfgcfnnaa