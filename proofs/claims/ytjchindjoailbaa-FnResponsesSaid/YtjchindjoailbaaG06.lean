/- RatioSum, RatioDiff, RatioTimes and RatioInverse of the program and of the reference give the same fraction. -/
import Derived.Test.YtjchindjoailbaaG05
namespace Go.Proofs.Ytjchindjoailbaa
set_option linter.unusedSimpArgs false
set_option linter.unusedVariables false
open Go.RowKit

/-- two fractions that RatioSum and its kin calculate with -/
def calcZ (n1 d1 n2 d2 : Int) : Prop := okZ n1 d1 ∧ okZ n2 d2 ∧ fitsZ n1 d2 ∧ fitsZ n2 d1 ∧ fitsZ d1 d2 ∧ fitsZ n1 n2

theorem okZ_i64 {n d : Int} (h : okZ n d) : (-1000000000000000000 ≤ n ∧ n ≤ 1000000000000000000) ∧ (1 ≤ d ∧ d ≤ 1000000000000000) := by unfold okZ at h; omega

set_option maxHeartbeats 2000000 in
theorem implCalc (n1 d1 n2 d2 : Int) (w : World) (f : Bool) (hf : f = true ↔ calcZ n1 d1 n2 d2) :
    Calls Try.prog 79 #[ratV n1 d1, ratV n2 d2] w fun e w' => e = .returned (.bool f) ∧ Below w.heap.size w w' := by
  have HF := Lib.hid hf
  clear hf
  by_cases g1 : okZ n1 d1
  case neg =>
    have HT : Hid (f = false) := bfalse HF.out (fun h => g1 h.1)
    have N1 := Lib.hid g1
    clear g1
    go_enter Try.func79, Try.ntmps79
    go_wp2_with fail
    refine (implRatioOk n1 d1 _ false ⟨fun h => (by cases h), fun h => absurd h N1.out⟩).mono ?_
    rintro e w1 ⟨rfl, hb1⟩
    obtain ⟨hc1, hf1⟩ := bcell hb1
    have hz1 := bsize hb1
    have g1 := hb1
    go_wp2_with fail
    go_ret
    exact ⟨ret_bool HT.out.symm, by (repeat' (first | (with_reducible exact Below.refl _ _) | (with_reducible assumption) | (with_reducible refine balloc ?_ _) | (with_reducible refine Below.drew ?_) | (with_reducible refine below_drewN ?_ _) | (with_reducible refine bset ?_ ?_ _) | (with_reducible refine bstep ?_ (by assumption)) | go_size))⟩
  have G1 := Lib.hid g1
  have bd1 := okZ_i64 g1
  clear g1
  by_cases g2 : okZ n2 d2
  case neg =>
    have HT : Hid (f = false) := bfalse HF.out (fun h => g2 h.2.1)
    have N2 := Lib.hid g2
    clear g2
    go_enter Try.func79, Try.ntmps79
    go_wp2_with fail
    refine (implRatioOk n1 d1 _ true ⟨fun _ => G1.out, fun _ => rfl⟩).mono ?_
    rintro e w1 ⟨rfl, hb1⟩
    obtain ⟨hc1, hf1⟩ := bcell hb1
    have hz1 := bsize hb1
    have g1 := hb1
    go_wp2_with fail
    refine (implRatioOk n2 d2 _ false ⟨fun h => (by cases h), fun h => absurd h N2.out⟩).mono ?_
    rintro e w2 ⟨rfl, hb2⟩
    obtain ⟨hc2, hf2⟩ := bcell hb2
    have hz2 := bsize hb2
    have g2 := bjoin g1 (by (repeat' (first | (with_reducible exact Below.refl _ _) | (with_reducible assumption) | (with_reducible refine balloc ?_ _) | (with_reducible refine Below.drew ?_) | (with_reducible refine below_drewN ?_ _) | (with_reducible refine bset ?_ ?_ _) | (with_reducible refine bstep ?_ (by assumption)) | go_size))) hb2
    clear g1
    obtain ⟨gc2, gf2⟩ := bcell g2
    have gz2 := bsize g2
    go_wp2_with fail
    go_ret
    exact ⟨ret_bool HT.out.symm, by (repeat' (first | (with_reducible exact Below.refl _ _) | (with_reducible assumption) | (with_reducible refine balloc ?_ _) | (with_reducible refine Below.drew ?_) | (with_reducible refine below_drewN ?_ _) | (with_reducible refine bset ?_ ?_ _) | (with_reducible refine bstep ?_ (by assumption)) | go_size))⟩
  have G2 := Lib.hid g2
  have bd2 := okZ_i64 g2
  clear g2
  by_cases g3 : fitsZ n1 d2
  case neg =>
    have HT : Hid (f = false) := bfalse HF.out (fun h => g3 h.2.2.1)
    have N3 := Lib.hid g3
    clear g3
    go_enter Try.func79, Try.ntmps79
    go_wp2_with fail
    refine (implRatioOk n1 d1 _ true ⟨fun _ => G1.out, fun _ => rfl⟩).mono ?_
    rintro e w1 ⟨rfl, hb1⟩
    obtain ⟨hc1, hf1⟩ := bcell hb1
    have hz1 := bsize hb1
    have g1 := hb1
    go_wp2_with fail
    refine (implRatioOk n2 d2 _ true ⟨fun _ => G2.out, fun _ => rfl⟩).mono ?_
    rintro e w2 ⟨rfl, hb2⟩
    obtain ⟨hc2, hf2⟩ := bcell hb2
    have hz2 := bsize hb2
    have g2 := bjoin g1 (by (repeat' (first | (with_reducible exact Below.refl _ _) | (with_reducible assumption) | (with_reducible refine balloc ?_ _) | (with_reducible refine Below.drew ?_) | (with_reducible refine below_drewN ?_ _) | (with_reducible refine bset ?_ ?_ _) | (with_reducible refine bstep ?_ (by assumption)) | go_size))) hb2
    clear g1
    obtain ⟨gc2, gf2⟩ := bcell g2
    have gz2 := bsize g2
    go_wp2_with fail
    refine (implFits n1 d2 _ (by omega) (by omega) (by omega) (by omega) false ⟨fun h => (by cases h), fun h => absurd h N3.out⟩).mono ?_
    rintro e w' ⟨rfl, rfl⟩
    go_wp2_with fail
    go_ret
    exact ⟨ret_bool HT.out.symm, by (repeat' (first | (with_reducible exact Below.refl _ _) | (with_reducible assumption) | (with_reducible refine balloc ?_ _) | (with_reducible refine Below.drew ?_) | (with_reducible refine below_drewN ?_ _) | (with_reducible refine bset ?_ ?_ _) | (with_reducible refine bstep ?_ (by assumption)) | go_size))⟩
  have G3 := Lib.hid g3
  clear g3
  by_cases g4 : fitsZ n2 d1
  case neg =>
    have HT : Hid (f = false) := bfalse HF.out (fun h => g4 h.2.2.2.1)
    have N4 := Lib.hid g4
    clear g4
    go_enter Try.func79, Try.ntmps79
    go_wp2_with fail
    refine (implRatioOk n1 d1 _ true ⟨fun _ => G1.out, fun _ => rfl⟩).mono ?_
    rintro e w1 ⟨rfl, hb1⟩
    obtain ⟨hc1, hf1⟩ := bcell hb1
    have hz1 := bsize hb1
    have g1 := hb1
    go_wp2_with fail
    refine (implRatioOk n2 d2 _ true ⟨fun _ => G2.out, fun _ => rfl⟩).mono ?_
    rintro e w2 ⟨rfl, hb2⟩
    obtain ⟨hc2, hf2⟩ := bcell hb2
    have hz2 := bsize hb2
    have g2 := bjoin g1 (by (repeat' (first | (with_reducible exact Below.refl _ _) | (with_reducible assumption) | (with_reducible refine balloc ?_ _) | (with_reducible refine Below.drew ?_) | (with_reducible refine below_drewN ?_ _) | (with_reducible refine bset ?_ ?_ _) | (with_reducible refine bstep ?_ (by assumption)) | go_size))) hb2
    clear g1
    obtain ⟨gc2, gf2⟩ := bcell g2
    have gz2 := bsize g2
    go_wp2_with fail
    refine (implFits n1 d2 _ (by omega) (by omega) (by omega) (by omega) true ⟨fun _ => G3.out, fun _ => rfl⟩).mono ?_
    rintro e w' ⟨rfl, rfl⟩
    go_wp2_with fail
    refine (implFits n2 d1 _ (by omega) (by omega) (by omega) (by omega) false ⟨fun h => (by cases h), fun h => absurd h N4.out⟩).mono ?_
    rintro e w' ⟨rfl, rfl⟩
    go_wp2_with fail
    go_ret
    exact ⟨ret_bool HT.out.symm, by (repeat' (first | (with_reducible exact Below.refl _ _) | (with_reducible assumption) | (with_reducible refine balloc ?_ _) | (with_reducible refine Below.drew ?_) | (with_reducible refine below_drewN ?_ _) | (with_reducible refine bset ?_ ?_ _) | (with_reducible refine bstep ?_ (by assumption)) | go_size))⟩
  have G4 := Lib.hid g4
  clear g4
  by_cases g5 : fitsZ d1 d2
  case neg =>
    have HT : Hid (f = false) := bfalse HF.out (fun h => g5 h.2.2.2.2.1)
    have N5 := Lib.hid g5
    clear g5
    go_enter Try.func79, Try.ntmps79
    go_wp2_with fail
    refine (implRatioOk n1 d1 _ true ⟨fun _ => G1.out, fun _ => rfl⟩).mono ?_
    rintro e w1 ⟨rfl, hb1⟩
    obtain ⟨hc1, hf1⟩ := bcell hb1
    have hz1 := bsize hb1
    have g1 := hb1
    go_wp2_with fail
    refine (implRatioOk n2 d2 _ true ⟨fun _ => G2.out, fun _ => rfl⟩).mono ?_
    rintro e w2 ⟨rfl, hb2⟩
    obtain ⟨hc2, hf2⟩ := bcell hb2
    have hz2 := bsize hb2
    have g2 := bjoin g1 (by (repeat' (first | (with_reducible exact Below.refl _ _) | (with_reducible assumption) | (with_reducible refine balloc ?_ _) | (with_reducible refine Below.drew ?_) | (with_reducible refine below_drewN ?_ _) | (with_reducible refine bset ?_ ?_ _) | (with_reducible refine bstep ?_ (by assumption)) | go_size))) hb2
    clear g1
    obtain ⟨gc2, gf2⟩ := bcell g2
    have gz2 := bsize g2
    go_wp2_with fail
    refine (implFits n1 d2 _ (by omega) (by omega) (by omega) (by omega) true ⟨fun _ => G3.out, fun _ => rfl⟩).mono ?_
    rintro e w' ⟨rfl, rfl⟩
    go_wp2_with fail
    refine (implFits n2 d1 _ (by omega) (by omega) (by omega) (by omega) true ⟨fun _ => G4.out, fun _ => rfl⟩).mono ?_
    rintro e w' ⟨rfl, rfl⟩
    go_wp2_with fail
    refine (implFits d1 d2 _ (by omega) (by omega) (by omega) (by omega) false ⟨fun h => (by cases h), fun h => absurd h N5.out⟩).mono ?_
    rintro e w' ⟨rfl, rfl⟩
    go_wp2_with fail
    go_ret
    exact ⟨ret_bool HT.out.symm, by (repeat' (first | (with_reducible exact Below.refl _ _) | (with_reducible assumption) | (with_reducible refine balloc ?_ _) | (with_reducible refine Below.drew ?_) | (with_reducible refine below_drewN ?_ _) | (with_reducible refine bset ?_ ?_ _) | (with_reducible refine bstep ?_ (by assumption)) | go_size))⟩
  have G5 := Lib.hid g5
  clear g5
  by_cases g6 : fitsZ n1 n2
  case neg =>
    have HT : Hid (f = false) := bfalse HF.out (fun h => g6 h.2.2.2.2.2)
    have N6 := Lib.hid g6
    clear g6
    go_enter Try.func79, Try.ntmps79
    go_wp2_with fail
    refine (implRatioOk n1 d1 _ true ⟨fun _ => G1.out, fun _ => rfl⟩).mono ?_
    rintro e w1 ⟨rfl, hb1⟩
    obtain ⟨hc1, hf1⟩ := bcell hb1
    have hz1 := bsize hb1
    have g1 := hb1
    go_wp2_with fail
    refine (implRatioOk n2 d2 _ true ⟨fun _ => G2.out, fun _ => rfl⟩).mono ?_
    rintro e w2 ⟨rfl, hb2⟩
    obtain ⟨hc2, hf2⟩ := bcell hb2
    have hz2 := bsize hb2
    have g2 := bjoin g1 (by (repeat' (first | (with_reducible exact Below.refl _ _) | (with_reducible assumption) | (with_reducible refine balloc ?_ _) | (with_reducible refine Below.drew ?_) | (with_reducible refine below_drewN ?_ _) | (with_reducible refine bset ?_ ?_ _) | (with_reducible refine bstep ?_ (by assumption)) | go_size))) hb2
    clear g1
    obtain ⟨gc2, gf2⟩ := bcell g2
    have gz2 := bsize g2
    go_wp2_with fail
    refine (implFits n1 d2 _ (by omega) (by omega) (by omega) (by omega) true ⟨fun _ => G3.out, fun _ => rfl⟩).mono ?_
    rintro e w' ⟨rfl, rfl⟩
    go_wp2_with fail
    refine (implFits n2 d1 _ (by omega) (by omega) (by omega) (by omega) true ⟨fun _ => G4.out, fun _ => rfl⟩).mono ?_
    rintro e w' ⟨rfl, rfl⟩
    go_wp2_with fail
    refine (implFits d1 d2 _ (by omega) (by omega) (by omega) (by omega) true ⟨fun _ => G5.out, fun _ => rfl⟩).mono ?_
    rintro e w' ⟨rfl, rfl⟩
    go_wp2_with fail
    refine (implFits n1 n2 _ (by omega) (by omega) (by omega) (by omega) false ⟨fun h => (by cases h), fun h => absurd h N6.out⟩).mono ?_
    rintro e w' ⟨rfl, rfl⟩
    go_wp2_with fail
    go_ret
    exact ⟨ret_bool HT.out.symm, by (repeat' (first | (with_reducible exact Below.refl _ _) | (with_reducible assumption) | (with_reducible refine balloc ?_ _) | (with_reducible refine Below.drew ?_) | (with_reducible refine below_drewN ?_ _) | (with_reducible refine bset ?_ ?_ _) | (with_reducible refine bstep ?_ (by assumption)) | go_size))⟩
  have G6 := Lib.hid g6
  clear g6
  have HT : Hid (f = true) := HF.out.2 ⟨G1.out, G2.out, G3.out, G4.out, G5.out, G6.out⟩
  go_enter Try.func79, Try.ntmps79
  go_wp2_with fail
  refine (implRatioOk n1 d1 _ true ⟨fun _ => G1.out, fun _ => rfl⟩).mono ?_
  rintro e w1 ⟨rfl, hb1⟩
  obtain ⟨hc1, hf1⟩ := bcell hb1
  have hz1 := bsize hb1
  have g1 := hb1
  go_wp2_with fail
  refine (implRatioOk n2 d2 _ true ⟨fun _ => G2.out, fun _ => rfl⟩).mono ?_
  rintro e w2 ⟨rfl, hb2⟩
  obtain ⟨hc2, hf2⟩ := bcell hb2
  have hz2 := bsize hb2
  have g2 := bjoin g1 (by (repeat' (first | (with_reducible exact Below.refl _ _) | (with_reducible assumption) | (with_reducible refine balloc ?_ _) | (with_reducible refine Below.drew ?_) | (with_reducible refine below_drewN ?_ _) | (with_reducible refine bset ?_ ?_ _) | (with_reducible refine bstep ?_ (by assumption)) | go_size))) hb2
  clear g1
  obtain ⟨gc2, gf2⟩ := bcell g2
  have gz2 := bsize g2
  go_wp2_with fail
  refine (implFits n1 d2 _ (by omega) (by omega) (by omega) (by omega) true ⟨fun _ => G3.out, fun _ => rfl⟩).mono ?_
  rintro e w' ⟨rfl, rfl⟩
  go_wp2_with fail
  refine (implFits n2 d1 _ (by omega) (by omega) (by omega) (by omega) true ⟨fun _ => G4.out, fun _ => rfl⟩).mono ?_
  rintro e w' ⟨rfl, rfl⟩
  go_wp2_with fail
  refine (implFits d1 d2 _ (by omega) (by omega) (by omega) (by omega) true ⟨fun _ => G5.out, fun _ => rfl⟩).mono ?_
  rintro e w' ⟨rfl, rfl⟩
  go_wp2_with fail
  refine (implFits n1 n2 _ (by omega) (by omega) (by omega) (by omega) true ⟨fun _ => G6.out, fun _ => rfl⟩).mono ?_
  rintro e w' ⟨rfl, rfl⟩
  go_wp2_with fail
  go_ret
  exact ⟨ret_bool HT.out.symm, by (repeat' (first | (with_reducible exact Below.refl _ _) | (with_reducible assumption) | (with_reducible refine balloc ?_ _) | (with_reducible refine Below.drew ?_) | (with_reducible refine below_drewN ?_ _) | (with_reducible refine bset ?_ ?_ _) | (with_reducible refine bstep ?_ (by assumption)) | go_size))⟩

set_option maxHeartbeats 4000000 in
theorem specFits (n1 d1 n2 d2 : Int) (w : World) (f : Bool) (hf : f = true ↔ calcZ n1 d1 n2 d2) :
    Calls Try.prog 136 #[ratV n1 d1, ratV n2 d2] w fun e w' => e = .returned (.bool f) ∧ Below w.heap.size w w' := by
  have HF := Lib.hid hf
  clear hf
  by_cases g1 : okZ n1 d1
  case neg =>
    obtain rfl : f = false := bfalse HF.out (fun h => g1 h.1)
    have N1 := Lib.hid g1
    clear g1
    go_enter Try.func136, Try.ntmps136
    go_wp2_with fail
    refine (specRatioOk n1 d1 _ false ⟨fun h => (by cases h), fun h => absurd h N1.out⟩).mono ?_
    rintro e w1 ⟨rfl, hb1⟩
    obtain ⟨hc1, hf1⟩ := bcell hb1
    have hz1 := bsize hb1
    have g1 := hb1
    go_wp2_with fail
    go_ret
    exact ⟨rfl, by (repeat' (first | (with_reducible exact Below.refl _ _) | (with_reducible assumption) | (with_reducible refine balloc ?_ _) | (with_reducible refine Below.drew ?_) | (with_reducible refine below_drewN ?_ _) | (with_reducible refine bset ?_ ?_ _) | (with_reducible refine bstep ?_ (by assumption)) | go_size))⟩
  have G1 := Lib.hid g1
  have bd1 := okZ_i64 g1
  clear g1
  by_cases g2 : okZ n2 d2
  case neg =>
    obtain rfl : f = false := bfalse HF.out (fun h => g2 h.2.1)
    have N2 := Lib.hid g2
    clear g2
    go_enter Try.func136, Try.ntmps136
    go_wp2_with fail
    refine (specRatioOk n1 d1 _ true ⟨fun _ => G1.out, fun _ => rfl⟩).mono ?_
    rintro e w1 ⟨rfl, hb1⟩
    obtain ⟨hc1, hf1⟩ := bcell hb1
    have hz1 := bsize hb1
    have g1 := hb1
    go_wp2_with fail
    refine (specRatioOk n2 d2 _ false ⟨fun h => (by cases h), fun h => absurd h N2.out⟩).mono ?_
    rintro e w2 ⟨rfl, hb2⟩
    obtain ⟨hc2, hf2⟩ := bcell hb2
    have hz2 := bsize hb2
    have g2 := bjoin g1 (by (repeat' (first | (with_reducible exact Below.refl _ _) | (with_reducible assumption) | (with_reducible refine balloc ?_ _) | (with_reducible refine Below.drew ?_) | (with_reducible refine below_drewN ?_ _) | (with_reducible refine bset ?_ ?_ _) | (with_reducible refine bstep ?_ (by assumption)) | go_size))) hb2
    clear g1
    obtain ⟨gc2, gf2⟩ := bcell g2
    have gz2 := bsize g2
    go_wp2_with fail
    go_ret
    exact ⟨rfl, by (repeat' (first | (with_reducible exact Below.refl _ _) | (with_reducible assumption) | (with_reducible refine balloc ?_ _) | (with_reducible refine Below.drew ?_) | (with_reducible refine below_drewN ?_ _) | (with_reducible refine bset ?_ ?_ _) | (with_reducible refine bstep ?_ (by assumption)) | go_size))⟩
  have G2 := Lib.hid g2
  have bd2 := okZ_i64 g2
  clear g2
  obtain ⟨f1, h1⟩ := bool_of (fitsZ n1 d2)
  obtain ⟨f2, h2⟩ := bool_of (fitsZ n2 d1)
  obtain ⟨f3, h3⟩ := bool_of (fitsZ d1 d2)
  obtain ⟨f4, h4⟩ := bool_of (fitsZ n1 n2)
  have HT : Hid (f = true ↔ f1 = true ∧ f2 = true ∧ f3 = true ∧ f4 = true) := by
    show _ ↔ _
    rw [HF.out, h1, h2, h3, h4]
    exact ⟨fun h => h.2.2, fun h => ⟨G1.out, G2.out, h⟩⟩
  have K1 := Lib.hid (fun w => specProduct n1 d2 w (by omega) (by omega) (by omega) (by omega) f1 h1)
  have K2 := Lib.hid (fun w => specProduct n2 d1 w (by omega) (by omega) (by omega) (by omega) f2 h2)
  have K3 := Lib.hid (fun w => specProduct d1 d2 w (by omega) (by omega) (by omega) (by omega) f3 h3)
  have K4 := Lib.hid (fun w => specProduct n1 n2 w (by omega) (by omega) (by omega) (by omega) f4 h4)
  have X1 := Lib.hid (fun h => fits_mul (h1.1 h))
  have X2 := Lib.hid (fun h => fits_mul (h2.1 h))
  have X3 := Lib.hid (fun h => fits_mul (h3.1 h))
  clear h1 h2 h3 h4 HF
  cases f1
  case false =>
    obtain rfl : f = false := bfalse HT.out (fun h => by have := h.1; cases this)
    go_enter Try.func136, Try.ntmps136
    go_wp2_with fail
    refine (specRatioOk n1 d1 _ true ⟨fun _ => G1.out, fun _ => rfl⟩).mono ?_
    rintro e w1 ⟨rfl, hb1⟩
    obtain ⟨hc1, hf1⟩ := bcell hb1
    have hz1 := bsize hb1
    have g1 := hb1
    go_wp2_with fail
    refine (specRatioOk n2 d2 _ true ⟨fun _ => G2.out, fun _ => rfl⟩).mono ?_
    rintro e w2 ⟨rfl, hb2⟩
    obtain ⟨hc2, hf2⟩ := bcell hb2
    have hz2 := bsize hb2
    have g2 := bjoin g1 (by (repeat' (first | (with_reducible exact Below.refl _ _) | (with_reducible assumption) | (with_reducible refine balloc ?_ _) | (with_reducible refine Below.drew ?_) | (with_reducible refine below_drewN ?_ _) | (with_reducible refine bset ?_ ?_ _) | (with_reducible refine bstep ?_ (by assumption)) | go_size))) hb2
    clear g1
    obtain ⟨gc2, gf2⟩ := bcell g2
    have gz2 := bsize g2
    go_wp2_with fail
    refine (K1.out _).mono ?_
    rintro e w' ⟨rfl, rfl⟩
    go_wp2_with fail
    refine (K2.out _).mono ?_
    rintro e w' ⟨rfl, rfl⟩
    go_wp2_with fail
    refine (K3.out _).mono ?_
    rintro e w' ⟨rfl, rfl⟩
    go_wp2_with fail
    refine (K4.out _).mono ?_
    rintro e w' ⟨rfl, rfl⟩
    go_wp2_with fail
    go_ret
    exact ⟨rfl, by (repeat' (first | (with_reducible exact Below.refl _ _) | (with_reducible assumption) | (with_reducible refine balloc ?_ _) | (with_reducible refine Below.drew ?_) | (with_reducible refine below_drewN ?_ _) | (with_reducible refine bset ?_ ?_ _) | (with_reducible refine bstep ?_ (by assumption)) | go_size))⟩
  cases f2
  case false =>
    obtain rfl : f = false := bfalse HT.out (fun h => by have := h.2.1; cases this)
    go_enter Try.func136, Try.ntmps136
    go_wp2_with fail
    refine (specRatioOk n1 d1 _ true ⟨fun _ => G1.out, fun _ => rfl⟩).mono ?_
    rintro e w1 ⟨rfl, hb1⟩
    obtain ⟨hc1, hf1⟩ := bcell hb1
    have hz1 := bsize hb1
    have g1 := hb1
    go_wp2_with fail
    refine (specRatioOk n2 d2 _ true ⟨fun _ => G2.out, fun _ => rfl⟩).mono ?_
    rintro e w2 ⟨rfl, hb2⟩
    obtain ⟨hc2, hf2⟩ := bcell hb2
    have hz2 := bsize hb2
    have g2 := bjoin g1 (by (repeat' (first | (with_reducible exact Below.refl _ _) | (with_reducible assumption) | (with_reducible refine balloc ?_ _) | (with_reducible refine Below.drew ?_) | (with_reducible refine below_drewN ?_ _) | (with_reducible refine bset ?_ ?_ _) | (with_reducible refine bstep ?_ (by assumption)) | go_size))) hb2
    clear g1
    obtain ⟨gc2, gf2⟩ := bcell g2
    have gz2 := bsize g2
    go_wp2_with fail
    refine (K1.out _).mono ?_
    rintro e w' ⟨rfl, rfl⟩
    go_wp2_with fail
    refine (K2.out _).mono ?_
    rintro e w' ⟨rfl, rfl⟩
    go_wp2_with fail
    refine (K3.out _).mono ?_
    rintro e w' ⟨rfl, rfl⟩
    go_wp2_with fail
    refine (K4.out _).mono ?_
    rintro e w' ⟨rfl, rfl⟩
    go_wp2_with fail
    go_ret
    exact ⟨rfl, by (repeat' (first | (with_reducible exact Below.refl _ _) | (with_reducible assumption) | (with_reducible refine balloc ?_ _) | (with_reducible refine Below.drew ?_) | (with_reducible refine below_drewN ?_ _) | (with_reducible refine bset ?_ ?_ _) | (with_reducible refine bstep ?_ (by assumption)) | go_size))⟩
  cases f3
  case false =>
    obtain rfl : f = false := bfalse HT.out (fun h => by have := h.2.2.1; cases this)
    go_enter Try.func136, Try.ntmps136
    go_wp2_with fail
    refine (specRatioOk n1 d1 _ true ⟨fun _ => G1.out, fun _ => rfl⟩).mono ?_
    rintro e w1 ⟨rfl, hb1⟩
    obtain ⟨hc1, hf1⟩ := bcell hb1
    have hz1 := bsize hb1
    have g1 := hb1
    go_wp2_with fail
    refine (specRatioOk n2 d2 _ true ⟨fun _ => G2.out, fun _ => rfl⟩).mono ?_
    rintro e w2 ⟨rfl, hb2⟩
    obtain ⟨hc2, hf2⟩ := bcell hb2
    have hz2 := bsize hb2
    have g2 := bjoin g1 (by (repeat' (first | (with_reducible exact Below.refl _ _) | (with_reducible assumption) | (with_reducible refine balloc ?_ _) | (with_reducible refine Below.drew ?_) | (with_reducible refine below_drewN ?_ _) | (with_reducible refine bset ?_ ?_ _) | (with_reducible refine bstep ?_ (by assumption)) | go_size))) hb2
    clear g1
    obtain ⟨gc2, gf2⟩ := bcell g2
    have gz2 := bsize g2
    go_wp2_with fail
    refine (K1.out _).mono ?_
    rintro e w' ⟨rfl, rfl⟩
    go_wp2_with fail
    refine (K2.out _).mono ?_
    rintro e w' ⟨rfl, rfl⟩
    go_wp2_with fail
    refine (K3.out _).mono ?_
    rintro e w' ⟨rfl, rfl⟩
    go_wp2_with fail
    refine (K4.out _).mono ?_
    rintro e w' ⟨rfl, rfl⟩
    go_wp2_with fail
    go_ret
    exact ⟨rfl, by (repeat' (first | (with_reducible exact Below.refl _ _) | (with_reducible assumption) | (with_reducible refine balloc ?_ _) | (with_reducible refine Below.drew ?_) | (with_reducible refine below_drewN ?_ _) | (with_reducible refine bset ?_ ?_ _) | (with_reducible refine bstep ?_ (by assumption)) | go_size))⟩
  cases f4
  case false =>
    obtain rfl : f = false := bfalse HT.out (fun h => by have := h.2.2.2; cases this)
    go_enter Try.func136, Try.ntmps136
    go_wp2_with fail
    refine (specRatioOk n1 d1 _ true ⟨fun _ => G1.out, fun _ => rfl⟩).mono ?_
    rintro e w1 ⟨rfl, hb1⟩
    obtain ⟨hc1, hf1⟩ := bcell hb1
    have hz1 := bsize hb1
    have g1 := hb1
    go_wp2_with fail
    refine (specRatioOk n2 d2 _ true ⟨fun _ => G2.out, fun _ => rfl⟩).mono ?_
    rintro e w2 ⟨rfl, hb2⟩
    obtain ⟨hc2, hf2⟩ := bcell hb2
    have hz2 := bsize hb2
    have g2 := bjoin g1 (by (repeat' (first | (with_reducible exact Below.refl _ _) | (with_reducible assumption) | (with_reducible refine balloc ?_ _) | (with_reducible refine Below.drew ?_) | (with_reducible refine below_drewN ?_ _) | (with_reducible refine bset ?_ ?_ _) | (with_reducible refine bstep ?_ (by assumption)) | go_size))) hb2
    clear g1
    obtain ⟨gc2, gf2⟩ := bcell g2
    have gz2 := bsize g2
    go_wp2_with fail
    refine (K1.out _).mono ?_
    rintro e w' ⟨rfl, rfl⟩
    go_wp2_with fail
    refine (K2.out _).mono ?_
    rintro e w' ⟨rfl, rfl⟩
    go_wp2_with fail
    refine (K3.out _).mono ?_
    rintro e w' ⟨rfl, rfl⟩
    go_wp2_with fail
    refine (K4.out _).mono ?_
    rintro e w' ⟨rfl, rfl⟩
    go_wp2_with fail
    go_ret
    exact ⟨rfl, by (repeat' (first | (with_reducible exact Below.refl _ _) | (with_reducible assumption) | (with_reducible refine balloc ?_ _) | (with_reducible refine Below.drew ?_) | (with_reducible refine below_drewN ?_ _) | (with_reducible refine bset ?_ ?_ _) | (with_reducible refine bstep ?_ (by assumption)) | go_size))⟩
  obtain rfl : f = true := HT.out.2 ⟨rfl, rfl, rfl, rfl⟩
  have k1 := K1.out
  clear K1
  simp only [pz_true] at k1
  have K1 := Lib.hid k1
  clear k1
  have k2 := K2.out
  clear K2
  simp only [pz_true] at k2
  have K2 := Lib.hid k2
  clear k2
  have k3 := K3.out
  clear K3
  simp only [pz_true] at k3
  have K3 := Lib.hid k3
  clear k3
  have k4 := K4.out
  clear K4
  simp only [pz_true] at k4
  have K4 := Lib.hid k4
  clear k4
  go_enter Try.func136, Try.ntmps136
  go_wp2_with fail
  refine (specRatioOk n1 d1 _ true ⟨fun _ => G1.out, fun _ => rfl⟩).mono ?_
  rintro e w1 ⟨rfl, hb1⟩
  obtain ⟨hc1, hf1⟩ := bcell hb1
  have hz1 := bsize hb1
  have g1 := hb1
  go_wp2_with fail
  refine (specRatioOk n2 d2 _ true ⟨fun _ => G2.out, fun _ => rfl⟩).mono ?_
  rintro e w2 ⟨rfl, hb2⟩
  obtain ⟨hc2, hf2⟩ := bcell hb2
  have hz2 := bsize hb2
  have g2 := bjoin g1 (by (repeat' (first | (with_reducible exact Below.refl _ _) | (with_reducible assumption) | (with_reducible refine balloc ?_ _) | (with_reducible refine Below.drew ?_) | (with_reducible refine below_drewN ?_ _) | (with_reducible refine bset ?_ ?_ _) | (with_reducible refine bstep ?_ (by assumption)) | go_size))) hb2
  clear g1
  obtain ⟨gc2, gf2⟩ := bcell g2
  have gz2 := bsize g2
  go_wp2_with fail
  refine (K1.out _).mono ?_
  rintro e w' ⟨rfl, rfl⟩
  go_wp2_with fail
  refine (K2.out _).mono ?_
  rintro e w' ⟨rfl, rfl⟩
  go_wp2_with fail
  refine (K3.out _).mono ?_
  rintro e w' ⟨rfl, rfl⟩
  go_wp2_with fail
  refine (K4.out _).mono ?_
  rintro e w' ⟨rfl, rfl⟩
  go_wp2_with fail
  go_ret
  exact ⟨rfl, by (repeat' (first | (with_reducible exact Below.refl _ _) | (with_reducible assumption) | (with_reducible refine balloc ?_ _) | (with_reducible refine Below.drew ?_) | (with_reducible refine below_drewN ?_ _) | (with_reducible refine bset ?_ ?_ _) | (with_reducible refine bstep ?_ (by assumption)) | go_size))⟩

set_option maxRecDepth 100000 in
set_option maxHeartbeats 4000000 in
theorem specCombSum (n1 d1 n2 d2 : Int) (w : World) (f : Bool) (hf : f = true ↔ calcZ n1 d1 n2 d2) :
    Calls Try.prog 135 #[ratV n1 d1, ratV n2 d2, .int .i64 1] w fun e w' =>
      e = .returned (ratV (if f = true then Gn.rat (n1 * d2 + n2 * d1) (d1 * d2) else (0, 0)).1 (if f = true then Gn.rat (n1 * d2 + n2 * d1) (d1 * d2) else (0, 0)).2) ∧ Below w.heap.size w w' := by
  have HF := Lib.hid hf
  clear hf
  by_cases g1 : okZ n1 d1
  case neg =>
    obtain rfl : f = false := bfalse HF.out (fun h => g1 h.1)
    have N1 := Lib.hid g1
    clear g1
    go_enter Try.func135, Try.ntmps135
    go_wp2_with fail
    refine (specRatioOk n1 d1 _ false ⟨fun h => (by cases h), fun h => absurd h N1.out⟩).mono ?_
    rintro e w1 ⟨rfl, hb1⟩
    obtain ⟨hc1, hf1⟩ := bcell hb1
    have hz1 := bsize hb1
    have g1 := hb1
    go_wp2_with fail
    have rs0 : (w1.cell? { block := w.heap.size + 2, off := 0 }).isSome = true := by simp [go_sem, hc1]
    have rs1 : (w1.cell? { block := w.heap.size + 2, off := 1 }).isSome = true := by simp [go_sem, hc1]
    refine bodyPost_ret (v := _) (by simp [results, Try.results135, go_sem, rs0, rs1]; try rfl) rfl ?_
    exact ⟨rfl, by (repeat' (first | (with_reducible exact Below.refl _ _) | (with_reducible assumption) | (with_reducible refine balloc ?_ _) | (with_reducible refine Below.drew ?_) | (with_reducible refine below_drewN ?_ _) | (with_reducible refine bset ?_ ?_ _) | (with_reducible refine bstep ?_ (by assumption)) | go_size))⟩
  have G1 := Lib.hid g1
  have bd1 := okZ_i64 g1
  clear g1
  by_cases g2 : okZ n2 d2
  case neg =>
    obtain rfl : f = false := bfalse HF.out (fun h => g2 h.2.1)
    have N2 := Lib.hid g2
    clear g2
    go_enter Try.func135, Try.ntmps135
    go_wp2_with fail
    refine (specRatioOk n1 d1 _ true ⟨fun _ => G1.out, fun _ => rfl⟩).mono ?_
    rintro e w1 ⟨rfl, hb1⟩
    obtain ⟨hc1, hf1⟩ := bcell hb1
    have hz1 := bsize hb1
    have g1 := hb1
    go_wp2_with fail
    refine (specRatioOk n2 d2 _ false ⟨fun h => (by cases h), fun h => absurd h N2.out⟩).mono ?_
    rintro e w2 ⟨rfl, hb2⟩
    obtain ⟨hc2, hf2⟩ := bcell hb2
    have hz2 := bsize hb2
    have g2 := bjoin g1 (by (repeat' (first | (with_reducible exact Below.refl _ _) | (with_reducible assumption) | (with_reducible refine balloc ?_ _) | (with_reducible refine Below.drew ?_) | (with_reducible refine below_drewN ?_ _) | (with_reducible refine bset ?_ ?_ _) | (with_reducible refine bstep ?_ (by assumption)) | go_size))) hb2
    clear g1
    obtain ⟨gc2, gf2⟩ := bcell g2
    have gz2 := bsize g2
    go_wp2_with fail
    have rs0 : (w2.cell? { block := w.heap.size + 2, off := 0 }).isSome = true := by simp [go_sem, gc2]
    have rs1 : (w2.cell? { block := w.heap.size + 2, off := 1 }).isSome = true := by simp [go_sem, gc2]
    refine bodyPost_ret (v := _) (by simp [results, Try.results135, go_sem, rs0, rs1]; try rfl) rfl ?_
    exact ⟨rfl, by (repeat' (first | (with_reducible exact Below.refl _ _) | (with_reducible assumption) | (with_reducible refine balloc ?_ _) | (with_reducible refine Below.drew ?_) | (with_reducible refine below_drewN ?_ _) | (with_reducible refine bset ?_ ?_ _) | (with_reducible refine bstep ?_ (by assumption)) | go_size))⟩
  have G2 := Lib.hid g2
  have bd2 := okZ_i64 g2
  clear g2
  obtain ⟨f1, h1⟩ := bool_of (fitsZ n1 d2)
  obtain ⟨f2, h2⟩ := bool_of (fitsZ n2 d1)
  obtain ⟨f3, h3⟩ := bool_of (fitsZ d1 d2)
  obtain ⟨f4, h4⟩ := bool_of (fitsZ n1 n2)
  have HT : Hid (f = true ↔ f1 = true ∧ f2 = true ∧ f3 = true ∧ f4 = true) := by
    show _ ↔ _
    rw [HF.out, h1, h2, h3, h4]
    exact ⟨fun h => h.2.2, fun h => ⟨G1.out, G2.out, h⟩⟩
  have K1 := Lib.hid (fun w => specProduct n1 d2 w (by omega) (by omega) (by omega) (by omega) f1 h1)
  have K2 := Lib.hid (fun w => specProduct n2 d1 w (by omega) (by omega) (by omega) (by omega) f2 h2)
  have K3 := Lib.hid (fun w => specProduct d1 d2 w (by omega) (by omega) (by omega) (by omega) f3 h3)
  have K4 := Lib.hid (fun w => specProduct n1 n2 w (by omega) (by omega) (by omega) (by omega) f4 h4)
  have X1 := Lib.hid (fun h => fits_mul (h1.1 h))
  have X2 := Lib.hid (fun h => fits_mul (h2.1 h))
  have X3 := Lib.hid (fun h => fits_mul (h3.1 h))
  clear h1 h2 h3 h4 HF
  cases f1
  case false =>
    obtain rfl : f = false := bfalse HT.out (fun h => by have := h.1; cases this)
    go_enter Try.func135, Try.ntmps135
    go_wp2_with fail
    refine (specRatioOk n1 d1 _ true ⟨fun _ => G1.out, fun _ => rfl⟩).mono ?_
    rintro e w1 ⟨rfl, hb1⟩
    obtain ⟨hc1, hf1⟩ := bcell hb1
    have hz1 := bsize hb1
    have g1 := hb1
    go_wp2_with fail
    refine (specRatioOk n2 d2 _ true ⟨fun _ => G2.out, fun _ => rfl⟩).mono ?_
    rintro e w2 ⟨rfl, hb2⟩
    obtain ⟨hc2, hf2⟩ := bcell hb2
    have hz2 := bsize hb2
    have g2 := bjoin g1 (by (repeat' (first | (with_reducible exact Below.refl _ _) | (with_reducible assumption) | (with_reducible refine balloc ?_ _) | (with_reducible refine Below.drew ?_) | (with_reducible refine below_drewN ?_ _) | (with_reducible refine bset ?_ ?_ _) | (with_reducible refine bstep ?_ (by assumption)) | go_size))) hb2
    clear g1
    obtain ⟨gc2, gf2⟩ := bcell g2
    have gz2 := bsize g2
    go_wp2_with fail
    refine (K1.out _).mono ?_
    rintro e w' ⟨rfl, rfl⟩
    go_wp2_with fail
    refine (K2.out _).mono ?_
    rintro e w' ⟨rfl, rfl⟩
    go_wp2_with fail
    refine (K3.out _).mono ?_
    rintro e w' ⟨rfl, rfl⟩
    go_wp2_with fail
    refine (K4.out _).mono ?_
    rintro e w' ⟨rfl, rfl⟩
    go_wp2_with fail
    have rs0 : (w2.cell? { block := w.heap.size + 2, off := 0 }).isSome = true := by simp [go_sem, gc2]
    have rs1 : (w2.cell? { block := w.heap.size + 2, off := 1 }).isSome = true := by simp [go_sem, gc2]
    refine bodyPost_ret (v := _) (by simp [results, Try.results135, go_sem, rs0, rs1]; try rfl) rfl ?_
    exact ⟨rfl, by (repeat' (first | (with_reducible exact Below.refl _ _) | (with_reducible assumption) | (with_reducible refine balloc ?_ _) | (with_reducible refine Below.drew ?_) | (with_reducible refine below_drewN ?_ _) | (with_reducible refine bset ?_ ?_ _) | (with_reducible refine bstep ?_ (by assumption)) | go_size))⟩
  cases f2
  case false =>
    obtain rfl : f = false := bfalse HT.out (fun h => by have := h.2.1; cases this)
    go_enter Try.func135, Try.ntmps135
    go_wp2_with fail
    refine (specRatioOk n1 d1 _ true ⟨fun _ => G1.out, fun _ => rfl⟩).mono ?_
    rintro e w1 ⟨rfl, hb1⟩
    obtain ⟨hc1, hf1⟩ := bcell hb1
    have hz1 := bsize hb1
    have g1 := hb1
    go_wp2_with fail
    refine (specRatioOk n2 d2 _ true ⟨fun _ => G2.out, fun _ => rfl⟩).mono ?_
    rintro e w2 ⟨rfl, hb2⟩
    obtain ⟨hc2, hf2⟩ := bcell hb2
    have hz2 := bsize hb2
    have g2 := bjoin g1 (by (repeat' (first | (with_reducible exact Below.refl _ _) | (with_reducible assumption) | (with_reducible refine balloc ?_ _) | (with_reducible refine Below.drew ?_) | (with_reducible refine below_drewN ?_ _) | (with_reducible refine bset ?_ ?_ _) | (with_reducible refine bstep ?_ (by assumption)) | go_size))) hb2
    clear g1
    obtain ⟨gc2, gf2⟩ := bcell g2
    have gz2 := bsize g2
    go_wp2_with fail
    refine (K1.out _).mono ?_
    rintro e w' ⟨rfl, rfl⟩
    go_wp2_with fail
    refine (K2.out _).mono ?_
    rintro e w' ⟨rfl, rfl⟩
    go_wp2_with fail
    refine (K3.out _).mono ?_
    rintro e w' ⟨rfl, rfl⟩
    go_wp2_with fail
    refine (K4.out _).mono ?_
    rintro e w' ⟨rfl, rfl⟩
    go_wp2_with fail
    have rs0 : (w2.cell? { block := w.heap.size + 2, off := 0 }).isSome = true := by simp [go_sem, gc2]
    have rs1 : (w2.cell? { block := w.heap.size + 2, off := 1 }).isSome = true := by simp [go_sem, gc2]
    refine bodyPost_ret (v := _) (by simp [results, Try.results135, go_sem, rs0, rs1]; try rfl) rfl ?_
    exact ⟨rfl, by (repeat' (first | (with_reducible exact Below.refl _ _) | (with_reducible assumption) | (with_reducible refine balloc ?_ _) | (with_reducible refine Below.drew ?_) | (with_reducible refine below_drewN ?_ _) | (with_reducible refine bset ?_ ?_ _) | (with_reducible refine bstep ?_ (by assumption)) | go_size))⟩
  cases f3
  case false =>
    obtain rfl : f = false := bfalse HT.out (fun h => by have := h.2.2.1; cases this)
    go_enter Try.func135, Try.ntmps135
    go_wp2_with fail
    refine (specRatioOk n1 d1 _ true ⟨fun _ => G1.out, fun _ => rfl⟩).mono ?_
    rintro e w1 ⟨rfl, hb1⟩
    obtain ⟨hc1, hf1⟩ := bcell hb1
    have hz1 := bsize hb1
    have g1 := hb1
    go_wp2_with fail
    refine (specRatioOk n2 d2 _ true ⟨fun _ => G2.out, fun _ => rfl⟩).mono ?_
    rintro e w2 ⟨rfl, hb2⟩
    obtain ⟨hc2, hf2⟩ := bcell hb2
    have hz2 := bsize hb2
    have g2 := bjoin g1 (by (repeat' (first | (with_reducible exact Below.refl _ _) | (with_reducible assumption) | (with_reducible refine balloc ?_ _) | (with_reducible refine Below.drew ?_) | (with_reducible refine below_drewN ?_ _) | (with_reducible refine bset ?_ ?_ _) | (with_reducible refine bstep ?_ (by assumption)) | go_size))) hb2
    clear g1
    obtain ⟨gc2, gf2⟩ := bcell g2
    have gz2 := bsize g2
    go_wp2_with fail
    refine (K1.out _).mono ?_
    rintro e w' ⟨rfl, rfl⟩
    go_wp2_with fail
    refine (K2.out _).mono ?_
    rintro e w' ⟨rfl, rfl⟩
    go_wp2_with fail
    refine (K3.out _).mono ?_
    rintro e w' ⟨rfl, rfl⟩
    go_wp2_with fail
    refine (K4.out _).mono ?_
    rintro e w' ⟨rfl, rfl⟩
    go_wp2_with fail
    have rs0 : (w2.cell? { block := w.heap.size + 2, off := 0 }).isSome = true := by simp [go_sem, gc2]
    have rs1 : (w2.cell? { block := w.heap.size + 2, off := 1 }).isSome = true := by simp [go_sem, gc2]
    refine bodyPost_ret (v := _) (by simp [results, Try.results135, go_sem, rs0, rs1]; try rfl) rfl ?_
    exact ⟨rfl, by (repeat' (first | (with_reducible exact Below.refl _ _) | (with_reducible assumption) | (with_reducible refine balloc ?_ _) | (with_reducible refine Below.drew ?_) | (with_reducible refine below_drewN ?_ _) | (with_reducible refine bset ?_ ?_ _) | (with_reducible refine bstep ?_ (by assumption)) | go_size))⟩
  cases f4
  case false =>
    obtain rfl : f = false := bfalse HT.out (fun h => by have := h.2.2.2; cases this)
    go_enter Try.func135, Try.ntmps135
    go_wp2_with fail
    refine (specRatioOk n1 d1 _ true ⟨fun _ => G1.out, fun _ => rfl⟩).mono ?_
    rintro e w1 ⟨rfl, hb1⟩
    obtain ⟨hc1, hf1⟩ := bcell hb1
    have hz1 := bsize hb1
    have g1 := hb1
    go_wp2_with fail
    refine (specRatioOk n2 d2 _ true ⟨fun _ => G2.out, fun _ => rfl⟩).mono ?_
    rintro e w2 ⟨rfl, hb2⟩
    obtain ⟨hc2, hf2⟩ := bcell hb2
    have hz2 := bsize hb2
    have g2 := bjoin g1 (by (repeat' (first | (with_reducible exact Below.refl _ _) | (with_reducible assumption) | (with_reducible refine balloc ?_ _) | (with_reducible refine Below.drew ?_) | (with_reducible refine below_drewN ?_ _) | (with_reducible refine bset ?_ ?_ _) | (with_reducible refine bstep ?_ (by assumption)) | go_size))) hb2
    clear g1
    obtain ⟨gc2, gf2⟩ := bcell g2
    have gz2 := bsize g2
    go_wp2_with fail
    refine (K1.out _).mono ?_
    rintro e w' ⟨rfl, rfl⟩
    go_wp2_with fail
    refine (K2.out _).mono ?_
    rintro e w' ⟨rfl, rfl⟩
    go_wp2_with fail
    refine (K3.out _).mono ?_
    rintro e w' ⟨rfl, rfl⟩
    go_wp2_with fail
    refine (K4.out _).mono ?_
    rintro e w' ⟨rfl, rfl⟩
    go_wp2_with fail
    have rs0 : (w2.cell? { block := w.heap.size + 2, off := 0 }).isSome = true := by simp [go_sem, gc2]
    have rs1 : (w2.cell? { block := w.heap.size + 2, off := 1 }).isSome = true := by simp [go_sem, gc2]
    refine bodyPost_ret (v := _) (by simp [results, Try.results135, go_sem, rs0, rs1]; try rfl) rfl ?_
    exact ⟨rfl, by (repeat' (first | (with_reducible exact Below.refl _ _) | (with_reducible assumption) | (with_reducible refine balloc ?_ _) | (with_reducible refine Below.drew ?_) | (with_reducible refine below_drewN ?_ _) | (with_reducible refine bset ?_ ?_ _) | (with_reducible refine bstep ?_ (by assumption)) | go_size))⟩
  obtain rfl : f = true := HT.out.2 ⟨rfl, rfl, rfl, rfl⟩
  have k1 := K1.out
  clear K1
  simp only [pz_true] at k1
  have K1 := Lib.hid k1
  clear k1
  have k2 := K2.out
  clear K2
  simp only [pz_true] at k2
  have K2 := Lib.hid k2
  clear k2
  have k3 := K3.out
  clear K3
  simp only [pz_true] at k3
  have K3 := Lib.hid k3
  clear k3
  have k4 := K4.out
  clear K4
  simp only [pz_true] at k4
  have K4 := Lib.hid k4
  clear k4
  have x1 := X1.out rfl
  have x2 := X2.out rfl
  have x3 := X3.out rfl
  have KR := Lib.hid (fun w => specRatioOf (n1 * d2 + n2 * d1) (d1 * d2) w (by omega) (by omega) (by omega) (by omega))
  generalize Gn.rat (n1 * d2 + n2 * d1) (d1 * d2) = rr at KR ⊢
  clear X1 X2 X3 HT
  go_enter Try.func135, Try.ntmps135
  go_wp2_with fail
  refine (specRatioOk n1 d1 _ true ⟨fun _ => G1.out, fun _ => rfl⟩).mono ?_
  rintro e w1 ⟨rfl, hb1⟩
  obtain ⟨hc1, hf1⟩ := bcell hb1
  have hz1 := bsize hb1
  have g1 := hb1
  go_wp2_with fail
  refine (specRatioOk n2 d2 _ true ⟨fun _ => G2.out, fun _ => rfl⟩).mono ?_
  rintro e w2 ⟨rfl, hb2⟩
  obtain ⟨hc2, hf2⟩ := bcell hb2
  have hz2 := bsize hb2
  have g2 := bjoin g1 (by (repeat' (first | (with_reducible exact Below.refl _ _) | (with_reducible assumption) | (with_reducible refine balloc ?_ _) | (with_reducible refine Below.drew ?_) | (with_reducible refine below_drewN ?_ _) | (with_reducible refine bset ?_ ?_ _) | (with_reducible refine bstep ?_ (by assumption)) | go_size))) hb2
  clear g1
  obtain ⟨gc2, gf2⟩ := bcell g2
  have gz2 := bsize g2
  go_wp2_with fail
  refine (K1.out _).mono ?_
  rintro e w' ⟨rfl, rfl⟩
  go_wp2_with fail
  refine (K2.out _).mono ?_
  rintro e w' ⟨rfl, rfl⟩
  go_wp2_with fail
  refine (K3.out _).mono ?_
  rintro e w' ⟨rfl, rfl⟩
  go_wp2_with fail
  refine (K4.out _).mono ?_
  rintro e w' ⟨rfl, rfl⟩
  go_wp2_with fail
  refine (KR.out _).mono ?_
  rintro e w3 ⟨rfl, hb3⟩
  obtain ⟨hc3, hf3⟩ := bcell hb3
  have hz3 := bsize hb3
  have g3 := bjoin g2 (by (repeat' (first | (with_reducible exact Below.refl _ _) | (with_reducible assumption) | (with_reducible refine balloc ?_ _) | (with_reducible refine Below.drew ?_) | (with_reducible refine below_drewN ?_ _) | (with_reducible refine bset ?_ ?_ _) | (with_reducible refine bstep ?_ (by assumption)) | go_size))) hb3
  clear g2
  obtain ⟨gc3, gf3⟩ := bcell g3
  have gz3 := bsize g3
  clear gc2 gf2 gz2
  go_wp2_with fail
  have rs0 : (w3.cell? { block := w.heap.size + 2, off := 0 }).isSome = true := by simp [go_sem, gc3]
  have rs1 : (w3.cell? { block := w.heap.size + 2, off := 1 }).isSome = true := by simp [go_sem, gc3]
  refine bodyPost_ret (v := _) (by simp [results, Try.results135, go_sem, rs0, rs1]; try rfl) rfl ?_
  exact ⟨rfl, by (repeat' (first | (with_reducible exact Below.refl _ _) | (with_reducible assumption) | (with_reducible refine balloc ?_ _) | (with_reducible refine Below.drew ?_) | (with_reducible refine below_drewN ?_ _) | (with_reducible refine bset ?_ ?_ _) | (with_reducible refine bstep ?_ (by assumption)) | go_size))⟩

set_option maxRecDepth 100000 in
set_option maxHeartbeats 4000000 in
theorem specCombDiff (n1 d1 n2 d2 : Int) (w : World) (f : Bool) (hf : f = true ↔ calcZ n1 d1 n2 d2) :
    Calls Try.prog 135 #[ratV n1 d1, ratV n2 d2, .int .i64 (-1)] w fun e w' =>
      e = .returned (ratV (if f = true then Gn.rat (n1 * d2 - n2 * d1) (d1 * d2) else (0, 0)).1 (if f = true then Gn.rat (n1 * d2 - n2 * d1) (d1 * d2) else (0, 0)).2) ∧ Below w.heap.size w w' := by
  have HF := Lib.hid hf
  clear hf
  by_cases g1 : okZ n1 d1
  case neg =>
    obtain rfl : f = false := bfalse HF.out (fun h => g1 h.1)
    have N1 := Lib.hid g1
    clear g1
    go_enter Try.func135, Try.ntmps135
    go_wp2_with fail
    refine (specRatioOk n1 d1 _ false ⟨fun h => (by cases h), fun h => absurd h N1.out⟩).mono ?_
    rintro e w1 ⟨rfl, hb1⟩
    obtain ⟨hc1, hf1⟩ := bcell hb1
    have hz1 := bsize hb1
    have g1 := hb1
    go_wp2_with fail
    have rs0 : (w1.cell? { block := w.heap.size + 2, off := 0 }).isSome = true := by simp [go_sem, hc1]
    have rs1 : (w1.cell? { block := w.heap.size + 2, off := 1 }).isSome = true := by simp [go_sem, hc1]
    refine bodyPost_ret (v := _) (by simp [results, Try.results135, go_sem, rs0, rs1]; try rfl) rfl ?_
    exact ⟨rfl, by (repeat' (first | (with_reducible exact Below.refl _ _) | (with_reducible assumption) | (with_reducible refine balloc ?_ _) | (with_reducible refine Below.drew ?_) | (with_reducible refine below_drewN ?_ _) | (with_reducible refine bset ?_ ?_ _) | (with_reducible refine bstep ?_ (by assumption)) | go_size))⟩
  have G1 := Lib.hid g1
  have bd1 := okZ_i64 g1
  clear g1
  by_cases g2 : okZ n2 d2
  case neg =>
    obtain rfl : f = false := bfalse HF.out (fun h => g2 h.2.1)
    have N2 := Lib.hid g2
    clear g2
    go_enter Try.func135, Try.ntmps135
    go_wp2_with fail
    refine (specRatioOk n1 d1 _ true ⟨fun _ => G1.out, fun _ => rfl⟩).mono ?_
    rintro e w1 ⟨rfl, hb1⟩
    obtain ⟨hc1, hf1⟩ := bcell hb1
    have hz1 := bsize hb1
    have g1 := hb1
    go_wp2_with fail
    refine (specRatioOk n2 d2 _ false ⟨fun h => (by cases h), fun h => absurd h N2.out⟩).mono ?_
    rintro e w2 ⟨rfl, hb2⟩
    obtain ⟨hc2, hf2⟩ := bcell hb2
    have hz2 := bsize hb2
    have g2 := bjoin g1 (by (repeat' (first | (with_reducible exact Below.refl _ _) | (with_reducible assumption) | (with_reducible refine balloc ?_ _) | (with_reducible refine Below.drew ?_) | (with_reducible refine below_drewN ?_ _) | (with_reducible refine bset ?_ ?_ _) | (with_reducible refine bstep ?_ (by assumption)) | go_size))) hb2
    clear g1
    obtain ⟨gc2, gf2⟩ := bcell g2
    have gz2 := bsize g2
    go_wp2_with fail
    have rs0 : (w2.cell? { block := w.heap.size + 2, off := 0 }).isSome = true := by simp [go_sem, gc2]
    have rs1 : (w2.cell? { block := w.heap.size + 2, off := 1 }).isSome = true := by simp [go_sem, gc2]
    refine bodyPost_ret (v := _) (by simp [results, Try.results135, go_sem, rs0, rs1]; try rfl) rfl ?_
    exact ⟨rfl, by (repeat' (first | (with_reducible exact Below.refl _ _) | (with_reducible assumption) | (with_reducible refine balloc ?_ _) | (with_reducible refine Below.drew ?_) | (with_reducible refine below_drewN ?_ _) | (with_reducible refine bset ?_ ?_ _) | (with_reducible refine bstep ?_ (by assumption)) | go_size))⟩
  have G2 := Lib.hid g2
  have bd2 := okZ_i64 g2
  clear g2
  obtain ⟨f1, h1⟩ := bool_of (fitsZ n1 d2)
  obtain ⟨f2, h2⟩ := bool_of (fitsZ n2 d1)
  obtain ⟨f3, h3⟩ := bool_of (fitsZ d1 d2)
  obtain ⟨f4, h4⟩ := bool_of (fitsZ n1 n2)
  have HT : Hid (f = true ↔ f1 = true ∧ f2 = true ∧ f3 = true ∧ f4 = true) := by
    show _ ↔ _
    rw [HF.out, h1, h2, h3, h4]
    exact ⟨fun h => h.2.2, fun h => ⟨G1.out, G2.out, h⟩⟩
  have K1 := Lib.hid (fun w => specProduct n1 d2 w (by omega) (by omega) (by omega) (by omega) f1 h1)
  have K2 := Lib.hid (fun w => specProduct n2 d1 w (by omega) (by omega) (by omega) (by omega) f2 h2)
  have K3 := Lib.hid (fun w => specProduct d1 d2 w (by omega) (by omega) (by omega) (by omega) f3 h3)
  have K4 := Lib.hid (fun w => specProduct n1 n2 w (by omega) (by omega) (by omega) (by omega) f4 h4)
  have X1 := Lib.hid (fun h => fits_mul (h1.1 h))
  have X2 := Lib.hid (fun h => fits_mul (h2.1 h))
  have X3 := Lib.hid (fun h => fits_mul (h3.1 h))
  clear h1 h2 h3 h4 HF
  cases f1
  case false =>
    obtain rfl : f = false := bfalse HT.out (fun h => by have := h.1; cases this)
    go_enter Try.func135, Try.ntmps135
    go_wp2_with fail
    refine (specRatioOk n1 d1 _ true ⟨fun _ => G1.out, fun _ => rfl⟩).mono ?_
    rintro e w1 ⟨rfl, hb1⟩
    obtain ⟨hc1, hf1⟩ := bcell hb1
    have hz1 := bsize hb1
    have g1 := hb1
    go_wp2_with fail
    refine (specRatioOk n2 d2 _ true ⟨fun _ => G2.out, fun _ => rfl⟩).mono ?_
    rintro e w2 ⟨rfl, hb2⟩
    obtain ⟨hc2, hf2⟩ := bcell hb2
    have hz2 := bsize hb2
    have g2 := bjoin g1 (by (repeat' (first | (with_reducible exact Below.refl _ _) | (with_reducible assumption) | (with_reducible refine balloc ?_ _) | (with_reducible refine Below.drew ?_) | (with_reducible refine below_drewN ?_ _) | (with_reducible refine bset ?_ ?_ _) | (with_reducible refine bstep ?_ (by assumption)) | go_size))) hb2
    clear g1
    obtain ⟨gc2, gf2⟩ := bcell g2
    have gz2 := bsize g2
    go_wp2_with fail
    refine (K1.out _).mono ?_
    rintro e w' ⟨rfl, rfl⟩
    go_wp2_with fail
    refine (K2.out _).mono ?_
    rintro e w' ⟨rfl, rfl⟩
    go_wp2_with fail
    refine (K3.out _).mono ?_
    rintro e w' ⟨rfl, rfl⟩
    go_wp2_with fail
    refine (K4.out _).mono ?_
    rintro e w' ⟨rfl, rfl⟩
    go_wp2_with fail
    have rs0 : (w2.cell? { block := w.heap.size + 2, off := 0 }).isSome = true := by simp [go_sem, gc2]
    have rs1 : (w2.cell? { block := w.heap.size + 2, off := 1 }).isSome = true := by simp [go_sem, gc2]
    refine bodyPost_ret (v := _) (by simp [results, Try.results135, go_sem, rs0, rs1]; try rfl) rfl ?_
    exact ⟨rfl, by (repeat' (first | (with_reducible exact Below.refl _ _) | (with_reducible assumption) | (with_reducible refine balloc ?_ _) | (with_reducible refine Below.drew ?_) | (with_reducible refine below_drewN ?_ _) | (with_reducible refine bset ?_ ?_ _) | (with_reducible refine bstep ?_ (by assumption)) | go_size))⟩
  cases f2
  case false =>
    obtain rfl : f = false := bfalse HT.out (fun h => by have := h.2.1; cases this)
    go_enter Try.func135, Try.ntmps135
    go_wp2_with fail
    refine (specRatioOk n1 d1 _ true ⟨fun _ => G1.out, fun _ => rfl⟩).mono ?_
    rintro e w1 ⟨rfl, hb1⟩
    obtain ⟨hc1, hf1⟩ := bcell hb1
    have hz1 := bsize hb1
    have g1 := hb1
    go_wp2_with fail
    refine (specRatioOk n2 d2 _ true ⟨fun _ => G2.out, fun _ => rfl⟩).mono ?_
    rintro e w2 ⟨rfl, hb2⟩
    obtain ⟨hc2, hf2⟩ := bcell hb2
    have hz2 := bsize hb2
    have g2 := bjoin g1 (by (repeat' (first | (with_reducible exact Below.refl _ _) | (with_reducible assumption) | (with_reducible refine balloc ?_ _) | (with_reducible refine Below.drew ?_) | (with_reducible refine below_drewN ?_ _) | (with_reducible refine bset ?_ ?_ _) | (with_reducible refine bstep ?_ (by assumption)) | go_size))) hb2
    clear g1
    obtain ⟨gc2, gf2⟩ := bcell g2
    have gz2 := bsize g2
    go_wp2_with fail
    refine (K1.out _).mono ?_
    rintro e w' ⟨rfl, rfl⟩
    go_wp2_with fail
    refine (K2.out _).mono ?_
    rintro e w' ⟨rfl, rfl⟩
    go_wp2_with fail
    refine (K3.out _).mono ?_
    rintro e w' ⟨rfl, rfl⟩
    go_wp2_with fail
    refine (K4.out _).mono ?_
    rintro e w' ⟨rfl, rfl⟩
    go_wp2_with fail
    have rs0 : (w2.cell? { block := w.heap.size + 2, off := 0 }).isSome = true := by simp [go_sem, gc2]
    have rs1 : (w2.cell? { block := w.heap.size + 2, off := 1 }).isSome = true := by simp [go_sem, gc2]
    refine bodyPost_ret (v := _) (by simp [results, Try.results135, go_sem, rs0, rs1]; try rfl) rfl ?_
    exact ⟨rfl, by (repeat' (first | (with_reducible exact Below.refl _ _) | (with_reducible assumption) | (with_reducible refine balloc ?_ _) | (with_reducible refine Below.drew ?_) | (with_reducible refine below_drewN ?_ _) | (with_reducible refine bset ?_ ?_ _) | (with_reducible refine bstep ?_ (by assumption)) | go_size))⟩
  cases f3
  case false =>
    obtain rfl : f = false := bfalse HT.out (fun h => by have := h.2.2.1; cases this)
    go_enter Try.func135, Try.ntmps135
    go_wp2_with fail
    refine (specRatioOk n1 d1 _ true ⟨fun _ => G1.out, fun _ => rfl⟩).mono ?_
    rintro e w1 ⟨rfl, hb1⟩
    obtain ⟨hc1, hf1⟩ := bcell hb1
    have hz1 := bsize hb1
    have g1 := hb1
    go_wp2_with fail
    refine (specRatioOk n2 d2 _ true ⟨fun _ => G2.out, fun _ => rfl⟩).mono ?_
    rintro e w2 ⟨rfl, hb2⟩
    obtain ⟨hc2, hf2⟩ := bcell hb2
    have hz2 := bsize hb2
    have g2 := bjoin g1 (by (repeat' (first | (with_reducible exact Below.refl _ _) | (with_reducible assumption) | (with_reducible refine balloc ?_ _) | (with_reducible refine Below.drew ?_) | (with_reducible refine below_drewN ?_ _) | (with_reducible refine bset ?_ ?_ _) | (with_reducible refine bstep ?_ (by assumption)) | go_size))) hb2
    clear g1
    obtain ⟨gc2, gf2⟩ := bcell g2
    have gz2 := bsize g2
    go_wp2_with fail
    refine (K1.out _).mono ?_
    rintro e w' ⟨rfl, rfl⟩
    go_wp2_with fail
    refine (K2.out _).mono ?_
    rintro e w' ⟨rfl, rfl⟩
    go_wp2_with fail
    refine (K3.out _).mono ?_
    rintro e w' ⟨rfl, rfl⟩
    go_wp2_with fail
    refine (K4.out _).mono ?_
    rintro e w' ⟨rfl, rfl⟩
    go_wp2_with fail
    have rs0 : (w2.cell? { block := w.heap.size + 2, off := 0 }).isSome = true := by simp [go_sem, gc2]
    have rs1 : (w2.cell? { block := w.heap.size + 2, off := 1 }).isSome = true := by simp [go_sem, gc2]
    refine bodyPost_ret (v := _) (by simp [results, Try.results135, go_sem, rs0, rs1]; try rfl) rfl ?_
    exact ⟨rfl, by (repeat' (first | (with_reducible exact Below.refl _ _) | (with_reducible assumption) | (with_reducible refine balloc ?_ _) | (with_reducible refine Below.drew ?_) | (with_reducible refine below_drewN ?_ _) | (with_reducible refine bset ?_ ?_ _) | (with_reducible refine bstep ?_ (by assumption)) | go_size))⟩
  cases f4
  case false =>
    obtain rfl : f = false := bfalse HT.out (fun h => by have := h.2.2.2; cases this)
    go_enter Try.func135, Try.ntmps135
    go_wp2_with fail
    refine (specRatioOk n1 d1 _ true ⟨fun _ => G1.out, fun _ => rfl⟩).mono ?_
    rintro e w1 ⟨rfl, hb1⟩
    obtain ⟨hc1, hf1⟩ := bcell hb1
    have hz1 := bsize hb1
    have g1 := hb1
    go_wp2_with fail
    refine (specRatioOk n2 d2 _ true ⟨fun _ => G2.out, fun _ => rfl⟩).mono ?_
    rintro e w2 ⟨rfl, hb2⟩
    obtain ⟨hc2, hf2⟩ := bcell hb2
    have hz2 := bsize hb2
    have g2 := bjoin g1 (by (repeat' (first | (with_reducible exact Below.refl _ _) | (with_reducible assumption) | (with_reducible refine balloc ?_ _) | (with_reducible refine Below.drew ?_) | (with_reducible refine below_drewN ?_ _) | (with_reducible refine bset ?_ ?_ _) | (with_reducible refine bstep ?_ (by assumption)) | go_size))) hb2
    clear g1
    obtain ⟨gc2, gf2⟩ := bcell g2
    have gz2 := bsize g2
    go_wp2_with fail
    refine (K1.out _).mono ?_
    rintro e w' ⟨rfl, rfl⟩
    go_wp2_with fail
    refine (K2.out _).mono ?_
    rintro e w' ⟨rfl, rfl⟩
    go_wp2_with fail
    refine (K3.out _).mono ?_
    rintro e w' ⟨rfl, rfl⟩
    go_wp2_with fail
    refine (K4.out _).mono ?_
    rintro e w' ⟨rfl, rfl⟩
    go_wp2_with fail
    have rs0 : (w2.cell? { block := w.heap.size + 2, off := 0 }).isSome = true := by simp [go_sem, gc2]
    have rs1 : (w2.cell? { block := w.heap.size + 2, off := 1 }).isSome = true := by simp [go_sem, gc2]
    refine bodyPost_ret (v := _) (by simp [results, Try.results135, go_sem, rs0, rs1]; try rfl) rfl ?_
    exact ⟨rfl, by (repeat' (first | (with_reducible exact Below.refl _ _) | (with_reducible assumption) | (with_reducible refine balloc ?_ _) | (with_reducible refine Below.drew ?_) | (with_reducible refine below_drewN ?_ _) | (with_reducible refine bset ?_ ?_ _) | (with_reducible refine bstep ?_ (by assumption)) | go_size))⟩
  obtain rfl : f = true := HT.out.2 ⟨rfl, rfl, rfl, rfl⟩
  have k1 := K1.out
  clear K1
  simp only [pz_true] at k1
  have K1 := Lib.hid k1
  clear k1
  have k2 := K2.out
  clear K2
  simp only [pz_true] at k2
  have K2 := Lib.hid k2
  clear k2
  have k3 := K3.out
  clear K3
  simp only [pz_true] at k3
  have K3 := Lib.hid k3
  clear k3
  have k4 := K4.out
  clear K4
  simp only [pz_true] at k4
  have K4 := Lib.hid k4
  clear k4
  have x1 := X1.out rfl
  have x2 := X2.out rfl
  have x3 := X3.out rfl
  have KR := Lib.hid (fun w => specRatioOf (n1 * d2 - n2 * d1) (d1 * d2) w (by omega) (by omega) (by omega) (by omega))
  generalize Gn.rat (n1 * d2 - n2 * d1) (d1 * d2) = rr at KR ⊢
  clear X1 X2 X3 HT
  go_enter Try.func135, Try.ntmps135
  go_wp2_with fail
  refine (specRatioOk n1 d1 _ true ⟨fun _ => G1.out, fun _ => rfl⟩).mono ?_
  rintro e w1 ⟨rfl, hb1⟩
  obtain ⟨hc1, hf1⟩ := bcell hb1
  have hz1 := bsize hb1
  have g1 := hb1
  go_wp2_with fail
  refine (specRatioOk n2 d2 _ true ⟨fun _ => G2.out, fun _ => rfl⟩).mono ?_
  rintro e w2 ⟨rfl, hb2⟩
  obtain ⟨hc2, hf2⟩ := bcell hb2
  have hz2 := bsize hb2
  have g2 := bjoin g1 (by (repeat' (first | (with_reducible exact Below.refl _ _) | (with_reducible assumption) | (with_reducible refine balloc ?_ _) | (with_reducible refine Below.drew ?_) | (with_reducible refine below_drewN ?_ _) | (with_reducible refine bset ?_ ?_ _) | (with_reducible refine bstep ?_ (by assumption)) | go_size))) hb2
  clear g1
  obtain ⟨gc2, gf2⟩ := bcell g2
  have gz2 := bsize g2
  go_wp2_with fail
  refine (K1.out _).mono ?_
  rintro e w' ⟨rfl, rfl⟩
  go_wp2_with fail
  refine (K2.out _).mono ?_
  rintro e w' ⟨rfl, rfl⟩
  go_wp2_with fail
  refine (K3.out _).mono ?_
  rintro e w' ⟨rfl, rfl⟩
  go_wp2_with fail
  refine (K4.out _).mono ?_
  rintro e w' ⟨rfl, rfl⟩
  go_wp2_with fail
  refine (KR.out _).mono ?_
  rintro e w3 ⟨rfl, hb3⟩
  obtain ⟨hc3, hf3⟩ := bcell hb3
  have hz3 := bsize hb3
  have g3 := bjoin g2 (by (repeat' (first | (with_reducible exact Below.refl _ _) | (with_reducible assumption) | (with_reducible refine balloc ?_ _) | (with_reducible refine Below.drew ?_) | (with_reducible refine below_drewN ?_ _) | (with_reducible refine bset ?_ ?_ _) | (with_reducible refine bstep ?_ (by assumption)) | go_size))) hb3
  clear g2
  obtain ⟨gc3, gf3⟩ := bcell g3
  have gz3 := bsize g3
  clear gc2 gf2 gz2
  go_wp2_with fail
  have rs0 : (w3.cell? { block := w.heap.size + 2, off := 0 }).isSome = true := by simp [go_sem, gc3]
  have rs1 : (w3.cell? { block := w.heap.size + 2, off := 1 }).isSome = true := by simp [go_sem, gc3]
  refine bodyPost_ret (v := _) (by simp [results, Try.results135, go_sem, rs0, rs1]; try rfl) rfl ?_
  exact ⟨rfl, by (repeat' (first | (with_reducible exact Below.refl _ _) | (with_reducible assumption) | (with_reducible refine balloc ?_ _) | (with_reducible refine Below.drew ?_) | (with_reducible refine below_drewN ?_ _) | (with_reducible refine bset ?_ ?_ _) | (with_reducible refine bstep ?_ (by assumption)) | go_size))⟩

end Go.Proofs.Ytjchindjoailbaa

/- RatioSum, RatioDiff, RatioTimes and RatioInverse: the program and the reference give the same fraction, and the laws answer true. -/
namespace Go.Proofs.Ytjchindjoailbaa
set_option linter.unusedSimpArgs false
set_option linter.unusedVariables false
open Go.RowKit

/-- a pair, or zeros -/
def sel (f : Bool) (x : Int × Int) : Int × Int := if f = true then x else (0, 0)
theorem sel_true (x : Int × Int) : sel true x = x := rfl
theorem sel_false (x : Int × Int) : sel false x = (0, 0) := rfl
/-- a pair as a fraction's value -/
def pairV (x : Int × Int) : Value := ratV x.1 x.2

theorem calc_mul {n1 d1 n2 d2 : Int} (h : calcZ n1 d1 n2 d2) :
    (-1000000000000000000 ≤ n1 * d2 ∧ n1 * d2 ≤ 1000000000000000000) ∧ (-1000000000000000000 ≤ n2 * d1 ∧ n2 * d1 ≤ 1000000000000000000) ∧
    (-1000000000000000000 ≤ d1 * d2 ∧ d1 * d2 ≤ 1000000000000000000) ∧ (-1000000000000000000 ≤ n1 * n2 ∧ n1 * n2 ≤ 1000000000000000000) := by
  obtain ⟨_, _, h1, h2, h3, h4⟩ := h
  exact ⟨fits_mul h1, fits_mul h2, fits_mul h3, fits_mul h4⟩

set_option maxRecDepth 100000 in
set_option maxHeartbeats 2000000 in
theorem implSum (n1 d1 n2 d2 : Int) (w : World) (f : Bool) (hf : f = true ↔ calcZ n1 d1 n2 d2) :
    Calls Try.prog 23 #[ratV n1 d1, ratV n2 d2] w fun e w' => e = .returned (pairV (sel f (Gn.rat (n1 * d2 + n2 * d1) (d1 * d2)))) ∧ Below w.heap.size w w' := by
  have K := Lib.hid (fun w => implCalc n1 d1 n2 d2 w f hf)
  cases f with
  | false =>
    clear hf
    go_enter Try.func23, Try.ntmps23
    go_wp2_with fail
    refine (K.out _).mono ?_
    rintro e w1 ⟨rfl, hb1⟩
    obtain ⟨hc1, hf1⟩ := bcell hb1
    have hz1 := bsize hb1
    have g1 := hb1
    go_wp2_with fail
    have rs0 : (w1.cell? { block := w.heap.size + 2, off := 0 }).isSome = true := by simp [go_sem, hc1]
    have rs1 : (w1.cell? { block := w.heap.size + 2, off := 1 }).isSome = true := by simp [go_sem, hc1]
    refine bodyPost_ret (v := _) (by simp [results, Try.results23, go_sem, rs0, rs1]; try rfl) rfl ?_
    exact ⟨rfl, by (repeat' (first | (with_reducible exact Below.refl _ _) | (with_reducible assumption) | (with_reducible refine balloc ?_ _) | (with_reducible refine Below.drew ?_) | (with_reducible refine below_drewN ?_ _) | (with_reducible refine bset ?_ ?_ _) | (with_reducible refine bstep ?_ (by assumption)) | go_size))⟩
  | true =>
    have hm := calc_mul (hf.1 rfl)
    obtain ⟨x1, x2, x3, x4⟩ := hm
    clear hf
    have KR := Lib.hid (fun w => implRatioOf (n1 * d2 + n2 * d1) (d1 * d2) w (by omega) (by omega) (by omega) (by omega))
    obtain ⟨rr, hrr⟩ : ∃ rr, Gn.rat (n1 * d2 + n2 * d1) (d1 * d2) = rr := ⟨_, rfl⟩
    rw [hrr] at KR
    have HR := Lib.hid hrr
    clear hrr
    go_enter Try.func23, Try.ntmps23
    go_wp2_with fail
    refine (K.out _).mono ?_
    rintro e w1 ⟨rfl, hb1⟩
    obtain ⟨hc1, hf1⟩ := bcell hb1
    have hz1 := bsize hb1
    have g1 := hb1
    go_wp2_with fail
    refine (KR.out _).mono ?_
    rintro e w2 ⟨rfl, hb2⟩
    obtain ⟨hc2, hf2⟩ := bcell hb2
    have hz2 := bsize hb2
    have g2 := bjoin g1 (by (repeat' (first | (with_reducible exact Below.refl _ _) | (with_reducible assumption) | (with_reducible refine balloc ?_ _) | (with_reducible refine Below.drew ?_) | (with_reducible refine below_drewN ?_ _) | (with_reducible refine bset ?_ ?_ _) | (with_reducible refine bstep ?_ (by assumption)) | go_size))) hb2
    clear g1
    obtain ⟨gc2, gf2⟩ := bcell g2
    have gz2 := bsize g2
    go_wp2_with fail
    have rs0 : (w2.cell? { block := w.heap.size + 2, off := 0 }).isSome = true := by simp [go_sem, gc2]
    have rs1 : (w2.cell? { block := w.heap.size + 2, off := 1 }).isSome = true := by simp [go_sem, gc2]
    refine bodyPost_ret (v := _) (by simp [results, Try.results23, go_sem, rs0, rs1]; try rfl) rfl ?_
    exact ⟨ret_val (by rw [HR.out]; rfl), by (repeat' (first | (with_reducible exact Below.refl _ _) | (with_reducible assumption) | (with_reducible refine balloc ?_ _) | (with_reducible refine Below.drew ?_) | (with_reducible refine below_drewN ?_ _) | (with_reducible refine bset ?_ ?_ _) | (with_reducible refine bstep ?_ (by assumption)) | go_size))⟩

set_option maxRecDepth 100000 in
set_option maxHeartbeats 2000000 in
theorem specSum (n1 d1 n2 d2 : Int) (w : World) (f : Bool) (hf : f = true ↔ calcZ n1 d1 n2 d2) :
    Calls Try.prog 96 #[ratV n1 d1, ratV n2 d2] w fun e w' => e = .returned (pairV (sel f (Gn.rat (n1 * d2 + n2 * d1) (d1 * d2)))) ∧ Below w.heap.size w w' := by
  have k : ∀ w, Calls Try.prog 135 #[ratV n1 d1, ratV n2 d2, .int .i64 1] w fun e w' => e = .returned (ratV (sel f (Gn.rat (n1 * d2 + n2 * d1) (d1 * d2))).1 (sel f (Gn.rat (n1 * d2 + n2 * d1) (d1 * d2))).2) ∧ Below w.heap.size w w' := fun w => specCombSum n1 d1 n2 d2 w f hf
  obtain ⟨rr, hrr⟩ : ∃ rr, sel f (Gn.rat (n1 * d2 + n2 * d1) (d1 * d2)) = rr := ⟨_, rfl⟩
  rw [hrr] at k ⊢
  have K := Lib.hid k
  clear k hrr hf
  go_enter Try.func96, Try.ntmps96
  go_wp2_with fail
  refine (K.out _).mono ?_
  rintro e w1 ⟨rfl, hb1⟩
  obtain ⟨hc1, hf1⟩ := bcell hb1
  have hz1 := bsize hb1
  have g1 := hb1
  go_wp2_with fail
  have rs0 : (w1.cell? { block := w.heap.size + 2, off := 0 }).isSome = true := by simp [go_sem, hc1]
  have rs1 : (w1.cell? { block := w.heap.size + 2, off := 1 }).isSome = true := by simp [go_sem, hc1]
  refine bodyPost_ret (v := _) (by simp [results, Try.results96, go_sem, rs0, rs1]; try rfl) rfl ?_
  exact ⟨rfl, by (repeat' (first | (with_reducible exact Below.refl _ _) | (with_reducible assumption) | (with_reducible refine balloc ?_ _) | (with_reducible refine Below.drew ?_) | (with_reducible refine below_drewN ?_ _) | (with_reducible refine bset ?_ ?_ _) | (with_reducible refine bstep ?_ (by assumption)) | go_size))⟩

set_option maxRecDepth 100000 in
set_option maxHeartbeats 2000000 in
theorem implDiff (n1 d1 n2 d2 : Int) (w : World) (f : Bool) (hf : f = true ↔ calcZ n1 d1 n2 d2) :
    Calls Try.prog 20 #[ratV n1 d1, ratV n2 d2] w fun e w' => e = .returned (pairV (sel f (Gn.rat (n1 * d2 - n2 * d1) (d1 * d2)))) ∧ Below w.heap.size w w' := by
  have K := Lib.hid (fun w => implCalc n1 d1 n2 d2 w f hf)
  cases f with
  | false =>
    clear hf
    go_enter Try.func20, Try.ntmps20
    go_wp2_with fail
    refine (K.out _).mono ?_
    rintro e w1 ⟨rfl, hb1⟩
    obtain ⟨hc1, hf1⟩ := bcell hb1
    have hz1 := bsize hb1
    have g1 := hb1
    go_wp2_with fail
    have rs0 : (w1.cell? { block := w.heap.size + 2, off := 0 }).isSome = true := by simp [go_sem, hc1]
    have rs1 : (w1.cell? { block := w.heap.size + 2, off := 1 }).isSome = true := by simp [go_sem, hc1]
    refine bodyPost_ret (v := _) (by simp [results, Try.results20, go_sem, rs0, rs1]; try rfl) rfl ?_
    exact ⟨rfl, by (repeat' (first | (with_reducible exact Below.refl _ _) | (with_reducible assumption) | (with_reducible refine balloc ?_ _) | (with_reducible refine Below.drew ?_) | (with_reducible refine below_drewN ?_ _) | (with_reducible refine bset ?_ ?_ _) | (with_reducible refine bstep ?_ (by assumption)) | go_size))⟩
  | true =>
    have hm := calc_mul (hf.1 rfl)
    obtain ⟨x1, x2, x3, x4⟩ := hm
    clear hf
    have KR := Lib.hid (fun w => implRatioOf (n1 * d2 - n2 * d1) (d1 * d2) w (by omega) (by omega) (by omega) (by omega))
    obtain ⟨rr, hrr⟩ : ∃ rr, Gn.rat (n1 * d2 - n2 * d1) (d1 * d2) = rr := ⟨_, rfl⟩
    rw [hrr] at KR
    have HR := Lib.hid hrr
    clear hrr
    go_enter Try.func20, Try.ntmps20
    go_wp2_with fail
    refine (K.out _).mono ?_
    rintro e w1 ⟨rfl, hb1⟩
    obtain ⟨hc1, hf1⟩ := bcell hb1
    have hz1 := bsize hb1
    have g1 := hb1
    go_wp2_with fail
    refine (KR.out _).mono ?_
    rintro e w2 ⟨rfl, hb2⟩
    obtain ⟨hc2, hf2⟩ := bcell hb2
    have hz2 := bsize hb2
    have g2 := bjoin g1 (by (repeat' (first | (with_reducible exact Below.refl _ _) | (with_reducible assumption) | (with_reducible refine balloc ?_ _) | (with_reducible refine Below.drew ?_) | (with_reducible refine below_drewN ?_ _) | (with_reducible refine bset ?_ ?_ _) | (with_reducible refine bstep ?_ (by assumption)) | go_size))) hb2
    clear g1
    obtain ⟨gc2, gf2⟩ := bcell g2
    have gz2 := bsize g2
    go_wp2_with fail
    have rs0 : (w2.cell? { block := w.heap.size + 2, off := 0 }).isSome = true := by simp [go_sem, gc2]
    have rs1 : (w2.cell? { block := w.heap.size + 2, off := 1 }).isSome = true := by simp [go_sem, gc2]
    refine bodyPost_ret (v := _) (by simp [results, Try.results20, go_sem, rs0, rs1]; try rfl) rfl ?_
    exact ⟨ret_val (by rw [HR.out]; rfl), by (repeat' (first | (with_reducible exact Below.refl _ _) | (with_reducible assumption) | (with_reducible refine balloc ?_ _) | (with_reducible refine Below.drew ?_) | (with_reducible refine below_drewN ?_ _) | (with_reducible refine bset ?_ ?_ _) | (with_reducible refine bstep ?_ (by assumption)) | go_size))⟩

set_option maxRecDepth 100000 in
set_option maxHeartbeats 2000000 in
theorem specDiff (n1 d1 n2 d2 : Int) (w : World) (f : Bool) (hf : f = true ↔ calcZ n1 d1 n2 d2) :
    Calls Try.prog 95 #[ratV n1 d1, ratV n2 d2] w fun e w' => e = .returned (pairV (sel f (Gn.rat (n1 * d2 - n2 * d1) (d1 * d2)))) ∧ Below w.heap.size w w' := by
  have k : ∀ w, Calls Try.prog 135 #[ratV n1 d1, ratV n2 d2, .int .i64 (-1)] w fun e w' => e = .returned (ratV (sel f (Gn.rat (n1 * d2 - n2 * d1) (d1 * d2))).1 (sel f (Gn.rat (n1 * d2 - n2 * d1) (d1 * d2))).2) ∧ Below w.heap.size w w' := fun w => specCombDiff n1 d1 n2 d2 w f hf
  obtain ⟨rr, hrr⟩ : ∃ rr, sel f (Gn.rat (n1 * d2 - n2 * d1) (d1 * d2)) = rr := ⟨_, rfl⟩
  rw [hrr] at k ⊢
  have K := Lib.hid k
  clear k hrr hf
  go_enter Try.func95, Try.ntmps95
  go_wp2_with fail
  refine (K.out _).mono ?_
  rintro e w1 ⟨rfl, hb1⟩
  obtain ⟨hc1, hf1⟩ := bcell hb1
  have hz1 := bsize hb1
  have g1 := hb1
  go_wp2_with fail
  have rs0 : (w1.cell? { block := w.heap.size + 2, off := 0 }).isSome = true := by simp [go_sem, hc1]
  have rs1 : (w1.cell? { block := w.heap.size + 2, off := 1 }).isSome = true := by simp [go_sem, hc1]
  refine bodyPost_ret (v := _) (by simp [results, Try.results95, go_sem, rs0, rs1]; try rfl) rfl ?_
  exact ⟨rfl, by (repeat' (first | (with_reducible exact Below.refl _ _) | (with_reducible assumption) | (with_reducible refine balloc ?_ _) | (with_reducible refine Below.drew ?_) | (with_reducible refine below_drewN ?_ _) | (with_reducible refine bset ?_ ?_ _) | (with_reducible refine bstep ?_ (by assumption)) | go_size))⟩

set_option maxRecDepth 100000 in
set_option maxHeartbeats 2000000 in
theorem implTimes (n1 d1 n2 d2 : Int) (w : World) (f : Bool) (hf : f = true ↔ calcZ n1 d1 n2 d2) :
    Calls Try.prog 19 #[ratV n1 d1, ratV n2 d2] w fun e w' => e = .returned (pairV (sel f (Gn.rat (n1 * n2) (d1 * d2)))) ∧ Below w.heap.size w w' := by
  have K := Lib.hid (fun w => implCalc n1 d1 n2 d2 w f hf)
  cases f with
  | false =>
    clear hf
    go_enter Try.func19, Try.ntmps19
    go_wp2_with fail
    refine (K.out _).mono ?_
    rintro e w1 ⟨rfl, hb1⟩
    obtain ⟨hc1, hf1⟩ := bcell hb1
    have hz1 := bsize hb1
    have g1 := hb1
    go_wp2_with fail
    have rs0 : (w1.cell? { block := w.heap.size + 2, off := 0 }).isSome = true := by simp [go_sem, hc1]
    have rs1 : (w1.cell? { block := w.heap.size + 2, off := 1 }).isSome = true := by simp [go_sem, hc1]
    refine bodyPost_ret (v := _) (by simp [results, Try.results19, go_sem, rs0, rs1]; try rfl) rfl ?_
    exact ⟨rfl, by (repeat' (first | (with_reducible exact Below.refl _ _) | (with_reducible assumption) | (with_reducible refine balloc ?_ _) | (with_reducible refine Below.drew ?_) | (with_reducible refine below_drewN ?_ _) | (with_reducible refine bset ?_ ?_ _) | (with_reducible refine bstep ?_ (by assumption)) | go_size))⟩
  | true =>
    have hm := calc_mul (hf.1 rfl)
    obtain ⟨x1, x2, x3, x4⟩ := hm
    clear hf
    have KR := Lib.hid (fun w => implRatioOf (n1 * n2) (d1 * d2) w (by omega) (by omega) (by omega) (by omega))
    obtain ⟨rr, hrr⟩ : ∃ rr, Gn.rat (n1 * n2) (d1 * d2) = rr := ⟨_, rfl⟩
    rw [hrr] at KR
    have HR := Lib.hid hrr
    clear hrr
    go_enter Try.func19, Try.ntmps19
    go_wp2_with fail
    refine (K.out _).mono ?_
    rintro e w1 ⟨rfl, hb1⟩
    obtain ⟨hc1, hf1⟩ := bcell hb1
    have hz1 := bsize hb1
    have g1 := hb1
    go_wp2_with fail
    refine (KR.out _).mono ?_
    rintro e w2 ⟨rfl, hb2⟩
    obtain ⟨hc2, hf2⟩ := bcell hb2
    have hz2 := bsize hb2
    have g2 := bjoin g1 (by (repeat' (first | (with_reducible exact Below.refl _ _) | (with_reducible assumption) | (with_reducible refine balloc ?_ _) | (with_reducible refine Below.drew ?_) | (with_reducible refine below_drewN ?_ _) | (with_reducible refine bset ?_ ?_ _) | (with_reducible refine bstep ?_ (by assumption)) | go_size))) hb2
    clear g1
    obtain ⟨gc2, gf2⟩ := bcell g2
    have gz2 := bsize g2
    go_wp2_with fail
    have rs0 : (w2.cell? { block := w.heap.size + 2, off := 0 }).isSome = true := by simp [go_sem, gc2]
    have rs1 : (w2.cell? { block := w.heap.size + 2, off := 1 }).isSome = true := by simp [go_sem, gc2]
    refine bodyPost_ret (v := _) (by simp [results, Try.results19, go_sem, rs0, rs1]; try rfl) rfl ?_
    exact ⟨ret_val (by rw [HR.out]; rfl), by (repeat' (first | (with_reducible exact Below.refl _ _) | (with_reducible assumption) | (with_reducible refine balloc ?_ _) | (with_reducible refine Below.drew ?_) | (with_reducible refine below_drewN ?_ _) | (with_reducible refine bset ?_ ?_ _) | (with_reducible refine bstep ?_ (by assumption)) | go_size))⟩

set_option maxRecDepth 100000 in
set_option maxHeartbeats 2000000 in
theorem specTimes (n1 d1 n2 d2 : Int) (w : World) (f : Bool) (hf : f = true ↔ calcZ n1 d1 n2 d2) :
    Calls Try.prog 97 #[ratV n1 d1, ratV n2 d2] w fun e w' => e = .returned (pairV (sel f (Gn.rat (n1 * n2) (d1 * d2)))) ∧ Below w.heap.size w w' := by
  have K := Lib.hid (fun w => specFits n1 d1 n2 d2 w f hf)
  cases f with
  | false =>
    clear hf
    go_enter Try.func97, Try.ntmps97
    go_wp2_with fail
    refine (K.out _).mono ?_
    rintro e w1 ⟨rfl, hb1⟩
    obtain ⟨hc1, hf1⟩ := bcell hb1
    have hz1 := bsize hb1
    have g1 := hb1
    go_wp2_with fail
    have rs0 : (w1.cell? { block := w.heap.size + 2, off := 0 }).isSome = true := by simp [go_sem, hc1]
    have rs1 : (w1.cell? { block := w.heap.size + 2, off := 1 }).isSome = true := by simp [go_sem, hc1]
    refine bodyPost_ret (v := _) (by simp [results, Try.results97, go_sem, rs0, rs1]; try rfl) rfl ?_
    exact ⟨rfl, by (repeat' (first | (with_reducible exact Below.refl _ _) | (with_reducible assumption) | (with_reducible refine balloc ?_ _) | (with_reducible refine Below.drew ?_) | (with_reducible refine below_drewN ?_ _) | (with_reducible refine bset ?_ ?_ _) | (with_reducible refine bstep ?_ (by assumption)) | go_size))⟩
  | true =>
    have hm := calc_mul (hf.1 rfl)
    obtain ⟨x1, x2, x3, x4⟩ := hm
    clear hf
    have KR := Lib.hid (fun w => specRatioOf (n1 * n2) (d1 * d2) w (by omega) (by omega) (by omega) (by omega))
    obtain ⟨rr, hrr⟩ : ∃ rr, Gn.rat (n1 * n2) (d1 * d2) = rr := ⟨_, rfl⟩
    rw [hrr] at KR
    have HR := Lib.hid hrr
    clear hrr
    go_enter Try.func97, Try.ntmps97
    go_wp2_with fail
    refine (K.out _).mono ?_
    rintro e w1 ⟨rfl, hb1⟩
    obtain ⟨hc1, hf1⟩ := bcell hb1
    have hz1 := bsize hb1
    have g1 := hb1
    go_wp2_with fail
    refine (KR.out _).mono ?_
    rintro e w2 ⟨rfl, hb2⟩
    obtain ⟨hc2, hf2⟩ := bcell hb2
    have hz2 := bsize hb2
    have g2 := bjoin g1 (by (repeat' (first | (with_reducible exact Below.refl _ _) | (with_reducible assumption) | (with_reducible refine balloc ?_ _) | (with_reducible refine Below.drew ?_) | (with_reducible refine below_drewN ?_ _) | (with_reducible refine bset ?_ ?_ _) | (with_reducible refine bstep ?_ (by assumption)) | go_size))) hb2
    clear g1
    obtain ⟨gc2, gf2⟩ := bcell g2
    have gz2 := bsize g2
    go_wp2_with fail
    have rs0 : (w2.cell? { block := w.heap.size + 2, off := 0 }).isSome = true := by simp [go_sem, gc2]
    have rs1 : (w2.cell? { block := w.heap.size + 2, off := 1 }).isSome = true := by simp [go_sem, gc2]
    refine bodyPost_ret (v := _) (by simp [results, Try.results97, go_sem, rs0, rs1]; try rfl) rfl ?_
    exact ⟨ret_val (by rw [HR.out]; rfl), by (repeat' (first | (with_reducible exact Below.refl _ _) | (with_reducible assumption) | (with_reducible refine balloc ?_ _) | (with_reducible refine Below.drew ?_) | (with_reducible refine below_drewN ?_ _) | (with_reducible refine bset ?_ ?_ _) | (with_reducible refine bstep ?_ (by assumption)) | go_size))⟩

set_option maxRecDepth 100000 in
set_option maxHeartbeats 2000000 in
theorem implInverse (n d : Int) (w : World) (b : Bool) (hb : b = true ↔ okZ n d) :
    Calls Try.prog 35 #[ratV n d] w fun e w' => e = .returned (pairV (sel b (Gn.rat d n))) ∧ Below w.heap.size w w' := by
  have K := Lib.hid (fun w => implRatioOk n d w b hb)
  cases b with
  | false =>
    clear hb
    go_enter Try.func35, Try.ntmps35
    go_wp2_with fail
    refine (K.out _).mono ?_
    rintro e w1 ⟨rfl, hb1⟩
    obtain ⟨hc1, hf1⟩ := bcell hb1
    have hz1 := bsize hb1
    have g1 := hb1
    go_wp2_with fail
    have rs0 : (w1.cell? { block := w.heap.size + 1, off := 0 }).isSome = true := by simp [go_sem, hc1]
    have rs1 : (w1.cell? { block := w.heap.size + 1, off := 1 }).isSome = true := by simp [go_sem, hc1]
    refine bodyPost_ret (v := _) (by simp [results, Try.results35, go_sem, rs0, rs1]; try rfl) rfl ?_
    exact ⟨rfl, by (repeat' (first | (with_reducible exact Below.refl _ _) | (with_reducible assumption) | (with_reducible refine balloc ?_ _) | (with_reducible refine Below.drew ?_) | (with_reducible refine below_drewN ?_ _) | (with_reducible refine bset ?_ ?_ _) | (with_reducible refine bstep ?_ (by assumption)) | go_size))⟩
  | true =>
    have x := okZ_i64 (hb.1 rfl)
    clear hb
    have KR := Lib.hid (fun w => implRatioOf d n w (by omega) (by omega) (by omega) (by omega))
    obtain ⟨rr, hrr⟩ : ∃ rr, Gn.rat d n = rr := ⟨_, rfl⟩
    rw [hrr] at KR
    have HR := Lib.hid hrr
    clear hrr
    go_enter Try.func35, Try.ntmps35
    go_wp2_with fail
    refine (K.out _).mono ?_
    rintro e w1 ⟨rfl, hb1⟩
    obtain ⟨hc1, hf1⟩ := bcell hb1
    have hz1 := bsize hb1
    have g1 := hb1
    go_wp2_with fail
    refine (KR.out _).mono ?_
    rintro e w2 ⟨rfl, hb2⟩
    obtain ⟨hc2, hf2⟩ := bcell hb2
    have hz2 := bsize hb2
    have g2 := bjoin g1 (by (repeat' (first | (with_reducible exact Below.refl _ _) | (with_reducible assumption) | (with_reducible refine balloc ?_ _) | (with_reducible refine Below.drew ?_) | (with_reducible refine below_drewN ?_ _) | (with_reducible refine bset ?_ ?_ _) | (with_reducible refine bstep ?_ (by assumption)) | go_size))) hb2
    clear g1
    obtain ⟨gc2, gf2⟩ := bcell g2
    have gz2 := bsize g2
    go_wp2_with fail
    have rs0 : (w2.cell? { block := w.heap.size + 1, off := 0 }).isSome = true := by simp [go_sem, gc2]
    have rs1 : (w2.cell? { block := w.heap.size + 1, off := 1 }).isSome = true := by simp [go_sem, gc2]
    refine bodyPost_ret (v := _) (by simp [results, Try.results35, go_sem, rs0, rs1]; try rfl) rfl ?_
    exact ⟨ret_val (by rw [HR.out]; rfl), by (repeat' (first | (with_reducible exact Below.refl _ _) | (with_reducible assumption) | (with_reducible refine balloc ?_ _) | (with_reducible refine Below.drew ?_) | (with_reducible refine below_drewN ?_ _) | (with_reducible refine bset ?_ ?_ _) | (with_reducible refine bstep ?_ (by assumption)) | go_size))⟩

set_option maxHeartbeats 400000 in
theorem eqRatio (n d : Int) (w : World) :
    Calls Try.prog 47 #[ratV n d, ratV n d] w fun e w' => e = .returned (.bool true) ∧ Below w.heap.size w w' := by
  go_enter Try.func47, Try.ntmps47
  go_wp2_with fail
  go_ret
  exact ⟨rfl, by (repeat' (first | (with_reducible exact Below.refl _ _) | (with_reducible assumption) | (with_reducible refine balloc ?_ _) | (with_reducible refine Below.drew ?_) | (with_reducible refine below_drewN ?_ _) | (with_reducible refine bset ?_ ?_ _) | (with_reducible refine bstep ?_ (by assumption)) | go_size))⟩


end Go.Proofs.Ytjchindjoailbaa
