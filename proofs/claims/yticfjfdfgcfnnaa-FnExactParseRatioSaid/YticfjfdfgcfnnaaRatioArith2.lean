/- RatioSum, RatioDiff, RatioTimes and RatioInverse: the program and the reference give the same fraction, and the laws answer true. -/
import Derived.Test.YticfjfdfgcfnnaaArith2
namespace Go.Proofs.Yticfjfdfgcfnnaa
set_option linter.unusedSimpArgs false
set_option linter.unusedVariables false
open Go.RowKit

/-- a pair, or zeros -/
def sel (f : Bool) (x : Int × Int) : Int × Int := if f = true then x else (0, 0)
theorem sel_true (x : Int × Int) : sel true x = x := rfl
theorem sel_false (x : Int × Int) : sel false x = (0, 0) := rfl
/-- a pair as a fraction's value -/
def pairV (x : Int × Int) : Value := ratV x.1 x.2

theorem calc_mul {n1 d1 n2 d2 : Int} (h : calcZ n1 d1 n2 d2) :
    (-1000000000000000000 ≤ n1 * d2 ∧ n1 * d2 ≤ 1000000000000000000) ∧ (-1000000000000000000 ≤ n2 * d1 ∧ n2 * d1 ≤ 1000000000000000000) ∧
    (-1000000000000000000 ≤ d1 * d2 ∧ d1 * d2 ≤ 1000000000000000000) ∧ (-1000000000000000000 ≤ n1 * n2 ∧ n1 * n2 ≤ 1000000000000000000) := by
  obtain ⟨_, _, h1, h2, h3, h4⟩ := h
  exact ⟨fits_mul h1, fits_mul h2, fits_mul h3, fits_mul h4⟩

set_option maxRecDepth 100000 in
set_option maxHeartbeats 2000000 in
theorem implSum (n1 d1 n2 d2 : Int) (w : World) (f : Bool) (hf : f = true ↔ calcZ n1 d1 n2 d2) :
    Calls Try.prog 63 #[ratV n1 d1, ratV n2 d2] w fun e w' => e = .returned (pairV (sel f (Gn.rat (n1 * d2 + n2 * d1) (d1 * d2)))) ∧ Below w.heap.size w w' := by
  have K := Lib.hid (fun w => implCalc n1 d1 n2 d2 w f hf)
  cases f with
  | false =>
    clear hf
    go_enter Try.func63, Try.ntmps63
    go_wp2_with fail
    refine (K.out _).mono ?_
    rintro e w1 ⟨rfl, hb1⟩
    obtain ⟨hc1, hf1⟩ := bcell hb1
    have hz1 := bsize hb1
    have g1 := hb1
    go_wp2_with fail
    have rs0 : (w1.cell? { block := w.heap.size + 2, off := 0 }).isSome = true := by simp [go_sem, hc1]
    have rs1 : (w1.cell? { block := w.heap.size + 2, off := 1 }).isSome = true := by simp [go_sem, hc1]
    refine bodyPost_ret (v := _) (by simp [results, Try.results63, go_sem, rs0, rs1]; try rfl) rfl ?_
    exact ⟨rfl, by (repeat' (first | (with_reducible exact Below.refl _ _) | (with_reducible assumption) | (with_reducible refine balloc ?_ _) | (with_reducible refine Below.drew ?_) | (with_reducible refine below_drewN ?_ _) | (with_reducible refine bset ?_ ?_ _) | (with_reducible refine bstep ?_ (by assumption)) | go_size))⟩
  | true =>
    have hm := calc_mul (hf.1 rfl)
    obtain ⟨x1, x2, x3, x4⟩ := hm
    clear hf
    have KR := Lib.hid (fun w => implRatioOf (n1 * d2 + n2 * d1) (d1 * d2) w (by omega) (by omega) (by omega) (by omega))
    obtain ⟨rr, hrr⟩ : ∃ rr, Gn.rat (n1 * d2 + n2 * d1) (d1 * d2) = rr := ⟨_, rfl⟩
    rw [hrr] at KR
    have HR := Lib.hid hrr
    clear hrr
    go_enter Try.func63, Try.ntmps63
    go_wp2_with fail
    refine (K.out _).mono ?_
    rintro e w1 ⟨rfl, hb1⟩
    obtain ⟨hc1, hf1⟩ := bcell hb1
    have hz1 := bsize hb1
    have g1 := hb1
    go_wp2_with fail
    refine (KR.out _).mono ?_
    rintro e w2 ⟨rfl, hb2⟩
    obtain ⟨hc2, hf2⟩ := bcell hb2
    have hz2 := bsize hb2
    have g2 := bjoin g1 (by (repeat' (first | (with_reducible exact Below.refl _ _) | (with_reducible assumption) | (with_reducible refine balloc ?_ _) | (with_reducible refine Below.drew ?_) | (with_reducible refine below_drewN ?_ _) | (with_reducible refine bset ?_ ?_ _) | (with_reducible refine bstep ?_ (by assumption)) | go_size))) hb2
    clear g1
    obtain ⟨gc2, gf2⟩ := bcell g2
    have gz2 := bsize g2
    go_wp2_with fail
    have rs0 : (w2.cell? { block := w.heap.size + 2, off := 0 }).isSome = true := by simp [go_sem, gc2]
    have rs1 : (w2.cell? { block := w.heap.size + 2, off := 1 }).isSome = true := by simp [go_sem, gc2]
    refine bodyPost_ret (v := _) (by simp [results, Try.results63, go_sem, rs0, rs1]; try rfl) rfl ?_
    exact ⟨ret_val (by rw [HR.out]; rfl), by (repeat' (first | (with_reducible exact Below.refl _ _) | (with_reducible assumption) | (with_reducible refine balloc ?_ _) | (with_reducible refine Below.drew ?_) | (with_reducible refine below_drewN ?_ _) | (with_reducible refine bset ?_ ?_ _) | (with_reducible refine bstep ?_ (by assumption)) | go_size))⟩

set_option maxRecDepth 100000 in
set_option maxHeartbeats 2000000 in
theorem specSum (n1 d1 n2 d2 : Int) (w : World) (f : Bool) (hf : f = true ↔ calcZ n1 d1 n2 d2) :
    Calls Try.prog 62 #[ratV n1 d1, ratV n2 d2] w fun e w' => e = .returned (pairV (sel f (Gn.rat (n1 * d2 + n2 * d1) (d1 * d2)))) ∧ Below w.heap.size w w' := by
  have k : ∀ w, Calls Try.prog 91 #[ratV n1 d1, ratV n2 d2, .int .i64 1] w fun e w' => e = .returned (ratV (sel f (Gn.rat (n1 * d2 + n2 * d1) (d1 * d2))).1 (sel f (Gn.rat (n1 * d2 + n2 * d1) (d1 * d2))).2) ∧ Below w.heap.size w w' := fun w => specCombSum n1 d1 n2 d2 w f hf
  obtain ⟨rr, hrr⟩ : ∃ rr, sel f (Gn.rat (n1 * d2 + n2 * d1) (d1 * d2)) = rr := ⟨_, rfl⟩
  rw [hrr] at k ⊢
  have K := Lib.hid k
  clear k hrr hf
  go_enter Try.func62, Try.ntmps62
  go_wp2_with fail
  refine (K.out _).mono ?_
  rintro e w1 ⟨rfl, hb1⟩
  obtain ⟨hc1, hf1⟩ := bcell hb1
  have hz1 := bsize hb1
  have g1 := hb1
  go_wp2_with fail
  have rs0 : (w1.cell? { block := w.heap.size + 2, off := 0 }).isSome = true := by simp [go_sem, hc1]
  have rs1 : (w1.cell? { block := w.heap.size + 2, off := 1 }).isSome = true := by simp [go_sem, hc1]
  refine bodyPost_ret (v := _) (by simp [results, Try.results62, go_sem, rs0, rs1]; try rfl) rfl ?_
  exact ⟨rfl, by (repeat' (first | (with_reducible exact Below.refl _ _) | (with_reducible assumption) | (with_reducible refine balloc ?_ _) | (with_reducible refine Below.drew ?_) | (with_reducible refine below_drewN ?_ _) | (with_reducible refine bset ?_ ?_ _) | (with_reducible refine bstep ?_ (by assumption)) | go_size))⟩

set_option maxRecDepth 100000 in
set_option maxHeartbeats 2000000 in
theorem implDiff (n1 d1 n2 d2 : Int) (w : World) (f : Bool) (hf : f = true ↔ calcZ n1 d1 n2 d2) :
    Calls Try.prog 61 #[ratV n1 d1, ratV n2 d2] w fun e w' => e = .returned (pairV (sel f (Gn.rat (n1 * d2 - n2 * d1) (d1 * d2)))) ∧ Below w.heap.size w w' := by
  have K := Lib.hid (fun w => implCalc n1 d1 n2 d2 w f hf)
  cases f with
  | false =>
    clear hf
    go_enter Try.func61, Try.ntmps61
    go_wp2_with fail
    refine (K.out _).mono ?_
    rintro e w1 ⟨rfl, hb1⟩
    obtain ⟨hc1, hf1⟩ := bcell hb1
    have hz1 := bsize hb1
    have g1 := hb1
    go_wp2_with fail
    have rs0 : (w1.cell? { block := w.heap.size + 2, off := 0 }).isSome = true := by simp [go_sem, hc1]
    have rs1 : (w1.cell? { block := w.heap.size + 2, off := 1 }).isSome = true := by simp [go_sem, hc1]
    refine bodyPost_ret (v := _) (by simp [results, Try.results61, go_sem, rs0, rs1]; try rfl) rfl ?_
    exact ⟨rfl, by (repeat' (first | (with_reducible exact Below.refl _ _) | (with_reducible assumption) | (with_reducible refine balloc ?_ _) | (with_reducible refine Below.drew ?_) | (with_reducible refine below_drewN ?_ _) | (with_reducible refine bset ?_ ?_ _) | (with_reducible refine bstep ?_ (by assumption)) | go_size))⟩
  | true =>
    have hm := calc_mul (hf.1 rfl)
    obtain ⟨x1, x2, x3, x4⟩ := hm
    clear hf
    have KR := Lib.hid (fun w => implRatioOf (n1 * d2 - n2 * d1) (d1 * d2) w (by omega) (by omega) (by omega) (by omega))
    obtain ⟨rr, hrr⟩ : ∃ rr, Gn.rat (n1 * d2 - n2 * d1) (d1 * d2) = rr := ⟨_, rfl⟩
    rw [hrr] at KR
    have HR := Lib.hid hrr
    clear hrr
    go_enter Try.func61, Try.ntmps61
    go_wp2_with fail
    refine (K.out _).mono ?_
    rintro e w1 ⟨rfl, hb1⟩
    obtain ⟨hc1, hf1⟩ := bcell hb1
    have hz1 := bsize hb1
    have g1 := hb1
    go_wp2_with fail
    refine (KR.out _).mono ?_
    rintro e w2 ⟨rfl, hb2⟩
    obtain ⟨hc2, hf2⟩ := bcell hb2
    have hz2 := bsize hb2
    have g2 := bjoin g1 (by (repeat' (first | (with_reducible exact Below.refl _ _) | (with_reducible assumption) | (with_reducible refine balloc ?_ _) | (with_reducible refine Below.drew ?_) | (with_reducible refine below_drewN ?_ _) | (with_reducible refine bset ?_ ?_ _) | (with_reducible refine bstep ?_ (by assumption)) | go_size))) hb2
    clear g1
    obtain ⟨gc2, gf2⟩ := bcell g2
    have gz2 := bsize g2
    go_wp2_with fail
    have rs0 : (w2.cell? { block := w.heap.size + 2, off := 0 }).isSome = true := by simp [go_sem, gc2]
    have rs1 : (w2.cell? { block := w.heap.size + 2, off := 1 }).isSome = true := by simp [go_sem, gc2]
    refine bodyPost_ret (v := _) (by simp [results, Try.results61, go_sem, rs0, rs1]; try rfl) rfl ?_
    exact ⟨ret_val (by rw [HR.out]; rfl), by (repeat' (first | (with_reducible exact Below.refl _ _) | (with_reducible assumption) | (with_reducible refine balloc ?_ _) | (with_reducible refine Below.drew ?_) | (with_reducible refine below_drewN ?_ _) | (with_reducible refine bset ?_ ?_ _) | (with_reducible refine bstep ?_ (by assumption)) | go_size))⟩

set_option maxRecDepth 100000 in
set_option maxHeartbeats 2000000 in
theorem specDiff (n1 d1 n2 d2 : Int) (w : World) (f : Bool) (hf : f = true ↔ calcZ n1 d1 n2 d2) :
    Calls Try.prog 60 #[ratV n1 d1, ratV n2 d2] w fun e w' => e = .returned (pairV (sel f (Gn.rat (n1 * d2 - n2 * d1) (d1 * d2)))) ∧ Below w.heap.size w w' := by
  have k : ∀ w, Calls Try.prog 91 #[ratV n1 d1, ratV n2 d2, .int .i64 (-1)] w fun e w' => e = .returned (ratV (sel f (Gn.rat (n1 * d2 - n2 * d1) (d1 * d2))).1 (sel f (Gn.rat (n1 * d2 - n2 * d1) (d1 * d2))).2) ∧ Below w.heap.size w w' := fun w => specCombDiff n1 d1 n2 d2 w f hf
  obtain ⟨rr, hrr⟩ : ∃ rr, sel f (Gn.rat (n1 * d2 - n2 * d1) (d1 * d2)) = rr := ⟨_, rfl⟩
  rw [hrr] at k ⊢
  have K := Lib.hid k
  clear k hrr hf
  go_enter Try.func60, Try.ntmps60
  go_wp2_with fail
  refine (K.out _).mono ?_
  rintro e w1 ⟨rfl, hb1⟩
  obtain ⟨hc1, hf1⟩ := bcell hb1
  have hz1 := bsize hb1
  have g1 := hb1
  go_wp2_with fail
  have rs0 : (w1.cell? { block := w.heap.size + 2, off := 0 }).isSome = true := by simp [go_sem, hc1]
  have rs1 : (w1.cell? { block := w.heap.size + 2, off := 1 }).isSome = true := by simp [go_sem, hc1]
  refine bodyPost_ret (v := _) (by simp [results, Try.results60, go_sem, rs0, rs1]; try rfl) rfl ?_
  exact ⟨rfl, by (repeat' (first | (with_reducible exact Below.refl _ _) | (with_reducible assumption) | (with_reducible refine balloc ?_ _) | (with_reducible refine Below.drew ?_) | (with_reducible refine below_drewN ?_ _) | (with_reducible refine bset ?_ ?_ _) | (with_reducible refine bstep ?_ (by assumption)) | go_size))⟩

set_option maxRecDepth 100000 in
set_option maxHeartbeats 2000000 in
theorem implTimes (n1 d1 n2 d2 : Int) (w : World) (f : Bool) (hf : f = true ↔ calcZ n1 d1 n2 d2) :
    Calls Try.prog 65 #[ratV n1 d1, ratV n2 d2] w fun e w' => e = .returned (pairV (sel f (Gn.rat (n1 * n2) (d1 * d2)))) ∧ Below w.heap.size w w' := by
  have K := Lib.hid (fun w => implCalc n1 d1 n2 d2 w f hf)
  cases f with
  | false =>
    clear hf
    go_enter Try.func65, Try.ntmps65
    go_wp2_with fail
    refine (K.out _).mono ?_
    rintro e w1 ⟨rfl, hb1⟩
    obtain ⟨hc1, hf1⟩ := bcell hb1
    have hz1 := bsize hb1
    have g1 := hb1
    go_wp2_with fail
    have rs0 : (w1.cell? { block := w.heap.size + 2, off := 0 }).isSome = true := by simp [go_sem, hc1]
    have rs1 : (w1.cell? { block := w.heap.size + 2, off := 1 }).isSome = true := by simp [go_sem, hc1]
    refine bodyPost_ret (v := _) (by simp [results, Try.results65, go_sem, rs0, rs1]; try rfl) rfl ?_
    exact ⟨rfl, by (repeat' (first | (with_reducible exact Below.refl _ _) | (with_reducible assumption) | (with_reducible refine balloc ?_ _) | (with_reducible refine Below.drew ?_) | (with_reducible refine below_drewN ?_ _) | (with_reducible refine bset ?_ ?_ _) | (with_reducible refine bstep ?_ (by assumption)) | go_size))⟩
  | true =>
    have hm := calc_mul (hf.1 rfl)
    obtain ⟨x1, x2, x3, x4⟩ := hm
    clear hf
    have KR := Lib.hid (fun w => implRatioOf (n1 * n2) (d1 * d2) w (by omega) (by omega) (by omega) (by omega))
    obtain ⟨rr, hrr⟩ : ∃ rr, Gn.rat (n1 * n2) (d1 * d2) = rr := ⟨_, rfl⟩
    rw [hrr] at KR
    have HR := Lib.hid hrr
    clear hrr
    go_enter Try.func65, Try.ntmps65
    go_wp2_with fail
    refine (K.out _).mono ?_
    rintro e w1 ⟨rfl, hb1⟩
    obtain ⟨hc1, hf1⟩ := bcell hb1
    have hz1 := bsize hb1
    have g1 := hb1
    go_wp2_with fail
    refine (KR.out _).mono ?_
    rintro e w2 ⟨rfl, hb2⟩
    obtain ⟨hc2, hf2⟩ := bcell hb2
    have hz2 := bsize hb2
    have g2 := bjoin g1 (by (repeat' (first | (with_reducible exact Below.refl _ _) | (with_reducible assumption) | (with_reducible refine balloc ?_ _) | (with_reducible refine Below.drew ?_) | (with_reducible refine below_drewN ?_ _) | (with_reducible refine bset ?_ ?_ _) | (with_reducible refine bstep ?_ (by assumption)) | go_size))) hb2
    clear g1
    obtain ⟨gc2, gf2⟩ := bcell g2
    have gz2 := bsize g2
    go_wp2_with fail
    have rs0 : (w2.cell? { block := w.heap.size + 2, off := 0 }).isSome = true := by simp [go_sem, gc2]
    have rs1 : (w2.cell? { block := w.heap.size + 2, off := 1 }).isSome = true := by simp [go_sem, gc2]
    refine bodyPost_ret (v := _) (by simp [results, Try.results65, go_sem, rs0, rs1]; try rfl) rfl ?_
    exact ⟨ret_val (by rw [HR.out]; rfl), by (repeat' (first | (with_reducible exact Below.refl _ _) | (with_reducible assumption) | (with_reducible refine balloc ?_ _) | (with_reducible refine Below.drew ?_) | (with_reducible refine below_drewN ?_ _) | (with_reducible refine bset ?_ ?_ _) | (with_reducible refine bstep ?_ (by assumption)) | go_size))⟩

set_option maxRecDepth 100000 in
set_option maxHeartbeats 2000000 in
theorem specTimes (n1 d1 n2 d2 : Int) (w : World) (f : Bool) (hf : f = true ↔ calcZ n1 d1 n2 d2) :
    Calls Try.prog 64 #[ratV n1 d1, ratV n2 d2] w fun e w' => e = .returned (pairV (sel f (Gn.rat (n1 * n2) (d1 * d2)))) ∧ Below w.heap.size w w' := by
  have K := Lib.hid (fun w => specFits n1 d1 n2 d2 w f hf)
  cases f with
  | false =>
    clear hf
    go_enter Try.func64, Try.ntmps64
    go_wp2_with fail
    refine (K.out _).mono ?_
    rintro e w1 ⟨rfl, hb1⟩
    obtain ⟨hc1, hf1⟩ := bcell hb1
    have hz1 := bsize hb1
    have g1 := hb1
    go_wp2_with fail
    have rs0 : (w1.cell? { block := w.heap.size + 2, off := 0 }).isSome = true := by simp [go_sem, hc1]
    have rs1 : (w1.cell? { block := w.heap.size + 2, off := 1 }).isSome = true := by simp [go_sem, hc1]
    refine bodyPost_ret (v := _) (by simp [results, Try.results64, go_sem, rs0, rs1]; try rfl) rfl ?_
    exact ⟨rfl, by (repeat' (first | (with_reducible exact Below.refl _ _) | (with_reducible assumption) | (with_reducible refine balloc ?_ _) | (with_reducible refine Below.drew ?_) | (with_reducible refine below_drewN ?_ _) | (with_reducible refine bset ?_ ?_ _) | (with_reducible refine bstep ?_ (by assumption)) | go_size))⟩
  | true =>
    have hm := calc_mul (hf.1 rfl)
    obtain ⟨x1, x2, x3, x4⟩ := hm
    clear hf
    have KR := Lib.hid (fun w => specRatioOf (n1 * n2) (d1 * d2) w (by omega) (by omega) (by omega) (by omega))
    obtain ⟨rr, hrr⟩ : ∃ rr, Gn.rat (n1 * n2) (d1 * d2) = rr := ⟨_, rfl⟩
    rw [hrr] at KR
    have HR := Lib.hid hrr
    clear hrr
    go_enter Try.func64, Try.ntmps64
    go_wp2_with fail
    refine (K.out _).mono ?_
    rintro e w1 ⟨rfl, hb1⟩
    obtain ⟨hc1, hf1⟩ := bcell hb1
    have hz1 := bsize hb1
    have g1 := hb1
    go_wp2_with fail
    refine (KR.out _).mono ?_
    rintro e w2 ⟨rfl, hb2⟩
    obtain ⟨hc2, hf2⟩ := bcell hb2
    have hz2 := bsize hb2
    have g2 := bjoin g1 (by (repeat' (first | (with_reducible exact Below.refl _ _) | (with_reducible assumption) | (with_reducible refine balloc ?_ _) | (with_reducible refine Below.drew ?_) | (with_reducible refine below_drewN ?_ _) | (with_reducible refine bset ?_ ?_ _) | (with_reducible refine bstep ?_ (by assumption)) | go_size))) hb2
    clear g1
    obtain ⟨gc2, gf2⟩ := bcell g2
    have gz2 := bsize g2
    go_wp2_with fail
    have rs0 : (w2.cell? { block := w.heap.size + 2, off := 0 }).isSome = true := by simp [go_sem, gc2]
    have rs1 : (w2.cell? { block := w.heap.size + 2, off := 1 }).isSome = true := by simp [go_sem, gc2]
    refine bodyPost_ret (v := _) (by simp [results, Try.results64, go_sem, rs0, rs1]; try rfl) rfl ?_
    exact ⟨ret_val (by rw [HR.out]; rfl), by (repeat' (first | (with_reducible exact Below.refl _ _) | (with_reducible assumption) | (with_reducible refine balloc ?_ _) | (with_reducible refine Below.drew ?_) | (with_reducible refine below_drewN ?_ _) | (with_reducible refine bset ?_ ?_ _) | (with_reducible refine bstep ?_ (by assumption)) | go_size))⟩

set_option maxRecDepth 100000 in
set_option maxHeartbeats 2000000 in
theorem implInverse (n d : Int) (w : World) (b : Bool) (hb : b = true ↔ okZ n d) :
    Calls Try.prog 52 #[ratV n d] w fun e w' => e = .returned (pairV (sel b (Gn.rat d n))) ∧ Below w.heap.size w w' := by
  have K := Lib.hid (fun w => implRatioOk n d w b hb)
  cases b with
  | false =>
    clear hb
    go_enter Try.func52, Try.ntmps52
    go_wp2_with fail
    refine (K.out _).mono ?_
    rintro e w1 ⟨rfl, hb1⟩
    obtain ⟨hc1, hf1⟩ := bcell hb1
    have hz1 := bsize hb1
    have g1 := hb1
    go_wp2_with fail
    have rs0 : (w1.cell? { block := w.heap.size + 1, off := 0 }).isSome = true := by simp [go_sem, hc1]
    have rs1 : (w1.cell? { block := w.heap.size + 1, off := 1 }).isSome = true := by simp [go_sem, hc1]
    refine bodyPost_ret (v := _) (by simp [results, Try.results52, go_sem, rs0, rs1]; try rfl) rfl ?_
    exact ⟨rfl, by (repeat' (first | (with_reducible exact Below.refl _ _) | (with_reducible assumption) | (with_reducible refine balloc ?_ _) | (with_reducible refine Below.drew ?_) | (with_reducible refine below_drewN ?_ _) | (with_reducible refine bset ?_ ?_ _) | (with_reducible refine bstep ?_ (by assumption)) | go_size))⟩
  | true =>
    have x := okZ_i64 (hb.1 rfl)
    clear hb
    have KR := Lib.hid (fun w => implRatioOf d n w (by omega) (by omega) (by omega) (by omega))
    obtain ⟨rr, hrr⟩ : ∃ rr, Gn.rat d n = rr := ⟨_, rfl⟩
    rw [hrr] at KR
    have HR := Lib.hid hrr
    clear hrr
    go_enter Try.func52, Try.ntmps52
    go_wp2_with fail
    refine (K.out _).mono ?_
    rintro e w1 ⟨rfl, hb1⟩
    obtain ⟨hc1, hf1⟩ := bcell hb1
    have hz1 := bsize hb1
    have g1 := hb1
    go_wp2_with fail
    refine (KR.out _).mono ?_
    rintro e w2 ⟨rfl, hb2⟩
    obtain ⟨hc2, hf2⟩ := bcell hb2
    have hz2 := bsize hb2
    have g2 := bjoin g1 (by (repeat' (first | (with_reducible exact Below.refl _ _) | (with_reducible assumption) | (with_reducible refine balloc ?_ _) | (with_reducible refine Below.drew ?_) | (with_reducible refine below_drewN ?_ _) | (with_reducible refine bset ?_ ?_ _) | (with_reducible refine bstep ?_ (by assumption)) | go_size))) hb2
    clear g1
    obtain ⟨gc2, gf2⟩ := bcell g2
    have gz2 := bsize g2
    go_wp2_with fail
    have rs0 : (w2.cell? { block := w.heap.size + 1, off := 0 }).isSome = true := by simp [go_sem, gc2]
    have rs1 : (w2.cell? { block := w.heap.size + 1, off := 1 }).isSome = true := by simp [go_sem, gc2]
    refine bodyPost_ret (v := _) (by simp [results, Try.results52, go_sem, rs0, rs1]; try rfl) rfl ?_
    exact ⟨ret_val (by rw [HR.out]; rfl), by (repeat' (first | (with_reducible exact Below.refl _ _) | (with_reducible assumption) | (with_reducible refine balloc ?_ _) | (with_reducible refine Below.drew ?_) | (with_reducible refine below_drewN ?_ _) | (with_reducible refine bset ?_ ?_ _) | (with_reducible refine bstep ?_ (by assumption)) | go_size))⟩

set_option maxRecDepth 100000 in
set_option maxHeartbeats 2000000 in
theorem specInverse (n d : Int) (w : World) (b : Bool) (hb : b = true ↔ okZ n d) :
    Calls Try.prog 51 #[ratV n d] w fun e w' => e = .returned (pairV (sel b (Gn.rat d n))) ∧ Below w.heap.size w w' := by
  have K := Lib.hid (fun w => specRatioOk n d w b hb)
  cases b with
  | false =>
    clear hb
    go_enter Try.func51, Try.ntmps51
    go_wp2_with fail
    refine (K.out _).mono ?_
    rintro e w1 ⟨rfl, hb1⟩
    obtain ⟨hc1, hf1⟩ := bcell hb1
    have hz1 := bsize hb1
    have g1 := hb1
    go_wp2_with fail
    have rs0 : (w1.cell? { block := w.heap.size + 1, off := 0 }).isSome = true := by simp [go_sem, hc1]
    have rs1 : (w1.cell? { block := w.heap.size + 1, off := 1 }).isSome = true := by simp [go_sem, hc1]
    refine bodyPost_ret (v := _) (by simp [results, Try.results51, go_sem, rs0, rs1]; try rfl) rfl ?_
    exact ⟨rfl, by (repeat' (first | (with_reducible exact Below.refl _ _) | (with_reducible assumption) | (with_reducible refine balloc ?_ _) | (with_reducible refine Below.drew ?_) | (with_reducible refine below_drewN ?_ _) | (with_reducible refine bset ?_ ?_ _) | (with_reducible refine bstep ?_ (by assumption)) | go_size))⟩
  | true =>
    have x := okZ_i64 (hb.1 rfl)
    clear hb
    have KR := Lib.hid (fun w => specRatioOf d n w (by omega) (by omega) (by omega) (by omega))
    obtain ⟨rr, hrr⟩ : ∃ rr, Gn.rat d n = rr := ⟨_, rfl⟩
    rw [hrr] at KR
    have HR := Lib.hid hrr
    clear hrr
    go_enter Try.func51, Try.ntmps51
    go_wp2_with fail
    refine (K.out _).mono ?_
    rintro e w1 ⟨rfl, hb1⟩
    obtain ⟨hc1, hf1⟩ := bcell hb1
    have hz1 := bsize hb1
    have g1 := hb1
    go_wp2_with fail
    refine (KR.out _).mono ?_
    rintro e w2 ⟨rfl, hb2⟩
    obtain ⟨hc2, hf2⟩ := bcell hb2
    have hz2 := bsize hb2
    have g2 := bjoin g1 (by (repeat' (first | (with_reducible exact Below.refl _ _) | (with_reducible assumption) | (with_reducible refine balloc ?_ _) | (with_reducible refine Below.drew ?_) | (with_reducible refine below_drewN ?_ _) | (with_reducible refine bset ?_ ?_ _) | (with_reducible refine bstep ?_ (by assumption)) | go_size))) hb2
    clear g1
    obtain ⟨gc2, gf2⟩ := bcell g2
    have gz2 := bsize g2
    go_wp2_with fail
    have rs0 : (w2.cell? { block := w.heap.size + 1, off := 0 }).isSome = true := by simp [go_sem, gc2]
    have rs1 : (w2.cell? { block := w.heap.size + 1, off := 1 }).isSome = true := by simp [go_sem, gc2]
    refine bodyPost_ret (v := _) (by simp [results, Try.results51, go_sem, rs0, rs1]; try rfl) rfl ?_
    exact ⟨ret_val (by rw [HR.out]; rfl), by (repeat' (first | (with_reducible exact Below.refl _ _) | (with_reducible assumption) | (with_reducible refine balloc ?_ _) | (with_reducible refine Below.drew ?_) | (with_reducible refine below_drewN ?_ _) | (with_reducible refine bset ?_ ?_ _) | (with_reducible refine bstep ?_ (by assumption)) | go_size))⟩

set_option maxHeartbeats 400000 in
theorem eqRatio (n d : Int) (w : World) :
    Calls Try.prog 53 #[ratV n d, ratV n d] w fun e w' => e = .returned (.bool true) ∧ Below w.heap.size w w' := by
  go_enter Try.func53, Try.ntmps53
  go_wp2_with fail
  go_ret
  exact ⟨rfl, by (repeat' (first | (with_reducible exact Below.refl _ _) | (with_reducible assumption) | (with_reducible refine balloc ?_ _) | (with_reducible refine Below.drew ?_) | (with_reducible refine below_drewN ?_ _) | (with_reducible refine bset ?_ ?_ _) | (with_reducible refine bstep ?_ (by assumption)) | go_size))⟩

set_option maxRecDepth 100000 in
set_option maxHeartbeats 2000000 in
theorem walk_FnExactRatioInverse (n1 d1 : Int) (w : World) (_ : (Lit.int .i64 n1).wf = true) (_ : (Lit.int .i64 d1).wf = true) :
    Calls Try.prog 14 #[ratV n1 d1] w fun e w' => e = .returned (.bool true) ∧ Below w.heap.size w w' := by
  obtain ⟨f, hf⟩ : ∃ b : Bool, b = true ↔ okZ n1 d1 := bool_of _
  have k1 := fun w => specInverse n1 d1 w f hf
  have k2 := fun w => implInverse n1 d1 w f hf
  obtain ⟨rr, hrr⟩ : ∃ rr, sel f (Gn.rat d1 n1) = rr := ⟨_, rfl⟩
  rw [hrr] at k1 k2
  obtain ⟨n, d⟩ := rr
  simp only [pairV] at k1 k2
  have K1 := Lib.hid k1
  have K2 := Lib.hid k2
  clear k1 k2 hrr hf
  go_enter Try.func14, Try.ntmps14
  go_wp2_with fail
  refine (toRatio n1 d1 _).mono ?_
  rintro e w1 ⟨rfl, hb1⟩
  have zq1_0 := blt hb1 (b := w.heap.size) (by (first | omega | (simp only [World.size_alloc, World.size_setCell, World.size_drew, World.heap_drewN]; omega)))
  obtain ⟨uq1_0, vq1_0, zz1_0⟩ := zq1_0
  go_wp2_with fail
  refine (K1.out _).mono ?_
  rintro e w2 ⟨rfl, hb2⟩
  have zq2_0 := blt hb2 (b := w.heap.size) (by (first | omega | (simp only [World.size_alloc, World.size_setCell, World.size_drew, World.heap_drewN]; omega)))
  obtain ⟨uq2_0, vq2_0, zz2_0⟩ := zq2_0
  go_wp2_with fail
  refine (toRatio n1 d1 _).mono ?_
  rintro e w3 ⟨rfl, hb3⟩
  have zq3_0 := blt hb3 (b := w.heap.size) (by (first | omega | (simp only [World.size_alloc, World.size_setCell, World.size_drew, World.heap_drewN]; omega)))
  obtain ⟨uq3_0, vq3_0, zz3_0⟩ := zq3_0
  have zq3_1 := blt hb3 (b := w2.heap.size) (by (first | omega | (simp only [World.size_alloc, World.size_setCell, World.size_drew, World.heap_drewN]; omega)))
  obtain ⟨uq3_1, vq3_1, zz3_1⟩ := zq3_1
  go_wp2_with fail
  refine (K2.out _).mono ?_
  rintro e w4 ⟨rfl, hb4⟩
  have zq4_0 := blt hb4 (b := w.heap.size) (by (first | omega | (simp only [World.size_alloc, World.size_setCell, World.size_drew, World.heap_drewN]; omega)))
  obtain ⟨uq4_0, vq4_0, zz4_0⟩ := zq4_0
  have zq4_1 := blt hb4 (b := w2.heap.size) (by (first | omega | (simp only [World.size_alloc, World.size_setCell, World.size_drew, World.heap_drewN]; omega)))
  obtain ⟨uq4_1, vq4_1, zz4_1⟩ := zq4_1
  go_wp2_with fail
  refine (eqRatio n d _).mono ?_
  rintro e w5 ⟨rfl, hb5⟩
  have zq5_0 := blt hb5 (b := w.heap.size) (by (first | omega | (simp only [World.size_alloc, World.size_setCell, World.size_drew, World.heap_drewN]; omega)))
  obtain ⟨uq5_0, vq5_0, zz5_0⟩ := zq5_0
  have zq5_1 := blt hb5 (b := w2.heap.size) (by (first | omega | (simp only [World.size_alloc, World.size_setCell, World.size_drew, World.heap_drewN]; omega)))
  obtain ⟨uq5_1, vq5_1, zz5_1⟩ := zq5_1
  go_wp2_with fail
  go_ret
  exact ⟨rfl, by (repeat' (first | (with_reducible exact Below.refl _ _) | (with_reducible assumption) | (with_reducible refine balloc ?_ _) | (with_reducible refine Below.drew ?_) | (with_reducible refine below_drewN ?_ _) | (with_reducible refine bset ?_ ?_ _) | (with_reducible refine bstep ?_ (by assumption)) | go_size))⟩

end Go.Proofs.Yticfjfdfgcfnnaa