/- RatioSum, RatioDiff, RatioTimes and RatioInverse: the program and the reference give the same fraction, and the laws answer true. -/
import Derived.Test.YtdmiihljepkapaaArith2
namespace Go.Proofs.Ytdmiihljepkapaa
set_option linter.unusedSimpArgs false
set_option linter.unusedVariables false
open Go.RowKit

/-- a pair, or zeros -/
def sel (f : Bool) (x : Int × Int) : Int × Int := if f = true then x else (0, 0)
theorem sel_true (x : Int × Int) : sel true x = x := rfl
theorem sel_false (x : Int × Int) : sel false x = (0, 0) := rfl
/-- a pair as a fraction's value -/
def pairV (x : Int × Int) : Value := ratV x.1 x.2

theorem calc_mul {n1 d1 n2 d2 : Int} (h : calcZ n1 d1 n2 d2) :
    (-1000000000000000000 ≤ n1 * d2 ∧ n1 * d2 ≤ 1000000000000000000) ∧ (-1000000000000000000 ≤ n2 * d1 ∧ n2 * d1 ≤ 1000000000000000000) ∧
    (-1000000000000000000 ≤ d1 * d2 ∧ d1 * d2 ≤ 1000000000000000000) ∧ (-1000000000000000000 ≤ n1 * n2 ∧ n1 * n2 ≤ 1000000000000000000) := by
  obtain ⟨_, _, h1, h2, h3, h4⟩ := h
  exact ⟨fits_mul h1, fits_mul h2, fits_mul h3, fits_mul h4⟩

set_option maxRecDepth 100000 in
set_option maxHeartbeats 2000000 in
theorem implSum (n1 d1 n2 d2 : Int) (w : World) (f : Bool) (hf : f = true ↔ calcZ n1 d1 n2 d2) :
    Calls Try.prog 36 #[ratV n1 d1, ratV n2 d2] w fun e w' => e = .returned (pairV (sel f (Gn.rat (n1 * d2 + n2 * d1) (d1 * d2)))) ∧ Below w.heap.size w w' := by
  have K := Lib.hid (fun w => implCalc n1 d1 n2 d2 w f hf)
  cases f with
  | false =>
    clear hf
    go_enter Try.func36, Try.ntmps36
    go_wp2_with fail
    refine (K.out _).mono ?_
    rintro e w1 ⟨rfl, hb1⟩
    obtain ⟨hc1, hf1⟩ := bcell hb1
    have hz1 := bsize hb1
    have g1 := hb1
    go_wp2_with fail
    have rs0 : (w1.cell? { block := w.heap.size + 2, off := 0 }).isSome = true := by simp [go_sem, hc1]
    have rs1 : (w1.cell? { block := w.heap.size + 2, off := 1 }).isSome = true := by simp [go_sem, hc1]
    refine bodyPost_ret (v := _) (by simp [results, Try.results36, go_sem, rs0, rs1]; try rfl) rfl ?_
    exact ⟨rfl, by (repeat' (first | (with_reducible exact Below.refl _ _) | (with_reducible assumption) | (with_reducible refine balloc ?_ _) | (with_reducible refine Below.drew ?_) | (with_reducible refine below_drewN ?_ _) | (with_reducible refine bset ?_ ?_ _) | (with_reducible refine bstep ?_ (by assumption)) | go_size))⟩
  | true =>
    have hm := calc_mul (hf.1 rfl)
    obtain ⟨x1, x2, x3, x4⟩ := hm
    clear hf
    have KR := Lib.hid (fun w => implRatioOf (n1 * d2 + n2 * d1) (d1 * d2) w (by omega) (by omega) (by omega) (by omega))
    obtain ⟨rr, hrr⟩ : ∃ rr, Gn.rat (n1 * d2 + n2 * d1) (d1 * d2) = rr := ⟨_, rfl⟩
    rw [hrr] at KR
    have HR := Lib.hid hrr
    clear hrr
    go_enter Try.func36, Try.ntmps36
    go_wp2_with fail
    refine (K.out _).mono ?_
    rintro e w1 ⟨rfl, hb1⟩
    obtain ⟨hc1, hf1⟩ := bcell hb1
    have hz1 := bsize hb1
    have g1 := hb1
    go_wp2_with fail
    refine (KR.out _).mono ?_
    rintro e w2 ⟨rfl, hb2⟩
    obtain ⟨hc2, hf2⟩ := bcell hb2
    have hz2 := bsize hb2
    have g2 := bjoin g1 (by (repeat' (first | (with_reducible exact Below.refl _ _) | (with_reducible assumption) | (with_reducible refine balloc ?_ _) | (with_reducible refine Below.drew ?_) | (with_reducible refine below_drewN ?_ _) | (with_reducible refine bset ?_ ?_ _) | (with_reducible refine bstep ?_ (by assumption)) | go_size))) hb2
    clear g1
    obtain ⟨gc2, gf2⟩ := bcell g2
    have gz2 := bsize g2
    go_wp2_with fail
    have rs0 : (w2.cell? { block := w.heap.size + 2, off := 0 }).isSome = true := by simp [go_sem, gc2]
    have rs1 : (w2.cell? { block := w.heap.size + 2, off := 1 }).isSome = true := by simp [go_sem, gc2]
    refine bodyPost_ret (v := _) (by simp [results, Try.results36, go_sem, rs0, rs1]; try rfl) rfl ?_
    exact ⟨ret_val (by rw [HR.out]; rfl), by (repeat' (first | (with_reducible exact Below.refl _ _) | (with_reducible assumption) | (with_reducible refine balloc ?_ _) | (with_reducible refine Below.drew ?_) | (with_reducible refine below_drewN ?_ _) | (with_reducible refine bset ?_ ?_ _) | (with_reducible refine bstep ?_ (by assumption)) | go_size))⟩

set_option maxRecDepth 100000 in
set_option maxHeartbeats 2000000 in
theorem specSum (n1 d1 n2 d2 : Int) (w : World) (f : Bool) (hf : f = true ↔ calcZ n1 d1 n2 d2) :
    Calls Try.prog 135 #[ratV n1 d1, ratV n2 d2] w fun e w' => e = .returned (pairV (sel f (Gn.rat (n1 * d2 + n2 * d1) (d1 * d2)))) ∧ Below w.heap.size w w' := by
  have k : ∀ w, Calls Try.prog 178 #[ratV n1 d1, ratV n2 d2, .int .i64 1] w fun e w' => e = .returned (ratV (sel f (Gn.rat (n1 * d2 + n2 * d1) (d1 * d2))).1 (sel f (Gn.rat (n1 * d2 + n2 * d1) (d1 * d2))).2) ∧ Below w.heap.size w w' := fun w => specCombSum n1 d1 n2 d2 w f hf
  obtain ⟨rr, hrr⟩ : ∃ rr, sel f (Gn.rat (n1 * d2 + n2 * d1) (d1 * d2)) = rr := ⟨_, rfl⟩
  rw [hrr] at k ⊢
  have K := Lib.hid k
  clear k hrr hf
  go_enter Try.func135, Try.ntmps135
  go_wp2_with fail
  refine (K.out _).mono ?_
  rintro e w1 ⟨rfl, hb1⟩
  obtain ⟨hc1, hf1⟩ := bcell hb1
  have hz1 := bsize hb1
  have g1 := hb1
  go_wp2_with fail
  have rs0 : (w1.cell? { block := w.heap.size + 2, off := 0 }).isSome = true := by simp [go_sem, hc1]
  have rs1 : (w1.cell? { block := w.heap.size + 2, off := 1 }).isSome = true := by simp [go_sem, hc1]
  refine bodyPost_ret (v := _) (by simp [results, Try.results135, go_sem, rs0, rs1]; try rfl) rfl ?_
  exact ⟨rfl, by (repeat' (first | (with_reducible exact Below.refl _ _) | (with_reducible assumption) | (with_reducible refine balloc ?_ _) | (with_reducible refine Below.drew ?_) | (with_reducible refine below_drewN ?_ _) | (with_reducible refine bset ?_ ?_ _) | (with_reducible refine bstep ?_ (by assumption)) | go_size))⟩

set_option maxRecDepth 100000 in
set_option maxHeartbeats 2000000 in
theorem implDiff (n1 d1 n2 d2 : Int) (w : World) (f : Bool) (hf : f = true ↔ calcZ n1 d1 n2 d2) :
    Calls Try.prog 33 #[ratV n1 d1, ratV n2 d2] w fun e w' => e = .returned (pairV (sel f (Gn.rat (n1 * d2 - n2 * d1) (d1 * d2)))) ∧ Below w.heap.size w w' := by
  have K := Lib.hid (fun w => implCalc n1 d1 n2 d2 w f hf)
  cases f with
  | false =>
    clear hf
    go_enter Try.func33, Try.ntmps33
    go_wp2_with fail
    refine (K.out _).mono ?_
    rintro e w1 ⟨rfl, hb1⟩
    obtain ⟨hc1, hf1⟩ := bcell hb1
    have hz1 := bsize hb1
    have g1 := hb1
    go_wp2_with fail
    have rs0 : (w1.cell? { block := w.heap.size + 2, off := 0 }).isSome = true := by simp [go_sem, hc1]
    have rs1 : (w1.cell? { block := w.heap.size + 2, off := 1 }).isSome = true := by simp [go_sem, hc1]
    refine bodyPost_ret (v := _) (by simp [results, Try.results33, go_sem, rs0, rs1]; try rfl) rfl ?_
    exact ⟨rfl, by (repeat' (first | (with_reducible exact Below.refl _ _) | (with_reducible assumption) | (with_reducible refine balloc ?_ _) | (with_reducible refine Below.drew ?_) | (with_reducible refine below_drewN ?_ _) | (with_reducible refine bset ?_ ?_ _) | (with_reducible refine bstep ?_ (by assumption)) | go_size))⟩
  | true =>
    have hm := calc_mul (hf.1 rfl)
    obtain ⟨x1, x2, x3, x4⟩ := hm
    clear hf
    have KR := Lib.hid (fun w => implRatioOf (n1 * d2 - n2 * d1) (d1 * d2) w (by omega) (by omega) (by omega) (by omega))
    obtain ⟨rr, hrr⟩ : ∃ rr, Gn.rat (n1 * d2 - n2 * d1) (d1 * d2) = rr := ⟨_, rfl⟩
    rw [hrr] at KR
    have HR := Lib.hid hrr
    clear hrr
    go_enter Try.func33, Try.ntmps33
    go_wp2_with fail
    refine (K.out _).mono ?_
    rintro e w1 ⟨rfl, hb1⟩
    obtain ⟨hc1, hf1⟩ := bcell hb1
    have hz1 := bsize hb1
    have g1 := hb1
    go_wp2_with fail
    refine (KR.out _).mono ?_
    rintro e w2 ⟨rfl, hb2⟩
    obtain ⟨hc2, hf2⟩ := bcell hb2
    have hz2 := bsize hb2
    have g2 := bjoin g1 (by (repeat' (first | (with_reducible exact Below.refl _ _) | (with_reducible assumption) | (with_reducible refine balloc ?_ _) | (with_reducible refine Below.drew ?_) | (with_reducible refine below_drewN ?_ _) | (with_reducible refine bset ?_ ?_ _) | (with_reducible refine bstep ?_ (by assumption)) | go_size))) hb2
    clear g1
    obtain ⟨gc2, gf2⟩ := bcell g2
    have gz2 := bsize g2
    go_wp2_with fail
    have rs0 : (w2.cell? { block := w.heap.size + 2, off := 0 }).isSome = true := by simp [go_sem, gc2]
    have rs1 : (w2.cell? { block := w.heap.size + 2, off := 1 }).isSome = true := by simp [go_sem, gc2]
    refine bodyPost_ret (v := _) (by simp [results, Try.results33, go_sem, rs0, rs1]; try rfl) rfl ?_
    exact ⟨ret_val (by rw [HR.out]; rfl), by (repeat' (first | (with_reducible exact Below.refl _ _) | (with_reducible assumption) | (with_reducible refine balloc ?_ _) | (with_reducible refine Below.drew ?_) | (with_reducible refine below_drewN ?_ _) | (with_reducible refine bset ?_ ?_ _) | (with_reducible refine bstep ?_ (by assumption)) | go_size))⟩

set_option maxRecDepth 100000 in
set_option maxHeartbeats 2000000 in
theorem specDiff (n1 d1 n2 d2 : Int) (w : World) (f : Bool) (hf : f = true ↔ calcZ n1 d1 n2 d2) :
    Calls Try.prog 154 #[ratV n1 d1, ratV n2 d2] w fun e w' => e = .returned (pairV (sel f (Gn.rat (n1 * d2 - n2 * d1) (d1 * d2)))) ∧ Below w.heap.size w w' := by
  have k : ∀ w, Calls Try.prog 178 #[ratV n1 d1, ratV n2 d2, .int .i64 (-1)] w fun e w' => e = .returned (ratV (sel f (Gn.rat (n1 * d2 - n2 * d1) (d1 * d2))).1 (sel f (Gn.rat (n1 * d2 - n2 * d1) (d1 * d2))).2) ∧ Below w.heap.size w w' := fun w => specCombDiff n1 d1 n2 d2 w f hf
  obtain ⟨rr, hrr⟩ : ∃ rr, sel f (Gn.rat (n1 * d2 - n2 * d1) (d1 * d2)) = rr := ⟨_, rfl⟩
  rw [hrr] at k ⊢
  have K := Lib.hid k
  clear k hrr hf
  go_enter Try.func154, Try.ntmps154
  go_wp2_with fail
  refine (K.out _).mono ?_
  rintro e w1 ⟨rfl, hb1⟩
  obtain ⟨hc1, hf1⟩ := bcell hb1
  have hz1 := bsize hb1
  have g1 := hb1
  go_wp2_with fail
  have rs0 : (w1.cell? { block := w.heap.size + 2, off := 0 }).isSome = true := by simp [go_sem, hc1]
  have rs1 : (w1.cell? { block := w.heap.size + 2, off := 1 }).isSome = true := by simp [go_sem, hc1]
  refine bodyPost_ret (v := _) (by simp [results, Try.results154, go_sem, rs0, rs1]; try rfl) rfl ?_
  exact ⟨rfl, by (repeat' (first | (with_reducible exact Below.refl _ _) | (with_reducible assumption) | (with_reducible refine balloc ?_ _) | (with_reducible refine Below.drew ?_) | (with_reducible refine below_drewN ?_ _) | (with_reducible refine bset ?_ ?_ _) | (with_reducible refine bstep ?_ (by assumption)) | go_size))⟩

set_option maxRecDepth 100000 in
set_option maxHeartbeats 2000000 in
theorem implTimes (n1 d1 n2 d2 : Int) (w : World) (f : Bool) (hf : f = true ↔ calcZ n1 d1 n2 d2) :
    Calls Try.prog 32 #[ratV n1 d1, ratV n2 d2] w fun e w' => e = .returned (pairV (sel f (Gn.rat (n1 * n2) (d1 * d2)))) ∧ Below w.heap.size w w' := by
  have K := Lib.hid (fun w => implCalc n1 d1 n2 d2 w f hf)
  cases f with
  | false =>
    clear hf
    go_enter Try.func32, Try.ntmps32
    go_wp2_with fail
    refine (K.out _).mono ?_
    rintro e w1 ⟨rfl, hb1⟩
    obtain ⟨hc1, hf1⟩ := bcell hb1
    have hz1 := bsize hb1
    have g1 := hb1
    go_wp2_with fail
    have rs0 : (w1.cell? { block := w.heap.size + 2, off := 0 }).isSome = true := by simp [go_sem, hc1]
    have rs1 : (w1.cell? { block := w.heap.size + 2, off := 1 }).isSome = true := by simp [go_sem, hc1]
    refine bodyPost_ret (v := _) (by simp [results, Try.results32, go_sem, rs0, rs1]; try rfl) rfl ?_
    exact ⟨rfl, by (repeat' (first | (with_reducible exact Below.refl _ _) | (with_reducible assumption) | (with_reducible refine balloc ?_ _) | (with_reducible refine Below.drew ?_) | (with_reducible refine below_drewN ?_ _) | (with_reducible refine bset ?_ ?_ _) | (with_reducible refine bstep ?_ (by assumption)) | go_size))⟩
  | true =>
    have hm := calc_mul (hf.1 rfl)
    obtain ⟨x1, x2, x3, x4⟩ := hm
    clear hf
    have KR := Lib.hid (fun w => implRatioOf (n1 * n2) (d1 * d2) w (by omega) (by omega) (by omega) (by omega))
    obtain ⟨rr, hrr⟩ : ∃ rr, Gn.rat (n1 * n2) (d1 * d2) = rr := ⟨_, rfl⟩
    rw [hrr] at KR
    have HR := Lib.hid hrr
    clear hrr
    go_enter Try.func32, Try.ntmps32
    go_wp2_with fail
    refine (K.out _).mono ?_
    rintro e w1 ⟨rfl, hb1⟩
    obtain ⟨hc1, hf1⟩ := bcell hb1
    have hz1 := bsize hb1
    have g1 := hb1
    go_wp2_with fail
    refine (KR.out _).mono ?_
    rintro e w2 ⟨rfl, hb2⟩
    obtain ⟨hc2, hf2⟩ := bcell hb2
    have hz2 := bsize hb2
    have g2 := bjoin g1 (by (repeat' (first | (with_reducible exact Below.refl _ _) | (with_reducible assumption) | (with_reducible refine balloc ?_ _) | (with_reducible refine Below.drew ?_) | (with_reducible refine below_drewN ?_ _) | (with_reducible refine bset ?_ ?_ _) | (with_reducible refine bstep ?_ (by assumption)) | go_size))) hb2
    clear g1
    obtain ⟨gc2, gf2⟩ := bcell g2
    have gz2 := bsize g2
    go_wp2_with fail
    have rs0 : (w2.cell? { block := w.heap.size + 2, off := 0 }).isSome = true := by simp [go_sem, gc2]
    have rs1 : (w2.cell? { block := w.heap.size + 2, off := 1 }).isSome = true := by simp [go_sem, gc2]
    refine bodyPost_ret (v := _) (by simp [results, Try.results32, go_sem, rs0, rs1]; try rfl) rfl ?_
    exact ⟨ret_val (by rw [HR.out]; rfl), by (repeat' (first | (with_reducible exact Below.refl _ _) | (with_reducible assumption) | (with_reducible refine balloc ?_ _) | (with_reducible refine Below.drew ?_) | (with_reducible refine below_drewN ?_ _) | (with_reducible refine bset ?_ ?_ _) | (with_reducible refine bstep ?_ (by assumption)) | go_size))⟩

set_option maxRecDepth 100000 in
set_option maxHeartbeats 2000000 in
theorem specTimes (n1 d1 n2 d2 : Int) (w : World) (f : Bool) (hf : f = true ↔ calcZ n1 d1 n2 d2) :
    Calls Try.prog 155 #[ratV n1 d1, ratV n2 d2] w fun e w' => e = .returned (pairV (sel f (Gn.rat (n1 * n2) (d1 * d2)))) ∧ Below w.heap.size w w' := by
  have K := Lib.hid (fun w => specFits n1 d1 n2 d2 w f hf)
  cases f with
  | false =>
    clear hf
    go_enter Try.func155, Try.ntmps155
    go_wp2_with fail
    refine (K.out _).mono ?_
    rintro e w1 ⟨rfl, hb1⟩
    obtain ⟨hc1, hf1⟩ := bcell hb1
    have hz1 := bsize hb1
    have g1 := hb1
    go_wp2_with fail
    have rs0 : (w1.cell? { block := w.heap.size + 2, off := 0 }).isSome = true := by simp [go_sem, hc1]
    have rs1 : (w1.cell? { block := w.heap.size + 2, off := 1 }).isSome = true := by simp [go_sem, hc1]
    refine bodyPost_ret (v := _) (by simp [results, Try.results155, go_sem, rs0, rs1]; try rfl) rfl ?_
    exact ⟨rfl, by (repeat' (first | (with_reducible exact Below.refl _ _) | (with_reducible assumption) | (with_reducible refine balloc ?_ _) | (with_reducible refine Below.drew ?_) | (with_reducible refine below_drewN ?_ _) | (with_reducible refine bset ?_ ?_ _) | (with_reducible refine bstep ?_ (by assumption)) | go_size))⟩
  | true =>
    have hm := calc_mul (hf.1 rfl)
    obtain ⟨x1, x2, x3, x4⟩ := hm
    clear hf
    have KR := Lib.hid (fun w => specRatioOf (n1 * n2) (d1 * d2) w (by omega) (by omega) (by omega) (by omega))
    obtain ⟨rr, hrr⟩ : ∃ rr, Gn.rat (n1 * n2) (d1 * d2) = rr := ⟨_, rfl⟩
    rw [hrr] at KR
    have HR := Lib.hid hrr
    clear hrr
    go_enter Try.func155, Try.ntmps155
    go_wp2_with fail
    refine (K.out _).mono ?_
    rintro e w1 ⟨rfl, hb1⟩
    obtain ⟨hc1, hf1⟩ := bcell hb1
    have hz1 := bsize hb1
    have g1 := hb1
    go_wp2_with fail
    refine (KR.out _).mono ?_
    rintro e w2 ⟨rfl, hb2⟩
    obtain ⟨hc2, hf2⟩ := bcell hb2
    have hz2 := bsize hb2
    have g2 := bjoin g1 (by (repeat' (first | (with_reducible exact Below.refl _ _) | (with_reducible assumption) | (with_reducible refine balloc ?_ _) | (with_reducible refine Below.drew ?_) | (with_reducible refine below_drewN ?_ _) | (with_reducible refine bset ?_ ?_ _) | (with_reducible refine bstep ?_ (by assumption)) | go_size))) hb2
    clear g1
    obtain ⟨gc2, gf2⟩ := bcell g2
    have gz2 := bsize g2
    go_wp2_with fail
    have rs0 : (w2.cell? { block := w.heap.size + 2, off := 0 }).isSome = true := by simp [go_sem, gc2]
    have rs1 : (w2.cell? { block := w.heap.size + 2, off := 1 }).isSome = true := by simp [go_sem, gc2]
    refine bodyPost_ret (v := _) (by simp [results, Try.results155, go_sem, rs0, rs1]; try rfl) rfl ?_
    exact ⟨ret_val (by rw [HR.out]; rfl), by (repeat' (first | (with_reducible exact Below.refl _ _) | (with_reducible assumption) | (with_reducible refine balloc ?_ _) | (with_reducible refine Below.drew ?_) | (with_reducible refine below_drewN ?_ _) | (with_reducible refine bset ?_ ?_ _) | (with_reducible refine bstep ?_ (by assumption)) | go_size))⟩

set_option maxHeartbeats 400000 in
theorem eqRatio (n d : Int) (w : World) :
    Calls Try.prog 89 #[ratV n d, ratV n d] w fun e w' => e = .returned (.bool true) ∧ Below w.heap.size w w' := by
  go_enter Try.func89, Try.ntmps89
  go_wp2_with fail
  go_ret
  exact ⟨rfl, by (repeat' (first | (with_reducible exact Below.refl _ _) | (with_reducible assumption) | (with_reducible refine balloc ?_ _) | (with_reducible refine Below.drew ?_) | (with_reducible refine below_drewN ?_ _) | (with_reducible refine bset ?_ ?_ _) | (with_reducible refine bstep ?_ (by assumption)) | go_size))⟩


end Go.Proofs.Ytdmiihljepkapaa