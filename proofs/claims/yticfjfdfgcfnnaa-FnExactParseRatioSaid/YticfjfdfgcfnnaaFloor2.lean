/- RatioFloor and RatioCeil of the program and of the reference round alike. -/
import Derived.Test.YticfjfdfgcfnnaaFloor
namespace Go.Proofs.Yticfjfdfgcfnnaa
set_option linter.unusedSimpArgs false
set_option linter.unusedVariables false
open Go.RowKit

theorem okZ_bd {n d : Int} (h : okZ n d) : 0 < d ∧ d ≤ 1000000000000000 ∧ -1000000000000000000 ≤ n ∧ n ≤ 1000000000000000000 := by unfold okZ at h; omega

set_option maxHeartbeats 400000 in
theorem specRatioFloor (n d : Int) (w : World) (b : Bool) (h : b = true ↔ okZ n d) :
    Calls Try.prog 45 #[ratV n d] w fun e w' => e = .returned (.int .i64 (if b then n / d else 0)) ∧ Below w.heap.size w w' := by
  have HB := Lib.hid h
  clear h
  cases b with
  | false =>
    go_enter Try.func45, Try.ntmps45
    go_wp2_with fail
    refine (specRatioOk n d _ false HB.out).mono ?_
    rintro e w1 ⟨rfl, hb1⟩
    obtain ⟨hc1, hf1⟩ := bcell hb1
    have hz1 := bsize hb1
    have g1 := hb1
    go_wp2_with fail
    go_ret
    exact ⟨ret_int (by simp), by (repeat' (first | (with_reducible exact Below.refl _ _) | (with_reducible assumption) | (with_reducible refine balloc ?_ _) | (with_reducible refine Below.drew ?_) | (with_reducible refine below_drewN ?_ _) | (with_reducible refine bset ?_ ?_ _) | (with_reducible refine bstep ?_ (by assumption)) | go_size))⟩
  | true =>
    have HO : Hid (okZ n d) := HB.out.1 rfl
    clear HB
    obtain ⟨k1, k2, k3, k4⟩ := okZ_bd HO.out
    have q1 : -1000000000000000000 ≤ n / d ∧ n / d ≤ 1000000000000000000 := by
      have := Int.le_ediv_of_mul_le k1 (show -1000000000000000000 * d ≤ n by omega)
      have := Int.ediv_le_of_le_mul k1 (show n ≤ 1000000000000000000 * d by omega)
      omega
    go_enter Try.func45, Try.ntmps45
    go_wp2_with fail
    refine (specRatioOk n d _ true ⟨fun _ => HO.out, fun _ => rfl⟩).mono ?_
    rintro e w1 ⟨rfl, hb1⟩
    obtain ⟨hc1, hf1⟩ := bcell hb1
    have hz1 := bsize hb1
    have g1 := hb1
    go_wp2_with fail
    refine (specFloor n d _ k1 (by omega) (by omega) (by omega)).mono ?_
    rintro e w' ⟨rfl, rfl⟩
    go_wp2_with fail
    go_ret
    exact ⟨ret_int (by simp), by (repeat' (first | (with_reducible exact Below.refl _ _) | (with_reducible assumption) | (with_reducible refine balloc ?_ _) | (with_reducible refine Below.drew ?_) | (with_reducible refine below_drewN ?_ _) | (with_reducible refine bset ?_ ?_ _) | (with_reducible refine bstep ?_ (by assumption)) | go_size))⟩

set_option maxHeartbeats 400000 in
theorem specRatioCeil (n d : Int) (w : World) (b : Bool) (h : b = true ↔ okZ n d) :
    Calls Try.prog 43 #[ratV n d] w fun e w' => e = .returned (.int .i64 (if b then -(-n / d) else 0)) ∧ Below w.heap.size w w' := by
  have HB := Lib.hid h
  clear h
  cases b with
  | false =>
    go_enter Try.func43, Try.ntmps43
    go_wp2_with fail
    refine (specRatioOk n d _ false HB.out).mono ?_
    rintro e w1 ⟨rfl, hb1⟩
    obtain ⟨hc1, hf1⟩ := bcell hb1
    have hz1 := bsize hb1
    have g1 := hb1
    go_wp2_with fail
    go_ret
    exact ⟨ret_int (by simp), by (repeat' (first | (with_reducible exact Below.refl _ _) | (with_reducible assumption) | (with_reducible refine balloc ?_ _) | (with_reducible refine Below.drew ?_) | (with_reducible refine below_drewN ?_ _) | (with_reducible refine bset ?_ ?_ _) | (with_reducible refine bstep ?_ (by assumption)) | go_size))⟩
  | true =>
    have HO : Hid (okZ n d) := HB.out.1 rfl
    clear HB
    obtain ⟨k1, k2, k3, k4⟩ := okZ_bd HO.out
    have q1 : -1000000000000000000 ≤ -(-n / d) ∧ -(-n / d) ≤ 1000000000000000000 := by
      have := Int.le_ediv_of_mul_le k1 (show -1000000000000000000 * d ≤ (-n) by omega)
      have := Int.ediv_le_of_le_mul k1 (show (-n) ≤ 1000000000000000000 * d by omega)
      omega
    go_enter Try.func43, Try.ntmps43
    go_wp2_with fail
    refine (specRatioOk n d _ true ⟨fun _ => HO.out, fun _ => rfl⟩).mono ?_
    rintro e w1 ⟨rfl, hb1⟩
    obtain ⟨hc1, hf1⟩ := bcell hb1
    have hz1 := bsize hb1
    have g1 := hb1
    go_wp2_with fail
    refine (specFloor (-n) d _ k1 (by omega) (by omega) (by omega)).mono ?_
    rintro e w' ⟨rfl, rfl⟩
    go_wp2_with fail
    go_ret
    exact ⟨ret_int (by simp), by (repeat' (first | (with_reducible exact Below.refl _ _) | (with_reducible assumption) | (with_reducible refine balloc ?_ _) | (with_reducible refine Below.drew ?_) | (with_reducible refine below_drewN ?_ _) | (with_reducible refine bset ?_ ?_ _) | (with_reducible refine bstep ?_ (by assumption)) | go_size))⟩

set_option maxHeartbeats 400000 in
theorem implRatioFloor (n d : Int) (w : World) (b : Bool) (h : b = true ↔ okZ n d) :
    Calls Try.prog 46 #[ratV n d] w fun e w' => e = .returned (.int .i64 (if b then n / d else 0)) ∧ Below w.heap.size w w' := by
  have HB := Lib.hid h
  clear h
  cases b with
  | false =>
    go_enter Try.func46, Try.ntmps46
    go_wp2_with fail
    refine (implRatioOk n d _ false HB.out).mono ?_
    rintro e w1 ⟨rfl, hb1⟩
    obtain ⟨hc1, hf1⟩ := bcell hb1
    have hz1 := bsize hb1
    have g1 := hb1
    go_wp2_with fail
    go_ret
    exact ⟨ret_int (by simp), by (repeat' (first | (with_reducible exact Below.refl _ _) | (with_reducible assumption) | (with_reducible refine balloc ?_ _) | (with_reducible refine Below.drew ?_) | (with_reducible refine below_drewN ?_ _) | (with_reducible refine bset ?_ ?_ _) | (with_reducible refine bstep ?_ (by assumption)) | go_size))⟩
  | true =>
    have HO : Hid (okZ n d) := HB.out.1 rfl
    clear HB
    obtain ⟨k1, k2, k3, k4⟩ := okZ_bd HO.out
    have q1 : -1000000000000000000 ≤ n / d ∧ n / d ≤ 1000000000000000000 := by
      have := Int.le_ediv_of_mul_le k1 (show -1000000000000000000 * d ≤ n by omega)
      have := Int.ediv_le_of_le_mul k1 (show n ≤ 1000000000000000000 * d by omega)
      omega
    go_enter Try.func46, Try.ntmps46
    go_wp2_with fail
    refine (implRatioOk n d _ true ⟨fun _ => HO.out, fun _ => rfl⟩).mono ?_
    rintro e w1 ⟨rfl, hb1⟩
    obtain ⟨hc1, hf1⟩ := bcell hb1
    have hz1 := bsize hb1
    have g1 := hb1
    go_wp2_with fail
    refine (implFloor n d _ k1 (by omega) (by omega) (by omega)).mono ?_
    rintro e w' ⟨rfl, rfl⟩
    go_wp2_with fail
    go_ret
    exact ⟨ret_int (by simp), by (repeat' (first | (with_reducible exact Below.refl _ _) | (with_reducible assumption) | (with_reducible refine balloc ?_ _) | (with_reducible refine Below.drew ?_) | (with_reducible refine below_drewN ?_ _) | (with_reducible refine bset ?_ ?_ _) | (with_reducible refine bstep ?_ (by assumption)) | go_size))⟩

set_option maxHeartbeats 400000 in
theorem implRatioCeil (n d : Int) (w : World) (b : Bool) (h : b = true ↔ okZ n d) :
    Calls Try.prog 44 #[ratV n d] w fun e w' => e = .returned (.int .i64 (if b then -(-n / d) else 0)) ∧ Below w.heap.size w w' := by
  have HB := Lib.hid h
  clear h
  cases b with
  | false =>
    go_enter Try.func44, Try.ntmps44
    go_wp2_with fail
    refine (implRatioOk n d _ false HB.out).mono ?_
    rintro e w1 ⟨rfl, hb1⟩
    obtain ⟨hc1, hf1⟩ := bcell hb1
    have hz1 := bsize hb1
    have g1 := hb1
    go_wp2_with fail
    go_ret
    exact ⟨ret_int (by simp), by (repeat' (first | (with_reducible exact Below.refl _ _) | (with_reducible assumption) | (with_reducible refine balloc ?_ _) | (with_reducible refine Below.drew ?_) | (with_reducible refine below_drewN ?_ _) | (with_reducible refine bset ?_ ?_ _) | (with_reducible refine bstep ?_ (by assumption)) | go_size))⟩
  | true =>
    have HO : Hid (okZ n d) := HB.out.1 rfl
    clear HB
    obtain ⟨k1, k2, k3, k4⟩ := okZ_bd HO.out
    have q1 : -1000000000000000000 ≤ -(-n / d) ∧ -(-n / d) ≤ 1000000000000000000 := by
      have := Int.le_ediv_of_mul_le k1 (show -1000000000000000000 * d ≤ (-n) by omega)
      have := Int.ediv_le_of_le_mul k1 (show (-n) ≤ 1000000000000000000 * d by omega)
      omega
    go_enter Try.func44, Try.ntmps44
    go_wp2_with fail
    refine (implRatioOk n d _ true ⟨fun _ => HO.out, fun _ => rfl⟩).mono ?_
    rintro e w1 ⟨rfl, hb1⟩
    obtain ⟨hc1, hf1⟩ := bcell hb1
    have hz1 := bsize hb1
    have g1 := hb1
    go_wp2_with fail
    refine (implFloor (-n) d _ k1 (by omega) (by omega) (by omega)).mono ?_
    rintro e w' ⟨rfl, rfl⟩
    go_wp2_with fail
    go_ret
    exact ⟨ret_int (by simp), by (repeat' (first | (with_reducible exact Below.refl _ _) | (with_reducible assumption) | (with_reducible refine balloc ?_ _) | (with_reducible refine Below.drew ?_) | (with_reducible refine below_drewN ?_ _) | (with_reducible refine bset ?_ ?_ _) | (with_reducible refine bstep ?_ (by assumption)) | go_size))⟩

set_option maxHeartbeats 400000 in
theorem walk_FnExactRatioFloor (n d : Int) (w : World) (_ : (Lit.int .i64 n).wf = true) (_ : (Lit.int .i64 d).wf = true) :
    Calls Try.prog 11 #[ratV n d] w fun e w' => e = .returned (.bool true) ∧ Below w.heap.size w w' := by
  obtain ⟨b, hb⟩ : ∃ b : Bool, b = true ↔ okZ n d := bool_of _
  have HB := Lib.hid hb
  clear hb
  have hv : ∃ v : Int, (if b then n / d else 0) = v := ⟨_, rfl⟩
  obtain ⟨v, hv⟩ := hv
  have c1 := fun w => specRatioFloor n d w b HB.out
  have c2 := fun w => implRatioFloor n d w b HB.out
  rw [hv] at c1 c2
  have C1 := Lib.hid c1
  have C2 := Lib.hid c2
  clear c1 c2 hv
  go_enter Try.func11, Try.ntmps11
  go_wp2_with fail
  refine (toRatio n d _).mono ?_
  rintro e w1 ⟨rfl, hb1⟩
  obtain ⟨hc1, hf1⟩ := bcell hb1
  have hz1 := bsize hb1
  have g1 := hb1
  go_wp2_with fail
  refine (C1.out _).mono ?_
  rintro e w2 ⟨rfl, hb2⟩
  obtain ⟨hc2, hf2⟩ := bcell hb2
  have hz2 := bsize hb2
  have g2 := bjoin g1 (by (repeat' (first | (with_reducible exact Below.refl _ _) | (with_reducible assumption) | (with_reducible refine balloc ?_ _) | (with_reducible refine Below.drew ?_) | (with_reducible refine below_drewN ?_ _) | (with_reducible refine bset ?_ ?_ _) | (with_reducible refine bstep ?_ (by assumption)) | go_size))) hb2
  clear g1
  obtain ⟨gc2, gf2⟩ := bcell g2
  have gz2 := bsize g2
  go_wp2_with fail
  refine (toRatio n d _).mono ?_
  rintro e w3 ⟨rfl, hb3⟩
  obtain ⟨hc3, hf3⟩ := bcell hb3
  have hz3 := bsize hb3
  have g3 := bjoin g2 (by (repeat' (first | (with_reducible exact Below.refl _ _) | (with_reducible assumption) | (with_reducible refine balloc ?_ _) | (with_reducible refine Below.drew ?_) | (with_reducible refine below_drewN ?_ _) | (with_reducible refine bset ?_ ?_ _) | (with_reducible refine bstep ?_ (by assumption)) | go_size))) hb3
  clear g2
  obtain ⟨gc3, gf3⟩ := bcell g3
  have gz3 := bsize g3
  clear gc2 gf2 gz2
  go_wp2_with fail
  refine (C2.out _).mono ?_
  rintro e w4 ⟨rfl, hb4⟩
  obtain ⟨hc4, hf4⟩ := bcell hb4
  have hz4 := bsize hb4
  have g4 := bjoin g3 (by (repeat' (first | (with_reducible exact Below.refl _ _) | (with_reducible assumption) | (with_reducible refine balloc ?_ _) | (with_reducible refine Below.drew ?_) | (with_reducible refine below_drewN ?_ _) | (with_reducible refine bset ?_ ?_ _) | (with_reducible refine bstep ?_ (by assumption)) | go_size))) hb4
  clear g3
  obtain ⟨gc4, gf4⟩ := bcell g4
  have gz4 := bsize g4
  clear gc3 gf3 gz3
  go_wp2_with fail
  go_ret
  exact ⟨rfl, by (repeat' (first | (with_reducible exact Below.refl _ _) | (with_reducible assumption) | (with_reducible refine balloc ?_ _) | (with_reducible refine Below.drew ?_) | (with_reducible refine below_drewN ?_ _) | (with_reducible refine bset ?_ ?_ _) | (with_reducible refine bstep ?_ (by assumption)) | go_size))⟩

set_option maxHeartbeats 400000 in
theorem walk_FnExactRatioCeil (n d : Int) (w : World) (_ : (Lit.int .i64 n).wf = true) (_ : (Lit.int .i64 d).wf = true) :
    Calls Try.prog 10 #[ratV n d] w fun e w' => e = .returned (.bool true) ∧ Below w.heap.size w w' := by
  obtain ⟨b, hb⟩ : ∃ b : Bool, b = true ↔ okZ n d := bool_of _
  have HB := Lib.hid hb
  clear hb
  have hv : ∃ v : Int, (if b then -(-n / d) else 0) = v := ⟨_, rfl⟩
  obtain ⟨v, hv⟩ := hv
  have c1 := fun w => specRatioCeil n d w b HB.out
  have c2 := fun w => implRatioCeil n d w b HB.out
  rw [hv] at c1 c2
  have C1 := Lib.hid c1
  have C2 := Lib.hid c2
  clear c1 c2 hv
  go_enter Try.func10, Try.ntmps10
  go_wp2_with fail
  refine (toRatio n d _).mono ?_
  rintro e w1 ⟨rfl, hb1⟩
  obtain ⟨hc1, hf1⟩ := bcell hb1
  have hz1 := bsize hb1
  have g1 := hb1
  go_wp2_with fail
  refine (C1.out _).mono ?_
  rintro e w2 ⟨rfl, hb2⟩
  obtain ⟨hc2, hf2⟩ := bcell hb2
  have hz2 := bsize hb2
  have g2 := bjoin g1 (by (repeat' (first | (with_reducible exact Below.refl _ _) | (with_reducible assumption) | (with_reducible refine balloc ?_ _) | (with_reducible refine Below.drew ?_) | (with_reducible refine below_drewN ?_ _) | (with_reducible refine bset ?_ ?_ _) | (with_reducible refine bstep ?_ (by assumption)) | go_size))) hb2
  clear g1
  obtain ⟨gc2, gf2⟩ := bcell g2
  have gz2 := bsize g2
  go_wp2_with fail
  refine (toRatio n d _).mono ?_
  rintro e w3 ⟨rfl, hb3⟩
  obtain ⟨hc3, hf3⟩ := bcell hb3
  have hz3 := bsize hb3
  have g3 := bjoin g2 (by (repeat' (first | (with_reducible exact Below.refl _ _) | (with_reducible assumption) | (with_reducible refine balloc ?_ _) | (with_reducible refine Below.drew ?_) | (with_reducible refine below_drewN ?_ _) | (with_reducible refine bset ?_ ?_ _) | (with_reducible refine bstep ?_ (by assumption)) | go_size))) hb3
  clear g2
  obtain ⟨gc3, gf3⟩ := bcell g3
  have gz3 := bsize g3
  clear gc2 gf2 gz2
  go_wp2_with fail
  refine (C2.out _).mono ?_
  rintro e w4 ⟨rfl, hb4⟩
  obtain ⟨hc4, hf4⟩ := bcell hb4
  have hz4 := bsize hb4
  have g4 := bjoin g3 (by (repeat' (first | (with_reducible exact Below.refl _ _) | (with_reducible assumption) | (with_reducible refine balloc ?_ _) | (with_reducible refine Below.drew ?_) | (with_reducible refine below_drewN ?_ _) | (with_reducible refine bset ?_ ?_ _) | (with_reducible refine bstep ?_ (by assumption)) | go_size))) hb4
  clear g3
  obtain ⟨gc4, gf4⟩ := bcell g4
  have gz4 := bsize g4
  clear gc3 gf3 gz3
  go_wp2_with fail
  go_ret
  exact ⟨rfl, by (repeat' (first | (with_reducible exact Below.refl _ _) | (with_reducible assumption) | (with_reducible refine balloc ?_ _) | (with_reducible refine Below.drew ?_) | (with_reducible refine below_drewN ?_ _) | (with_reducible refine bset ?_ ?_ _) | (with_reducible refine bstep ?_ (by assumption)) | go_size))⟩

end Go.Proofs.Yticfjfdfgcfnnaa