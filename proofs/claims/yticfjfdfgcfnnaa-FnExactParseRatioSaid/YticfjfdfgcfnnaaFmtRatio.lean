/- FormatRatio of the program and of the reference write one text. -/
import Derived.Test.YticfjfdfgcfnnaaFloor2
import Derived.Test.YticfjfdfgcfnnaaFmt
namespace Go.Proofs.Yticfjfdfgcfnnaa
set_option linter.unusedSimpArgs false
set_option linter.unusedVariables false
open Go.RowKit

/-- the text of a valid fraction -/
def fmtR (n d : Int) : List UInt8 := if d = 1 then Gn.fmt n else Gn.fmt n ++ [47] ++ Gn.fmt d
theorem fmtR_one (n : Int) : fmtR n 1 = Gn.fmt n := if_pos rfl
theorem fmtR_ne (n d : Int) (h : d ≠ 1) : fmtR n d = Gn.fmt n ++ [47] ++ Gn.fmt d := if_neg h

theorem bs_slash (a b : List UInt8) : bs a ++ { data := #[47] } ++ bs b = bs (a ++ [47] ++ b) := by
  rw [show ({ data := #[47] } : ByteArray) = bs [47] from rfl, bs_append, bs_append]

set_option maxRecDepth 100000 in
set_option maxHeartbeats 1000000 in
theorem implFmtRatio (n d : Int) (w : World) (b : Bool) (h : b = true ↔ okZ n d) :
    Calls Try.prog 50 #[ratV n d] w fun e w' => e = .returned (.string (bs (if b then fmtR n d else []))) ∧ Below w.heap.size w w' := by
  have HB := Lib.hid h
  clear h
  cases b with
  | false =>
    go_enter Try.func50, Try.ntmps50
    go_wp2_with fail
    refine (implRatioOk n d _ false HB.out).mono ?_
    rintro e w1 ⟨rfl, hb1⟩
    obtain ⟨hc1, hf1⟩ := bcell hb1
    have hz1 := bsize hb1
    have g1 := hb1
    go_wp2_with fail
    go_ret
    exact ⟨ret_str (by rfl), by (repeat' (first | (with_reducible exact Below.refl _ _) | (with_reducible assumption) | (with_reducible refine balloc ?_ _) | (with_reducible refine Below.drew ?_) | (with_reducible refine below_drewN ?_ _) | (with_reducible refine bset ?_ ?_ _) | (with_reducible refine bstep ?_ (by assumption)) | go_size))⟩
  | true =>
    have HO : Hid (okZ n d) := HB.out.1 rfl
    clear HB
    obtain ⟨k1, k2, k3, k4⟩ := okZ_bd HO.out
    by_cases h1 : d = 1
    · subst h1
      go_enter Try.func50, Try.ntmps50
      go_wp2_with fail
      refine (implRatioOk n 1 _ true ⟨fun _ => HO.out, fun _ => rfl⟩).mono ?_
      rintro e w1 ⟨rfl, hb1⟩
      obtain ⟨hc1, hf1⟩ := bcell hb1
      have hz1 := bsize hb1
      have g1 := hb1
      go_wp2_with fail
      refine (implFmt n _ (by omega) (by omega)).mono ?_
      rintro e w' ⟨rfl, rfl⟩
      go_wp2_with fail
      go_ret
      exact ⟨ret_str ((by rw [fmtR_one])), by (repeat' (first | (with_reducible exact Below.refl _ _) | (with_reducible assumption) | (with_reducible refine balloc ?_ _) | (with_reducible refine Below.drew ?_) | (with_reducible refine below_drewN ?_ _) | (with_reducible refine bset ?_ ?_ _) | (with_reducible refine bstep ?_ (by assumption)) | go_size))⟩
    · have h1' : (d == 1) = false := by simp [h1]
      have HR := Lib.hid (fmtR_ne n d h1)
      have l1 := Gn.fmt_len n (by omega) (by omega)
      have l2 := Gn.fmt_len d (by omega) (by omega)
      have C1 := Lib.hid (fun w => implFmt n w (by omega) (by omega))
      have C2 := Lib.hid (fun w => implFmt d w (by omega) (by omega))
      clear h1
      go_enter Try.func50, Try.ntmps50
      go_wp2_with fail
      refine (implRatioOk n d _ true ⟨fun _ => HO.out, fun _ => rfl⟩).mono ?_
      rintro e w1 ⟨rfl, hb1⟩
      obtain ⟨hc1, hf1⟩ := bcell hb1
      have hz1 := bsize hb1
      have g1 := hb1
      go_wp2_with fail
      go_region_with (first | (go_at_call_of 32 n; ((with_reducible refine (C1.out _).mono ?_); rintro e w2 ⟨rfl, rfl⟩)) | (go_at_call_of 32 d; ((with_reducible refine (C2.out _).mono ?_); rintro e w2 ⟨rfl, rfl⟩)))
      all_goals
        go_wp2_with fail
        go_ret
        exact ⟨ret_str (by rw [HR.out]; exact bs_slash _ _), by (repeat' (first | (with_reducible exact Below.refl _ _) | (with_reducible assumption) | (with_reducible refine balloc ?_ _) | (with_reducible refine Below.drew ?_) | (with_reducible refine below_drewN ?_ _) | (with_reducible refine bset ?_ ?_ _) | (with_reducible refine bstep ?_ (by assumption)) | go_size))⟩

set_option maxRecDepth 100000 in
set_option maxHeartbeats 1000000 in
theorem specFmtRatio (n d : Int) (w : World) (b : Bool) (h : b = true ↔ okZ n d) :
    Calls Try.prog 49 #[ratV n d] w fun e w' => e = .returned (.string (bs (if b then fmtR n d else []))) ∧ Below w.heap.size w w' := by
  have HB := Lib.hid h
  clear h
  cases b with
  | false =>
    go_enter Try.func49, Try.ntmps49
    go_wp2_with fail
    refine (specRatioOk n d _ false HB.out).mono ?_
    rintro e w1 ⟨rfl, hb1⟩
    obtain ⟨hc1, hf1⟩ := bcell hb1
    have hz1 := bsize hb1
    have g1 := hb1
    go_wp2_with fail
    go_ret
    exact ⟨ret_str (by rfl), by (repeat' (first | (with_reducible exact Below.refl _ _) | (with_reducible assumption) | (with_reducible refine balloc ?_ _) | (with_reducible refine Below.drew ?_) | (with_reducible refine below_drewN ?_ _) | (with_reducible refine bset ?_ ?_ _) | (with_reducible refine bstep ?_ (by assumption)) | go_size))⟩
  | true =>
    have HO : Hid (okZ n d) := HB.out.1 rfl
    clear HB
    obtain ⟨k1, k2, k3, k4⟩ := okZ_bd HO.out
    by_cases h1 : d = 1
    · subst h1
      go_enter Try.func49, Try.ntmps49
      go_wp2_with fail
      refine (specRatioOk n 1 _ true ⟨fun _ => HO.out, fun _ => rfl⟩).mono ?_
      rintro e w1 ⟨rfl, hb1⟩
      obtain ⟨hc1, hf1⟩ := bcell hb1
      have hz1 := bsize hb1
      have g1 := hb1
      go_wp2_with fail
      refine (specFmt n _ (by omega) (by omega)).mono ?_
      rintro e w2 ⟨rfl, hb2⟩
      obtain ⟨hc2, hf2⟩ := bcell hb2
      have hz2 := bsize hb2
      have g2 := bjoin g1 (by (repeat' (first | (with_reducible exact Below.refl _ _) | (with_reducible assumption) | (with_reducible refine balloc ?_ _) | (with_reducible refine Below.drew ?_) | (with_reducible refine below_drewN ?_ _) | (with_reducible refine bset ?_ ?_ _) | (with_reducible refine bstep ?_ (by assumption)) | go_size))) hb2
      clear g1
      obtain ⟨gc2, gf2⟩ := bcell g2
      have gz2 := bsize g2
      go_wp2_with fail
      go_ret
      exact ⟨ret_str ((by rw [fmtR_one])), by (repeat' (first | (with_reducible exact Below.refl _ _) | (with_reducible assumption) | (with_reducible refine balloc ?_ _) | (with_reducible refine Below.drew ?_) | (with_reducible refine below_drewN ?_ _) | (with_reducible refine bset ?_ ?_ _) | (with_reducible refine bstep ?_ (by assumption)) | go_size))⟩
    · have h1' : (d == 1) = false := by simp [h1]
      have HR := Lib.hid (fmtR_ne n d h1)
      have l1 := Gn.fmt_len n (by omega) (by omega)
      have l2 := Gn.fmt_len d (by omega) (by omega)
      have C1 := Lib.hid (fun w => specFmt n w (by omega) (by omega))
      have C2 := Lib.hid (fun w => specFmt d w (by omega) (by omega))
      clear h1
      go_enter Try.func49, Try.ntmps49
      go_wp2_with fail
      refine (specRatioOk n d _ true ⟨fun _ => HO.out, fun _ => rfl⟩).mono ?_
      rintro e w1 ⟨rfl, hb1⟩
      obtain ⟨hc1, hf1⟩ := bcell hb1
      have hz1 := bsize hb1
      have g1 := hb1
      go_wp2_with fail
      go_region_with (first | (go_at_call_of 31 n; ((with_reducible refine (C1.out _).mono ?_); rintro e w2 ⟨rfl, hb2⟩); (try (replace hb2 := bdrew hb2)); obtain ⟨hc2, hf2⟩ := bcell hb2; have hz2 := bsize hb2) | (go_at_call_of 31 d; ((with_reducible refine (C2.out _).mono ?_); rintro e w3 ⟨rfl, hb3⟩); (try (replace hb3 := bdrew hb3)); obtain ⟨hc3, hf3⟩ := bcell hb3; have hz3 := bsize hb3))
      all_goals
        go_wp2_with fail
        go_ret
        exact ⟨ret_str (by rw [HR.out]; exact bs_slash _ _), by (repeat' (first | (with_reducible exact Below.refl _ _) | (with_reducible assumption) | (with_reducible refine balloc ?_ _) | (with_reducible refine Below.drew ?_) | (with_reducible refine below_drewN ?_ _) | (with_reducible refine bset ?_ ?_ _) | (with_reducible refine bstep ?_ (by assumption)) | go_size))⟩

set_option maxHeartbeats 400000 in
theorem walk_FnExactFormatRatio (n d : Int) (w : World) (_ : (Lit.int .i64 n).wf = true) (_ : (Lit.int .i64 d).wf = true) :
    Calls Try.prog 13 #[ratV n d] w fun e w' => e = .returned (.bool true) ∧ Below w.heap.size w w' := by
  obtain ⟨b, hb⟩ : ∃ b : Bool, b = true ↔ okZ n d := bool_of _
  have HB := Lib.hid hb
  clear hb
  obtain ⟨v, hv⟩ : ∃ v, bs (if b then fmtR n d else []) = v := ⟨_, rfl⟩
  have c1 := fun w => specFmtRatio n d w b HB.out
  have c2 := fun w => implFmtRatio n d w b HB.out
  rw [hv] at c1 c2
  have C1 := Lib.hid c1
  have C2 := Lib.hid c2
  clear c1 c2 hv
  go_enter Try.func13, Try.ntmps13
  go_wp2_with fail
  refine (toRatio n d _).mono ?_
  rintro e w1 ⟨rfl, hb1⟩
  obtain ⟨hc1, hf1⟩ := bcell hb1
  have hz1 := bsize hb1
  have g1 := hb1
  go_wp2_with fail
  refine (C1.out _).mono ?_
  rintro e w2 ⟨rfl, hb2⟩
  obtain ⟨hc2, hf2⟩ := bcell hb2
  have hz2 := bsize hb2
  have g2 := bjoin g1 (by (repeat' (first | (with_reducible exact Below.refl _ _) | (with_reducible assumption) | (with_reducible refine balloc ?_ _) | (with_reducible refine Below.drew ?_) | (with_reducible refine below_drewN ?_ _) | (with_reducible refine bset ?_ ?_ _) | (with_reducible refine bstep ?_ (by assumption)) | go_size))) hb2
  clear g1
  obtain ⟨gc2, gf2⟩ := bcell g2
  have gz2 := bsize g2
  go_wp2_with fail
  refine (toRatio n d _).mono ?_
  rintro e w3 ⟨rfl, hb3⟩
  obtain ⟨hc3, hf3⟩ := bcell hb3
  have hz3 := bsize hb3
  have g3 := bjoin g2 (by (repeat' (first | (with_reducible exact Below.refl _ _) | (with_reducible assumption) | (with_reducible refine balloc ?_ _) | (with_reducible refine Below.drew ?_) | (with_reducible refine below_drewN ?_ _) | (with_reducible refine bset ?_ ?_ _) | (with_reducible refine bstep ?_ (by assumption)) | go_size))) hb3
  clear g2
  obtain ⟨gc3, gf3⟩ := bcell g3
  have gz3 := bsize g3
  clear gc2 gf2 gz2
  go_wp2_with fail
  refine (C2.out _).mono ?_
  rintro e w4 ⟨rfl, hb4⟩
  obtain ⟨hc4, hf4⟩ := bcell hb4
  have hz4 := bsize hb4
  have g4 := bjoin g3 (by (repeat' (first | (with_reducible exact Below.refl _ _) | (with_reducible assumption) | (with_reducible refine balloc ?_ _) | (with_reducible refine Below.drew ?_) | (with_reducible refine below_drewN ?_ _) | (with_reducible refine bset ?_ ?_ _) | (with_reducible refine bstep ?_ (by assumption)) | go_size))) hb4
  clear g3
  obtain ⟨gc4, gf4⟩ := bcell g4
  have gz4 := bsize g4
  clear gc3 gf3 gz3
  go_wp2_with fail
  go_ret
  exact ⟨rfl, by (repeat' (first | (with_reducible exact Below.refl _ _) | (with_reducible assumption) | (with_reducible refine balloc ?_ _) | (with_reducible refine Below.drew ?_) | (with_reducible refine below_drewN ?_ _) | (with_reducible refine bset ?_ ?_ _) | (with_reducible refine bstep ?_ (by assumption)) | go_size))⟩

end Go.Proofs.Yticfjfdfgcfnnaa
