/- FormatInt of the program and of the reference write one decimal text. -/
import Derived.Test.YtjchindjoailbaaBase
import Derived.Test.YtjchindjoailbaaText
namespace Go.Proofs.Ytjchindjoailbaa
set_option linter.unusedSimpArgs false
set_option linter.unusedVariables false
open Go.RowKit


theorem enc_digit (n : Int) (h0 : 0 ≤ n) (h1 : n < 10) : Utf8.encode (48 + n) = bs (Gn.dig n.toNat) := by
  rw [Gn.dig_small _ (by omega)]
  obtain ⟨m, rfl⟩ := Int.eq_ofNat_of_zero_le h0
  have : m < 10 := by omega
  revert this
  have H : ∀ m : Nat, m < 10 → Utf8.encode (48 + (m : Int)) = bs [UInt8.ofNat (48 + m)] := by decide +kernel
  exact H m

set_option maxHeartbeats 400000 in
theorem implFmtPos (k : Nat) : ∀ (n : Int) (w : World), n ≤ k → 0 ≤ n → n ≤ 9223372036854775807 →
    Calls Try.prog 37 #[.int .i64 n] w fun e w' => e = .returned (.string (bs (Gn.dig n.toNat))) ∧ w = w' := by
  induction k with
  | zero =>
    intro n w h1 h2 h3
    obtain rfl : n = 0 := by omega
    go_enter Try.func37, Try.ntmps37
    go_wp2_with fail
    go_ret
    exact ⟨ret_str (enc_digit 0 (by omega) (by omega)), rfl⟩
  | succ k ih =>
    intro n w h1 h2 h3
    by_cases h10 : n < 10
    · go_enter Try.func37, Try.ntmps37
      go_wp2_with fail
      go_ret
      exact ⟨ret_str (enc_digit n (by omega) (by omega)), rfl⟩
    · have IH := Lib.hid ih
      clear ih
      have hl1 : (Gn.dig (n / 10).toNat).length ≤ 19 := by exact Gn.dig_len_19 _ (by omega)
      have hl2 : (Gn.dig (n % 10).toNat).length ≤ 19 := by exact Gn.dig_len_19 _ (by omega)
      have hm : 0 ≤ n % 10 ∧ n % 10 < 10 := by omega
      go_enter Try.func37, Try.ntmps37
      go_wp2_with fail
      refine (IH.out (n / 10) _ (by omega) (by omega) (by omega)).mono ?_
      rintro e w' ⟨rfl, rfl⟩
      go_wp2_with fail
      refine (IH.out (n % 10) _ (by omega) (by omega) (by omega)).mono ?_
      rintro e w' ⟨rfl, rfl⟩
      go_wp2_with fail
      go_ret
      refine ⟨ret_str ?_, rfl⟩
      rw [Gn.dig_step n.toNat (by omega), Gn.dig_small (n % 10).toNat (by omega)]
      rw [show (n / 10).toNat = n.toNat / 10 from by omega, show (n % 10).toNat = n.toNat % 10 from by omega]

theorem tdiv10 (n : Int) (h : n ≤ 0) : n.tdiv 10 = -((-n) / 10) := by
  have : (-(-n)).tdiv 10 = -((-n).tdiv 10) := Int.neg_tdiv _ _
  rw [Int.neg_neg] at this; rw [this, Int.tdiv_eq_ediv_of_nonneg (by omega)]
theorem tmod10 (n : Int) (h : n ≤ 0) : n.tmod 10 = -((-n) % 10) := by
  have : (-(-n)).tmod 10 = -((-n).tmod 10) := Int.neg_tmod _ _
  rw [Int.neg_neg] at this; rw [this, Int.tmod_eq_emod_of_nonneg (by omega)]
theorem tdm10 (n : Int) (h : n ≤ 0) : n = 10 * n.tdiv 10 + n.tmod 10 ∧ -10 < n.tmod 10 ∧ n.tmod 10 ≤ 0 ∧ n.tdiv 10 ≤ 0 := by
  rw [tdiv10 n h, tmod10 n h]; omega

theorem fmt_pos (n : Int) (h : 0 ≤ n) : Gn.fmt n = Gn.dig n.toNat := by
  unfold Gn.fmt; rw [if_neg (by omega)]; congr 1; omega
theorem fmt_neg (n : Int) (h : n < 0) : Gn.fmt n = 45 :: Gn.dig (-n).toNat := by
  unfold Gn.fmt; rw [if_pos h]; congr 2; omega
theorem fmt_neg_step (n : Int) (h : n ≤ -10) : Gn.fmt n = Gn.fmt (n.tdiv 10) ++ Gn.dig (-(n.tmod 10)).toNat := by
  have hX := tdm10 n (by omega)
  have h1 : n.tdiv 10 < 0 := by omega
  have h2 : -10 < n.tmod 10 ∧ n.tmod 10 ≤ 0 := by omega
  rw [fmt_neg n (by omega), fmt_neg _ h1, Gn.dig_step _ (by omega), Gn.dig_small (-(n.tmod 10)).toNat (by omega)]
  rw [show (-n).toNat / 10 = (-(n.tdiv 10)).toNat from by omega, show (-n).toNat % 10 = (-(n.tmod 10)).toNat from by omega]
  simp

set_option maxHeartbeats 400000 in
theorem implFmtNeg (k : Nat) : ∀ (n : Int) (w : World), -n ≤ k → n < 0 → -9223372036854775808 ≤ n →
    Calls Try.prog 37 #[.int .i64 n] w fun e w' => e = .returned (.string (bs (Gn.fmt n))) ∧ w = w' := by
  induction k with
  | zero => intro n w h1 h2 h3; omega
  | succ k ih =>
    intro n w h1 h2 h3
    by_cases h10 : -10 < n
    · have hl1 : (Gn.dig (-n).toNat).length ≤ 19 := by exact Gn.dig_len_19 _ (by omega)
      have H0 := Lib.hid (fmt_neg n h2)
      go_enter Try.func37, Try.ntmps37
      go_wp2_with fail
      refine (implFmtPos 10 (-n) _ (by omega) (by omega) (by omega)).mono ?_
      rintro e w' ⟨rfl, rfl⟩
      go_wp2_with fail
      go_ret
      refine ⟨ret_str ?_, rfl⟩
      rw [H0.out]; first | rfl | exact bs_append [45] _
    · have IH := Lib.hid ih
      clear ih
      have hX := tdm10 n (by omega)
      have hl1 : (Gn.fmt (n.tdiv 10)).length ≤ 20 := by exact Gn.fmt_len _ (by omega) (by omega)
      have hl2 : (Gn.dig (-(n.tmod 10)).toNat).length ≤ 19 := by exact Gn.dig_len_19 _ (by omega)
      have hm : -10 < n.tmod 10 ∧ n.tmod 10 ≤ 0 := by omega
      have hd : -922337203685477580 ≤ n.tdiv 10 ∧ n.tdiv 10 < 0 := by omega
      have H0 := Lib.hid (fmt_neg_step n (by omega))
      have H1 : -n.tdiv 10 ≤ (k : Int) := by omega
      clear hX
      go_enter Try.func37, Try.ntmps37
      go_wp2_with fail
      refine (IH.out (n.tdiv 10) _ H1 (by omega) (by omega)).mono ?_
      rintro e w' ⟨rfl, rfl⟩
      go_wp2_with fail
      refine (implFmtPos 10 (-(n.tmod 10)) _ (by omega) (by omega) (by omega)).mono ?_
      rintro e w' ⟨rfl, rfl⟩
      go_wp2_with fail
      go_ret
      refine ⟨ret_str ?_, rfl⟩
      rw [H0.out]

theorem implFmt (n : Int) (w : World) (h1 : -9223372036854775808 ≤ n) (h2 : n ≤ 9223372036854775807) :
    Calls Try.prog 37 #[.int .i64 n] w fun e w' => e = .returned (.string (bs (Gn.fmt n))) ∧ w = w' := by
  by_cases h : n < 0
  · exact implFmtNeg (-n).toNat n w (by omega) h h1
  · rw [fmt_pos n (by omega)]; exact implFmtPos n.toNat n w (by omega) (by omega) h2
/-- the text of one byte -/
theorem conv1 (w : World) (c : Int) :
    Sem.run Try.prog (convert 22 9 (.slice (some { block := w.heap.size, off := 0 }) 1 1)) (w.alloc (.cells #[.int .u8 c] 5)) =
      .ok (.string (bs [UInt8.ofNat c.toNat])) (w.alloc (.cells #[.int .u8 c] 5)) := by
  rw [run_convert_bytes_string _ _ _ _ _ _ _ Try.underlying22 Try.underlying5 Try.underlying9]
  rw [run_bytesToString _ _ _ _ [c] (by simp [go_sem])]
  rfl

theorem conv1_drew (w : World) (c : Int) :
    Sem.run Try.prog (convert 22 9 (.slice (some { block := w.heap.size, off := 0 }) 1 1)) (w.alloc (.cells #[.int .u8 c] 5)).drew =
      .ok (.string (bs [UInt8.ofNat c.toNat])) (w.alloc (.cells #[.int .u8 c] 5)).drew := by
  rw [run_convert_bytes_string _ _ _ _ _ _ _ Try.underlying22 Try.underlying5 Try.underlying9]
  rw [run_bytesToString _ _ _ _ [c] (by simp [go_sem])]
  rfl
theorem conv1_below {w w1 : World} {c : Int} (hb : Below (w.alloc (.cells #[.int .u8 c] 5)).drew.heap.size (w.alloc (.cells #[.int .u8 c] 5)).drew w1) :
    Sem.run Try.prog (convert 22 9 (.slice (some { block := w.heap.size, off := 0 }) 1 1)) w1 = .ok (.string (bs [UInt8.ofNat c.toNat])) w1 := by
  rw [run_convert_bytes_string _ _ _ _ _ _ _ Try.underlying22 Try.underlying5 Try.underlying9]
  have h := hb.cell (p := { block := w.heap.size, off := 0 }) (by simp)
  rw [run_bytesToString _ _ _ _ [c] (by simp [go_sem, h])]
  rfl

theorem str_ne (a : ByteArray) : ((a.toList == a.toList)) = true := by simp


end Go.Proofs.Ytjchindjoailbaa
