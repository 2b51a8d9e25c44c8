/- The two roundings down compute the integer quotient rounded down; RatioFloor and RatioCeil. -/
import Derived.Test.YtdmiihljepkapaaRatioOk2
namespace Go.Proofs.Ytdmiihljepkapaa
set_option linter.unusedSimpArgs false
set_option linter.unusedVariables false
open Go.RowKit

theorem ediv_of {n d q : Int} (hd : 0 < d) (h1 : q * d ≤ n) (h2 : n < (q + 1) * d) : n / d = q := by
  have a : q ≤ n / d := (Int.le_ediv_iff_mul_le hd).2 h1
  have b : n / d < q + 1 := (Int.ediv_lt_iff_lt_mul hd).2 h2
  omega

theorem tdiv_parts (n d : Int) (hd : 0 < d) (hn : n < 0) : ∃ t r : Int, n.tdiv d = t ∧ n.tmod d = r ∧ t * d + r = n ∧ -d < r ∧ r ≤ 0 ∧ n ≤ t ∧ t ≤ 0 := by
  have e1 : (-(-n)).tdiv d = -((-n).tdiv d) := Int.neg_tdiv _ _
  have e2 : (-(-n)).tmod d = -((-n).tmod d) := Int.neg_tmod _ _
  rw [Int.neg_neg] at e1 e2
  rw [show (-n).tdiv d = -n / d from Int.tdiv_eq_ediv_of_nonneg (by omega)] at e1
  rw [show (-n).tmod d = -n % d from Int.tmod_eq_emod_of_nonneg (by omega)] at e2
  have h3 := Int.mul_ediv_add_emod (-n) d
  have h4 := Int.emod_nonneg (-n) (show d ≠ 0 by omega)
  have h5 := Int.emod_lt_of_pos (-n) hd
  have h6 : 0 ≤ (-n) / d := Int.ediv_nonneg (by omega) (by omega)
  have h7 : (-n) / d ≤ -n := Int.ediv_le_self _ (by omega)
  refine ⟨_, _, e1, e2, ?_, by omega, by omega, by omega, by omega⟩
  rw [Int.neg_mul, Int.mul_comm]; omega

set_option maxHeartbeats 400000 in
theorem implFloor (n d : Int) (w : World) (hd : 0 < d) (hd2 : d ≤ 1000000000000000000) (h1 : -1000000000000000000 ≤ n) (h2 : n ≤ 1000000000000000000) :
    Calls Try.prog 167 #[.int .i64 n, .int .i64 d] w fun e w' => e = .returned (.int .i64 (n / d)) ∧ w = w' := by
  have hd0 : (d == 0) = false := by simp; omega
  have hd1 : (d == -1) = false := by simp; omega
  by_cases hn : 0 ≤ n
  · have hq : 0 ≤ n / d := Int.ediv_nonneg hn (by omega)
    have hq2 : n / d ≤ n := Int.ediv_le_self _ hn
    have hm : n / d * d ≤ n := Int.ediv_mul_le _ (by omega)
    have hm2 : 0 ≤ n / d * d := Int.mul_nonneg hq (by omega)
    go_enter Try.func167, Try.ntmps167
    go_wp2_with fail
    go_ret
    exact ⟨rfl, rfl⟩
  · obtain ⟨t, r, ht, hr, he, hr1, hr2, ht1, ht2⟩ := tdiv_parts n d hd (by omega)
    have hm : n ≤ t * d := by omega
    have hm2 : t * d ≤ 1000000000000000000 := by omega
    have HE := Lib.hid he
    by_cases h0 : r < 0
    · have h0' : n < t * d := by omega
      clear he
      go_enter Try.func167, Try.ntmps167
      go_wp2_with fail
      go_ret
      refine ⟨ret_int (ediv_of hd ?_ ?_).symm, rfl⟩
      · have := HE.out; rw [Int.sub_mul]; omega
      · have := HE.out; rw [show t - 1 + 1 = t by omega]; omega
    · have h0' : ¬ n < t * d := by omega
      clear he
      go_enter Try.func167, Try.ntmps167
      go_wp2_with fail
      go_ret
      refine ⟨ret_int (ediv_of hd ?_ ?_).symm, rfl⟩
      · have := HE.out; omega
      · have := HE.out; rw [Int.add_mul]; omega

end Go.Proofs.Ytdmiihljepkapaa
