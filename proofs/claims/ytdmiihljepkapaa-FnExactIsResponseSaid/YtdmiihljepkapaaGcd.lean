/- GcdOf of the program and of the reference compute the greatest common divisor. -/
import Derived.Test.YtdmiihljepkapaaBase
namespace Go.Proofs.Ytdmiihljepkapaa
set_option linter.unusedSimpArgs false
set_option linter.unusedVariables false
open Go.RowKit





theorem gcd_step (x y : Nat) : Nat.gcd y (x % y) = Nat.gcd x y := by
  rw [Nat.gcd_comm x y, Nat.gcd_rec y x, Nat.gcd_comm]

set_option maxHeartbeats 400000 in
theorem implCommon (a b : Nat) (w : World) (ha : a ≤ 9223372036854775808) (hb : b ≤ 9223372036854775808) :
    Calls Try.prog 111 #[.int .u64 a, .int .u64 b] w fun e w' => e = .returned (.int .u64 (Nat.gcd a b : Nat)) ∧ ∃ n, w' = w.drewN n := by
  go_enter Try.func111, Try.ntmps111
  go_wp2_with fail
  go_loopw [0, 1] (fun u v wr => ∃ x y : Nat, x ≤ 9223372036854775808 ∧ y ≤ 9223372036854775808 ∧ u = .int .u64 x ∧ v = .int .u64 y ∧ Hid (Nat.gcd x y = Nat.gcd a b) ∧ ∃ n, wr = w.drewN n) (fun _ v _ => (intOf v).toNat)
  case atStart => exact ⟨a, b, ha, hb, rfl, rfl, rfl, 0, rfl⟩
  case round =>
    obtain ⟨x, y, hx, hy, rfl, rfl, H, n, rfl⟩ := hrel
    by_cases h0 : y = 0
    · subst h0
      go_wp2_with fail
      go_ret
      exact ⟨ret_int (by rw [← H.out]; simp), n, rfl⟩
    · have h0' : ((y : Int) != 0) = true := by simp; omega
      have hlt : x % y < y := Nat.mod_lt _ (by omega)
      have H' := Lib.hid (gcd_step x y)
      go_wp2_with fail
      go_quiet (fail)
      go_wp2_with fail
      go_roundw
      case rel => exact ⟨y, x % y, hy, by omega, rfl, by go_num, H'.out.trans H.out, _, World.drewN_drewN _ _ _⟩
      case measure => simp [intOf]; omega

set_option maxHeartbeats 400000 in
theorem implSize (n : Int) (w : World) (h1 : -9223372036854775808 ≤ n) (h2 : n ≤ 9223372036854775807) :
    Calls Try.prog 112 #[.int .i64 n] w fun e w' => e = .returned (.int .u64 (n.natAbs : Nat)) ∧ w = w' := by
  by_cases h : n < 0
  · go_enter Try.func112, Try.ntmps112
    go_wp2_with fail
    go_ret
    refine ⟨ret_int ?_, rfl⟩
    go_arith
  · go_enter Try.func112, Try.ntmps112
    go_wp2_with fail
    go_ret
    refine ⟨ret_int ?_, rfl⟩
    go_arith

/-- what GcdOf computes -/
def gcdZ (a b : Int) : Int := if a = -9223372036854775808 ∨ b = -9223372036854775808 then 0 else (Nat.gcd a.natAbs b.natAbs : Nat)

theorem gcd_le (a b : Int) (ha1 : -9223372036854775807 ≤ a) (ha2 : a ≤ 9223372036854775807) (hb1 : -9223372036854775807 ≤ b) (hb2 : b ≤ 9223372036854775807) : Nat.gcd a.natAbs b.natAbs ≤ 9223372036854775807 := by
  by_cases h : a.natAbs = 0
  · rw [h]; simp; omega
  · have := Nat.gcd_le_left b.natAbs (show 0 < a.natAbs by omega); omega

set_option maxHeartbeats 400000 in
theorem implGcd (a b : Int) (w : World) (ha1 : -9223372036854775808 ≤ a) (ha2 : a ≤ 9223372036854775807) (hb1 : -9223372036854775808 ≤ b) (hb2 : b ≤ 9223372036854775807) :
    Calls Try.prog 166 #[.int .i64 a, .int .i64 b] w fun e w' => e = .returned (.int .i64 (gcdZ a b)) ∧ ∃ n, w' = w.drewN n := by
  by_cases h1 : a = -9223372036854775808
  · subst h1
    go_enter Try.func166, Try.ntmps166
    go_wp2_with fail
    go_ret
    exact ⟨ret_int (by simp [gcdZ]), 0, rfl⟩
  by_cases h2 : b = -9223372036854775808
  · subst h2
    have h1' : (a == -9223372036854775808) = false := by simp; omega
    go_enter Try.func166, Try.ntmps166
    go_wp2_with fail
    go_ret
    exact ⟨ret_int (by simp [gcdZ]), 0, rfl⟩
  have h1' : (a == -9223372036854775808) = false := by simp; omega
  have h2' : (b == -9223372036854775808) = false := by simp; omega
  have hg := gcd_le a b (by omega) (by omega) (by omega) (by omega)
  have HE : Hid (gcdZ a b = (Nat.gcd a.natAbs b.natAbs : Nat)) := by unfold gcdZ; exact if_neg (by omega)
  have hz1 : a.natAbs ≤ 9223372036854775808 := by omega
  have hz2 : b.natAbs ≤ 9223372036854775808 := by omega
  go_enter Try.func166, Try.ntmps166
  go_wp2_with fail
  refine (implSize a _ ha1 ha2).mono ?_
  rintro e w' ⟨rfl, rfl⟩
  go_wp2_with fail
  refine (implSize b _ hb1 hb2).mono ?_
  rintro e w' ⟨rfl, rfl⟩
  go_wp2_with fail
  refine (implCommon a.natAbs b.natAbs _ hz1 hz2).mono ?_
  rintro e w' ⟨rfl, n, rfl⟩
  go_wp2_with fail
  go_ret
  refine ⟨ret_int ?_, n, rfl⟩
  rw [HE.out]

set_option maxHeartbeats 400000 in
theorem specTurn (x y : Nat) (w : World) (hx : x ≤ 9223372036854775807) (hy : y ≤ 9223372036854775807) (h0 : y ≠ 0) :
    Calls Try.prog 191 #[.int .i64 x, .int .i64 y] w fun e w' => e = .returned (.tuple #[.int .i64 y, .int .i64 ((x : Int) % (y : Int))]) ∧ ∃ n, w' = w.drewN n := by
  have hlt : x % y < y := Nat.mod_lt _ (by omega)
  have h0' : ((y : Int) == 0) = false := by simp; omega
  have hw1 : (x : Int).tmod y = (x : Int) % (y : Int) := by rw [Int.tmod_eq_emod_of_nonneg (by omega)]
  have hw2 : IntKind.i64.wrap ((x : Int) % (y : Int)) = (x : Int) % (y : Int) := IntWalk.i64_in _ (by omega)
  go_enter Try.func191, Try.ntmps191
  go_wp2_with fail
  go_quiet (fail)
  go_wp2_with fail
  go_ret2
  exact ⟨rfl, _, rfl⟩

set_option maxHeartbeats 400000 in
theorem specGcd (a b : Int) (w : World) (ha1 : -9223372036854775808 ≤ a) (ha2 : a ≤ 9223372036854775807) (hb1 : -9223372036854775808 ≤ b) (hb2 : b ≤ 9223372036854775807) :
    Calls Try.prog 177 #[.int .i64 a, .int .i64 b] w fun e w' => e = .returned (.int .i64 (gcdZ a b)) ∧ ∃ n, w' = w.drewN n := by
  by_cases h1 : a = -9223372036854775808
  · subst h1
    go_enter Try.func177, Try.ntmps177
    go_wp2_with fail
    go_ret
    exact ⟨ret_int (by simp [gcdZ]), 0, rfl⟩
  by_cases h2 : b = -9223372036854775808
  · subst h2
    have h1' : ¬ a < -9223372036854775807 := by omega
    go_enter Try.func177, Try.ntmps177
    go_wp2_with fail
    go_ret
    exact ⟨ret_int (by simp [gcdZ]), 0, rfl⟩
  have h1' : ¬ a < -9223372036854775807 := by omega
  have h2' : ¬ b < -9223372036854775807 := by omega
  have hg := gcd_le a b (by omega) (by omega) (by omega) (by omega)
  have HE : Hid (gcdZ a b = (Nat.gcd a.natAbs b.natAbs : Nat)) := by unfold gcdZ; exact if_neg (by omega)
  have hz1 : a.natAbs ≤ 9223372036854775807 := by omega
  have hz2 : b.natAbs ≤ 9223372036854775807 := by omega
  go_enter Try.func177, Try.ntmps177
  go_wp2_with fail
  all_goals
    go_loopw [0, 1] (fun u v wr => ∃ x y : Nat, x ≤ 9223372036854775807 ∧ y ≤ 9223372036854775807 ∧ u = .int .i64 x ∧ v = .int .i64 y ∧ Hid (Nat.gcd x y = Nat.gcd a.natAbs b.natAbs) ∧ ∃ n, wr = w.drewN n) (fun _ v _ => (intOf v).toNat)
    case atStart => exact ⟨a.natAbs, b.natAbs, hz1, hz2, int_eq (by omega), int_eq (by omega), rfl, 0, rfl⟩
    case round =>
      obtain ⟨x, y, hx, hy, rfl, rfl, H, n, rfl⟩ := hrel
      by_cases h0 : y = 0
      · subst h0
        go_wp2_with fail
        go_ret
        exact ⟨ret_int (by rw [HE.out, ← H.out]; simp), n, rfl⟩
      · have h0' : ((y : Int) != 0) = true := by simp; omega
        have hlt : x % y < y := Nat.mod_lt _ (by omega)
        have H' := Lib.hid (gcd_step x y)
        go_wp2_with fail
        refine (specTurn x y _ hx hy h0).mono ?_
        rintro e w' ⟨rfl, m, rfl⟩
        go_wp2_with fail
        go_roundw
        case rel => exact ⟨y, x % y, hy, by omega, rfl, by go_num, H'.out.trans H.out, _, rfl⟩
        case measure => simp [intOf]; omega


end Go.Proofs.Ytdmiihljepkapaa
