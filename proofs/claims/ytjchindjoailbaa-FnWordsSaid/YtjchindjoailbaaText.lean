/- Plain facts on decimal text, with no program in sight. -/
import Derived.WalkKit
namespace Gn

/-- the decimal digits of n -/
def dig (n : Nat) : List UInt8 := if n < 10 then [UInt8.ofNat (48 + n)] else dig (n / 10) ++ [UInt8.ofNat (48 + n % 10)]
termination_by n
decreasing_by omega

theorem dig_small (n : Nat) (h : n < 10) : dig n = [UInt8.ofNat (48 + n)] := by rw [dig, if_pos h]
theorem dig_step (n : Nat) (h : 10 ≤ n) : dig n = dig (n / 10) ++ [UInt8.ofNat (48 + n % 10)] := by rw [dig, if_neg (by omega)]

/-- the decimal text of n -/
def fmt (n : Int) : List UInt8 := if n < 0 then 45 :: dig n.natAbs else dig n.natAbs

theorem dig_len (k : Nat) : ∀ n, n < 10 ^ (k + 1) → (dig n).length ≤ k + 1 := by
  induction k with
  | zero => intro n h; rw [dig_small n (by omega)]; simp
  | succ k ih =>
    intro n h
    by_cases h10 : n < 10
    · rw [dig_small n h10]; simp
    · rw [dig_step n (by omega)]
      have := ih (n / 10) (by rw [Nat.pow_succ] at h; omega)
      simp; omega

theorem dig_len_19 (n : Nat) (h : n ≤ 9223372036854775808) : (dig n).length ≤ 19 := dig_len 18 n (by omega)

theorem fmt_len (n : Int) (h1 : -9223372036854775808 ≤ n) (h2 : n ≤ 9223372036854775807) : (fmt n).length ≤ 20 := by
  unfold fmt
  have := dig_len_19 n.natAbs (by omega)
  split <;> simp <;> omega

end Gn
