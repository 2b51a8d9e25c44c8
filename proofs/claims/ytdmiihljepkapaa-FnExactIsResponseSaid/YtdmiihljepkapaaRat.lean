/- Plain facts on fractions in lowest terms, with no program in sight. -/
import Derived.WalkKit
namespace Gn

def gz (n d : Int) : Nat := Nat.gcd n.natAbs d.natAbs
/-- numerator and denominator of n / d in lowest terms, the denominator positive -/
def ratN (n d : Int) : Int := if (decide (n < 0) != decide (d < 0)) = true then -((n.natAbs / gz n d : Nat) : Int) else ((n.natAbs / gz n d : Nat) : Int)
def ratD (n d : Int) : Int := ((d.natAbs / gz n d : Nat) : Int)
/-- what RatioOf gives: the fraction in lowest terms, or zeros if it is none or too large -/
def fit (n d : Int) : Bool := decide (d ≠ 0) && decide (n.natAbs / gz n d ≤ 1000000000000000000) && decide (d.natAbs / gz n d ≤ 1000000000000000)
def rat (n d : Int) : Int × Int := if fit n d = true then (ratN n d, ratD n d) else (0, 0)

theorem gz_pos (n d : Int) (h : d ≠ 0) : 0 < gz n d := Nat.gcd_pos_of_pos_right _ (by omega)
theorem gz_dvd_n (n d : Int) : gz n d ∣ n.natAbs := Nat.gcd_dvd_left _ _
theorem gz_dvd_d (n d : Int) : gz n d ∣ d.natAbs := Nat.gcd_dvd_right _ _
theorem ratD_pos (n d : Int) (h : d ≠ 0) : 0 < ratD n d := by
  unfold ratD
  have := Nat.div_pos (Nat.le_of_dvd (by omega) (gz_dvd_d n d)) (gz_pos n d h)
  omega
theorem ratN_abs (n d : Int) : (ratN n d).natAbs = n.natAbs / gz n d := by
  unfold ratN; generalize n.natAbs / gz n d = x; split <;> omega
theorem ratD_abs (n d : Int) : (ratD n d).natAbs = d.natAbs / gz n d := by
  unfold ratD; generalize d.natAbs / gz n d = x; omega
theorem rat_coprime (n d : Int) (h : d ≠ 0) : Nat.gcd (ratN n d).natAbs (ratD n d).natAbs = 1 := by
  rw [ratN_abs, ratD_abs]
  exact (Nat.coprime_div_gcd_div_gcd (gz_pos n d h))
/-- it is the same fraction -/
theorem rat_cross (n d : Int) : ratN n d * d = n * ratD n d := by
  have hn := Nat.div_mul_cancel (gz_dvd_n n d)
  have hd := Nat.div_mul_cancel (gz_dvd_d n d)
  generalize hg : gz n d = g at hn hd
  have key : ((n.natAbs / g : Nat) : Int) * (d.natAbs : Int) = (n.natAbs : Int) * ((d.natAbs / g : Nat) : Int) := by
    generalize ha : n.natAbs / g = a at hn
    generalize hb : d.natAbs / g = b at hd
    rw [← hn, ← hd]; simp only [Int.natCast_mul]
    rw [Int.mul_assoc, Int.mul_comm (b : Int) (g : Int)]
  unfold ratN ratD
  rw [hg]
  by_cases h1 : n < 0
  · by_cases h2 : d < 0
    · rw [if_neg (by simp [h1, h2])]
      have e1 : n = -(n.natAbs : Int) := by omega
      have e2 : d = -(d.natAbs : Int) := by omega
      have e3 : ((n.natAbs / g : Nat) : Int) * d = -(((n.natAbs / g : Nat) : Int) * (d.natAbs : Int)) := by
        rw [← Int.mul_neg, ← e2]
      have e4 : n * ((d.natAbs / g : Nat) : Int) = -((n.natAbs : Int) * ((d.natAbs / g : Nat) : Int)) := by
        rw [← Int.neg_mul, ← e1]
      rw [e3, e4, key]
    · rw [if_pos (by simp [h1, h2])]
      have e1 : n = -(n.natAbs : Int) := by omega
      have e2 : d = (d.natAbs : Int) := by omega
      rw [Int.neg_mul]
      have e3 : n * ((d.natAbs / g : Nat) : Int) = -((n.natAbs : Int) * ((d.natAbs / g : Nat) : Int)) := by
        rw [← Int.neg_mul, ← e1]
      rw [e3, ← key, ← e2]
  · by_cases h2 : d < 0
    · rw [if_pos (by simp [h1, h2])]
      have e1 : n = (n.natAbs : Int) := by omega
      have e2 : d = -(d.natAbs : Int) := by omega
      rw [Int.neg_mul]
      have e3 : ((n.natAbs / g : Nat) : Int) * d = -(((n.natAbs / g : Nat) : Int) * (d.natAbs : Int)) := by
        rw [← Int.mul_neg, ← e2]
      rw [e3, key, Int.neg_neg, ← e1]
    · rw [if_neg (by simp [h1, h2])]
      have e1 : n = (n.natAbs : Int) := by omega
      have e2 : d = (d.natAbs : Int) := by omega
      rw [← e1, ← e2] at key
      exact key

end Gn
