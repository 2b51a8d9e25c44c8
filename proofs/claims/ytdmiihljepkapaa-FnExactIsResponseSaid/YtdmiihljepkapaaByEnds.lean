/- The order of wires; small readers of the library and of the reference. -/
import Derived.Test.YtdmiihljepkapaaConn
import Derived.Test.YtdmiihljepkapaaDet
import Derived.Test.YtdmiihljepkapaaNets
import Derived.Test.YtdmiihljepkapaaHeld
namespace Go.Proofs.Ytdmiihljepkapaa
set_option linter.unusedSimpArgs false
set_option linter.unusedVariables false
open Go.RowKit

def cmpZ (x y : Int) : Int := if x < y then -1 else if y < x then 1 else 0
theorem isNaN (x : Int) (w : World) : Calls Try.prog 189 #[.int .i64 x] w fun e w' => e = .returned (.bool false) ∧ w = w' := by
  go_enter Try.func189, Try.ntmps189
  go_wp2_with fail
  go_ret
  exact ⟨by simp, rfl⟩
theorem compare (x y : Int) (w : World) : Calls Try.prog 172 #[.int .i64 x, .int .i64 y] w fun e w' => e = .returned (.int .i64 (cmpZ x y)) ∧ w = w' := by
  unfold cmpZ
  by_cases h1 : x < y
  · rw [if_pos h1]
    go_enter Try.func172, Try.ntmps172
    go_wp2_with fail
    refine (isNaN _ _).mono ?_
    rintro e w' ⟨rfl, rfl⟩
    go_wp2_with fail
    refine (isNaN _ _).mono ?_
    rintro e w' ⟨rfl, rfl⟩
    go_wp2_with fail
    go_ret
    exact ⟨rfl, rfl⟩
  · rw [if_neg h1]
    by_cases h2 : y < x
    · rw [if_pos h2]
      go_enter Try.func172, Try.ntmps172
      go_wp2_with fail
      refine (isNaN _ _).mono ?_
      rintro e w' ⟨rfl, rfl⟩
      go_wp2_with fail
      refine (isNaN _ _).mono ?_
      rintro e w' ⟨rfl, rfl⟩
      go_wp2_with fail
      go_ret
      exact ⟨rfl, rfl⟩
    · rw [if_neg h2]
      go_enter Try.func172, Try.ntmps172
      go_wp2_with fail
      refine (isNaN _ _).mono ?_
      rintro e w' ⟨rfl, rfl⟩
      go_wp2_with fail
      refine (isNaN _ _).mono ?_
      rintro e w' ⟨rfl, rfl⟩
      go_wp2_with fail
      go_ret
      exact ⟨rfl, rfl⟩

/-- cmp.Or of two numbers that lie side by side -/
theorem or2 (b : Nat) (x y v : Int) (hv : v = if x = 0 then y else x) (w : World) (h0 : w.cell? ⟨b, 0, none⟩ = some (.int .i64 x)) (h1 : w.cell? ⟨b, 1, none⟩ = some (.int .i64 y)) :
    Calls Try.prog 171 #[.slice (some ⟨b, 0, none⟩) 2 2] w fun e w' => e = .returned (.int .i64 v) ∧ w = w' := by
  subst hv
  by_cases hx : x = 0
  · subst hx
    rw [if_pos rfl]
    by_cases hy : y = 0
    · subst hy
      go_enter Try.func171, Try.ntmps171
      go_wp2_with fail
      go_rounds 3
      go_ret
      exact ⟨rfl, rfl⟩
    · have hy' : (y != 0) = true := by simp [hy]
      go_enter Try.func171, Try.ntmps171
      go_wp2_with fail
      go_rounds 2
      go_ret
      exact ⟨rfl, rfl⟩
  · rw [if_neg hx]
    have hx' : (x != 0) = true := by simp [hx]
    go_enter Try.func171, Try.ntmps171
    go_wp2_with fail
    go_rounds 1
    go_ret
    exact ⟨rfl, rfl⟩
def lexZ (p x : Wz) : Int := if cmpZ p.1 x.1 = 0 then cmpZ p.2.1 x.2.1 else cmpZ p.1 x.1
theorem lexZ_iff (p x : Wz) : lexlt p x ↔ lexZ p x < 0 := by
  unfold lexlt lexZ cmpZ
  by_cases h1 : p.1 < x.1
  · simp [h1]
  · by_cases h2 : x.1 < p.1
    · simp [h1, h2]; omega
    · have : p.1 = x.1 := by omega
      by_cases h3 : p.2.1 < x.2.1
      · simp [this, h3]
      · by_cases h4 : x.2.1 < p.2.1
        · simp [this, h3, h4]
        · simp [this, h3, h4]
set_option maxHeartbeats 2000000 in
theorem byEnds (p x : Wz) (w : World) : Calls Try.prog 125 #[wireA p, wireA x] w fun e w' => e = .returned (.int .i64 (lexZ p x)) ∧ Below w.heap.size w w' := by
  obtain ⟨p0, p1, p2⟩ := p
  obtain ⟨x0, x1, x2⟩ := x
  have hz : lexZ (p0, p1, p2) (x0, x1, x2) = if cmpZ p0 x0 = 0 then cmpZ p1 x1 else cmpZ p0 x0 := rfl
  have K0 := fun w => compare p0 x0 w
  have K1 := fun w => compare p1 x1 w
  generalize lexZ (p0, p1, p2) (x0, x1, x2) = z at hz
  generalize cmpZ p0 x0 = u at hz K0
  generalize cmpZ p1 x1 = v at hz K1
  have HZ := Lib.hid hz
  have KO := Lib.hid (fun (b : Nat) (w : World) h0 h1 => or2 b u v z HZ.out w h0 h1)
  have K0 := Lib.hid K0
  have K1 := Lib.hid K1
  clear hz
  go_enter Try.func125, Try.ntmps125
  go_wp2_with fail
  go_region_held3 (fun w' => w'.cell? ⟨w.heap.size, 0, none⟩ = some (.int .i64 p0) ∧ w'.cell? ⟨w.heap.size, 1, none⟩ = some (.int .i64 p1) ∧ w'.cell? ⟨w.heap.size + 1, 0, none⟩ = some (.int .i64 x0) ∧ w'.cell? ⟨w.heap.size + 1, 1, none⟩ = some (.int .i64 x1)) (go_keep)
    ((first
    | (go_at_call_of 172 p0; (with_reducible refine (K0.out _).mono ?_); rintro e w1 ⟨rfl, rfl⟩)
    | (go_at_call_of 172 p1; (with_reducible refine (K1.out _).mono ?_); rintro e w1 ⟨rfl, rfl⟩)
    | (go_at_call 171; (with_reducible refine (KO.out _ _ (by simp [go_sem]) (by simp [go_sem])).mono ?_); rintro e w1 ⟨rfl, rfl⟩)))
  all_goals
    go_wp2_with fail
    go_ret
    exact ⟨rfl, by (repeat' (first | (with_reducible exact Below.refl _ _) | (with_reducible assumption) | (with_reducible refine balloc ?_ _) | (with_reducible refine Below.drew ?_) | (with_reducible refine below_drewN ?_ _) | (with_reducible refine bset ?_ ?_ _) | (with_reducible refine bstep ?_ (by assumption)) | go_size))⟩
end Go.Proofs.Ytdmiihljepkapaa
