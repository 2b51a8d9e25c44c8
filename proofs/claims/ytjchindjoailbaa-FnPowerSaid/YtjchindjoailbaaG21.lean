/- The laws on sums, differences, products, the smaller and the greater of two fractions answer true. -/
import Derived.Test.YtjchindjoailbaaG06
import Derived.Test.YtjchindjoailbaaG01
namespace Go.Proofs.Ytjchindjoailbaa
set_option linter.unusedSimpArgs false
set_option linter.unusedVariables false
open Go.RowKit

/-- what a region of such a law leaves: a variable of its own that holds the fraction; all that was there is as it was -/
def Made (W0 : World) (g : Nat) (n d : Int) (wx : World) : Prop :=
  (W0.heap.size ≤ g ∧ g < wx.heap.size) ∧ (wx.cell? ⟨g, 0, none⟩ = some (.int .i64 n) ∧ wx.cell? ⟨g, 1, none⟩ = some (.int .i64 d)) ∧ Below W0.heap.size W0 wx

theorem made_alloc {W0 wc : World} (t : TypeId) (h : Below W0.heap.size W0 wc) (n d : Int) : Made W0 wc.heap.size n d (wc.alloc (.cells #[.int .i64 n, .int .i64 d] t)) :=
  ⟨⟨h.size, by simp⟩, ⟨by simp [go_sem], by simp [go_sem]⟩, balloc h _⟩
theorem made_set {W0 wc : World} {g : Nat} (h : Below W0.heap.size W0 wc) (hg : W0.heap.size ≤ g) {u v : Value} (h0 : wc.cell? ⟨g, 0, none⟩ = some u) (h1 : wc.cell? ⟨g, 1, none⟩ = some v) (n d : Int) :
    Made W0 g n d ((wc.setCell ⟨g, 0, none⟩ (.int .i64 n)).setCell ⟨g, 1, none⟩ (.int .i64 d)) := by
  have hs := World.block_lt_of_cell? wc _ h0
  refine ⟨⟨hg, by simpa using hs⟩, ⟨by simp [go_sem, h0], ?_⟩, bset (bset h hg _) hg _⟩
  have e := (World.cell?_setCell_other (w := wc) (a := ⟨g, 0, none⟩) (b := ⟨g, 1, none⟩) (v := .int .i64 n) (by simp)).trans h1
  rw [World.cell?_setCell_same' _ _ _ (by rw [e]; rfl)]




end Go.Proofs.Ytjchindjoailbaa

/- RatioCmp, RatioMin and RatioMax of the program and of the reference: both compare the cross products. -/
namespace Go.Proofs.Ytjchindjoailbaa
set_option linter.unusedSimpArgs false
set_option linter.unusedVariables false
open Go.RowKit

/-- the sign of a number -/
def sg (x : Int) : Int := if x < 0 then -1 else if x = 0 then 0 else 1
theorem sg_neg {x : Int} (h : x < 0) : sg x = -1 := by unfold sg; rw [if_pos h]
theorem sg_zero {x : Int} (h : x = 0) : sg x = 0 := by unfold sg; rw [if_neg (by omega), if_pos h]
theorem sg_pos {x : Int} (h : 0 < x) : sg x = 1 := by unfold sg; rw [if_neg (by omega), if_neg (by omega)]
theorem sg_cases (x : Int) : sg x = -1 ∨ sg x = 0 ∨ sg x = 1 := by unfold sg; split <;> (try split) <;> simp

theorem floor_parts (a b : Int) (hb : 0 < b) : ∃ x, a / b = x ∧ x * b ≤ a ∧ a < x * b + b := by
  refine ⟨_, rfl, Int.ediv_mul_le _ (by omega), ?_⟩
  have h1 := Int.mul_ediv_add_emod a b
  have h2 := Int.emod_lt_of_pos a hb
  rw [Int.mul_comm] at h1
  omega
theorem cross_lt {a b c d x y : Int} (hb : 0 < b) (hd : 0 < d) (h1 : a < x * b + b) (h2 : y * d ≤ c) (h : x < y) : a * d - c * b < 0 := by
  have e1 : x * b + b ≤ y * b := by
    have := Int.mul_le_mul_of_nonneg_right (show x + 1 ≤ y by omega) (show 0 ≤ b by omega)
    rw [Int.add_mul, Int.one_mul] at this; exact this
  have e2 : a * d < y * b * d := Int.mul_lt_mul_of_pos_right (by omega) hd
  have e3 : y * d * b ≤ c * b := Int.mul_le_mul_of_nonneg_right h2 (by omega)
  have e4 : y * b * d = y * d * b := by rw [Int.mul_assoc, Int.mul_comm b d, ← Int.mul_assoc]
  omega
theorem cross_step (a b c d x : Int) : d * (a - x * b) - b * (c - x * d) = a * d - c * b := by
  rw [Int.mul_sub, Int.mul_sub]
  have e1 : d * (x * b) = b * (x * d) := by rw [Int.mul_comm d, Int.mul_assoc, Int.mul_comm b d, ← Int.mul_assoc, Int.mul_comm x d, Int.mul_comm (d * x) b, Int.mul_comm d x]
  rw [Int.mul_comm d a, Int.mul_comm b c]
  omega
theorem cross_zero {a b c d x : Int} (ha : a - x * b = 0) (hc : c - x * d = 0) : a * d - c * b = 0 := by
  rw [← cross_step a b c d x, ha, hc]; simp
theorem cross_neg {a b c d x : Int} (hb : 0 < b) (ha : a - x * b = 0) (hc : 0 < c - x * d) : a * d - c * b < 0 := by
  rw [← cross_step a b c d x, ha]
  have := Int.mul_pos hb hc
  simp; omega
theorem cross_pos {a b c d x : Int} (hd : 0 < d) (ha : 0 < a - x * b) (hc : c - x * d = 0) : 0 < a * d - c * b := by
  rw [← cross_step a b c d x, hc]
  have := Int.mul_pos hd ha
  simp; omega
theorem cross_gt {a b c d x y : Int} (hb : 0 < b) (hd : 0 < d) (h1 : x * b ≤ a) (h2 : c < y * d + d) (h : y < x) : 0 < a * d - c * b := by
  have := cross_lt (a := c) (b := d) (c := a) (d := b) hd hb h2 h1 h
  omega

set_option maxHeartbeats 1000000 in
theorem implCompare (k : Nat) : ∀ (a b c d : Int) (w : World), b + d ≤ k → 0 < b → b ≤ 1000000000000000000 → 0 < d → d ≤ 1000000000000000000 →
    -1000000000000000000 ≤ a → a ≤ 1000000000000000000 → -1000000000000000000 ≤ c → c ≤ 1000000000000000000 →
    Calls Try.prog 84 #[.int .i64 a, .int .i64 b, .int .i64 c, .int .i64 d] w fun e w' => e = .returned (.int .i64 (sg (a * d - c * b))) ∧ w = w' := by
  induction k with
  | zero => intro a b c d w h1 h2 h3 h4; omega
  | succ k ih =>
    intro a b c d w hk hb hb2 hd hd2 ha1 ha2 hc1 hc2
    have IH := Lib.hid ih
    clear ih
    obtain ⟨x, hx, hx1, hx2⟩ := floor_parts a b hb
    obtain ⟨y, hy, hy1, hy2⟩ := floor_parts c d hd
    have F1 := Lib.hid (fun w => implFloor a b w hb hb2 ha1 ha2)
    have F2 := Lib.hid (fun w => implFloor c d w hd hd2 hc1 hc2)
    simp only [hx] at F1
    simp only [hy] at F2
    clear hx hy
    by_cases h1 : x < y
    · have HS := Lib.hid (sg_neg (cross_lt hb hd hx2 hy1 h1))
      go_enter Try.func84, Try.ntmps84
      go_wp2_with fail
      refine (F1.out _).mono ?_
      rintro e w' ⟨rfl, rfl⟩
      go_wp2_with fail
      refine (F2.out _).mono ?_
      rintro e w' ⟨rfl, rfl⟩
      go_wp2_with fail
      go_ret
      exact ⟨ret_int HS.out.symm, rfl⟩
    by_cases h2 : y < x
    · have HS := Lib.hid (sg_pos (cross_gt hb hd hx1 hy2 h2))
      go_enter Try.func84, Try.ntmps84
      go_wp2_with fail
      refine (F1.out _).mono ?_
      rintro e w' ⟨rfl, rfl⟩
      go_wp2_with fail
      refine (F2.out _).mono ?_
      rintro e w' ⟨rfl, rfl⟩
      go_wp2_with fail
      go_ret
      exact ⟨ret_int HS.out.symm, rfl⟩
    obtain rfl : x = y := by omega
    by_cases h3 : a - x * b = 0
    · by_cases h4 : c - x * d = 0
      · have HS := Lib.hid (sg_zero (cross_zero h3 h4))
        have t1 : (a - x * b == 0) = true := by simp [h3]
        have t2 : (c - x * d == 0) = true := by simp [h4]
        clear h3 h4
        go_enter Try.func84, Try.ntmps84
        go_wp2_with fail
        refine (F1.out _).mono ?_
        rintro e w' ⟨rfl, rfl⟩
        go_wp2_with fail
        refine (F2.out _).mono ?_
        rintro e w' ⟨rfl, rfl⟩
        go_wp2_with fail
        go_ret
        exact ⟨ret_int HS.out.symm, rfl⟩
      · have HS := Lib.hid (sg_neg (cross_neg (d := d) (c := c) hb h3 (by omega)))
        have t1 : (a - x * b == 0) = true := by simp [h3]
        have t2 : (c - x * d == 0) = false := by simp [h4]
        clear h3 h4
        go_enter Try.func84, Try.ntmps84
        go_wp2_with fail
        refine (F1.out _).mono ?_
        rintro e w' ⟨rfl, rfl⟩
        go_wp2_with fail
        refine (F2.out _).mono ?_
        rintro e w' ⟨rfl, rfl⟩
        go_wp2_with fail
        go_ret
        exact ⟨ret_int HS.out.symm, rfl⟩
    · have t1 : (a - x * b == 0) = false := by simp [h3]
      by_cases h4 : c - x * d = 0
      · have HS := Lib.hid (sg_pos (cross_pos (a := a) (b := b) hd (by omega) h4))
        have t2 : (c - x * d == 0) = true := by simp [h4]
        clear h3 h4
        go_enter Try.func84, Try.ntmps84
        go_wp2_with fail
        refine (F1.out _).mono ?_
        rintro e w' ⟨rfl, rfl⟩
        go_wp2_with fail
        refine (F2.out _).mono ?_
        rintro e w' ⟨rfl, rfl⟩
        go_wp2_with fail
        go_ret
        exact ⟨ret_int HS.out.symm, rfl⟩
      · have t2 : (c - x * d == 0) = false := by simp [h4]
        have HI := Lib.hid (fun w => IH.out d (c - x * d) b (a - x * b) w (by omega) (by omega) (by omega) (by omega) (by omega) (by omega) (by omega) (by omega) (by omega))
        simp only [cross_step] at HI
        clear h3 h4
        go_enter Try.func84, Try.ntmps84
        go_wp2_with fail
        refine (F1.out _).mono ?_
        rintro e w' ⟨rfl, rfl⟩
        go_wp2_with fail
        refine (F2.out _).mono ?_
        rintro e w' ⟨rfl, rfl⟩
        go_wp2_with fail
        refine (HI.out _).mono ?_
        rintro e w' ⟨rfl, rfl⟩
        go_wp2_with fail
        go_ret
        exact ⟨rfl, rfl⟩

/-- two valid fractions -/
def bothZ (n1 d1 n2 d2 : Int) : Prop := okZ n1 d1 ∧ okZ n2 d2
def cmpR (f : Bool) (n1 d1 n2 d2 : Int) : Int := if f = true then sg (n1 * d2 - n2 * d1) else 0
theorem cmpR_true (n1 d1 n2 d2 : Int) : cmpR true n1 d1 n2 d2 = sg (n1 * d2 - n2 * d1) := rfl
theorem cmpR_false (n1 d1 n2 d2 : Int) : cmpR false n1 d1 n2 d2 = 0 := rfl

set_option maxHeartbeats 2000000 in
theorem implCmp (n1 d1 n2 d2 : Int) (w : World) (f : Bool) (hf : f = true ↔ bothZ n1 d1 n2 d2) :
    Calls Try.prog 27 #[ratV n1 d1, ratV n2 d2] w fun e w' => e = .returned (.int .i64 (cmpR f n1 d1 n2 d2)) ∧ Below w.heap.size w w' := by
  by_cases g1 : okZ n1 d1
  case neg =>
    obtain rfl : f = false := bfalse hf (fun h => g1 h.1)
    clear hf
    have N1 := Lib.hid g1
    clear g1
    go_enter Try.func27, Try.ntmps27
    go_wp2_with fail
    refine (implRatioOk n1 d1 _ false ⟨fun h => (by cases h), fun h => absurd h N1.out⟩).mono ?_
    rintro e w1 ⟨rfl, hb1⟩
    obtain ⟨hc1, hf1⟩ := bcell hb1
    have hz1 := bsize hb1
    have g1 := hb1
    go_wp2_with fail
    go_ret
    exact ⟨rfl, by (repeat' (first | (with_reducible exact Below.refl _ _) | (with_reducible assumption) | (with_reducible refine balloc ?_ _) | (with_reducible refine Below.drew ?_) | (with_reducible refine below_drewN ?_ _) | (with_reducible refine bset ?_ ?_ _) | (with_reducible refine bstep ?_ (by assumption)) | go_size))⟩
  have G1 := Lib.hid g1
  have bd1 := okZ_i64 g1
  clear g1
  by_cases g2 : okZ n2 d2
  case neg =>
    obtain rfl : f = false := bfalse hf (fun h => g2 h.2)
    clear hf
    have N2 := Lib.hid g2
    clear g2
    go_enter Try.func27, Try.ntmps27
    go_wp2_with fail
    refine (implRatioOk n1 d1 _ true ⟨fun _ => G1.out, fun _ => rfl⟩).mono ?_
    rintro e w1 ⟨rfl, hb1⟩
    obtain ⟨hc1, hf1⟩ := bcell hb1
    have hz1 := bsize hb1
    have g1 := hb1
    go_wp2_with fail
    refine (implRatioOk n2 d2 _ false ⟨fun h => (by cases h), fun h => absurd h N2.out⟩).mono ?_
    rintro e w2 ⟨rfl, hb2⟩
    obtain ⟨hc2, hf2⟩ := bcell hb2
    have hz2 := bsize hb2
    have g2 := bjoin g1 (by (repeat' (first | (with_reducible exact Below.refl _ _) | (with_reducible assumption) | (with_reducible refine balloc ?_ _) | (with_reducible refine Below.drew ?_) | (with_reducible refine below_drewN ?_ _) | (with_reducible refine bset ?_ ?_ _) | (with_reducible refine bstep ?_ (by assumption)) | go_size))) hb2
    clear g1
    obtain ⟨gc2, gf2⟩ := bcell g2
    have gz2 := bsize g2
    go_wp2_with fail
    go_ret
    exact ⟨rfl, by (repeat' (first | (with_reducible exact Below.refl _ _) | (with_reducible assumption) | (with_reducible refine balloc ?_ _) | (with_reducible refine Below.drew ?_) | (with_reducible refine below_drewN ?_ _) | (with_reducible refine bset ?_ ?_ _) | (with_reducible refine bstep ?_ (by assumption)) | go_size))⟩
  have G2 := Lib.hid g2
  have bd2 := okZ_i64 g2
  clear g2
  obtain rfl : f = true := hf.2 ⟨G1.out, G2.out⟩
  clear hf
  have K := Lib.hid (fun w => implCompare (d1 + d2).toNat n1 d1 n2 d2 w (by omega) (by omega) (by omega) (by omega) (by omega) (by omega) (by omega) (by omega) (by omega))
  go_enter Try.func27, Try.ntmps27
  go_wp2_with fail
  refine (implRatioOk n1 d1 _ true ⟨fun _ => G1.out, fun _ => rfl⟩).mono ?_
  rintro e w1 ⟨rfl, hb1⟩
  obtain ⟨hc1, hf1⟩ := bcell hb1
  have hz1 := bsize hb1
  have g1 := hb1
  go_wp2_with fail
  refine (implRatioOk n2 d2 _ true ⟨fun _ => G2.out, fun _ => rfl⟩).mono ?_
  rintro e w2 ⟨rfl, hb2⟩
  obtain ⟨hc2, hf2⟩ := bcell hb2
  have hz2 := bsize hb2
  have g2 := bjoin g1 (by (repeat' (first | (with_reducible exact Below.refl _ _) | (with_reducible assumption) | (with_reducible refine balloc ?_ _) | (with_reducible refine Below.drew ?_) | (with_reducible refine below_drewN ?_ _) | (with_reducible refine bset ?_ ?_ _) | (with_reducible refine bstep ?_ (by assumption)) | go_size))) hb2
  clear g1
  obtain ⟨gc2, gf2⟩ := bcell g2
  have gz2 := bsize g2
  go_wp2_with fail
  refine (K.out _).mono ?_
  rintro e w' ⟨rfl, rfl⟩
  go_wp2_with fail
  go_ret
  exact ⟨rfl, by (repeat' (first | (with_reducible exact Below.refl _ _) | (with_reducible assumption) | (with_reducible refine balloc ?_ _) | (with_reducible refine Below.drew ?_) | (with_reducible refine below_drewN ?_ _) | (with_reducible refine bset ?_ ?_ _) | (with_reducible refine bstep ?_ (by assumption)) | go_size))⟩

theorem both_sym {n1 d1 n2 d2 : Int} {f : Bool} (h : f = true ↔ bothZ n1 d1 n2 d2) : f = true → okZ n1 d1 ∧ okZ n2 d2 := fun e => h.1 e
/-- the smaller of two fractions; the greater -/
def minR (f : Bool) (n1 d1 n2 d2 : Int) : Int × Int := if f = true then (if sg (n1 * d2 - n2 * d1) ≤ 0 then (n1, d1) else (n2, d2)) else (0, 0)
def maxR (f : Bool) (n1 d1 n2 d2 : Int) : Int × Int := if f = true then (if 0 ≤ sg (n1 * d2 - n2 * d1) then (n1, d1) else (n2, d2)) else (0, 0)

end Go.Proofs.Ytjchindjoailbaa
