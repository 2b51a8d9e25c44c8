/- The numbers that a code draws: the reference's cursor over bytes. -/
import Derived.Test.YtjchindjoailbaaG17b
import Derived.Test.YtjchindjoailbaaG01
import Derived.IntWalk
import Derived.Laws.Bits64
import Derived.Test.YtjchindjoailbaaG07
import Derived.Test.YtjchindjoailbaaG16
import Derived.Test.YtjchindjoailbaaG05
namespace Go.Proofs.Ytjchindjoailbaa
set_option linter.unusedSimpArgs false
set_option linter.unusedVariables false
open Go.RowKit

theorem and_bd (x : Int) : 0 ≤ bits .and .i64 x 255 ∧ bits .and .i64 x 255 ≤ 255 := by
  have h1 : (BitVec.ofInt 64 x &&& BitVec.ofInt 64 255).toNat ≤ 255 := by
    rw [BitVec.toNat_and]
    have : (BitVec.ofInt 64 255).toNat = 255 := by decide
    rw [this]
    exact Nat.and_le_right
  show 0 ≤ IntKind.i64.wrap ((BitVec.ofInt 64 x &&& BitVec.ofInt 64 255).toNat : Int) ∧ IntKind.i64.wrap ((BitVec.ofInt 64 x &&& BitVec.ofInt 64 255).toNat : Int) ≤ 255
  rw [IntWalk.i64_in _ (by omega)]
  omega
/-- bytes as cells -/
def u8s (l : List Int) : List Value := l.map (Value.int .u8)
/-- a cursor's box -/
def curAt (a : Option Addr) (n c : Nat) (i h : Int) (k : Nat) : Value := if k = 0 then .slice a n c else if k = 1 then .int .i64 i else .int .i64 h
/-- a cursor at block g over the code's bytes -/
def Curs (w : World) (g : Nat) (a : Option Addr) (n c : Nat) (zs : List Int) : Prop :=
  ∃ (i : Nat) (h : Int), i ≤ n ∧ w.rowIs g 127 3 (curAt a n c i h) ∧ ArgRow w a n c 1 (u8s zs) ∧ ∀ ad, a = some ad → 0 < n → ad.block ≠ g
theorem curAt_set2 {w : World} {b : Nat} {t : TypeId} {a : Option Addr} {n c : Nat} {i h : Int} (hr : w.rowIs b t 3 (curAt a n c i h)) (h' : Int) : (w.setCell ⟨b, 2, none⟩ (.int .i64 h')).rowIs b t 3 (curAt a n c i h') :=
  (hr.set 2 _).congr (fun i hi => by
    have : i = 0 ∨ i = 1 ∨ i = 2 := by omega
    rcases this with rfl | rfl | rfl <;> rfl)
theorem curAt_set1 {w : World} {b : Nat} {t : TypeId} {a : Option Addr} {n c : Nat} {i h : Int} (hr : w.rowIs b t 3 (curAt a n c i h)) (i' : Int) : (w.setCell ⟨b, 1, none⟩ (.int .i64 i')).rowIs b t 3 (curAt a n c i' h) :=
  (hr.set 1 _).congr (fun i hi => by
    have : i = 0 ∨ i = 1 ∨ i = 2 := by omega
    rcases this with rfl | rfl | rfl <;> rfl)
theorem curAt_cells {w : World} {b : Nat} {t : TypeId} {a : Option Addr} {n c : Nat} {i h : Int} (hr : w.rowIs b t 3 (curAt a n c i h)) : w.cell? ⟨b, 0, none⟩ = some (.slice a n c) ∧ w.cell? ⟨b, 1, none⟩ = some (.int .i64 i) ∧ w.cell? ⟨b, 2, none⟩ = some (.int .i64 h) :=
  ⟨hr.cell (i := 0) (by omega), hr.cell (i := 1) (by omega), hr.cell (i := 2) (by omega)⟩
theorem ArgRow.grown {w w' : World} {a : Option Addr} {n cap size : Nat} {xs : List Value} {r : Option Nat} (h : ArgRow w a n cap size xs) (hg : w.grownBy w' r) (hne : ∀ ad, a = some ad → 0 < n → some ad.block ≠ r) : ArgRow w' a n cap size xs := by
  obtain ⟨h1, h2, h3, h4⟩ := h
  refine ⟨h1, h2, h3, ?_⟩
  by_cases h0 : n = 0
  · exact .inl h0
  · rcases h4 with h4 | ⟨b, off, rfl, h5, h6⟩
    · exact .inl h4
    · have hb := hg.block b h5 (hne _ rfl (by omega))
      exact .inr ⟨b, off, rfl, Nat.lt_of_lt_of_le h5 hg.size, fun j hj => by rw [World.cell?_of_block (a := ⟨b, off + j, none⟩) hb]; exact h6 j hj⟩
theorem u8s_len (l : List Int) : (u8s l).length = l.length := by simp [u8s]
theorem u8_cell {w : World} {b o n c : Nat} {l : List Int} (h : ArgRow w (some ⟨b, o, none⟩) n c 1 (u8s l)) (i : Nat) (hi : i < n) : ∃ z, w.cell? ⟨b, o + i, none⟩ = some (.int .u8 z) := by
  have hl := u8s_len l
  obtain ⟨b', o', e, _, hc⟩ := h.form (by omega)
  cases e
  have h1 := h.1
  exact ⟨l[i]'(by omega), by rw [hc i (by omega)]; simp [u8s]⟩

theorem grown_drewN (w : World) (k : Nat) (r : Option Nat) : w.grownBy (w.drewN k) r := grown_below (below_drewN (Below.refl _ _) _)
theorem Curs.grown {w w' : World} {g : Nat} {a : Option Addr} {n c : Nat} {zs : List Int} {r : Option Nat} (h : Curs w g a n c zs) (hg : w.grownBy w' r) (hr : some g ≠ r) (hb : ∀ ad, a = some ad → 0 < n → some ad.block ≠ r) : Curs w' g a n c zs := by
  obtain ⟨i, k, h1, h2, h3, h4⟩ := h
  exact ⟨i, k, h1, h2.of_block (hg.block g h2.lt hr), h3.grown hg hb, h4⟩
theorem Curs.below {w w' : World} {g : Nat} {a : Option Addr} {n c : Nat} {zs : List Int} (h : Curs w g a n c zs) (hb : Below w.heap.size w w') : Curs w' g a n c zs :=
  h.grown (r := none) (grown_below hb) (by simp) (by simp)
theorem Curs.lt {w : World} {g : Nat} {a : Option Addr} {n c : Nat} {zs : List Int} (h : Curs w g a n c zs) : g < w.heap.size := by
  obtain ⟨i, k, h1, h2, h3, h4⟩ := h
  exact h2.lt
theorem Curs.set {w : World} {g : Nat} {a : Option Addr} {n c : Nat} {zs : List Int} {i : Nat} {h : Int} (hi : i ≤ n) (h2 : w.rowIs g 127 3 (curAt a n c i h)) (h3 : ArgRow w a n c 1 (u8s zs)) (h4 : ∀ ad, a = some ad → 0 < n → ad.block ≠ g) : Curs w g a n c zs := ⟨i, h, hi, h2, h3, h4⟩

set_option maxRecDepth 100000 in
set_option maxHeartbeats 4000000 in
theorem specByte (g : Nat) (a : Option Addr) (n c : Nat) (zs : List Int) (w : World) (hc : Curs w g a n c zs) :
    Calls Try.prog 75 #[.pointer (some ⟨g, 0, none⟩)] w fun e w' => ∃ x : Int, e = .returned (.int .i64 x) ∧ 0 ≤ x ∧ x ≤ 255 ∧ Curs w' g a n c zs ∧ w.grownBy w' (some g) := by
  obtain ⟨i, h, hi, hrow, hcode, hne⟩ := hc
  have hn := hcode.le
  unfold maxLen at hn
  obtain ⟨c0, c1, c2⟩ := curAt_cells hrow
  have f1 := hrow.frozen 1
  have f2 := hrow.frozen 2
  have hl := hrow.lt
  have HRow := Lib.hid hrow
  have HCode := Lib.hid hcode
  have HNe := Lib.hid hne
  have HB := Lib.hid and_bd
  have kept : ∀ (w' : World), w.grownBy w' (some g) → ArgRow w' a n c 1 (u8s zs) := fun w' hg => HCode.out.grown hg (fun ad e h0 e2 => HNe.out ad e h0 (by simpa using e2))
  have HK := Lib.hid kept
  clear kept
  by_cases hlt : i < n
  · obtain ⟨b, o, rfl, hb, _⟩ := hcode.form (by omega)
    obtain ⟨z, hz⟩ := u8_cell hcode i hlt
    have hbg : ¬ b = g := hne _ rfl (by omega)
    have hgb : ¬ g = b := fun e => hbg e.symm
    have e1 : IntKind.i64.wrap ((i : Int) + 1) = (i : Int) + 1 := IntWalk.i64_in _ (by omega)
    clear hrow hcode hne
    go_enter Try.func75, Try.ntmps75
    go_wp2_with fail
    go_quiet (fail)
    go_wp2_with fail
    go_quiet (fail)
    go_wp2_with fail
    go_quiet (fail)
    go_wp2_with fail
    go_ret
    refine ⟨_, rfl, (HB.out _).1, (HB.out _).2, ?_, ?_⟩
    · have h1 := curAt_set1 (curAt_set2 HRow.out (wrap64 (wrap64 (h * 6364136223846793005) + 1442695040888963407))) ((i + 1 : Nat) : Int)
      exact Curs.set (i := i + 1) (by omega) h1 (HK.out _ (grown_trans (grown_set w ⟨g, 2, none⟩ _) (grown_trans (grown_drewN _ _ _) (grown_set _ ⟨g, 1, none⟩ _)))) HNe.out
    · exact grown_trans (grown_set w ⟨g, 2, none⟩ _) (grown_trans (grown_drewN _ _ _) (grown_set _ ⟨g, 1, none⟩ _))
  · clear hrow hcode hne
    go_enter Try.func75, Try.ntmps75
    go_wp2_with fail
    go_quiet (fail)
    go_wp2_with fail
    go_quiet (fail)
    go_wp2_with fail
    go_ret
    refine ⟨_, rfl, (HB.out _).1, (HB.out _).2, ?_, ?_⟩
    · exact Curs.set hi (curAt_set2 HRow.out (wrap64 (wrap64 (h * 6364136223846793005) + 1442695040888963407))) (HK.out _ (grown_trans (grown_set w ⟨g, 2, none⟩ _) (grown_trans (grown_drewN _ _ _) (grown_drewN _ _ _)))) HNe.out
    · exact grown_trans (grown_set w ⟨g, 2, none⟩ _) (grown_trans (grown_drewN _ _ _) (grown_drewN _ _ _))
set_option maxHeartbeats 2000000 in
theorem specDraw (k : Int) (hk : 1 ≤ k ∧ k ≤ 256) (g : Nat) (a : Option Addr) (n c : Nat) (zs : List Int) (w : World) (hc : Curs w g a n c zs) :
    Calls Try.prog 83 #[.pointer (some ⟨g, 0, none⟩), .int .i64 k] w fun e w' => ∃ x : Int, e = .returned (.int .i64 x) ∧ (0 ≤ x ∧ x < k) ∧ Curs w' g a n c zs ∧ w.grownBy w' (some g) := by
  have HC := Lib.hid hc
  clear hc
  go_enter Try.func83, Try.ntmps83
  go_wp2_with fail
  refine (specByte g a n c zs _ HC.out).mono ?_
  rintro e w1 ⟨x, rfl, h0, h1, hc1, hg1⟩
  have C1 := Lib.hid hc1
  have G1 := Lib.hid hg1
  have hm : 0 ≤ x % k ∧ x % k < k := ⟨Int.emod_nonneg _ (by omega), Int.emod_lt_of_pos _ (by omega)⟩
  clear hc1 hg1
  go_wp2_with fail
  go_ret
  exact ⟨_, rfl, hm, C1.out, G1.out⟩

set_option maxRecDepth 100000 in
set_option maxHeartbeats 4000000 in
theorem specNew (a : Option Addr) (n c : Nat) (zs : List Int) (w : World) (hr : ArgRow w a n c 1 (u8s zs)) (hn : n ≤ 1048576) :
    Calls Try.prog 73 #[.slice a n c] w fun e w' => ∃ g, e = .returned (.pointer (some ⟨g, 0, none⟩)) ∧ w.heap.size ≤ g ∧ Curs w' g a n c zs ∧ Below w.heap.size w w' := by
  have HR := Lib.hid hr
  have HBK : Hid (∀ ad, a = some ad → 0 < n → ad.block < w.heap.size) := fun ad e h0 => by
    obtain ⟨b, o, e2, hb, _⟩ := HR.out.form h0
    rw [e] at e2; cases e2; exact hb
  clear hr
  go_enter Try.func73, Try.ntmps73
  go_wp2_with fail
  go_loopw [3, 4] (fun v u wr => ∃ (i : Nat) (h : Int), i ≤ n ∧ u = .int .i64 i ∧ v = .int .i64 h ∧ wr = w) (fun _ u _ => n - (intOf u).toNat)
  case atStart => exact ⟨0, _, by omega, rfl, rfl, rfl⟩
  case round =>
    obtain ⟨i, h, hi, rfl, rfl, rfl⟩ := hrel
    by_cases hlt : i < n ∧ i < 4000
    · obtain ⟨h1, h2⟩ := hlt
      obtain ⟨b, o, rfl, hb, _⟩ := HR.out.form (by omega)
      obtain ⟨z, hz⟩ := u8_cell HR.out i h1
      go_wp2_with fail
      go_roundw
      case rel => exact ⟨i + 1, _, by omega, by go_num, rfl, by trivial⟩
      case measure => simp [intOf]; omega
    · have hfin : ∀ (h : Int), Curs (wr.alloc (.cells #[.slice a n c, .int .i64 0, .int .i64 h] 127)) wr.heap.size a n c zs := fun h => by
        refine ⟨0, h, by omega, World.rowIs_alloc wr _ _ _ (fun i hi => ?_), HR.out.below (balloc (Below.refl _ _) _), fun ad e h0 => Nat.ne_of_lt (HBK.out ad e h0)⟩
        have : i = 0 ∨ i = 1 ∨ i = 2 := by simp at hi; omega
        rcases this with rfl | rfl | rfl <;> rfl
      have HFin := Lib.hid hfin
      clear hfin
      by_cases h1 : i < n
      · have h2 : ¬ i < 4000 := fun h => hlt ⟨h1, h⟩
        clear hlt
        go_wp2_with fail
        go_ret
        exact ⟨_, rfl, Nat.le_refl _, HFin.out _, balloc (Below.refl _ _) _⟩
      · clear hlt
        go_wp2_with fail
        go_ret
        exact ⟨_, rfl, Nat.le_refl _, HFin.out _, balloc (Below.refl _ _) _⟩

/-- what was below a cursor's making stays -/
theorem below_grown {B : Nat} {w w1 w2 : World} {g : Nat} (h : Below B w w1) (hB : B ≤ w1.heap.size) (hg : w1.grownBy w2 (some g)) (hBg : B ≤ g) : Below B w w2 :=
  h.grown hg hB (fun k hk => by cases hk; exact hBg)
set_option maxRecDepth 100000 in
set_option maxHeartbeats 4000000 in
theorem specSkip (k : Nat) (hk : k ≤ 1000) (a : Option Addr) (n c : Nat) (zs : List Int) (w : World) (hr : ArgRow w a n c 1 (u8s zs)) (hn : n ≤ 1048576) :
    Calls Try.prog 74 #[.slice a n c, .int .i64 k] w fun e w' => ∃ g, e = .returned (.pointer (some ⟨g, 0, none⟩)) ∧ w.heap.size ≤ g ∧ Curs w' g a n c zs ∧ Below w.heap.size w w' := by
  have HR := Lib.hid hr
  clear hr
  go_enter Try.func74, Try.ntmps74
  go_wp2_with fail
  refine (specNew a n c zs _ HR.out hn).mono ?_
  rintro e w1 ⟨g, rfl, hg, hc, hb⟩
  have C1 := Lib.hid hc
  have B1 := Lib.hid hb
  clear hc hb
  go_wp2_with fail
  go_loopw [6] (fun u wr => ∃ i : Nat, i ≤ k ∧ u = .int .i64 i ∧ Hid (Curs wr g a n c zs) ∧ Hid (Below w.heap.size w wr)) (fun u _ => k - (intOf u).toNat)
  case atStart => exact ⟨0, by omega, rfl, C1.out, B1.out⟩
  case round =>
    clear C1 B1
    obtain ⟨i, hi, rfl, C1, B1⟩ := hrel
    by_cases hlt : i < k
    · go_wp2_with fail
      refine (specByte g a n c zs _ C1.out).mono ?_
      rintro e w2 ⟨x, rfl, h0, h1, hc2, hg2⟩
      have C2 := Lib.hid hc2
      have B2 := Lib.hid (below_grown B1.out B1.out.size hg2 hg)
      clear hc2 hg2
      go_wp2_with fail
      go_roundw
      case rel => exact ⟨i + 1, by omega, by go_num, C2.out, B2.out⟩
      case measure => simp [intOf]; omega
    · obtain rfl : i = k := by omega
      go_wp2_with fail
      go_ret
      exact ⟨g, rfl, hg, C1.out, B1.out⟩

set_option maxRecDepth 100000 in
set_option maxHeartbeats 4000000 in
theorem specNum (k : Nat) (hk : k ≤ 1000) (a : Option Addr) (n c : Nat) (zs : List Int) (w : World) (hr : ArgRow w a n c 1 (u8s zs)) (hn : n ≤ 1048576) :
    Calls Try.prog 16 #[.slice a n c, .int .i64 k] w fun e w' => ∃ x : Int, e = .returned (.int .i64 x) ∧ (0 ≤ x ∧ x < 65536) ∧ Below w.heap.size w w' := by
  have HR := Lib.hid hr
  clear hr
  go_enter Try.func16, Try.ntmps16
  go_wp2_with fail
  refine (specSkip k hk a n c zs _ HR.out hn).mono ?_
  rintro e w1 ⟨g, rfl, hg, hc, hb⟩
  have C1 := Lib.hid hc
  have B1 := Lib.hid hb
  clear hc hb
  go_wp2_with fail
  refine (specByte g a n c zs _ C1.out).mono ?_
  rintro e w2 ⟨x, rfl, h0, h1, hc2, hg2⟩
  have C2 := Lib.hid hc2
  have B2 := Lib.hid (below_grown B1.out B1.out.size hg2 hg)
  clear hc2 hg2
  go_wp2_with fail
  refine (specByte g a n c zs _ C2.out).mono ?_
  rintro e w3 ⟨y, rfl, h2, h3, hc3, hg3⟩
  have B3 := Lib.hid (below_grown B2.out B2.out.size hg3 hg)
  clear hc3 hg3
  go_wp2_with fail
  go_ret
  exact ⟨x * 256 + y, rfl, by omega, B3.out⟩
end Go.Proofs.Ytjchindjoailbaa

/- Sums, differences, products of fractions by numerators and denominators that need not be the lowest. Plain Lean. -/
namespace Gn
theorem rat_eq {n d n' d' : Int} (hd : 0 < d) (hd' : 0 < d') (h : n * d' = n' * d) : rat n d = rat n' d' := by
  rw [← rat_mul hd' n d, ← rat_mul hd n' d', Int.mul_comm d' n, h, Int.mul_comm n' d, Int.mul_comm d' d]
theorem rat_zero {d : Int} (hd : 0 < d) : rat 0 d = (0, 1) := by
  rw [rat_eq (n' := 0) (d' := 1) hd (by omega) (by simp)]; decide
theorem rat_self {d : Int} (hd : 0 < d) : rat d d = (1, 1) := by
  rw [rat_eq (n' := 1) (d' := 1) hd (by omega) (by omega)]; decide
theorem rat_flip {n d : Int} (hn : 0 < n) (hd : d < 0) : rat n d = rat (-n) (-d) := by
  have hg : gz (-n) (-d) = gz n d := by unfold gz; rw [Int.natAbs_neg, Int.natAbs_neg]
  have e1 : ratN n d = ratN (-n) (-d) := by
    unfold ratN; rw [hg, Int.natAbs_neg]
    rw [if_pos (by simp; omega), if_pos (by simp; omega)]
  have e2 : ratD n d = ratD (-n) (-d) := by unfold ratD; rw [hg, Int.natAbs_neg]
  have e3 : fit n d = fit (-n) (-d) := by
    unfold fit; rw [hg, Int.natAbs_neg, Int.natAbs_neg]
    have : (d ≠ 0) = (-d ≠ 0) := by simp
    simp only [this]
  unfold rat; rw [e1, e2, e3]
/-- a fraction of numbers within the machine's bounds -/
structure Fr (A B n d : Int) : Prop where
  n1 : -A ≤ n
  n2 : n ≤ A
  d1 : 0 < d
  d2 : d ≤ B
  hA : A ≤ 1000000000000000000
  hB : B ≤ 1000000000000000
theorem Fr.fit {A B n d : Int} (h : Fr A B n d) : fit n d = true := by
  have h1 := Nat.div_le_self n.natAbs (gz n d)
  have h2 := Nat.div_le_self d.natAbs (gz n d)
  obtain ⟨a1, a2, a3, a4, a5, a6⟩ := h
  unfold Gn.fit
  simp only [Bool.and_eq_true, decide_eq_true_eq]
  exact ⟨⟨by omega, by omega⟩, by omega⟩
theorem Fr.rat {A B n d : Int} (h : Fr A B n d) : rat n d = (ratN n d, ratD n d) := by unfold Gn.rat; rw [if_pos h.fit]
theorem Fr.red {A B n d : Int} (h : Fr A B n d) : Fr A B (Gn.rat n d).1 (Gn.rat n d).2 ∧ (Gn.rat n d).1 * d = n * (Gn.rat n d).2 := by
  rw [h.rat]
  have e1 := ratN_abs n d
  have e2 := ratD_abs n d
  have h1 := Nat.div_le_self n.natAbs (gz n d)
  have h2 := Nat.div_le_self d.natAbs (gz n d)
  have h3 := ratD_pos n d (by have := h.d1; omega)
  obtain ⟨a1, a2, a3, a4, a5, a6⟩ := h
  exact ⟨⟨by simp only; omega, by simp only; omega, h3, by simp only; omega, a5, a6⟩, rat_cross n d⟩
end Gn
namespace Go.Proofs.Ytjchindjoailbaa
set_option linter.unusedSimpArgs false
set_option linter.unusedVariables false
open Go.RowKit
theorem okZ_rat {A B n d : Int} (h : Gn.Fr A B n d) : okZ (Gn.rat n d).1 (Gn.rat n d).2 := by
  obtain ⟨h1, _⟩ := h.red
  obtain ⟨a1, a2, a3, a4, a5, a6⟩ := h1
  refine ⟨by omega, by omega, ?_⟩
  have hc := Gn.rat_coprime n d (by have := h.d1; omega)
  unfold gcdZ
  rw [if_neg (by omega), h.rat]
  simp only
  rw [hc]; rfl
theorem fits_of {A B a b : Int} (ha : -A ≤ a ∧ a ≤ A) (hb : -B ≤ b ∧ b ≤ B) (h : A * B ≤ 1000000000000000000) : fitsZ a b := by
  unfold fitsZ
  by_cases h0 : b = 0
  · exact .inr (.inl h0)
  · refine .inr (.inr ?_)
    rw [Nat.le_div_iff_mul_le (by omega)]
    have h1 : a.natAbs * b.natAbs ≤ A.natAbs * B.natAbs := Nat.mul_le_mul (by omega) (by omega)
    have h2 : ((A.natAbs * B.natAbs : Nat) : Int) = A * B := by
      rw [Int.natCast_mul, Int.natAbs_of_nonneg (by omega), Int.natAbs_of_nonneg (by omega)]
    omega
/-- two such fractions' products fit -/
structure Fit2 (A B C D : Int) : Prop where
  ad : A * D ≤ 1000000000000000000
  cb : C * B ≤ 1000000000000000000
  bd : B * D ≤ 1000000000000000000
  ac : A * C ≤ 1000000000000000000
theorem calc_rat {A B C D n1 d1 n2 d2 : Int} (h : Gn.Fr A B n1 d1) (k : Gn.Fr C D n2 d2) (f : Fit2 A B C D) : calcZ (Gn.rat n1 d1).1 (Gn.rat n1 d1).2 (Gn.rat n2 d2).1 (Gn.rat n2 d2).2 := by
  have o1 := okZ_rat h
  have o2 := okZ_rat k
  obtain ⟨⟨a1, a2, a3, a4, _, _⟩, _⟩ := h.red
  obtain ⟨⟨b1, b2, b3, b4, _, _⟩, _⟩ := k.red
  exact ⟨o1, o2, fits_of ⟨a1, a2⟩ ⟨by omega, b4⟩ f.ad, fits_of ⟨b1, b2⟩ ⟨by omega, a4⟩ f.cb, fits_of (A := B) (B := D) ⟨by omega, a4⟩ ⟨by omega, b4⟩ f.bd, fits_of ⟨a1, a2⟩ ⟨b1, b2⟩ f.ac⟩
theorem add_rat {A B C D n1 d1 n2 d2 : Int} (h : Gn.Fr A B n1 d1) (k : Gn.Fr C D n2 d2) (f : Fit2 A B C D) : addR (Gn.rat n1 d1) (Gn.rat n2 d2) = Gn.rat (n1 * d2 + n2 * d1) (d1 * d2) := by
  have hc := calc_rat h k f
  obtain ⟨⟨_, _, a3, _, _, _⟩, e1⟩ := h.red
  obtain ⟨⟨_, _, b3, _, _, _⟩, e2⟩ := k.red
  unfold addR
  rw [decide_eq_true hc, sel_true]
  have p1 := h.d1
  have p2 := k.d1
  clear hc
  generalize (Gn.rat n1 d1).1 = x1 at *
  generalize (Gn.rat n1 d1).2 = y1 at *
  generalize (Gn.rat n2 d2).1 = x2 at *
  generalize (Gn.rat n2 d2).2 = y2 at *
  refine Gn.rat_eq (Int.mul_pos a3 b3) (Int.mul_pos p1 p2) ?_
  clear h k f
  grind
theorem diff_rat {A B C D n1 d1 n2 d2 : Int} (h : Gn.Fr A B n1 d1) (k : Gn.Fr C D n2 d2) (f : Fit2 A B C D) : diffR (Gn.rat n1 d1) (Gn.rat n2 d2) = Gn.rat (n1 * d2 - n2 * d1) (d1 * d2) := by
  have hc := calc_rat h k f
  obtain ⟨⟨_, _, a3, _, _, _⟩, e1⟩ := h.red
  obtain ⟨⟨_, _, b3, _, _, _⟩, e2⟩ := k.red
  unfold diffR
  rw [decide_eq_true hc, sel_true]
  have p1 := h.d1
  have p2 := k.d1
  clear hc
  generalize (Gn.rat n1 d1).1 = x1 at *
  generalize (Gn.rat n1 d1).2 = y1 at *
  generalize (Gn.rat n2 d2).1 = x2 at *
  generalize (Gn.rat n2 d2).2 = y2 at *
  refine Gn.rat_eq (Int.mul_pos a3 b3) (Int.mul_pos p1 p2) ?_
  clear h k f
  grind
theorem times_rat {A B C D n1 d1 n2 d2 : Int} (h : Gn.Fr A B n1 d1) (k : Gn.Fr C D n2 d2) (f : Fit2 A B C D) : timesR (Gn.rat n1 d1) (Gn.rat n2 d2) = Gn.rat (n1 * n2) (d1 * d2) := by
  have hc := calc_rat h k f
  obtain ⟨⟨_, _, a3, _, _, _⟩, e1⟩ := h.red
  obtain ⟨⟨_, _, b3, _, _, _⟩, e2⟩ := k.red
  unfold timesR
  rw [decide_eq_true hc, sel_true]
  have p1 := h.d1
  have p2 := k.d1
  clear hc
  generalize (Gn.rat n1 d1).1 = x1 at *
  generalize (Gn.rat n1 d1).2 = y1 at *
  generalize (Gn.rat n2 d2).1 = x2 at *
  generalize (Gn.rat n2 d2).2 = y2 at *
  refine Gn.rat_eq (Int.mul_pos a3 b3) (Int.mul_pos p1 p2) ?_
  clear h k f
  grind
/-- a fraction times its inverse -/
theorem inv_rat {A B n d : Int} (h : Gn.Fr A B n d) (hA : A ≤ 1000000) (hB : B ≤ 1000000) (h0 : ¬ (Gn.rat n d).1 = 0) : timesR (Gn.rat n d) (Gn.rat (Gn.rat n d).2 (Gn.rat n d).1) = (1, 1) := by
  obtain ⟨⟨a1, a2, a3, a4, a5, a6⟩, e1⟩ := h.red
  have hA0 : 0 ≤ A := by omega
  have hf : ∀ X Y : Int, 0 ≤ X → X ≤ 1000000 → 0 ≤ Y → Y ≤ 1000000 → X * Y ≤ 1000000000000000000 := fun X Y h1 h2 h3 h4 => by
    have := Int.mul_le_mul h2 h4 h3 (by omega); omega
  have hfit : Fit2 A B B A := ⟨hf _ _ (by omega) hA (by omega) hA, hf _ _ (by omega) hB (by omega) hB, hf _ _ (by omega) hB (by omega) hA, hf _ _ (by omega) hA (by omega) hB⟩
  by_cases hp : 0 < (Gn.rat n d).1
  · have k : Gn.Fr B A (Gn.rat n d).2 (Gn.rat n d).1 := ⟨by omega, by omega, hp, by omega, by omega, by omega⟩
    rw [times_rat h k hfit]
    rw [show n * (Gn.rat n d).2 = d * (Gn.rat n d).1 by rw [← e1, Int.mul_comm]]
    exact Gn.rat_self (Int.mul_pos h.d1 hp)
  · have hn : (Gn.rat n d).1 < 0 := by omega
    have k : Gn.Fr B A (-(Gn.rat n d).2) (-(Gn.rat n d).1) := ⟨by omega, by omega, by omega, by omega, by omega, by omega⟩
    rw [Gn.rat_flip a3 hn, times_rat h k hfit]
    rw [show n * -(Gn.rat n d).2 = d * -(Gn.rat n d).1 by rw [Int.mul_neg, Int.mul_neg, ← e1, Int.mul_comm]]
    exact Gn.rat_self (Int.mul_pos h.d1 (by omega))
end Go.Proofs.Ytjchindjoailbaa
namespace Gn
theorem mul_bd' {x y X Y : Int} (hx : -X ≤ x ∧ x ≤ X) (hy : -Y ≤ y ∧ y ≤ Y) : -(X * Y) ≤ x * y ∧ x * y ≤ X * Y := by
  have h1 : x.natAbs * y.natAbs ≤ X.natAbs * Y.natAbs := Nat.mul_le_mul (by omega) (by omega)
  have h2 : ((X.natAbs * Y.natAbs : Nat) : Int) = X * Y := by
    rw [Int.natCast_mul, Int.natAbs_of_nonneg (by omega), Int.natAbs_of_nonneg (by omega)]
  have h3 : (x * y).natAbs = x.natAbs * y.natAbs := Int.natAbs_mul x y
  omega
theorem Fr.add {A B C D n1 d1 n2 d2 : Int} (h : Fr A B n1 d1) (k : Fr C D n2 d2) (h1 : A * D + C * B ≤ 1000000000000000000) (h2 : B * D ≤ 1000000000000000) : Fr (A * D + C * B) (B * D) (n1 * d2 + n2 * d1) (d1 * d2) := by
  have e1 := mul_bd' (x := n1) (y := d2) (X := A) (Y := D) ⟨h.n1, h.n2⟩ ⟨by have := k.d1; have := k.d2; omega, k.d2⟩
  have e2 := mul_bd' (x := n2) (y := d1) (X := C) (Y := B) ⟨k.n1, k.n2⟩ ⟨by have := h.d1; have := h.d2; omega, h.d2⟩
  have e3 := mul_bd' (x := d1) (y := d2) (X := B) (Y := D) ⟨by have := h.d1; have := h.d2; omega, h.d2⟩ ⟨by have := k.d1; have := k.d2; omega, k.d2⟩
  exact ⟨by omega, by omega, Int.mul_pos h.d1 k.d1, by omega, h1, h2⟩
theorem Fr.mul {A B C D n1 d1 n2 d2 : Int} (h : Fr A B n1 d1) (k : Fr C D n2 d2) (h1 : A * C ≤ 1000000000000000000) (h2 : B * D ≤ 1000000000000000) : Fr (A * C) (B * D) (n1 * n2) (d1 * d2) := by
  have e1 := mul_bd' (x := n1) (y := n2) (X := A) (Y := C) ⟨h.n1, h.n2⟩ ⟨k.n1, k.n2⟩
  have e3 := mul_bd' (x := d1) (y := d2) (X := B) (Y := D) ⟨by have := h.d1; have := h.d2; omega, h.d2⟩ ⟨by have := k.d1; have := k.d2; omega, k.d2⟩
  exact ⟨e1.1, e1.2, Int.mul_pos h.d1 k.d1, by omega, h1, h2⟩
end Gn

/- A fraction that a code draws. -/
namespace Go.Proofs.Ytjchindjoailbaa
set_option linter.unusedSimpArgs false
set_option linter.unusedVariables false
open Go.RowKit

set_option maxRecDepth 100000 in
set_option maxHeartbeats 4000000 in
theorem specMakeRatio (k : Nat) (hk : k ≤ 1000) (a : Option Addr) (n c : Nat) (zs : List Int) (w : World) (hr : ArgRow w a n c 1 (u8s zs)) (hn : n ≤ 1048576) :
    Calls Try.prog 33 #[.slice a n c, .int .i64 k] w fun e w' => ∃ n1 d1 : Int, e = .returned (ratV (Gn.rat n1 d1).1 (Gn.rat n1 d1).2) ∧ Gn.Fr 30 30 n1 d1 ∧ Below w.heap.size w w' := by
  have HR := Lib.hid hr
  have HA0 : Hid ((w.alloc (.cells #[.int .i64 0, .int .i64 0] 32)).rowIs w.heap.size 32 2 (ratAt (0, 0))) := ratAt_new _ _ _ _
  clear hr
  go_enter Try.func33, Try.ntmps33
  go_wp2_with fail
  refine (specSkip k hk a n c zs _ (HR.out.below (balloc (Below.refl _ _) _)) hn).mono ?_
  rintro e w1 ⟨g, rfl, hg, hc1, hb1⟩
  have C1 := Lib.hid hc1
  have hgw : w.heap.size < g := by simp at hg; omega
  have HA1 := Lib.hid (HA0.out.of_block (hb1.block _ HA0.out.lt))
  have B1 : Hid (Below w.heap.size w w1) := bstep (balloc (Below.refl _ _) _) hb1
  clear hc1 hb1 HA0 hg
  go_wp2_with fail
  refine (specDraw 61 (by omega) g a n c zs _ C1.out).mono ?_
  rintro e w2 ⟨x, rfl, hx, hc2, hg2⟩
  have C2 := Lib.hid hc2
  have HA2 := Lib.hid (HA1.out.of_block (hg2.block _ HA1.out.lt (fun e => by simp at e; omega)))
  have B2 := Lib.hid (below_grown B1.out B1.out.size hg2 (by omega))
  clear hc2 hg2 HA1 C1
  go_wp2_with fail
  refine (specDraw 30 (by omega) g a n c zs _ C2.out).mono ?_
  rintro e w3 ⟨y, rfl, hy, hc3, hg3⟩
  have HA3 := Lib.hid (HA2.out.of_block (hg3.block _ HA2.out.lt (fun e => by simp at e; omega)))
  have B3 := Lib.hid (below_grown B2.out B2.out.size hg3 (by omega))
  clear hc3 hg3 HA2 C2
  have KR := Lib.hid (fun w => specRatioOf (x - 30) (1 + y) w (by omega) (by omega) (by omega) (by omega))
  have HF : Hid (Gn.Fr 30 30 (x - 30) (1 + y)) := ⟨by omega, by omega, by omega, by omega, by omega, by omega⟩
  have HV := Lib.hid (Eq.refl (Gn.rat (x - 30) (1 + y)))
  obtain ⟨Q, hQ⟩ : ∃ Q, Gn.rat (x - 30) (1 + y) = Q := ⟨_, rfl⟩
  rw [hQ] at KR
  replace hQ := Lib.hid hQ
  clear HV
  obtain ⟨R0, R1⟩ := Q
  go_wp2_with fail
  refine (KR.out _).mono ?_
  rintro e w4 ⟨rfl, hb4⟩
  have HA4 := HA3.out.of_block (hb4.block _ HA3.out.lt)
  have B4 : Hid (Below w.heap.size w w4) := bstep B3.out hb4
  clear hb4 HA3
  obtain ⟨a0, a1⟩ := ratAt_cells HA4
  have f0 := HA4.frozen 0
  have f1 := HA4.frozen 1
  have hl := HA4.lt
  go_wp2_with fail
  have rs0 : (w4.cell? { block := w.heap.size, off := 0 }).isSome = true := by simp [go_sem, *]
  have rs1 : (w4.cell? { block := w.heap.size, off := 1 }).isSome = true := by simp [go_sem, *]
  refine bodyPost_ret (v := (ratV R0 R1)) (by simp [results, Try.results33, go_sem, rs0, rs1]; try rfl) rfl ?_
  exact ⟨x - 30, 1 + y, by rw [hQ.out], HF.out, bset (bset B4.out (Nat.le_refl _) _) (Nat.le_refl _) _⟩
end Go.Proofs.Ytjchindjoailbaa
