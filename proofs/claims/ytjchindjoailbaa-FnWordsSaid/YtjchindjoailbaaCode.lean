/- The numbers that a code draws: the reference's cursor over bytes. -/
import Derived.Test.YtjchindjoailbaaGrown
import Derived.Test.YtjchindjoailbaaHeld
import Derived.Test.YtjchindjoailbaaOpen
import Derived.IntWalk
import Derived.Laws.Bits64
namespace Go.Proofs.Ytjchindjoailbaa
set_option linter.unusedSimpArgs false
set_option linter.unusedVariables false
open Go.RowKit

theorem and_bd (x : Int) : 0 ≤ bits .and .i64 x 255 ∧ bits .and .i64 x 255 ≤ 255 := by
  have h1 : (BitVec.ofInt 64 x &&& BitVec.ofInt 64 255).toNat ≤ 255 := by
    rw [BitVec.toNat_and]
    have : (BitVec.ofInt 64 255).toNat = 255 := by decide
    rw [this]
    exact Nat.and_le_right
  show 0 ≤ IntKind.i64.wrap ((BitVec.ofInt 64 x &&& BitVec.ofInt 64 255).toNat : Int) ∧ IntKind.i64.wrap ((BitVec.ofInt 64 x &&& BitVec.ofInt 64 255).toNat : Int) ≤ 255
  rw [IntWalk.i64_in _ (by omega)]
  omega
/-- bytes as cells -/
def u8s (l : List Int) : List Value := l.map (Value.int .u8)
/-- a cursor's box -/
def curAt (a : Option Addr) (n c : Nat) (i h : Int) (k : Nat) : Value := if k = 0 then .slice a n c else if k = 1 then .int .i64 i else .int .i64 h
/-- a cursor at block g over the code's bytes -/
def Curs (w : World) (g : Nat) (a : Option Addr) (n c : Nat) (zs : List Int) : Prop :=
  ∃ (i : Nat) (h : Int), i ≤ n ∧ w.rowIs g 127 3 (curAt a n c i h) ∧ ArgRow w a n c 1 (u8s zs) ∧ ∀ ad, a = some ad → 0 < n → ad.block ≠ g
theorem curAt_set2 {w : World} {b : Nat} {t : TypeId} {a : Option Addr} {n c : Nat} {i h : Int} (hr : w.rowIs b t 3 (curAt a n c i h)) (h' : Int) : (w.setCell ⟨b, 2, none⟩ (.int .i64 h')).rowIs b t 3 (curAt a n c i h') :=
  (hr.set 2 _).congr (fun i hi => by
    have : i = 0 ∨ i = 1 ∨ i = 2 := by omega
    rcases this with rfl | rfl | rfl <;> rfl)
theorem curAt_set1 {w : World} {b : Nat} {t : TypeId} {a : Option Addr} {n c : Nat} {i h : Int} (hr : w.rowIs b t 3 (curAt a n c i h)) (i' : Int) : (w.setCell ⟨b, 1, none⟩ (.int .i64 i')).rowIs b t 3 (curAt a n c i' h) :=
  (hr.set 1 _).congr (fun i hi => by
    have : i = 0 ∨ i = 1 ∨ i = 2 := by omega
    rcases this with rfl | rfl | rfl <;> rfl)
theorem curAt_cells {w : World} {b : Nat} {t : TypeId} {a : Option Addr} {n c : Nat} {i h : Int} (hr : w.rowIs b t 3 (curAt a n c i h)) : w.cell? ⟨b, 0, none⟩ = some (.slice a n c) ∧ w.cell? ⟨b, 1, none⟩ = some (.int .i64 i) ∧ w.cell? ⟨b, 2, none⟩ = some (.int .i64 h) :=
  ⟨hr.cell (i := 0) (by omega), hr.cell (i := 1) (by omega), hr.cell (i := 2) (by omega)⟩
theorem ArgRow.grown {w w' : World} {a : Option Addr} {n cap size : Nat} {xs : List Value} {r : Option Nat} (h : ArgRow w a n cap size xs) (hg : w.grownBy w' r) (hne : ∀ ad, a = some ad → 0 < n → some ad.block ≠ r) : ArgRow w' a n cap size xs := by
  obtain ⟨h1, h2, h3, h4⟩ := h
  refine ⟨h1, h2, h3, ?_⟩
  by_cases h0 : n = 0
  · exact .inl h0
  · rcases h4 with h4 | ⟨b, off, rfl, h5, h6⟩
    · exact .inl h4
    · have hb := hg.block b h5 (hne _ rfl (by omega))
      exact .inr ⟨b, off, rfl, Nat.lt_of_lt_of_le h5 hg.size, fun j hj => by rw [World.cell?_of_block (a := ⟨b, off + j, none⟩) hb]; exact h6 j hj⟩
theorem u8s_len (l : List Int) : (u8s l).length = l.length := by simp [u8s]
theorem u8_cell {w : World} {b o n c : Nat} {l : List Int} (h : ArgRow w (some ⟨b, o, none⟩) n c 1 (u8s l)) (i : Nat) (hi : i < n) : ∃ z, w.cell? ⟨b, o + i, none⟩ = some (.int .u8 z) := by
  have hl := u8s_len l
  obtain ⟨b', o', e, _, hc⟩ := h.form (by omega)
  cases e
  have h1 := h.1
  exact ⟨l[i]'(by omega), by rw [hc i (by omega)]; simp [u8s]⟩

theorem grown_drewN (w : World) (k : Nat) (r : Option Nat) : w.grownBy (w.drewN k) r := grown_below (below_drewN (Below.refl _ _) _)
theorem Curs.grown {w w' : World} {g : Nat} {a : Option Addr} {n c : Nat} {zs : List Int} {r : Option Nat} (h : Curs w g a n c zs) (hg : w.grownBy w' r) (hr : some g ≠ r) (hb : ∀ ad, a = some ad → 0 < n → some ad.block ≠ r) : Curs w' g a n c zs := by
  obtain ⟨i, k, h1, h2, h3, h4⟩ := h
  exact ⟨i, k, h1, h2.of_block (hg.block g h2.lt hr), h3.grown hg hb, h4⟩
theorem Curs.below {w w' : World} {g : Nat} {a : Option Addr} {n c : Nat} {zs : List Int} (h : Curs w g a n c zs) (hb : Below w.heap.size w w') : Curs w' g a n c zs :=
  h.grown (r := none) (grown_below hb) (by simp) (by simp)
theorem Curs.lt {w : World} {g : Nat} {a : Option Addr} {n c : Nat} {zs : List Int} (h : Curs w g a n c zs) : g < w.heap.size := by
  obtain ⟨i, k, h1, h2, h3, h4⟩ := h
  exact h2.lt
theorem Curs.set {w : World} {g : Nat} {a : Option Addr} {n c : Nat} {zs : List Int} {i : Nat} {h : Int} (hi : i ≤ n) (h2 : w.rowIs g 127 3 (curAt a n c i h)) (h3 : ArgRow w a n c 1 (u8s zs)) (h4 : ∀ ad, a = some ad → 0 < n → ad.block ≠ g) : Curs w g a n c zs := ⟨i, h, hi, h2, h3, h4⟩

set_option maxRecDepth 100000 in
set_option maxHeartbeats 4000000 in
theorem specByte (g : Nat) (a : Option Addr) (n c : Nat) (zs : List Int) (w : World) (hc : Curs w g a n c zs) :
    Calls Try.prog 75 #[.pointer (some ⟨g, 0, none⟩)] w fun e w' => ∃ x : Int, e = .returned (.int .i64 x) ∧ 0 ≤ x ∧ x ≤ 255 ∧ Curs w' g a n c zs ∧ w.grownBy w' (some g) := by
  obtain ⟨i, h, hi, hrow, hcode, hne⟩ := hc
  have hn := hcode.le
  unfold maxLen at hn
  obtain ⟨c0, c1, c2⟩ := curAt_cells hrow
  have f1 := hrow.frozen 1
  have f2 := hrow.frozen 2
  have hl := hrow.lt
  have HRow := Lib.hid hrow
  have HCode := Lib.hid hcode
  have HNe := Lib.hid hne
  have HB := Lib.hid and_bd
  have kept : ∀ (w' : World), w.grownBy w' (some g) → ArgRow w' a n c 1 (u8s zs) := fun w' hg => HCode.out.grown hg (fun ad e h0 e2 => HNe.out ad e h0 (by simpa using e2))
  have HK := Lib.hid kept
  clear kept
  by_cases hlt : i < n
  · obtain ⟨b, o, rfl, hb, _⟩ := hcode.form (by omega)
    obtain ⟨z, hz⟩ := u8_cell hcode i hlt
    have hbg : ¬ b = g := hne _ rfl (by omega)
    have hgb : ¬ g = b := fun e => hbg e.symm
    have e1 : IntKind.i64.wrap ((i : Int) + 1) = (i : Int) + 1 := IntWalk.i64_in _ (by omega)
    clear hrow hcode hne
    go_enter Try.func75, Try.ntmps75
    go_wp2_with fail
    go_quiet (fail)
    go_wp2_with fail
    go_quiet (fail)
    go_wp2_with fail
    go_quiet (fail)
    go_wp2_with fail
    go_ret
    refine ⟨_, rfl, (HB.out _).1, (HB.out _).2, ?_, ?_⟩
    · have h1 := curAt_set1 (curAt_set2 HRow.out (wrap64 (wrap64 (h * 6364136223846793005) + 1442695040888963407))) ((i + 1 : Nat) : Int)
      exact Curs.set (i := i + 1) (by omega) h1 (HK.out _ (grown_trans (grown_set w ⟨g, 2, none⟩ _) (grown_trans (grown_drewN _ _ _) (grown_set _ ⟨g, 1, none⟩ _)))) HNe.out
    · exact grown_trans (grown_set w ⟨g, 2, none⟩ _) (grown_trans (grown_drewN _ _ _) (grown_set _ ⟨g, 1, none⟩ _))
  · clear hrow hcode hne
    go_enter Try.func75, Try.ntmps75
    go_wp2_with fail
    go_quiet (fail)
    go_wp2_with fail
    go_quiet (fail)
    go_wp2_with fail
    go_ret
    refine ⟨_, rfl, (HB.out _).1, (HB.out _).2, ?_, ?_⟩
    · exact Curs.set hi (curAt_set2 HRow.out (wrap64 (wrap64 (h * 6364136223846793005) + 1442695040888963407))) (HK.out _ (grown_trans (grown_set w ⟨g, 2, none⟩ _) (grown_trans (grown_drewN _ _ _) (grown_drewN _ _ _)))) HNe.out
    · exact grown_trans (grown_set w ⟨g, 2, none⟩ _) (grown_trans (grown_drewN _ _ _) (grown_drewN _ _ _))
set_option maxHeartbeats 2000000 in
theorem specDraw (k : Int) (hk : 1 ≤ k ∧ k ≤ 256) (g : Nat) (a : Option Addr) (n c : Nat) (zs : List Int) (w : World) (hc : Curs w g a n c zs) :
    Calls Try.prog 83 #[.pointer (some ⟨g, 0, none⟩), .int .i64 k] w fun e w' => ∃ x : Int, e = .returned (.int .i64 x) ∧ (0 ≤ x ∧ x < k) ∧ Curs w' g a n c zs ∧ w.grownBy w' (some g) := by
  have HC := Lib.hid hc
  clear hc
  go_enter Try.func83, Try.ntmps83
  go_wp2_with fail
  refine (specByte g a n c zs _ HC.out).mono ?_
  rintro e w1 ⟨x, rfl, h0, h1, hc1, hg1⟩
  have C1 := Lib.hid hc1
  have G1 := Lib.hid hg1
  have hm : 0 ≤ x % k ∧ x % k < k := ⟨Int.emod_nonneg _ (by omega), Int.emod_lt_of_pos _ (by omega)⟩
  clear hc1 hg1
  go_wp2_with fail
  go_ret
  exact ⟨_, rfl, hm, C1.out, G1.out⟩

set_option maxRecDepth 100000 in
set_option maxHeartbeats 4000000 in
theorem specNew (a : Option Addr) (n c : Nat) (zs : List Int) (w : World) (hr : ArgRow w a n c 1 (u8s zs)) (hn : n ≤ 1048576) :
    Calls Try.prog 73 #[.slice a n c] w fun e w' => ∃ g, e = .returned (.pointer (some ⟨g, 0, none⟩)) ∧ w.heap.size ≤ g ∧ Curs w' g a n c zs ∧ Below w.heap.size w w' := by
  have HR := Lib.hid hr
  have HBK : Hid (∀ ad, a = some ad → 0 < n → ad.block < w.heap.size) := fun ad e h0 => by
    obtain ⟨b, o, e2, hb, _⟩ := HR.out.form h0
    rw [e] at e2; cases e2; exact hb
  clear hr
  go_enter Try.func73, Try.ntmps73
  go_wp2_with fail
  go_loopw [3, 4] (fun v u wr => ∃ (i : Nat) (h : Int), i ≤ n ∧ u = .int .i64 i ∧ v = .int .i64 h ∧ wr = w) (fun _ u _ => n - (intOf u).toNat)
  case atStart => exact ⟨0, _, by omega, rfl, rfl, rfl⟩
  case round =>
    obtain ⟨i, h, hi, rfl, rfl, rfl⟩ := hrel
    by_cases hlt : i < n ∧ i < 4000
    · obtain ⟨h1, h2⟩ := hlt
      obtain ⟨b, o, rfl, hb, _⟩ := HR.out.form (by omega)
      obtain ⟨z, hz⟩ := u8_cell HR.out i h1
      go_wp2_with fail
      go_roundw
      case rel => exact ⟨i + 1, _, by omega, by go_num, rfl, by trivial⟩
      case measure => simp [intOf]; omega
    · have hfin : ∀ (h : Int), Curs (wr.alloc (.cells #[.slice a n c, .int .i64 0, .int .i64 h] 127)) wr.heap.size a n c zs := fun h => by
        refine ⟨0, h, by omega, World.rowIs_alloc wr _ _ _ (fun i hi => ?_), HR.out.below (balloc (Below.refl _ _) _), fun ad e h0 => Nat.ne_of_lt (HBK.out ad e h0)⟩
        have : i = 0 ∨ i = 1 ∨ i = 2 := by simp at hi; omega
        rcases this with rfl | rfl | rfl <;> rfl
      have HFin := Lib.hid hfin
      clear hfin
      by_cases h1 : i < n
      · have h2 : ¬ i < 4000 := fun h => hlt ⟨h1, h⟩
        clear hlt
        go_wp2_with fail
        go_ret
        exact ⟨_, rfl, Nat.le_refl _, HFin.out _, balloc (Below.refl _ _) _⟩
      · clear hlt
        go_wp2_with fail
        go_ret
        exact ⟨_, rfl, Nat.le_refl _, HFin.out _, balloc (Below.refl _ _) _⟩

/-- what was below a cursor's making stays -/
theorem below_grown {B : Nat} {w w1 w2 : World} {g : Nat} (h : Below B w w1) (hB : B ≤ w1.heap.size) (hg : w1.grownBy w2 (some g)) (hBg : B ≤ g) : Below B w w2 :=
  h.grown hg hB (fun k hk => by cases hk; exact hBg)
set_option maxRecDepth 100000 in
set_option maxHeartbeats 4000000 in
theorem specSkip (k : Nat) (hk : k ≤ 1000) (a : Option Addr) (n c : Nat) (zs : List Int) (w : World) (hr : ArgRow w a n c 1 (u8s zs)) (hn : n ≤ 1048576) :
    Calls Try.prog 74 #[.slice a n c, .int .i64 k] w fun e w' => ∃ g, e = .returned (.pointer (some ⟨g, 0, none⟩)) ∧ w.heap.size ≤ g ∧ Curs w' g a n c zs ∧ Below w.heap.size w w' := by
  have HR := Lib.hid hr
  clear hr
  go_enter Try.func74, Try.ntmps74
  go_wp2_with fail
  refine (specNew a n c zs _ HR.out hn).mono ?_
  rintro e w1 ⟨g, rfl, hg, hc, hb⟩
  have C1 := Lib.hid hc
  have B1 := Lib.hid hb
  clear hc hb
  go_wp2_with fail
  go_loopw [6] (fun u wr => ∃ i : Nat, i ≤ k ∧ u = .int .i64 i ∧ Hid (Curs wr g a n c zs) ∧ Hid (Below w.heap.size w wr)) (fun u _ => k - (intOf u).toNat)
  case atStart => exact ⟨0, by omega, rfl, C1.out, B1.out⟩
  case round =>
    clear C1 B1
    obtain ⟨i, hi, rfl, C1, B1⟩ := hrel
    by_cases hlt : i < k
    · go_wp2_with fail
      refine (specByte g a n c zs _ C1.out).mono ?_
      rintro e w2 ⟨x, rfl, h0, h1, hc2, hg2⟩
      have C2 := Lib.hid hc2
      have B2 := Lib.hid (below_grown B1.out B1.out.size hg2 hg)
      clear hc2 hg2
      go_wp2_with fail
      go_roundw
      case rel => exact ⟨i + 1, by omega, by go_num, C2.out, B2.out⟩
      case measure => simp [intOf]; omega
    · obtain rfl : i = k := by omega
      go_wp2_with fail
      go_ret
      exact ⟨g, rfl, hg, C1.out, B1.out⟩

set_option maxRecDepth 100000 in
set_option maxHeartbeats 4000000 in
theorem specNum (k : Nat) (hk : k ≤ 1000) (a : Option Addr) (n c : Nat) (zs : List Int) (w : World) (hr : ArgRow w a n c 1 (u8s zs)) (hn : n ≤ 1048576) :
    Calls Try.prog 16 #[.slice a n c, .int .i64 k] w fun e w' => ∃ x : Int, e = .returned (.int .i64 x) ∧ (0 ≤ x ∧ x < 65536) ∧ Below w.heap.size w w' := by
  have HR := Lib.hid hr
  clear hr
  go_enter Try.func16, Try.ntmps16
  go_wp2_with fail
  refine (specSkip k hk a n c zs _ HR.out hn).mono ?_
  rintro e w1 ⟨g, rfl, hg, hc, hb⟩
  have C1 := Lib.hid hc
  have B1 := Lib.hid hb
  clear hc hb
  go_wp2_with fail
  refine (specByte g a n c zs _ C1.out).mono ?_
  rintro e w2 ⟨x, rfl, h0, h1, hc2, hg2⟩
  have C2 := Lib.hid hc2
  have B2 := Lib.hid (below_grown B1.out B1.out.size hg2 hg)
  clear hc2 hg2
  go_wp2_with fail
  refine (specByte g a n c zs _ C2.out).mono ?_
  rintro e w3 ⟨y, rfl, h2, h3, hc3, hg3⟩
  have B3 := Lib.hid (below_grown B2.out B2.out.size hg3 hg)
  clear hc3 hg3
  go_wp2_with fail
  go_ret
  exact ⟨x * 256 + y, rfl, by omega, B3.out⟩
end Go.Proofs.Ytjchindjoailbaa
