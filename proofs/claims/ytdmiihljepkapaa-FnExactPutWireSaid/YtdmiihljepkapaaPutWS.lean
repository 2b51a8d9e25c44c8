/- PutWire of the reference. -/
import Derived.Test.YtdmiihljepkapaaPutWI
import Derived.Test.YtdmiihljepkapaaPutS2
import Derived.Test.YtdmiihljepkapaaBound
namespace Go.Proofs.Ytdmiihljepkapaa
set_option linter.unusedSimpArgs false
set_option linter.unusedVariables false
open Go.RowKit

set_option maxRecDepth 100000 in
set_option maxHeartbeats 8000000 in
theorem specPutWire (M : Nat) (E S : Int) (a : Option Addr) (n c : Nat) (l : List Wz) (p : Int) (q : Int) (wt : Int) (hp : 0 ≤ p ∧ p < M) (hq : 0 ≤ q ∧ q < M) (hne : ¬ p = q) (hwt : 0 ≤ wt ∧ wt ≤ 200) (hok : NetOk M E S l) (ok : Bool) (hoo : ok = true ↔ NetOk M E S (dropL (putL l (min p q) (max p q) wt false))) (w : World) (hr : ArgRow w a n c 3 (wires l)) (hl : l.length = n) :
    Calls Try.prog 72 #[netV M E S a n c, .int .i64 p, .int .i64 q, .int .i64 wt] w fun e w' => NetRes e w w' ok M E S (dropL (putL l (min p q) (max p q) wt false)) ∧ Below w.heap.size w w' := by
  have HR := Lib.hid hr
  have hM5 : M ≤ 5 := by have := hok.h.n5; omega
  have hM1 : 1 ≤ M := by have := hok.h.n1; omega
  have KN := Lib.hid (fun (w : World) rr => specNetOk M E S a n c l true ⟨fun _ => hok, fun _ => rfl⟩ w rr hl)
  have KP := Lib.hid (fun (w : World) => specIn p 0 ((M : Int) - 1) true ⟨fun _ => by omega, fun _ => rfl⟩ w)
  have KQ := Lib.hid (fun (w : World) => specIn q 0 ((M : Int) - 1) true ⟨fun _ => by omega, fun _ => rfl⟩ w)
  have KW := Lib.hid (fun (w : World) => specIn wt 0 200 true ⟨fun _ => by omega, fun _ => rfl⟩ w)
  have hfew := hok.few
  have hn1 : n ≤ 1000 := by omega
  have KU := Lib.hid (fun (w : World) rr => specPut a n c l (min p q) (max p q) wt p q false (by omega) (by omega) (fun x hx => by obtain ⟨_, _, _, g4, g5⟩ := hok.good hx; omega) hn1 w rr hl)
  have hul : (putL l (min p q) (max p q) wt false).length ≤ 1000 + 1 := by
    have h1 : (rest l (min p q) (max p q)).length ≤ l.length := List.length_filter_le _ _
    have h2 : ∀ (x : Wz) (m : List Wz), (insL x m).length = m.length + 1 := by
      intro x m
      induction m with
      | nil => rfl
      | cons e t ih => rw [insL]; split <;> simp [ih]
    unfold putL
    rw [h2]; omega
  generalize putL l (min p q) (max p q) wt false = U at KU hul hoo ⊢
  have KD := Lib.hid (fun (w : World) ad cd rr => specDrop ad U.length cd U w rr rfl (by omega))
  have KN2 := Lib.hid (fun (w : World) ad cd rr => specNetOk M E S ad (dropL U).length cd (dropL U) ok hoo w rr rfl)
  generalize hL2 : (dropL U).length = m2 at KD KN2
  have HL2 := Lib.hid hL2
  generalize U.length = m1 at KU KD
  have hPQ : (p == q) = false := by simp; omega
  clear hr hok hoo hL2 hul
  have HA0 : Hid (((w.alloc (.cells #[.int .i64 M, .int .i64 E, .int .i64 S, .slice a n c] 25)).alloc (.cells #[.int .i64 0, .int .i64 0, .int .i64 0, .slice none 0 0] 25)).rowIs (w.heap.size + 1) 25 4 (netAt (.int .i64 0) (.int .i64 0) (.int .i64 0) (.slice none 0 0))) := by
    have := netAt_new (w.alloc (.cells #[.int .i64 M, .int .i64 E, .int .i64 S, .slice a n c] 25)) (.int .i64 0) (.int .i64 0) (.int .i64 0) (.slice none 0 0) 25
    simpa [Hid] using this
  have HP0 : Hid (((w.alloc (.cells #[.int .i64 M, .int .i64 E, .int .i64 S, .slice a n c] 25)).alloc (.cells #[.int .i64 0, .int .i64 0, .int .i64 0, .slice none 0 0] 25)).rowIs w.heap.size 25 4 (netAt (.int .i64 M) (.int .i64 E) (.int .i64 S) (.slice a n c))) := (netAt_new _ _ _ _ _ _).alloc _
  go_enter Try.func72, Try.ntmps72
  go_wp2_with fail
  refine (KN.out _ (HR.out.below (by (repeat' (first | (with_reducible exact Below.refl _ _) | (with_reducible assumption) | (with_reducible refine balloc ?_ _) | (with_reducible refine Below.drew ?_) | (with_reducible refine below_drewN ?_ _) | (with_reducible refine bset ?_ ?_ _) | (with_reducible refine bstep ?_ (by assumption)) | go_size))))).mono ?_
  rintro e w1 ⟨rfl, hb1⟩
  have HA1 := Lib.hid (HA0.out.of_block (hb1.block _ HA0.out.lt))
  have HP1 := Lib.hid (HP0.out.of_block (hb1.block _ HP0.out.lt))
  have B1 : Hid (Below w.heap.size w w1) := bstep (by (repeat' (first | (with_reducible exact Below.refl _ _) | (with_reducible assumption) | (with_reducible refine balloc ?_ _) | (with_reducible refine Below.drew ?_) | (with_reducible refine below_drewN ?_ _) | (with_reducible refine bset ?_ ?_ _) | (with_reducible refine bstep ?_ (by assumption)) | go_size))) hb1
  clear HA0 HP0 hb1
  have hlP1 := HP1.out.lt
  obtain ⟨t0, t1, t2, t3⟩ := netAt_cells HP1.out
  go_wp2_with fail
  refine (KP.out _).mono ?_
  rintro e w9 ⟨rfl, rfl⟩
  go_wp2_with fail
  refine (KQ.out _).mono ?_
  rintro e w9 ⟨rfl, rfl⟩
  go_wp2_with fail
  refine (KW.out _).mono ?_
  rintro e w9 ⟨rfl, rfl⟩
  go_wp2_with fail
  refine (KU.out _ (HR.out.below B1.out)).mono ?_
  rintro e w2 ⟨g2, c2, rfl, o2, hb2⟩
  have R2 := Lib.hid (ArgRow.own o2)
  clear t0 t1 t2 t3
  have HA2 := Lib.hid (HA1.out.of_block (hb2.block _ HA1.out.lt))
  have HP2 := Lib.hid (HP1.out.of_block (hb2.block _ HP1.out.lt))
  have B2 : Hid (Below w.heap.size w w2) := bstep B1.out hb2
  clear HA1 HP1 hb2 o2
  have hlP2 := HP2.out.lt
  obtain ⟨t0, t1, t2, t3⟩ := netAt_cells HP2.out
  go_wp2_with fail
  refine (KD.out _ _ _ R2.out).mono ?_
  rintro e w3 ⟨g3, c3, rfl, o3, hb3⟩
  have hg3 := own_base o3 _ rfl
  simp only at hg3
  clear t0 t1 t2 t3
  have hs2 := HA2.out.lt
  have HA3 := Lib.hid (HA2.out.of_block (hb3.block _ HA2.out.lt))
  have HP3 := Lib.hid (HP2.out.of_block (hb3.block _ HP2.out.lt))
  have B3 : Hid (Below w.heap.size w w3) := bstep B2.out hb3
  have hs3 := hb3.size
  have O3 : Hid ((w3.setCell ⟨w.heap.size, 3, none⟩ (.slice (some ⟨g3, 0, none⟩) m2 c3)).ownsRow w2.heap.size 104 3 (.slice (some ⟨g3, 0, none⟩) m2 c3) m2 (wires (dropL U))) := o3.kept (grown_set' _ ⟨w.heap.size, 3, none⟩ _) (.inr (by simp [Value.ownBlock]; omega))
  have HP4 := Lib.hid (netAt_set3 HP3.out (.slice (some ⟨g3, 0, none⟩) m2 c3))
  have HA4 := Lib.hid (HA3.out.setOther (a := ⟨w.heap.size, 3, none⟩) (by show w.heap.size + 1 ≠ w.heap.size; omega) (.slice (some ⟨g3, 0, none⟩) m2 c3))
  have B4 : Hid (Below w.heap.size w (w3.setCell ⟨w.heap.size, 3, none⟩ (.slice (some ⟨g3, 0, none⟩) m2 c3))) := bset B3.out (Nat.le_refl _) _
  have RW := Lib.hid (ArgRow.own O3.out)
  obtain ⟨t0, t1, t2, t3⟩ := netAt_cells HP3.out
  have tf := HP3.out.frozen 3
  have hlP3 := HP3.out.lt
  clear HA2 HP2 hb3 o3 HA3 HP3 hg3
  go_wp2_with fail
  refine (KN2.out _ _ _ RW.out).mono ?_
  rintro e w5 ⟨rfl, hb5⟩
  clear t0 t1 t2 t3 tf
  have HA5 := Lib.hid (HA4.out.of_block (hb5.block _ HA4.out.lt))
  have HP5 := Lib.hid (HP4.out.of_block (hb5.block _ HP4.out.lt))
  have B5 : Hid (Below w.heap.size w w5) := bstep B4.out hb5
  have O5 := Lib.hid (own_below O3.out hb5)
  have hs5 := hb5.size
  simp only [World.size_setCell] at hs5
  clear HA4 HP4 O3 hb5
  have hlP5 := HP5.out.lt
  obtain ⟨t0, t1, t2, t3⟩ := netAt_cells HP5.out
  obtain ⟨r0, r1, r2, r3⟩ := netAt_cells HA5.out
  have f0 := HA5.out.frozen 0
  have f1 := HA5.out.frozen 1
  have f2 := HA5.out.frozen 2
  have f3 := HA5.out.frozen 3
  have hlA5 := HA5.out.lt
  cases ok
  · go_wp2_with fail
    have rs0 : (w5.cell? { block := w.heap.size + 1, off := 0 }).isSome = true := by simp [go_sem, *]
    have rs1 : (w5.cell? { block := w.heap.size + 1, off := 1 }).isSome = true := by simp [go_sem, *]
    have rs2 : (w5.cell? { block := w.heap.size + 1, off := 2 }).isSome = true := by simp [go_sem, *]
    have rs3 : (w5.cell? { block := w.heap.size + 1, off := 3 }).isSome = true := by simp [go_sem, *]
    refine bodyPost_ret (v := (.tuple #[netV 0 0 0 none 0 0, .bool false])) (by simp [results, Try.results72, go_sem, rs0, rs1, rs2, rs3]; try rfl) rfl ?_
    exact ⟨by unfold NetRes; rw [if_neg (by simp)], by have := B5.out; (repeat' (first | (with_reducible exact Below.refl _ _) | (with_reducible assumption) | (with_reducible refine balloc ?_ _) | (with_reducible refine Below.drew ?_) | (with_reducible refine below_drewN ?_ _) | (with_reducible refine bset ?_ ?_ _) | (with_reducible refine bstep ?_ (by assumption)) | go_size))⟩
  · go_wp2_with fail
    have rs0 : (w5.cell? { block := w.heap.size + 1, off := 0 }).isSome = true := by simp [go_sem, *]
    have rs1 : (w5.cell? { block := w.heap.size + 1, off := 1 }).isSome = true := by simp [go_sem, *]
    have rs2 : (w5.cell? { block := w.heap.size + 1, off := 2 }).isSome = true := by simp [go_sem, *]
    have rs3 : (w5.cell? { block := w.heap.size + 1, off := 3 }).isSome = true := by simp [go_sem, *]
    refine bodyPost_ret (v := (.tuple #[netV M E S (some ⟨g3, 0, none⟩) m2 c3, .bool true])) (by simp [results, Try.results72, go_sem, rs0, rs1, rs2, rs3]; try rfl) rfl ?_
    refine ⟨?_, by have := B5.out; (repeat' (first | (with_reducible exact Below.refl _ _) | (with_reducible assumption) | (with_reducible refine balloc ?_ _) | (with_reducible refine Below.drew ?_) | (with_reducible refine below_drewN ?_ _) | (with_reducible refine bset ?_ ?_ _) | (with_reducible refine bstep ?_ (by assumption)) | go_size))⟩
    unfold NetRes
    rw [if_pos rfl, HL2.out]
    refine ⟨some ⟨g3, 0, none⟩, c3, rfl, ?_⟩
    refine World.ownsRow.mono (base := w.heap.size + 1 + 1) ?_ (by omega)
    have o9 := World.ownsRow.mono (base' := w.heap.size + 1 + 1) O5.out (by omega)
    repeat' (first | with_reducible exact o9 | (with_reducible refine ownsRow_setCell_below ?_ ?_ _) | (dsimp only; omega) | omega)
set_option maxRecDepth 100000 in
set_option maxHeartbeats 8000000 in
theorem specPutWire0 (N : Int) (E S : Int) (a : Option Addr) (n c : Nat) (l : List Wz) (p : Int) (q : Int) (wt : Int) (hok : ¬ NetOk N E S l) (w : World) (hr : ArgRow w a n c 3 (wires l)) (hl : l.length = n) :
    Calls Try.prog 72 #[netV N E S a n c, .int .i64 p, .int .i64 q, .int .i64 wt] w fun e w' => e = .returned (.tuple #[netV 0 0 0 none 0 0, .bool false]) ∧ Below w.heap.size w w' := by
  have HR := Lib.hid hr
  have KN := Lib.hid (fun (w : World) rr => specNetOk N E S a n c l false ⟨(fun h => by cases h), fun h => absurd h hok⟩ w rr hl)
  clear hr hok
  have HA0 : Hid (((w.alloc (.cells #[.int .i64 N, .int .i64 E, .int .i64 S, .slice a n c] 25)).alloc (.cells #[.int .i64 0, .int .i64 0, .int .i64 0, .slice none 0 0] 25)).rowIs (w.heap.size + 1) 25 4 (netAt (.int .i64 0) (.int .i64 0) (.int .i64 0) (.slice none 0 0))) := by
    have := netAt_new (w.alloc (.cells #[.int .i64 N, .int .i64 E, .int .i64 S, .slice a n c] 25)) (.int .i64 0) (.int .i64 0) (.int .i64 0) (.slice none 0 0) 25
    simpa [Hid] using this
  have HP0 : Hid (((w.alloc (.cells #[.int .i64 N, .int .i64 E, .int .i64 S, .slice a n c] 25)).alloc (.cells #[.int .i64 0, .int .i64 0, .int .i64 0, .slice none 0 0] 25)).rowIs w.heap.size 25 4 (netAt (.int .i64 N) (.int .i64 E) (.int .i64 S) (.slice a n c))) := (netAt_new _ _ _ _ _ _).alloc _
  go_enter Try.func72, Try.ntmps72
  go_wp2_with fail
  refine (KN.out _ (HR.out.below (by (repeat' (first | (with_reducible exact Below.refl _ _) | (with_reducible assumption) | (with_reducible refine balloc ?_ _) | (with_reducible refine Below.drew ?_) | (with_reducible refine below_drewN ?_ _) | (with_reducible refine bset ?_ ?_ _) | (with_reducible refine bstep ?_ (by assumption)) | go_size))))).mono ?_
  rintro e w1 ⟨rfl, hb1⟩
  have HA1 := Lib.hid (HA0.out.of_block (hb1.block _ HA0.out.lt))
  have HP1 := Lib.hid (HP0.out.of_block (hb1.block _ HP0.out.lt))
  have B1 : Hid (Below w.heap.size w w1) := bstep (by (repeat' (first | (with_reducible exact Below.refl _ _) | (with_reducible assumption) | (with_reducible refine balloc ?_ _) | (with_reducible refine Below.drew ?_) | (with_reducible refine below_drewN ?_ _) | (with_reducible refine bset ?_ ?_ _) | (with_reducible refine bstep ?_ (by assumption)) | go_size))) hb1
  clear HA0 HP0 hb1
  have hlP1 := HP1.out.lt
  obtain ⟨t0, t1, t2, t3⟩ := netAt_cells HP1.out
  obtain ⟨r0, r1, r2, r3⟩ := netAt_cells HA1.out
  have f0 := HA1.out.frozen 0
  have f1 := HA1.out.frozen 1
  have f2 := HA1.out.frozen 2
  have f3 := HA1.out.frozen 3
  have hlA1 := HA1.out.lt
  go_wp2_with fail
  have rs0 : (w1.cell? { block := w.heap.size + 1, off := 0 }).isSome = true := by simp [go_sem, *]
  have rs1 : (w1.cell? { block := w.heap.size + 1, off := 1 }).isSome = true := by simp [go_sem, *]
  have rs2 : (w1.cell? { block := w.heap.size + 1, off := 2 }).isSome = true := by simp [go_sem, *]
  have rs3 : (w1.cell? { block := w.heap.size + 1, off := 3 }).isSome = true := by simp [go_sem, *]
  refine bodyPost_ret (v := (.tuple #[netV 0 0 0 none 0 0, .bool false])) (by simp [results, Try.results72, go_sem, rs0, rs1, rs2, rs3]; try rfl) rfl ?_
  exact ⟨rfl, by have := B1.out; (repeat' (first | (with_reducible exact Below.refl _ _) | (with_reducible assumption) | (with_reducible refine balloc ?_ _) | (with_reducible refine Below.drew ?_) | (with_reducible refine below_drewN ?_ _) | (with_reducible refine bset ?_ ?_ _) | (with_reducible refine bstep ?_ (by assumption)) | go_size))⟩
set_option maxRecDepth 100000 in
set_option maxHeartbeats 8000000 in
theorem specPutWire1 (M : Nat) (E S : Int) (a : Option Addr) (n c : Nat) (l : List Wz) (p : Int) (q : Int) (wt : Int) (hok : NetOk M E S l) (hbad : ¬ ((0 ≤ p ∧ p < M) ∧ (0 ≤ q ∧ q < M) ∧ ¬ p = q ∧ 0 ≤ wt ∧ wt ≤ 200)) (w : World) (hr : ArgRow w a n c 3 (wires l)) (hl : l.length = n) :
    Calls Try.prog 72 #[netV M E S a n c, .int .i64 p, .int .i64 q, .int .i64 wt] w fun e w' => e = .returned (.tuple #[netV 0 0 0 none 0 0, .bool false]) ∧ Below w.heap.size w w' := by
  have HR := Lib.hid hr
  have KN := Lib.hid (fun (w : World) rr => specNetOk M E S a n c l true ⟨fun _ => hok, fun _ => rfl⟩ w rr hl)
  have hM5 := hok.h.n5
  have hM1 := hok.h.n1
  by_cases h_P : 0 ≤ p ∧ p ≤ (M : Int) - 1
  rotate_left
  · have KP := Lib.hid (fun (w : World) => specIn p 0 ((M : Int) - 1) false ⟨(fun h => by cases h), fun h => absurd (show 0 ≤ p ∧ p ≤ (M : Int) - 1 by omega) h_P⟩ w)
    clear hr hok hbad h_P
    have HA0 : Hid (((w.alloc (.cells #[.int .i64 M, .int .i64 E, .int .i64 S, .slice a n c] 25)).alloc (.cells #[.int .i64 0, .int .i64 0, .int .i64 0, .slice none 0 0] 25)).rowIs (w.heap.size + 1) 25 4 (netAt (.int .i64 0) (.int .i64 0) (.int .i64 0) (.slice none 0 0))) := by
      have := netAt_new (w.alloc (.cells #[.int .i64 M, .int .i64 E, .int .i64 S, .slice a n c] 25)) (.int .i64 0) (.int .i64 0) (.int .i64 0) (.slice none 0 0) 25
      simpa [Hid] using this
    have HP0 : Hid (((w.alloc (.cells #[.int .i64 M, .int .i64 E, .int .i64 S, .slice a n c] 25)).alloc (.cells #[.int .i64 0, .int .i64 0, .int .i64 0, .slice none 0 0] 25)).rowIs w.heap.size 25 4 (netAt (.int .i64 M) (.int .i64 E) (.int .i64 S) (.slice a n c))) := (netAt_new _ _ _ _ _ _).alloc _
    go_enter Try.func72, Try.ntmps72
    go_wp2_with fail
    refine (KN.out _ (HR.out.below (by (repeat' (first | (with_reducible exact Below.refl _ _) | (with_reducible assumption) | (with_reducible refine balloc ?_ _) | (with_reducible refine Below.drew ?_) | (with_reducible refine below_drewN ?_ _) | (with_reducible refine bset ?_ ?_ _) | (with_reducible refine bstep ?_ (by assumption)) | go_size))))).mono ?_
    rintro e w1 ⟨rfl, hb1⟩
    have HA1 := Lib.hid (HA0.out.of_block (hb1.block _ HA0.out.lt))
    have HP1 := Lib.hid (HP0.out.of_block (hb1.block _ HP0.out.lt))
    have B1 : Hid (Below w.heap.size w w1) := bstep (by (repeat' (first | (with_reducible exact Below.refl _ _) | (with_reducible assumption) | (with_reducible refine balloc ?_ _) | (with_reducible refine Below.drew ?_) | (with_reducible refine below_drewN ?_ _) | (with_reducible refine bset ?_ ?_ _) | (with_reducible refine bstep ?_ (by assumption)) | go_size))) hb1
    clear HA0 HP0 hb1
    have hlP1 := HP1.out.lt
    obtain ⟨t0, t1, t2, t3⟩ := netAt_cells HP1.out
    obtain ⟨r0, r1, r2, r3⟩ := netAt_cells HA1.out
    have f0 := HA1.out.frozen 0
    have f1 := HA1.out.frozen 1
    have f2 := HA1.out.frozen 2
    have f3 := HA1.out.frozen 3
    have hlA1 := HA1.out.lt
    go_wp2_with fail
    refine (KP.out _).mono ?_
    rintro e w9 ⟨rfl, rfl⟩
    go_wp2_with fail
    have rs0 : (w1.cell? { block := w.heap.size + 1, off := 0 }).isSome = true := by simp [go_sem, *]
    have rs1 : (w1.cell? { block := w.heap.size + 1, off := 1 }).isSome = true := by simp [go_sem, *]
    have rs2 : (w1.cell? { block := w.heap.size + 1, off := 2 }).isSome = true := by simp [go_sem, *]
    have rs3 : (w1.cell? { block := w.heap.size + 1, off := 3 }).isSome = true := by simp [go_sem, *]
    refine bodyPost_ret (v := (.tuple #[netV 0 0 0 none 0 0, .bool false])) (by simp [results, Try.results72, go_sem, rs0, rs1, rs2, rs3]; try rfl) rfl ?_
    exact ⟨rfl, by have := B1.out; (repeat' (first | (with_reducible exact Below.refl _ _) | (with_reducible assumption) | (with_reducible refine balloc ?_ _) | (with_reducible refine Below.drew ?_) | (with_reducible refine below_drewN ?_ _) | (with_reducible refine bset ?_ ?_ _) | (with_reducible refine bstep ?_ (by assumption)) | go_size))⟩
  have KP := Lib.hid (fun (w : World) => specIn p 0 ((M : Int) - 1) true ⟨fun _ => by omega, fun _ => rfl⟩ w)
  by_cases h_Q : 0 ≤ q ∧ q ≤ (M : Int) - 1
  rotate_left
  · have KQ := Lib.hid (fun (w : World) => specIn q 0 ((M : Int) - 1) false ⟨(fun h => by cases h), fun h => absurd (show 0 ≤ q ∧ q ≤ (M : Int) - 1 by omega) h_Q⟩ w)
    clear hr hok hbad h_P h_Q
    have HA0 : Hid (((w.alloc (.cells #[.int .i64 M, .int .i64 E, .int .i64 S, .slice a n c] 25)).alloc (.cells #[.int .i64 0, .int .i64 0, .int .i64 0, .slice none 0 0] 25)).rowIs (w.heap.size + 1) 25 4 (netAt (.int .i64 0) (.int .i64 0) (.int .i64 0) (.slice none 0 0))) := by
      have := netAt_new (w.alloc (.cells #[.int .i64 M, .int .i64 E, .int .i64 S, .slice a n c] 25)) (.int .i64 0) (.int .i64 0) (.int .i64 0) (.slice none 0 0) 25
      simpa [Hid] using this
    have HP0 : Hid (((w.alloc (.cells #[.int .i64 M, .int .i64 E, .int .i64 S, .slice a n c] 25)).alloc (.cells #[.int .i64 0, .int .i64 0, .int .i64 0, .slice none 0 0] 25)).rowIs w.heap.size 25 4 (netAt (.int .i64 M) (.int .i64 E) (.int .i64 S) (.slice a n c))) := (netAt_new _ _ _ _ _ _).alloc _
    go_enter Try.func72, Try.ntmps72
    go_wp2_with fail
    refine (KN.out _ (HR.out.below (by (repeat' (first | (with_reducible exact Below.refl _ _) | (with_reducible assumption) | (with_reducible refine balloc ?_ _) | (with_reducible refine Below.drew ?_) | (with_reducible refine below_drewN ?_ _) | (with_reducible refine bset ?_ ?_ _) | (with_reducible refine bstep ?_ (by assumption)) | go_size))))).mono ?_
    rintro e w1 ⟨rfl, hb1⟩
    have HA1 := Lib.hid (HA0.out.of_block (hb1.block _ HA0.out.lt))
    have HP1 := Lib.hid (HP0.out.of_block (hb1.block _ HP0.out.lt))
    have B1 : Hid (Below w.heap.size w w1) := bstep (by (repeat' (first | (with_reducible exact Below.refl _ _) | (with_reducible assumption) | (with_reducible refine balloc ?_ _) | (with_reducible refine Below.drew ?_) | (with_reducible refine below_drewN ?_ _) | (with_reducible refine bset ?_ ?_ _) | (with_reducible refine bstep ?_ (by assumption)) | go_size))) hb1
    clear HA0 HP0 hb1
    have hlP1 := HP1.out.lt
    obtain ⟨t0, t1, t2, t3⟩ := netAt_cells HP1.out
    obtain ⟨r0, r1, r2, r3⟩ := netAt_cells HA1.out
    have f0 := HA1.out.frozen 0
    have f1 := HA1.out.frozen 1
    have f2 := HA1.out.frozen 2
    have f3 := HA1.out.frozen 3
    have hlA1 := HA1.out.lt
    go_wp2_with fail
    refine (KP.out _).mono ?_
    rintro e w9 ⟨rfl, rfl⟩
    go_wp2_with fail
    refine (KQ.out _).mono ?_
    rintro e w9 ⟨rfl, rfl⟩
    go_wp2_with fail
    have rs0 : (w1.cell? { block := w.heap.size + 1, off := 0 }).isSome = true := by simp [go_sem, *]
    have rs1 : (w1.cell? { block := w.heap.size + 1, off := 1 }).isSome = true := by simp [go_sem, *]
    have rs2 : (w1.cell? { block := w.heap.size + 1, off := 2 }).isSome = true := by simp [go_sem, *]
    have rs3 : (w1.cell? { block := w.heap.size + 1, off := 3 }).isSome = true := by simp [go_sem, *]
    refine bodyPost_ret (v := (.tuple #[netV 0 0 0 none 0 0, .bool false])) (by simp [results, Try.results72, go_sem, rs0, rs1, rs2, rs3]; try rfl) rfl ?_
    exact ⟨rfl, by have := B1.out; (repeat' (first | (with_reducible exact Below.refl _ _) | (with_reducible assumption) | (with_reducible refine balloc ?_ _) | (with_reducible refine Below.drew ?_) | (with_reducible refine below_drewN ?_ _) | (with_reducible refine bset ?_ ?_ _) | (with_reducible refine bstep ?_ (by assumption)) | go_size))⟩
  have KQ := Lib.hid (fun (w : World) => specIn q 0 ((M : Int) - 1) true ⟨fun _ => by omega, fun _ => rfl⟩ w)
  by_cases hpq : p = q
  · have hPQ : (p == q) = true := by simp [hpq]
    clear hr hok hbad h_P h_Q hpq
    have HA0 : Hid (((w.alloc (.cells #[.int .i64 M, .int .i64 E, .int .i64 S, .slice a n c] 25)).alloc (.cells #[.int .i64 0, .int .i64 0, .int .i64 0, .slice none 0 0] 25)).rowIs (w.heap.size + 1) 25 4 (netAt (.int .i64 0) (.int .i64 0) (.int .i64 0) (.slice none 0 0))) := by
      have := netAt_new (w.alloc (.cells #[.int .i64 M, .int .i64 E, .int .i64 S, .slice a n c] 25)) (.int .i64 0) (.int .i64 0) (.int .i64 0) (.slice none 0 0) 25
      simpa [Hid] using this
    have HP0 : Hid (((w.alloc (.cells #[.int .i64 M, .int .i64 E, .int .i64 S, .slice a n c] 25)).alloc (.cells #[.int .i64 0, .int .i64 0, .int .i64 0, .slice none 0 0] 25)).rowIs w.heap.size 25 4 (netAt (.int .i64 M) (.int .i64 E) (.int .i64 S) (.slice a n c))) := (netAt_new _ _ _ _ _ _).alloc _
    go_enter Try.func72, Try.ntmps72
    go_wp2_with fail
    refine (KN.out _ (HR.out.below (by (repeat' (first | (with_reducible exact Below.refl _ _) | (with_reducible assumption) | (with_reducible refine balloc ?_ _) | (with_reducible refine Below.drew ?_) | (with_reducible refine below_drewN ?_ _) | (with_reducible refine bset ?_ ?_ _) | (with_reducible refine bstep ?_ (by assumption)) | go_size))))).mono ?_
    rintro e w1 ⟨rfl, hb1⟩
    have HA1 := Lib.hid (HA0.out.of_block (hb1.block _ HA0.out.lt))
    have HP1 := Lib.hid (HP0.out.of_block (hb1.block _ HP0.out.lt))
    have B1 : Hid (Below w.heap.size w w1) := bstep (by (repeat' (first | (with_reducible exact Below.refl _ _) | (with_reducible assumption) | (with_reducible refine balloc ?_ _) | (with_reducible refine Below.drew ?_) | (with_reducible refine below_drewN ?_ _) | (with_reducible refine bset ?_ ?_ _) | (with_reducible refine bstep ?_ (by assumption)) | go_size))) hb1
    clear HA0 HP0 hb1
    have hlP1 := HP1.out.lt
    obtain ⟨t0, t1, t2, t3⟩ := netAt_cells HP1.out
    obtain ⟨r0, r1, r2, r3⟩ := netAt_cells HA1.out
    have f0 := HA1.out.frozen 0
    have f1 := HA1.out.frozen 1
    have f2 := HA1.out.frozen 2
    have f3 := HA1.out.frozen 3
    have hlA1 := HA1.out.lt
    go_wp2_with fail
    refine (KP.out _).mono ?_
    rintro e w9 ⟨rfl, rfl⟩
    go_wp2_with fail
    refine (KQ.out _).mono ?_
    rintro e w9 ⟨rfl, rfl⟩
    go_wp2_with fail
    have rs0 : (w1.cell? { block := w.heap.size + 1, off := 0 }).isSome = true := by simp [go_sem, *]
    have rs1 : (w1.cell? { block := w.heap.size + 1, off := 1 }).isSome = true := by simp [go_sem, *]
    have rs2 : (w1.cell? { block := w.heap.size + 1, off := 2 }).isSome = true := by simp [go_sem, *]
    have rs3 : (w1.cell? { block := w.heap.size + 1, off := 3 }).isSome = true := by simp [go_sem, *]
    refine bodyPost_ret (v := (.tuple #[netV 0 0 0 none 0 0, .bool false])) (by simp [results, Try.results72, go_sem, rs0, rs1, rs2, rs3]; try rfl) rfl ?_
    exact ⟨rfl, by have := B1.out; (repeat' (first | (with_reducible exact Below.refl _ _) | (with_reducible assumption) | (with_reducible refine balloc ?_ _) | (with_reducible refine Below.drew ?_) | (with_reducible refine below_drewN ?_ _) | (with_reducible refine bset ?_ ?_ _) | (with_reducible refine bstep ?_ (by assumption)) | go_size))⟩
  have hPQ : (p == q) = false := by simp [hpq]
  have h_W : ¬ (0 ≤ wt ∧ wt ≤ 200) := fun h => hbad ⟨by omega, by omega, hpq, h⟩
  have KW := Lib.hid (fun (w : World) => specIn wt 0 200 false ⟨(fun h => by cases h), fun h => absurd (show 0 ≤ wt ∧ wt ≤ 200 by omega) h_W⟩ w)
  clear hr hok hbad h_P h_Q hpq h_W
  have HA0 : Hid (((w.alloc (.cells #[.int .i64 M, .int .i64 E, .int .i64 S, .slice a n c] 25)).alloc (.cells #[.int .i64 0, .int .i64 0, .int .i64 0, .slice none 0 0] 25)).rowIs (w.heap.size + 1) 25 4 (netAt (.int .i64 0) (.int .i64 0) (.int .i64 0) (.slice none 0 0))) := by
    have := netAt_new (w.alloc (.cells #[.int .i64 M, .int .i64 E, .int .i64 S, .slice a n c] 25)) (.int .i64 0) (.int .i64 0) (.int .i64 0) (.slice none 0 0) 25
    simpa [Hid] using this
  have HP0 : Hid (((w.alloc (.cells #[.int .i64 M, .int .i64 E, .int .i64 S, .slice a n c] 25)).alloc (.cells #[.int .i64 0, .int .i64 0, .int .i64 0, .slice none 0 0] 25)).rowIs w.heap.size 25 4 (netAt (.int .i64 M) (.int .i64 E) (.int .i64 S) (.slice a n c))) := (netAt_new _ _ _ _ _ _).alloc _
  go_enter Try.func72, Try.ntmps72
  go_wp2_with fail
  refine (KN.out _ (HR.out.below (by (repeat' (first | (with_reducible exact Below.refl _ _) | (with_reducible assumption) | (with_reducible refine balloc ?_ _) | (with_reducible refine Below.drew ?_) | (with_reducible refine below_drewN ?_ _) | (with_reducible refine bset ?_ ?_ _) | (with_reducible refine bstep ?_ (by assumption)) | go_size))))).mono ?_
  rintro e w1 ⟨rfl, hb1⟩
  have HA1 := Lib.hid (HA0.out.of_block (hb1.block _ HA0.out.lt))
  have HP1 := Lib.hid (HP0.out.of_block (hb1.block _ HP0.out.lt))
  have B1 : Hid (Below w.heap.size w w1) := bstep (by (repeat' (first | (with_reducible exact Below.refl _ _) | (with_reducible assumption) | (with_reducible refine balloc ?_ _) | (with_reducible refine Below.drew ?_) | (with_reducible refine below_drewN ?_ _) | (with_reducible refine bset ?_ ?_ _) | (with_reducible refine bstep ?_ (by assumption)) | go_size))) hb1
  clear HA0 HP0 hb1
  have hlP1 := HP1.out.lt
  obtain ⟨t0, t1, t2, t3⟩ := netAt_cells HP1.out
  obtain ⟨r0, r1, r2, r3⟩ := netAt_cells HA1.out
  have f0 := HA1.out.frozen 0
  have f1 := HA1.out.frozen 1
  have f2 := HA1.out.frozen 2
  have f3 := HA1.out.frozen 3
  have hlA1 := HA1.out.lt
  go_wp2_with fail
  refine (KP.out _).mono ?_
  rintro e w9 ⟨rfl, rfl⟩
  go_wp2_with fail
  refine (KQ.out _).mono ?_
  rintro e w9 ⟨rfl, rfl⟩
  go_wp2_with fail
  refine (KW.out _).mono ?_
  rintro e w9 ⟨rfl, rfl⟩
  go_wp2_with fail
  have rs0 : (w1.cell? { block := w.heap.size + 1, off := 0 }).isSome = true := by simp [go_sem, *]
  have rs1 : (w1.cell? { block := w.heap.size + 1, off := 1 }).isSome = true := by simp [go_sem, *]
  have rs2 : (w1.cell? { block := w.heap.size + 1, off := 2 }).isSome = true := by simp [go_sem, *]
  have rs3 : (w1.cell? { block := w.heap.size + 1, off := 3 }).isSome = true := by simp [go_sem, *]
  refine bodyPost_ret (v := (.tuple #[netV 0 0 0 none 0 0, .bool false])) (by simp [results, Try.results72, go_sem, rs0, rs1, rs2, rs3]; try rfl) rfl ?_
  exact ⟨rfl, by have := B1.out; (repeat' (first | (with_reducible exact Below.refl _ _) | (with_reducible assumption) | (with_reducible refine balloc ?_ _) | (with_reducible refine Below.drew ?_) | (with_reducible refine below_drewN ?_ _) | (with_reducible refine bset ?_ ?_ _) | (with_reducible refine bstep ?_ (by assumption)) | go_size))⟩
end Go.Proofs.Ytdmiihljepkapaa
