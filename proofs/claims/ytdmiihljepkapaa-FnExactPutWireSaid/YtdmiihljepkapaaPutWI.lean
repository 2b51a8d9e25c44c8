/- PutWire of the program. -/
import Derived.Test.YtdmiihljepkapaaNetOf
import Derived.Test.YtdmiihljepkapaaLeft2
import Derived.Test.YtdmiihljepkapaaTrees2
namespace Go.Proofs.Ytdmiihljepkapaa
set_option linter.unusedSimpArgs false
set_option linter.unusedVariables false
open Go.RowKit

/-- the weights when the weight between p and q is wt -/
def putF (l : List Wz) (p q wt i j : Int) : Int := if (i = p ∧ j = q) ∨ (i = q ∧ j = p) then wt else wbF l i j
theorem putF_tab {M : Nat} {E S : Int} {l : List Wz} (h : NetOk M E S l) {p q wt : Int} (hp : 0 ≤ p ∧ p < M) (hq : 0 ≤ q ∧ q < M) (hne : ¬ p = q) : tabL (putF l p q wt) M M = dropL (putL l (min p q) (max p q) wt false) := by
  refine srt_eq (tabL_srt _ _ _) (dropL_srt (putL_srt h.srt _ _ _ _)) (fun y => ?_)
  rw [tabL_mem, dropL_mem, putL_mem]
  simp only [Bool.false_eq_true, if_false]
  obtain ⟨y1, y2, y3⟩ := y
  simp only
  constructor
  · rintro ⟨g1, g2, g3, g4, g5, g6⟩
    refine ⟨?_, by rw [g5]; exact g6⟩
    by_cases hk : y1 = min p q ∧ y2 = max p q
    · left
      have : putF l p q wt y1 y2 = wt := by unfold putF; rw [if_pos (by omega)]
      rw [g5, this, hk.1, hk.2]
    · right
      refine ⟨?_, hk⟩
      have e : putF l p q wt y1 y2 = wbF l y1 y2 := by unfold putF; rw [if_neg (by omega)]
      rw [e] at g5 g6
      rw [g5]
      exact wbF_find h.asc g3 g6
  · rintro ⟨h1 | ⟨h1, h2⟩, h3⟩
    · simp only [Prod.mk.injEq] at h1
      obtain ⟨rfl, rfl, rfl⟩ := h1
      have : putF l p q y3 (min p q) (max p q) = y3 := by unfold putF; rw [if_pos (by omega)]
      rw [this]
      exact ⟨by omega, by omega, by omega, by omega, rfl, h3⟩
    · obtain ⟨g1, g2, g3, g4, g5⟩ := h.good h1
      simp only at g1 g2 g3 g4 g5
      have e : putF l p q wt y1 y2 = wbF l y1 y2 := by unfold putF; rw [if_neg (by omega)]
      have e2 := wbF_mem h.srt h.asc h1
      simp only at e2
      rw [e, e2]
      exact ⟨g1, by omega, g2, g3, rfl, h3⟩
theorem putF_bd {M : Nat} {E S : Int} {l : List Wz} (h : NetOk M E S l) {wt : Int} (hw : 0 ≤ wt ∧ wt ≤ 200) (p q i j : Int) : -1000000000000000000 ≤ putF l p q wt i j ∧ putF l p q wt i j ≤ 1000000000000000000 := by
  have := h.wb i j
  unfold putF; split <;> omega
set_option maxRecDepth 100000 in
set_option maxHeartbeats 8000000 in
theorem implPutWire (M : Nat) (E S : Int) (a : Option Addr) (n c : Nat) (l : List Wz) (p : Int) (q : Int) (wt : Int) (hp : 0 ≤ p ∧ p < M) (hq : 0 ≤ q ∧ q < M) (hne : ¬ p = q) (hwt : 0 ≤ wt ∧ wt ≤ 200) (hok : NetOk M E S l) (ok : Bool) (hoo : ok = true ↔ NetOk M E S (dropL (putL l (min p q) (max p q) wt false))) (w : World) (hr : ArgRow w a n c 3 (wires l)) (hl : l.length = n) :
    Calls Try.prog 73 #[netV M E S a n c, .int .i64 p, .int .i64 q, .int .i64 wt] w fun e w' => NetRes e w w' ok M E S (dropL (putL l (min p q) (max p q) wt false)) ∧ Below w.heap.size w w' := by
  have HR := Lib.hid hr
  have KN := Lib.hid (fun (w : World) rr => implNetOk M E S a n c l true ⟨fun _ => hok, fun _ => rfl⟩ w rr hl)
  have KP := Lib.hid (fun (w : World) => implIsNode M E S a n c p true ⟨fun _ => hp, fun _ => rfl⟩ w)
  have KQ := Lib.hid (fun (w : World) => implIsNode M E S a n c q true ⟨fun _ => hq, fun _ => rfl⟩ w)
  have hM5 : M ≤ 5 := by have := hok.h.n5; omega
  have hM1 : 1 ≤ M := by have := hok.h.n1; omega
  have KT := Lib.hid (fun (w : World) rr => implTable M E S a n c l hM5 hok.asc w rr hl)
  obtain ⟨s, rfl⟩ : ∃ s : Nat, S = s := ⟨S.toNat, by have := hok.h.s1; omega⟩
  have hs1 : 0 < s := by have := hok.h.s1; omega
  have hs2 : s ≤ 1000000000000000000 := by have := hok.h.s2; omega
  have hVT := putF_tab (wt := wt) hok hp hq hne
  have KO := Lib.hid (fun (w : World) (g : Nat) rr => implNetOf M E s (putF l p q wt) (some ⟨g, 0, none⟩) M false ok ⟨hM1, hM5⟩ hs1 hs2 (putF_bd hok hwt p q) (by simp only [Bool.false_eq_true, if_false]; rw [hVT]; exact hoo) w rr)
  simp only [Bool.false_eq_true, if_false, hVT] at KO
  generalize dropL (putL l (min p q) (max p q) wt false) = L2 at KO ⊢
  obtain ⟨P, rfl⟩ : ∃ P : Nat, p = P := ⟨p.toNat, by omega⟩
  obtain ⟨Q, rfl⟩ : ∃ Q : Nat, q = Q := ⟨q.toNat, by omega⟩
  have hPM : P < M := by omega
  have hQM : Q < M := by omega
  have hPQ : ¬ P = Q := by omega
  have hPQ2 : ((P : Int) == (Q : Int)) = false := by simp; omega
  have hPQ3 : (P == Q) = false := by simp; omega
  clear hr hok hoo hVT
  have HA0 : Hid (((w.alloc (.cells #[.int .i64 M, .int .i64 E, .int .i64 s, .slice a n c] 25)).alloc (.cells #[.int .i64 0, .int .i64 0, .int .i64 0, .slice none 0 0] 25)).rowIs (w.heap.size + 1) 25 4 (netAt (.int .i64 0) (.int .i64 0) (.int .i64 0) (.slice none 0 0))) := by
    have := netAt_new (w.alloc (.cells #[.int .i64 M, .int .i64 E, .int .i64 s, .slice a n c] 25)) (.int .i64 0) (.int .i64 0) (.int .i64 0) (.slice none 0 0) 25
    simpa [Hid] using this
  have HP0 : Hid (((w.alloc (.cells #[.int .i64 M, .int .i64 E, .int .i64 s, .slice a n c] 25)).alloc (.cells #[.int .i64 0, .int .i64 0, .int .i64 0, .slice none 0 0] 25)).rowIs w.heap.size 25 4 (netAt (.int .i64 M) (.int .i64 E) (.int .i64 s) (.slice a n c))) := (netAt_new _ _ _ _ _ _).alloc _
  go_enter Try.func73, Try.ntmps73
  go_wp2_with fail
  refine (KN.out _ (HR.out.below (by (repeat' (first | (with_reducible exact Below.refl _ _) | (with_reducible assumption) | (with_reducible refine balloc ?_ _) | (with_reducible refine Below.drew ?_) | (with_reducible refine below_drewN ?_ _) | (with_reducible refine bset ?_ ?_ _) | (with_reducible refine bstep ?_ (by assumption)) | go_size))))).mono ?_
  rintro e w1 ⟨rfl, hb1⟩
  have HA1 := Lib.hid (HA0.out.of_block (hb1.block _ HA0.out.lt))
  have HP1 := Lib.hid (HP0.out.of_block (hb1.block _ HP0.out.lt))
  have B1 : Hid (Below w.heap.size w w1) := bstep (by (repeat' (first | (with_reducible exact Below.refl _ _) | (with_reducible assumption) | (with_reducible refine balloc ?_ _) | (with_reducible refine Below.drew ?_) | (with_reducible refine below_drewN ?_ _) | (with_reducible refine bset ?_ ?_ _) | (with_reducible refine bstep ?_ (by assumption)) | go_size))) hb1
  clear HA0 HP0 hb1
  have hlP1 := HP1.out.lt
  obtain ⟨t0, t1, t2, t3⟩ := netAt_cells HP1.out
  go_wp2_with fail
  refine (KP.out _).mono ?_
  rintro e w2 ⟨rfl, hb2⟩
  clear t0 t1 t2 t3
  have HA2 := Lib.hid (HA1.out.of_block (hb2.block _ HA1.out.lt))
  have HP2 := Lib.hid (HP1.out.of_block (hb2.block _ HP1.out.lt))
  have B2 : Hid (Below w.heap.size w w2) := bstep B1.out hb2
  clear HA1 HP1 hb2
  have hlP2 := HP2.out.lt
  obtain ⟨t0, t1, t2, t3⟩ := netAt_cells HP2.out
  go_wp2_with fail
  refine (KQ.out _).mono ?_
  rintro e w3 ⟨rfl, hb3⟩
  clear t0 t1 t2 t3
  have HA3 := Lib.hid (HA2.out.of_block (hb3.block _ HA2.out.lt))
  have HP3 := Lib.hid (HP2.out.of_block (hb3.block _ HP2.out.lt))
  have B3 : Hid (Below w.heap.size w w3) := bstep B2.out hb3
  clear HA2 HP2 hb3
  have hlP3 := HP3.out.lt
  obtain ⟨t0, t1, t2, t3⟩ := netAt_cells HP3.out
  go_wp2_with fail
  refine (KT.out _ (HR.out.below B3.out)).mono ?_
  rintro e w4 ⟨g, r, rfl, G4, hb4⟩
  clear t0 t1 t2 t3
  have hs34 := hb4.size
  have HA4 := Lib.hid (HA3.out.of_block (hb4.block _ HA3.out.lt))
  have HP4 := Lib.hid (HP3.out.of_block (hb4.block _ HP3.out.lt))
  have B4 : Hid (Below w.heap.size w w4) := bstep B3.out hb4
  have hlb3 : w.heap.size + 1 < w3.heap.size := HA3.out.lt
  clear HA3 HP3 hb4
  have G5 := G4.put (i := P) (j := Q) hPM wt
  have G6 := G5.put (i := Q) (j := P) hQM wt
  have hI := (G6.congr (f' := fun i j => putF l P Q wt i j) (fun i j _ _ => by
    unfold putF
    by_cases e1 : i = Q ∧ j = P
    · rw [if_pos e1, if_pos (by omega)]
    · rw [if_neg e1]
      by_cases e2 : i = P ∧ j = Q
      · rw [if_pos e2, if_pos (by omega)]
      · rw [if_neg e2, if_neg (by omega)])).grid (by unfold maxLen; omega)
  have o1 := G4.outer (i := P) hPM
  have o2 := G4.outer (i := Q) hQM
  have c1 := G4.cell (i := P) (j := Q) hPM hQM
  have c2 := G4.cell (i := Q) (j := P) hQM hPM
  have d1 := (G4.rows P hPM).frozen Q
  have d2 := (G4.rows Q hQM).frozen P
  have l1 := (G4.rows P hPM).lt
  have l2 := (G4.rows Q hQM).lt
  have lg := G4.og.lt
  have hg1 := G4.ne P hPM
  have hg2 := G4.ne Q hQM
  have hg12 : ¬ r P = r Q := fun e => hPQ (G4.inj P Q hPM hQM e)
  have b1 := G4.lb P hPM
  have b2 := G4.lb Q hQM
  have bg := G4.lbg
  have HI := Lib.hid hI
  have HB6 : Hid (Below w.heap.size w ((w4.setCell ⟨r P, Q, none⟩ (.int .i64 wt)).setCell ⟨r Q, P, none⟩ (.int .i64 wt))) := bset (bset B4.out (by show _ ≤ r P; omega) _) (by show _ ≤ r Q; omega) _
  have HA6 := Lib.hid ((HA4.out.setOther (a := ⟨r P, Q, none⟩) (by show w.heap.size + 1 ≠ r P; omega) (.int .i64 wt)).setOther (a := ⟨r Q, P, none⟩) (by show w.heap.size + 1 ≠ r Q; omega) (.int .i64 wt))
  have HP6 := Lib.hid ((HP4.out.setOther (a := ⟨r P, Q, none⟩) (by show w.heap.size ≠ r P; omega) (.int .i64 wt)).setOther (a := ⟨r Q, P, none⟩) (by show w.heap.size ≠ r Q; omega) (.int .i64 wt))
  generalize r P = ρ1 at *
  generalize r Q = ρ2 at *
  have hg3 : ¬ g = ρ1 := fun e => hg1 e.symm
  have hg4 : ¬ g = ρ2 := fun e => hg2 e.symm
  have hg21 : ¬ ρ2 = ρ1 := fun e => hg12 e.symm
  have hx1 : ¬ w.heap.size = ρ1 := by omega
  have hx2 : ¬ w.heap.size = ρ2 := by omega
  have hx3 : ¬ ρ1 = w.heap.size := by omega
  have hx4 : ¬ ρ2 = w.heap.size := by omega
  have hs6 : w.heap.size + 1 < w4.heap.size := by omega
  clear G4 G5 G6 hI HA4
  have hlP4 := HP4.out.lt
  obtain ⟨t0, t1, t2, t3⟩ := netAt_cells HP4.out
  clear HP4
  go_wp2_with fail
  refine (KO.out _ g HI.out).mono ?_
  rintro e w7 ⟨hres, hb7⟩
  have hb7' := hb7
  simp only [World.size_setCell] at hb7'
  clear t0 t1 t2 t3
  have HA7 := Lib.hid (HA6.out.of_block (hb7.block _ HA6.out.lt))
  have HB7 : Hid (Below w.heap.size w w7) := bstep HB6.out hb7
  clear HP6 HA6 c1 c2 d1 d2 o1 o2
  obtain ⟨r0, r1, r2, r3⟩ := netAt_cells HA7.out
  have f0 := HA7.out.frozen 0
  have f1 := HA7.out.frozen 1
  have f2 := HA7.out.frozen 2
  have f3 := HA7.out.frozen 3
  have hlA7 := HA7.out.lt
  have hs7 := hb7.size
  simp only [World.size_setCell] at hs7
  clear hb7 hb7'
  unfold NetRes at hres
  cases ok
  · rw [if_neg (by simp)] at hres
    subst hres
    go_wp2_with fail
    have rs0 : (w7.cell? { block := w.heap.size + 1, off := 0 }).isSome = true := by simp [go_sem, *]
    have rs1 : (w7.cell? { block := w.heap.size + 1, off := 1 }).isSome = true := by simp [go_sem, *]
    have rs2 : (w7.cell? { block := w.heap.size + 1, off := 2 }).isSome = true := by simp [go_sem, *]
    have rs3 : (w7.cell? { block := w.heap.size + 1, off := 3 }).isSome = true := by simp [go_sem, *]
    refine bodyPost_ret (v := (.tuple #[netV 0 0 0 none 0 0, .bool false])) (by simp [results, Try.results73, go_sem, rs0, rs1, rs2, rs3]; try rfl) rfl ?_
    exact ⟨by unfold NetRes; rw [if_neg (by simp)], by have := HB7.out; (repeat' (first | (with_reducible exact Below.refl _ _) | (with_reducible assumption) | (with_reducible refine balloc ?_ _) | (with_reducible refine Below.drew ?_) | (with_reducible refine below_drewN ?_ _) | (with_reducible refine bset ?_ ?_ _) | (with_reducible refine bstep ?_ (by assumption)) | go_size))⟩
  · rw [if_pos rfl] at hres
    obtain ⟨a7, c7, rfl, o7⟩ := hres
    have O7 := Lib.hid o7
    simp only [World.size_setCell] at O7
    generalize hL2 : L2.length = m2 at O7
    have HL2 := Lib.hid hL2
    clear o7 hL2
    go_wp2_with fail
    have rs0 : (w7.cell? { block := w.heap.size + 1, off := 0 }).isSome = true := by simp [go_sem, *]
    have rs1 : (w7.cell? { block := w.heap.size + 1, off := 1 }).isSome = true := by simp [go_sem, *]
    have rs2 : (w7.cell? { block := w.heap.size + 1, off := 2 }).isSome = true := by simp [go_sem, *]
    have rs3 : (w7.cell? { block := w.heap.size + 1, off := 3 }).isSome = true := by simp [go_sem, *]
    refine bodyPost_ret (v := (.tuple #[netV M E s a7 m2 c7, .bool true])) (by simp [results, Try.results73, go_sem, rs0, rs1, rs2, rs3]; try rfl) rfl ?_
    refine ⟨?_, by have := HB7.out; (repeat' (first | (with_reducible exact Below.refl _ _) | (with_reducible assumption) | (with_reducible refine balloc ?_ _) | (with_reducible refine Below.drew ?_) | (with_reducible refine below_drewN ?_ _) | (with_reducible refine bset ?_ ?_ _) | (with_reducible refine bstep ?_ (by assumption)) | go_size))⟩
    unfold NetRes
    rw [if_pos rfl, HL2.out]
    refine ⟨a7, c7, rfl, ?_⟩
    refine World.ownsRow.mono (base := w.heap.size + 1 + 1) ?_ (by omega)
    have o9 := World.ownsRow.mono (base' := w.heap.size + 1 + 1) O7.out (by omega)
    repeat' (first | with_reducible exact o9 | (with_reducible refine ownsRow_setCell_below ?_ ?_ _) | (dsimp only; omega) | omega)
set_option maxRecDepth 100000 in
set_option maxHeartbeats 8000000 in
theorem implPutWire0 (N : Int) (E S : Int) (a : Option Addr) (n c : Nat) (l : List Wz) (p : Int) (q : Int) (wt : Int) (hok : ¬ NetOk N E S l) (w : World) (hr : ArgRow w a n c 3 (wires l)) (hl : l.length = n) :
    Calls Try.prog 73 #[netV N E S a n c, .int .i64 p, .int .i64 q, .int .i64 wt] w fun e w' => e = .returned (.tuple #[netV 0 0 0 none 0 0, .bool false]) ∧ Below w.heap.size w w' := by
  have HR := Lib.hid hr
  have KN := Lib.hid (fun (w : World) rr => implNetOk N E S a n c l false ⟨(fun h => by cases h), fun h => absurd h hok⟩ w rr hl)
  clear hr hok
  have HA0 : Hid (((w.alloc (.cells #[.int .i64 N, .int .i64 E, .int .i64 S, .slice a n c] 25)).alloc (.cells #[.int .i64 0, .int .i64 0, .int .i64 0, .slice none 0 0] 25)).rowIs (w.heap.size + 1) 25 4 (netAt (.int .i64 0) (.int .i64 0) (.int .i64 0) (.slice none 0 0))) := by
    have := netAt_new (w.alloc (.cells #[.int .i64 N, .int .i64 E, .int .i64 S, .slice a n c] 25)) (.int .i64 0) (.int .i64 0) (.int .i64 0) (.slice none 0 0) 25
    simpa [Hid] using this
  have HP0 : Hid (((w.alloc (.cells #[.int .i64 N, .int .i64 E, .int .i64 S, .slice a n c] 25)).alloc (.cells #[.int .i64 0, .int .i64 0, .int .i64 0, .slice none 0 0] 25)).rowIs w.heap.size 25 4 (netAt (.int .i64 N) (.int .i64 E) (.int .i64 S) (.slice a n c))) := (netAt_new _ _ _ _ _ _).alloc _
  go_enter Try.func73, Try.ntmps73
  go_wp2_with fail
  refine (KN.out _ (HR.out.below (by (repeat' (first | (with_reducible exact Below.refl _ _) | (with_reducible assumption) | (with_reducible refine balloc ?_ _) | (with_reducible refine Below.drew ?_) | (with_reducible refine below_drewN ?_ _) | (with_reducible refine bset ?_ ?_ _) | (with_reducible refine bstep ?_ (by assumption)) | go_size))))).mono ?_
  rintro e w1 ⟨rfl, hb1⟩
  have HA1 := Lib.hid (HA0.out.of_block (hb1.block _ HA0.out.lt))
  have HP1 := Lib.hid (HP0.out.of_block (hb1.block _ HP0.out.lt))
  have B1 : Hid (Below w.heap.size w w1) := bstep (by (repeat' (first | (with_reducible exact Below.refl _ _) | (with_reducible assumption) | (with_reducible refine balloc ?_ _) | (with_reducible refine Below.drew ?_) | (with_reducible refine below_drewN ?_ _) | (with_reducible refine bset ?_ ?_ _) | (with_reducible refine bstep ?_ (by assumption)) | go_size))) hb1
  clear HA0 HP0 hb1
  have hlP1 := HP1.out.lt
  obtain ⟨t0, t1, t2, t3⟩ := netAt_cells HP1.out
  obtain ⟨r0, r1, r2, r3⟩ := netAt_cells HA1.out
  have f0 := HA1.out.frozen 0
  have f1 := HA1.out.frozen 1
  have f2 := HA1.out.frozen 2
  have f3 := HA1.out.frozen 3
  have hlA1 := HA1.out.lt
  go_wp2_with fail
  have rs0 : (w1.cell? { block := w.heap.size + 1, off := 0 }).isSome = true := by simp [go_sem, *]
  have rs1 : (w1.cell? { block := w.heap.size + 1, off := 1 }).isSome = true := by simp [go_sem, *]
  have rs2 : (w1.cell? { block := w.heap.size + 1, off := 2 }).isSome = true := by simp [go_sem, *]
  have rs3 : (w1.cell? { block := w.heap.size + 1, off := 3 }).isSome = true := by simp [go_sem, *]
  refine bodyPost_ret (v := (.tuple #[netV 0 0 0 none 0 0, .bool false])) (by simp [results, Try.results73, go_sem, rs0, rs1, rs2, rs3]; try rfl) rfl ?_
  exact ⟨rfl, by have := B1.out; (repeat' (first | (with_reducible exact Below.refl _ _) | (with_reducible assumption) | (with_reducible refine balloc ?_ _) | (with_reducible refine Below.drew ?_) | (with_reducible refine below_drewN ?_ _) | (with_reducible refine bset ?_ ?_ _) | (with_reducible refine bstep ?_ (by assumption)) | go_size))⟩
set_option maxRecDepth 100000 in
set_option maxHeartbeats 8000000 in
theorem implPutWire1 (M : Nat) (E S : Int) (a : Option Addr) (n c : Nat) (l : List Wz) (p : Int) (q : Int) (wt : Int) (hok : NetOk M E S l) (hbad : ¬ ((0 ≤ p ∧ p < M) ∧ (0 ≤ q ∧ q < M) ∧ ¬ p = q ∧ 0 ≤ wt ∧ wt ≤ 200)) (w : World) (hr : ArgRow w a n c 3 (wires l)) (hl : l.length = n) :
    Calls Try.prog 73 #[netV M E S a n c, .int .i64 p, .int .i64 q, .int .i64 wt] w fun e w' => e = .returned (.tuple #[netV 0 0 0 none 0 0, .bool false]) ∧ Below w.heap.size w w' := by
  have HR := Lib.hid hr
  have KN := Lib.hid (fun (w : World) rr => implNetOk M E S a n c l true ⟨fun _ => hok, fun _ => rfl⟩ w rr hl)
  by_cases hp : 0 ≤ p ∧ p < M
  rotate_left
  · have KP := Lib.hid (fun (w : World) => implIsNode M E S a n c p false ⟨(fun h => by cases h), fun h => absurd h hp⟩ w)
    clear hr hok hbad hp
    have HA0 : Hid (((w.alloc (.cells #[.int .i64 M, .int .i64 E, .int .i64 S, .slice a n c] 25)).alloc (.cells #[.int .i64 0, .int .i64 0, .int .i64 0, .slice none 0 0] 25)).rowIs (w.heap.size + 1) 25 4 (netAt (.int .i64 0) (.int .i64 0) (.int .i64 0) (.slice none 0 0))) := by
      have := netAt_new (w.alloc (.cells #[.int .i64 M, .int .i64 E, .int .i64 S, .slice a n c] 25)) (.int .i64 0) (.int .i64 0) (.int .i64 0) (.slice none 0 0) 25
      simpa [Hid] using this
    have HP0 : Hid (((w.alloc (.cells #[.int .i64 M, .int .i64 E, .int .i64 S, .slice a n c] 25)).alloc (.cells #[.int .i64 0, .int .i64 0, .int .i64 0, .slice none 0 0] 25)).rowIs w.heap.size 25 4 (netAt (.int .i64 M) (.int .i64 E) (.int .i64 S) (.slice a n c))) := (netAt_new _ _ _ _ _ _).alloc _
    go_enter Try.func73, Try.ntmps73
    go_wp2_with fail
    refine (KN.out _ (HR.out.below (by (repeat' (first | (with_reducible exact Below.refl _ _) | (with_reducible assumption) | (with_reducible refine balloc ?_ _) | (with_reducible refine Below.drew ?_) | (with_reducible refine below_drewN ?_ _) | (with_reducible refine bset ?_ ?_ _) | (with_reducible refine bstep ?_ (by assumption)) | go_size))))).mono ?_
    rintro e w1 ⟨rfl, hb1⟩
    have HA1 := Lib.hid (HA0.out.of_block (hb1.block _ HA0.out.lt))
    have HP1 := Lib.hid (HP0.out.of_block (hb1.block _ HP0.out.lt))
    have B1 : Hid (Below w.heap.size w w1) := bstep (by (repeat' (first | (with_reducible exact Below.refl _ _) | (with_reducible assumption) | (with_reducible refine balloc ?_ _) | (with_reducible refine Below.drew ?_) | (with_reducible refine below_drewN ?_ _) | (with_reducible refine bset ?_ ?_ _) | (with_reducible refine bstep ?_ (by assumption)) | go_size))) hb1
    clear HA0 HP0 hb1
    have hlP1 := HP1.out.lt
    obtain ⟨t0, t1, t2, t3⟩ := netAt_cells HP1.out
    go_wp2_with fail
    refine (KP.out _).mono ?_
    rintro e w2 ⟨rfl, hb2⟩
    clear t0 t1 t2 t3
    have HA2 := Lib.hid (HA1.out.of_block (hb2.block _ HA1.out.lt))
    have HP2 := Lib.hid (HP1.out.of_block (hb2.block _ HP1.out.lt))
    have B2 : Hid (Below w.heap.size w w2) := bstep B1.out hb2
    clear HA1 HP1 hb2
    have hlP2 := HP2.out.lt
    obtain ⟨t0, t1, t2, t3⟩ := netAt_cells HP2.out
    obtain ⟨r0, r1, r2, r3⟩ := netAt_cells HA2.out
    have f0 := HA2.out.frozen 0
    have f1 := HA2.out.frozen 1
    have f2 := HA2.out.frozen 2
    have f3 := HA2.out.frozen 3
    have hlA2 := HA2.out.lt
    go_wp2_with fail
    have rs0 : (w2.cell? { block := w.heap.size + 1, off := 0 }).isSome = true := by simp [go_sem, *]
    have rs1 : (w2.cell? { block := w.heap.size + 1, off := 1 }).isSome = true := by simp [go_sem, *]
    have rs2 : (w2.cell? { block := w.heap.size + 1, off := 2 }).isSome = true := by simp [go_sem, *]
    have rs3 : (w2.cell? { block := w.heap.size + 1, off := 3 }).isSome = true := by simp [go_sem, *]
    refine bodyPost_ret (v := (.tuple #[netV 0 0 0 none 0 0, .bool false])) (by simp [results, Try.results73, go_sem, rs0, rs1, rs2, rs3]; try rfl) rfl ?_
    exact ⟨rfl, by have := B2.out; (repeat' (first | (with_reducible exact Below.refl _ _) | (with_reducible assumption) | (with_reducible refine balloc ?_ _) | (with_reducible refine Below.drew ?_) | (with_reducible refine below_drewN ?_ _) | (with_reducible refine bset ?_ ?_ _) | (with_reducible refine bstep ?_ (by assumption)) | go_size))⟩
  have KP := Lib.hid (fun (w : World) => implIsNode M E S a n c p true ⟨fun _ => hp, fun _ => rfl⟩ w)
  by_cases hq : 0 ≤ q ∧ q < M
  rotate_left
  · have KQ := Lib.hid (fun (w : World) => implIsNode M E S a n c q false ⟨(fun h => by cases h), fun h => absurd h hq⟩ w)
    clear hr hok hbad hp hq
    have HA0 : Hid (((w.alloc (.cells #[.int .i64 M, .int .i64 E, .int .i64 S, .slice a n c] 25)).alloc (.cells #[.int .i64 0, .int .i64 0, .int .i64 0, .slice none 0 0] 25)).rowIs (w.heap.size + 1) 25 4 (netAt (.int .i64 0) (.int .i64 0) (.int .i64 0) (.slice none 0 0))) := by
      have := netAt_new (w.alloc (.cells #[.int .i64 M, .int .i64 E, .int .i64 S, .slice a n c] 25)) (.int .i64 0) (.int .i64 0) (.int .i64 0) (.slice none 0 0) 25
      simpa [Hid] using this
    have HP0 : Hid (((w.alloc (.cells #[.int .i64 M, .int .i64 E, .int .i64 S, .slice a n c] 25)).alloc (.cells #[.int .i64 0, .int .i64 0, .int .i64 0, .slice none 0 0] 25)).rowIs w.heap.size 25 4 (netAt (.int .i64 M) (.int .i64 E) (.int .i64 S) (.slice a n c))) := (netAt_new _ _ _ _ _ _).alloc _
    go_enter Try.func73, Try.ntmps73
    go_wp2_with fail
    refine (KN.out _ (HR.out.below (by (repeat' (first | (with_reducible exact Below.refl _ _) | (with_reducible assumption) | (with_reducible refine balloc ?_ _) | (with_reducible refine Below.drew ?_) | (with_reducible refine below_drewN ?_ _) | (with_reducible refine bset ?_ ?_ _) | (with_reducible refine bstep ?_ (by assumption)) | go_size))))).mono ?_
    rintro e w1 ⟨rfl, hb1⟩
    have HA1 := Lib.hid (HA0.out.of_block (hb1.block _ HA0.out.lt))
    have HP1 := Lib.hid (HP0.out.of_block (hb1.block _ HP0.out.lt))
    have B1 : Hid (Below w.heap.size w w1) := bstep (by (repeat' (first | (with_reducible exact Below.refl _ _) | (with_reducible assumption) | (with_reducible refine balloc ?_ _) | (with_reducible refine Below.drew ?_) | (with_reducible refine below_drewN ?_ _) | (with_reducible refine bset ?_ ?_ _) | (with_reducible refine bstep ?_ (by assumption)) | go_size))) hb1
    clear HA0 HP0 hb1
    have hlP1 := HP1.out.lt
    obtain ⟨t0, t1, t2, t3⟩ := netAt_cells HP1.out
    go_wp2_with fail
    refine (KP.out _).mono ?_
    rintro e w2 ⟨rfl, hb2⟩
    clear t0 t1 t2 t3
    have HA2 := Lib.hid (HA1.out.of_block (hb2.block _ HA1.out.lt))
    have HP2 := Lib.hid (HP1.out.of_block (hb2.block _ HP1.out.lt))
    have B2 : Hid (Below w.heap.size w w2) := bstep B1.out hb2
    clear HA1 HP1 hb2
    have hlP2 := HP2.out.lt
    obtain ⟨t0, t1, t2, t3⟩ := netAt_cells HP2.out
    go_wp2_with fail
    refine (KQ.out _).mono ?_
    rintro e w3 ⟨rfl, hb3⟩
    clear t0 t1 t2 t3
    have HA3 := Lib.hid (HA2.out.of_block (hb3.block _ HA2.out.lt))
    have HP3 := Lib.hid (HP2.out.of_block (hb3.block _ HP2.out.lt))
    have B3 : Hid (Below w.heap.size w w3) := bstep B2.out hb3
    clear HA2 HP2 hb3
    have hlP3 := HP3.out.lt
    obtain ⟨t0, t1, t2, t3⟩ := netAt_cells HP3.out
    obtain ⟨r0, r1, r2, r3⟩ := netAt_cells HA3.out
    have f0 := HA3.out.frozen 0
    have f1 := HA3.out.frozen 1
    have f2 := HA3.out.frozen 2
    have f3 := HA3.out.frozen 3
    have hlA3 := HA3.out.lt
    go_wp2_with fail
    have rs0 : (w3.cell? { block := w.heap.size + 1, off := 0 }).isSome = true := by simp [go_sem, *]
    have rs1 : (w3.cell? { block := w.heap.size + 1, off := 1 }).isSome = true := by simp [go_sem, *]
    have rs2 : (w3.cell? { block := w.heap.size + 1, off := 2 }).isSome = true := by simp [go_sem, *]
    have rs3 : (w3.cell? { block := w.heap.size + 1, off := 3 }).isSome = true := by simp [go_sem, *]
    refine bodyPost_ret (v := (.tuple #[netV 0 0 0 none 0 0, .bool false])) (by simp [results, Try.results73, go_sem, rs0, rs1, rs2, rs3]; try rfl) rfl ?_
    exact ⟨rfl, by have := B3.out; (repeat' (first | (with_reducible exact Below.refl _ _) | (with_reducible assumption) | (with_reducible refine balloc ?_ _) | (with_reducible refine Below.drew ?_) | (with_reducible refine below_drewN ?_ _) | (with_reducible refine bset ?_ ?_ _) | (with_reducible refine bstep ?_ (by assumption)) | go_size))⟩
  have KQ := Lib.hid (fun (w : World) => implIsNode M E S a n c q true ⟨fun _ => hq, fun _ => rfl⟩ w)
  have hc : ((p == q) = true) ∨ ((p == q) = false ∧ wt < 0) ∨ ((p == q) = false ∧ ¬ wt < 0 ∧ 200 < wt) := by simp only [beq_iff_eq, beq_eq_false_iff_ne, ne_eq]; omega
  clear hr hok hbad hp hq
  rcases hc with hc | ⟨hc, hc1⟩ | ⟨hc, hc1, hc2⟩
  all_goals
    have HA0 : Hid (((w.alloc (.cells #[.int .i64 M, .int .i64 E, .int .i64 S, .slice a n c] 25)).alloc (.cells #[.int .i64 0, .int .i64 0, .int .i64 0, .slice none 0 0] 25)).rowIs (w.heap.size + 1) 25 4 (netAt (.int .i64 0) (.int .i64 0) (.int .i64 0) (.slice none 0 0))) := by
      have := netAt_new (w.alloc (.cells #[.int .i64 M, .int .i64 E, .int .i64 S, .slice a n c] 25)) (.int .i64 0) (.int .i64 0) (.int .i64 0) (.slice none 0 0) 25
      simpa [Hid] using this
    have HP0 : Hid (((w.alloc (.cells #[.int .i64 M, .int .i64 E, .int .i64 S, .slice a n c] 25)).alloc (.cells #[.int .i64 0, .int .i64 0, .int .i64 0, .slice none 0 0] 25)).rowIs w.heap.size 25 4 (netAt (.int .i64 M) (.int .i64 E) (.int .i64 S) (.slice a n c))) := (netAt_new _ _ _ _ _ _).alloc _
    go_enter Try.func73, Try.ntmps73
    go_wp2_with fail
    refine (KN.out _ (HR.out.below (by (repeat' (first | (with_reducible exact Below.refl _ _) | (with_reducible assumption) | (with_reducible refine balloc ?_ _) | (with_reducible refine Below.drew ?_) | (with_reducible refine below_drewN ?_ _) | (with_reducible refine bset ?_ ?_ _) | (with_reducible refine bstep ?_ (by assumption)) | go_size))))).mono ?_
    rintro e w1 ⟨rfl, hb1⟩
    have HA1 := Lib.hid (HA0.out.of_block (hb1.block _ HA0.out.lt))
    have HP1 := Lib.hid (HP0.out.of_block (hb1.block _ HP0.out.lt))
    have B1 : Hid (Below w.heap.size w w1) := bstep (by (repeat' (first | (with_reducible exact Below.refl _ _) | (with_reducible assumption) | (with_reducible refine balloc ?_ _) | (with_reducible refine Below.drew ?_) | (with_reducible refine below_drewN ?_ _) | (with_reducible refine bset ?_ ?_ _) | (with_reducible refine bstep ?_ (by assumption)) | go_size))) hb1
    clear HA0 HP0 hb1
    have hlP1 := HP1.out.lt
    obtain ⟨t0, t1, t2, t3⟩ := netAt_cells HP1.out
    go_wp2_with fail
    refine (KP.out _).mono ?_
    rintro e w2 ⟨rfl, hb2⟩
    clear t0 t1 t2 t3
    have HA2 := Lib.hid (HA1.out.of_block (hb2.block _ HA1.out.lt))
    have HP2 := Lib.hid (HP1.out.of_block (hb2.block _ HP1.out.lt))
    have B2 : Hid (Below w.heap.size w w2) := bstep B1.out hb2
    clear HA1 HP1 hb2
    have hlP2 := HP2.out.lt
    obtain ⟨t0, t1, t2, t3⟩ := netAt_cells HP2.out
    go_wp2_with fail
    refine (KQ.out _).mono ?_
    rintro e w3 ⟨rfl, hb3⟩
    clear t0 t1 t2 t3
    have HA3 := Lib.hid (HA2.out.of_block (hb3.block _ HA2.out.lt))
    have HP3 := Lib.hid (HP2.out.of_block (hb3.block _ HP2.out.lt))
    have B3 : Hid (Below w.heap.size w w3) := bstep B2.out hb3
    clear HA2 HP2 hb3
    have hlP3 := HP3.out.lt
    obtain ⟨t0, t1, t2, t3⟩ := netAt_cells HP3.out
    obtain ⟨r0, r1, r2, r3⟩ := netAt_cells HA3.out
    have f0 := HA3.out.frozen 0
    have f1 := HA3.out.frozen 1
    have f2 := HA3.out.frozen 2
    have f3 := HA3.out.frozen 3
    have hlA3 := HA3.out.lt
    go_wp2_with fail
    have rs0 : (w3.cell? { block := w.heap.size + 1, off := 0 }).isSome = true := by simp [go_sem, *]
    have rs1 : (w3.cell? { block := w.heap.size + 1, off := 1 }).isSome = true := by simp [go_sem, *]
    have rs2 : (w3.cell? { block := w.heap.size + 1, off := 2 }).isSome = true := by simp [go_sem, *]
    have rs3 : (w3.cell? { block := w.heap.size + 1, off := 3 }).isSome = true := by simp [go_sem, *]
    refine bodyPost_ret (v := (.tuple #[netV 0 0 0 none 0 0, .bool false])) (by simp [results, Try.results73, go_sem, rs0, rs1, rs2, rs3]; try rfl) rfl ?_
    exact ⟨rfl, by have := B3.out; (repeat' (first | (with_reducible exact Below.refl _ _) | (with_reducible assumption) | (with_reducible refine balloc ?_ _) | (with_reducible refine Below.drew ?_) | (with_reducible refine below_drewN ?_ _) | (with_reducible refine bset ?_ ?_ _) | (with_reducible refine bstep ?_ (by assumption)) | go_size))⟩
end Go.Proofs.Ytdmiihljepkapaa
