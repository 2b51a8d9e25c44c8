/- SwapNodes of the program. -/
import Derived.Test.YtdmiihljepkapaaNetOf
import Derived.Test.YtdmiihljepkapaaLeft
import Derived.Test.YtdmiihljepkapaaTrees
namespace Go.Proofs.Ytdmiihljepkapaa
set_option linter.unusedSimpArgs false
set_option linter.unusedVariables false
open Go.RowKit

def swN (a b v : Nat) : Nat := if v = a then b else if v = b then a else v
theorem swN_lt {a b v n : Nat} (ha : a < n) (hb : b < n) (hv : v < n) : swN a b v < n := by unfold swN; split <;> (try split) <;> omega
theorem swN_inj {a b u v : Nat} (h : swN a b u = swN a b v) : u = v := by unfold swN at h; split at h <;> split at h <;> (try split at h) <;> (try split at h) <;> omega
theorem swN_sw (a b v : Nat) : sw (a : Int) (b : Int) (v : Int) = ((swN a b v : Nat) : Int) := by
  unfold sw swN
  by_cases h1 : v = a
  · rw [if_pos (by omega), if_pos h1]
  · rw [if_neg (by omega), if_neg h1]
    by_cases h2 : v = b
    · rw [if_pos (by omega), if_pos h2]
    · rw [if_neg (by omega), if_neg h2]
theorem PG.swap {w : World} {base g N : Nat} {r : Nat → Nat} {f : Nat → Nat → Int} (h : PG w base g N N r f) {P Q : Nat} (hP : P < N) (hQ : Q < N) :
    PG ((w.setCell ⟨g, P, none⟩ (.slice (some ⟨r Q, 0, none⟩) N N)).setCell ⟨g, Q, none⟩ (.slice (some ⟨r P, 0, none⟩) N N)) base g N N (fun i => r (swN P Q i)) (fun i j => f (swN P Q i) j) := by
  refine ⟨?_, fun i hi => ?_, fun i hi => ?_, fun i j hi hj e => ?_, h.lbg, fun i hi => ?_, Nat.le_refl _⟩
  · refine ((h.og.set P _).set Q _).congr (fun i hi => ?_)
    simp only [if_pos hi]
    by_cases e1 : i = Q
    · subst e1
      rw [if_pos rfl]
      have : swN P i i = P := by unfold swN; by_cases e : i = P <;> simp [e]
      rw [this]
    · rw [if_neg e1]
      by_cases e2 : i = P
      · subst e2
        rw [if_pos rfl]
        have : swN i Q i = Q := by unfold swN; simp
        rw [this]
      · rw [if_neg e2]
        have : swN P Q i = i := by unfold swN; simp [e1, e2]
        rw [this]
  · exact ((h.rows _ (swN_lt hP hQ hi)).setOther (a := ⟨g, P, none⟩) (h.ne _ (swN_lt hP hQ hi)) _).setOther (a := ⟨g, Q, none⟩) (h.ne _ (swN_lt hP hQ hi)) _
  · exact h.ne _ (swN_lt hP hQ hi)
  · exact swN_inj (h.inj _ _ (swN_lt hP hQ hi) (swN_lt hP hQ hj) e)
  · exact h.lb _ (swN_lt hP hQ hi)
/-- a table's columns changed as far as row i -/
def swG (f : Nat → Nat → Int) (P Q i q j : Nat) : Int := if q < i then f q (swN P Q j) else f q j
theorem swG_step (F : Nat → Nat → Int) (P Q i q j : Nat) : (if q = i ∧ j = Q then F i P else if q = i ∧ j = P then F i Q else swG F P Q i q j) = swG F P Q (i + 1) q j := by
  unfold swG
  by_cases e1 : q = i
  · subst e1
    rw [if_neg (Nat.lt_irrefl q), if_pos (Nat.lt_succ_self q)]
    by_cases e2 : j = Q
    · rw [if_pos ⟨rfl, e2⟩]
      have : swN P Q j = P := by unfold swN; by_cases e : j = P; rw [if_pos e]; omega; rw [if_neg e, if_pos e2]
      rw [this]
    · rw [if_neg (fun h => e2 h.2)]
      by_cases e3 : j = P
      · rw [if_pos ⟨rfl, e3⟩]
        have : swN P Q j = Q := by unfold swN; rw [if_pos e3]
        rw [this]
      · rw [if_neg (fun h => e3 h.2)]
        have : swN P Q j = j := by unfold swN; rw [if_neg e3, if_neg e2]
        rw [this]
  · rw [if_neg (fun h => e1 h.1), if_neg (fun h => e1 h.1)]
    by_cases e2 : q < i
    · rw [if_pos e2, if_pos (by omega)]
    · rw [if_neg e2, if_neg (by omega)]

set_option maxRecDepth 100000 in
set_option maxHeartbeats 8000000 in
theorem implSwapNodes (M : Nat) (E S : Int) (a : Option Addr) (n c : Nat) (l : List Wz) (p : Int) (q : Int) (hp : 0 ≤ p ∧ p < M) (hq : 0 ≤ q ∧ q < M) (hok : NetOk M E S l) (w : World) (hr : ArgRow w a n c 3 (wires l)) (hl : l.length = n) :
    Calls Try.prog 75 #[netV M E S a n c, .int .i64 p, .int .i64 q] w fun e w' => NetRes e w w' true M E S (swapL p q l) ∧ Below w.heap.size w w' := by
  have HR := Lib.hid hr
  have KN := Lib.hid (fun (w : World) rr => implNetOk M E S a n c l true ⟨fun _ => hok, fun _ => rfl⟩ w rr hl)
  have KP := Lib.hid (fun (w : World) => implIsNode M E S a n c p true ⟨fun _ => hp, fun _ => rfl⟩ w)
  have KQ := Lib.hid (fun (w : World) => implIsNode M E S a n c q true ⟨fun _ => hq, fun _ => rfl⟩ w)
  have hM5 : M ≤ 5 := by have := hok.h.n5; omega
  have hM1 : 1 ≤ M := by have := hok.h.n1; omega
  have KT := Lib.hid (fun (w : World) rr => implTable M E S a n c l hM5 hok.asc w rr hl)
  obtain ⟨s, rfl⟩ : ∃ s : Nat, S = s := ⟨S.toNat, by have := hok.h.s1; omega⟩
  have hs1 : 0 < s := by have := hok.h.s1; omega
  have hs2 : s ≤ 1000000000000000000 := by have := hok.h.s2; omega
  have hVT := swapL_tab (M := M) hok.srt hok.asc (fun x hx => by obtain ⟨g1, g2, g3, g4, g5⟩ := hok.good hx; exact ⟨g1, g3, by omega⟩) hp hq
  obtain ⟨L2, hL2⟩ : ∃ L2, L2 = swapL p q l := ⟨_, rfl⟩
  obtain ⟨m2, hm2⟩ : ∃ m2, L2.length = m2 := ⟨_, rfl⟩
  have KO : Hid (∀ (w : World) (g : Nat), IGrid w (some ⟨g, 0, none⟩) M M (tab M (fun i j => wbF l (sw p q i) (sw p q j))) → Calls Try.prog 139 #[.int .i64 E, .int .i64 s, .slice (some ⟨g, 0, none⟩) M M, .bool false] w fun e w' => ∃ a' c', e = .returned (.tuple #[netV M E s a' m2 c', .bool true]) ∧ w'.ownsRow w.heap.size 104 3 (.slice a' m2 c') m2 (wires L2) ∧ Below w.heap.size w w') := by
    intro w g rr
    have h0 := implNetOf M E s (fun i j => wbF l (sw p q i) (sw p q j)) (some ⟨g, 0, none⟩) M false true ⟨hM1, hM5⟩ hs1 hs2 (fun i j => by have := hok.wb (sw p q i) (sw p q j); omega) (by rw [if_neg (by simp), if_neg (by simp), hVT]; exact ⟨fun _ => hok.swap hp hq, fun _ => rfl⟩) w rr
    refine h0.mono ?_
    rintro e w' ⟨h1, h2⟩
    rw [if_neg (by simp), if_neg (by simp), hVT, ← hL2] at h1
    unfold NetRes at h1
    rw [if_pos rfl, hm2] at h1
    obtain ⟨a', c', h3, h4⟩ := h1
    exact ⟨a', c', h3, h4, h2⟩
  rw [← hL2]
  have HM2 := Lib.hid hm2
  obtain ⟨P, rfl⟩ : ∃ P : Nat, p = P := ⟨p.toNat, by omega⟩
  obtain ⟨Q, rfl⟩ : ∃ Q : Nat, q = Q := ⟨q.toNat, by omega⟩
  have hPM : P < M := by omega
  have hQM : Q < M := by omega
  clear hr hok hVT hL2 hm2
  by_cases hPQ : P = Q
  · subst hPQ
    have HA0 : Hid (((w.alloc (.cells #[.int .i64 M, .int .i64 E, .int .i64 s, .slice a n c] 25)).alloc (.cells #[.int .i64 0, .int .i64 0, .int .i64 0, .slice none 0 0] 25)).rowIs (w.heap.size + 1) 25 4 (netAt (.int .i64 0) (.int .i64 0) (.int .i64 0) (.slice none 0 0))) := by
      have := netAt_new (w.alloc (.cells #[.int .i64 M, .int .i64 E, .int .i64 s, .slice a n c] 25)) (.int .i64 0) (.int .i64 0) (.int .i64 0) (.slice none 0 0) 25
      simpa [Hid] using this
    have HP0 : Hid (((w.alloc (.cells #[.int .i64 M, .int .i64 E, .int .i64 s, .slice a n c] 25)).alloc (.cells #[.int .i64 0, .int .i64 0, .int .i64 0, .slice none 0 0] 25)).rowIs w.heap.size 25 4 (netAt (.int .i64 M) (.int .i64 E) (.int .i64 s) (.slice a n c))) := (netAt_new _ _ _ _ _ _).alloc _
    go_enter Try.func75, Try.ntmps75
    go_wp2_with fail
    refine (KN.out _ (HR.out.below (by (repeat' (first | (with_reducible exact Below.refl _ _) | (with_reducible assumption) | (with_reducible refine balloc ?_ _) | (with_reducible refine Below.drew ?_) | (with_reducible refine below_drewN ?_ _) | (with_reducible refine bset ?_ ?_ _) | (with_reducible refine bstep ?_ (by assumption)) | go_size))))).mono ?_
    rintro e w1 ⟨rfl, hb1⟩
    have HA1 := Lib.hid (HA0.out.of_block (hb1.block _ HA0.out.lt))
    have HP1 := Lib.hid (HP0.out.of_block (hb1.block _ HP0.out.lt))
    have B1 : Hid (Below w.heap.size w w1) := bstep (by (repeat' (first | (with_reducible exact Below.refl _ _) | (with_reducible assumption) | (with_reducible refine balloc ?_ _) | (with_reducible refine Below.drew ?_) | (with_reducible refine below_drewN ?_ _) | (with_reducible refine bset ?_ ?_ _) | (with_reducible refine bstep ?_ (by assumption)) | go_size))) hb1
    clear HA0 HP0 hb1
    have hlP1 := HP1.out.lt
    obtain ⟨t0, t1, t2, t3⟩ := netAt_cells HP1.out
    go_wp2_with fail
    refine (KP.out _).mono ?_
    rintro e w2 ⟨rfl, hb2⟩
    clear t0 t1 t2 t3
    have HA2 := Lib.hid (HA1.out.of_block (hb2.block _ HA1.out.lt))
    have HP2 := Lib.hid (HP1.out.of_block (hb2.block _ HP1.out.lt))
    have B2 : Hid (Below w.heap.size w w2) := bstep B1.out hb2
    clear HA1 HP1 hb2
    have hlP2 := HP2.out.lt
    obtain ⟨t0, t1, t2, t3⟩ := netAt_cells HP2.out
    go_wp2_with fail
    refine (KQ.out _).mono ?_
    rintro e w3 ⟨rfl, hb3⟩
    clear t0 t1 t2 t3
    have HA3 := Lib.hid (HA2.out.of_block (hb3.block _ HA2.out.lt))
    have HP3 := Lib.hid (HP2.out.of_block (hb3.block _ HP2.out.lt))
    have B3 : Hid (Below w.heap.size w w3) := bstep B2.out hb3
    clear HA2 HP2 hb3
    have hlP3 := HP3.out.lt
    obtain ⟨t0, t1, t2, t3⟩ := netAt_cells HP3.out
    go_wp2_with fail
    refine (KT.out _ (HR.out.below B3.out)).mono ?_
    rintro e w4 ⟨g, r, rfl, G4, hb4⟩
    clear t0 t1 t2 t3
    have hlb3 : w.heap.size + 1 < w3.heap.size := HA3.out.lt
    have hs34 := hb4.size
    have HA4 := Lib.hid (HA3.out.of_block (hb4.block _ HA3.out.lt))
    have HP4 := Lib.hid (HP3.out.of_block (hb4.block _ HP3.out.lt))
    have B4 : Hid (Below w.heap.size w w4) := bstep B3.out hb4
    clear HA3 HP3 hb4
    have G4' := Lib.hid G4
    have G5 := Lib.hid (G4.swap hPM hQM)
    have o1 := G4.outer (i := P) hPM
    have o2 := G4.outer (i := P) hQM
    have d1 := G4.og.frozen P
    have d2 := G4.og.frozen P
    have lg := G4.og.lt
    have bg := G4.lbg
    have HB5 : Hid (Below w.heap.size w ((w4.setCell ⟨g, P, none⟩ (.slice (some ⟨r P, 0, none⟩) M M)).setCell ⟨g, P, none⟩ (.slice (some ⟨r P, 0, none⟩) M M))) := bset (bset B4.out (by show _ ≤ g; omega) _) (by show _ ≤ g; omega) _
    have HA5 := Lib.hid ((HA4.out.setOther (a := ⟨g, P, none⟩) (by show w.heap.size + 1 ≠ g; omega) (.slice (some ⟨r P, 0, none⟩) M M)).setOther (a := ⟨g, P, none⟩) (by show w.heap.size + 1 ≠ g; omega) (.slice (some ⟨r P, 0, none⟩) M M))
    have HP5 := Lib.hid ((HP4.out.setOther (a := ⟨g, P, none⟩) (by show w.heap.size ≠ g; omega) (.slice (some ⟨r P, 0, none⟩) M M)).setOther (a := ⟨g, P, none⟩) (by show w.heap.size ≠ g; omega) (.slice (some ⟨r P, 0, none⟩) M M))
    have hs4 : w.heap.size + 1 < w4.heap.size := by omega
    generalize r P = ρ1 at *
    clear G4
    go_wp2_with fail
    go_region
    all_goals
      go_wp2_with fail
      go_loopw [44] (fun u wr => ∃ i : Nat, i ≤ M ∧ u = .int .i64 i ∧ Hid (PG wr w3.heap.size g M M (fun i => r (swN P P i)) (fun q j => swG (fun i j => wbF l (swN P P i) j) P P i q j)) ∧ Hid (wr.rowIs (w.heap.size + 1) 25 4 (netAt (.int .i64 0) (.int .i64 0) (.int .i64 0) (.slice none 0 0))) ∧ Hid (wr.rowIs w.heap.size 25 4 (netAt (.int .i64 M) (.int .i64 E) (.int .i64 s) (.slice a n c))) ∧ Hid (Below w.heap.size w wr)) (fun u _ => M - (intOf u).toNat)
      case atStart => exact ⟨0, by omega, rfl, by first | exact G5.out.drewN _ | exact G5.out, by first | exact HA5.out | exact HA5.out.drew, by first | exact HP5.out | exact HP5.out.drew, by first | exact below_drewN HB5.out _ | exact HB5.out⟩
      case round =>
        clear G5 HA5 HP5 HB5 o1 o2 d1 d2 lg
        obtain ⟨i, hi, rfl, HG, HA, HP, HB⟩ := hrel
        by_cases hlt : i < M
        · have lg := HG.out.og.lt
          have o1 := HG.out.outer (i := i) hlt
          have c1 := HG.out.cell (i := i) (j := P) hlt hPM
          have c2 := HG.out.cell (i := i) (j := P) hlt hQM
          have d1 := (HG.out.rows i hlt).frozen P
          have d2 := (HG.out.rows i hlt).frozen P
          have l1 := (HG.out.rows i hlt).lt
          have h1 := HG.out.ne i hlt
          have b1 := HG.out.lb i hlt
          have v1 : swG (fun i j => wbF l (swN P P i) j) P P i i P = wbF l (swN P P i) P := if_neg (by omega)
          have v2 : swG (fun i j => wbF l (swN P P i) j) P P i i P = wbF l (swN P P i) P := if_neg (by omega)
          simp only [v1] at c1
          simp only [v2] at c2
          have HG2 := Lib.hid ((((HG.out.put (i := i) (j := P) hlt (wbF l (swN P P i) P)).put (i := i) (j := P) hlt (wbF l (swN P P i) P))).congr (f' := fun q j => swG (fun i j => wbF l (swN P P i) j) P P (i + 1) q j) (fun q j hq hj => swG_step (fun i j => wbF l (swN P P i) j) P P i q j))
          have HA2 := Lib.hid ((HA.out.setOther (a := ⟨r (swN P P i), P, none⟩) (by show w.heap.size + 1 ≠ r (swN P P i); omega) (.int .i64 (wbF l (swN P P i) P))).setOther (a := ⟨r (swN P P i), P, none⟩) (by show w.heap.size + 1 ≠ r (swN P P i); omega) (.int .i64 (wbF l (swN P P i) P)))
          have HP2 := Lib.hid ((HP.out.setOther (a := ⟨r (swN P P i), P, none⟩) (by show w.heap.size ≠ r (swN P P i); omega) (.int .i64 (wbF l (swN P P i) P))).setOther (a := ⟨r (swN P P i), P, none⟩) (by show w.heap.size ≠ r (swN P P i); omega) (.int .i64 (wbF l (swN P P i) P)))
          have HB2 : Hid (Below w.heap.size w ((wr.setCell ⟨r (swN P P i), P, none⟩ (.int .i64 (wbF l (swN P P i) P))).setCell ⟨r (swN P P i), P, none⟩ (.int .i64 (wbF l (swN P P i) P)))) := bset (bset HB.out (by show _ ≤ r (swN P P i); omega) _) (by show _ ≤ r (swN P P i); omega) _
          generalize wbF l (swN P P i) P = x1 at c1 HG2 HA2 HP2 HB2
          generalize wbF l (swN P P i) P = x2 at c2 HG2 HA2 HP2 HB2
          clear v1 v2
          generalize hρ : r (swN P P i) = ρ at o1 c1 c2 d1 d2 l1 h1 b1 HG2 HA2 HP2 HB2
          clear hρ
          have h2 : ¬ g = ρ := fun e => h1 e.symm
          go_wp2_with fail
          go_region
          all_goals
            go_wp2_with fail
            go_roundw
            case rel => exact ⟨i + 1, by omega, by go_num, by first | exact HG2.out.drewN _ | exact HG2.out, by first | exact HA2.out | exact HA2.out.drew, by first | exact HP2.out | exact HP2.out.drew, by first | exact below_drewN HB2.out _ | exact HB2.out⟩
            case measure => simp [intOf]; omega
        · obtain rfl : i = M := by omega
          have hMx : i ≤ maxLen := by unfold maxLen; omega
          have hI := Lib.hid (PG.grid (f := fun i j => wbF l (sw P P i) (sw P P j)) (HG.out.congr (f' := fun q j => (fun i j => wbF l (sw P P i) (sw P P j)) q j) (fun q j hq _ => by
            unfold swG
            rw [if_pos hq]
            simp only [swN_sw])) hMx)
          obtain ⟨t0, t1, t2, t3⟩ := netAt_cells HP.out
          have hlP := HP.out.lt
          have hsA := HA.out.lt
          clear HG
          go_wp2_with fail
          refine (KO.out _ g hI.out).mono ?_
          rintro e w7 ⟨a7, c7, rfl, o7, hb7⟩
          have HA7 := Lib.hid (HA.out.of_block (hb7.block _ HA.out.lt))
          have B7 : Hid (Below w.heap.size w w7) := bstep HB.out hb7
          have O7 := Lib.hid o7
          have hs7 := hb7.size
          obtain ⟨r0, r1, r2, r3⟩ := netAt_cells HA7.out
          have f0 := HA7.out.frozen 0
          have f1 := HA7.out.frozen 1
          have f2 := HA7.out.frozen 2
          have f3 := HA7.out.frozen 3
          have hlA7 := HA7.out.lt
          clear t0 t1 t2 t3 o7 hb7
          go_wp2_with fail
          have rs0 : (w7.cell? { block := w.heap.size + 1, off := 0 }).isSome = true := by simp [go_sem, *]
          have rs1 : (w7.cell? { block := w.heap.size + 1, off := 1 }).isSome = true := by simp [go_sem, *]
          have rs2 : (w7.cell? { block := w.heap.size + 1, off := 2 }).isSome = true := by simp [go_sem, *]
          have rs3 : (w7.cell? { block := w.heap.size + 1, off := 3 }).isSome = true := by simp [go_sem, *]
          refine bodyPost_ret (v := (.tuple #[netV i E s a7 m2 c7, .bool true])) (by simp [results, Try.results75, go_sem, rs0, rs1, rs2, rs3]; try rfl) rfl ?_
          refine ⟨?_, by have := B7.out; (repeat' (first | (with_reducible exact Below.refl _ _) | (with_reducible assumption) | (with_reducible refine balloc ?_ _) | (with_reducible refine Below.drew ?_) | (with_reducible refine below_drewN ?_ _) | (with_reducible refine bset ?_ ?_ _) | (with_reducible refine bstep ?_ (by assumption)) | go_size))⟩
          unfold NetRes
          rw [if_pos rfl, HM2.out]
          refine ⟨a7, c7, rfl, ?_⟩
          refine World.ownsRow.mono (base := w.heap.size + 1 + 1) ?_ (by omega)
          have o9 := World.ownsRow.mono (base' := w.heap.size + 1 + 1) O7.out (by omega)
          repeat' (first | with_reducible exact o9 | (with_reducible refine ownsRow_setCell_below ?_ ?_ _) | (dsimp only; omega) | omega)
  have hQP : ¬ Q = P := fun e => hPQ e.symm
  have HA0 : Hid (((w.alloc (.cells #[.int .i64 M, .int .i64 E, .int .i64 s, .slice a n c] 25)).alloc (.cells #[.int .i64 0, .int .i64 0, .int .i64 0, .slice none 0 0] 25)).rowIs (w.heap.size + 1) 25 4 (netAt (.int .i64 0) (.int .i64 0) (.int .i64 0) (.slice none 0 0))) := by
    have := netAt_new (w.alloc (.cells #[.int .i64 M, .int .i64 E, .int .i64 s, .slice a n c] 25)) (.int .i64 0) (.int .i64 0) (.int .i64 0) (.slice none 0 0) 25
    simpa [Hid] using this
  have HP0 : Hid (((w.alloc (.cells #[.int .i64 M, .int .i64 E, .int .i64 s, .slice a n c] 25)).alloc (.cells #[.int .i64 0, .int .i64 0, .int .i64 0, .slice none 0 0] 25)).rowIs w.heap.size 25 4 (netAt (.int .i64 M) (.int .i64 E) (.int .i64 s) (.slice a n c))) := (netAt_new _ _ _ _ _ _).alloc _
  go_enter Try.func75, Try.ntmps75
  go_wp2_with fail
  refine (KN.out _ (HR.out.below (by (repeat' (first | (with_reducible exact Below.refl _ _) | (with_reducible assumption) | (with_reducible refine balloc ?_ _) | (with_reducible refine Below.drew ?_) | (with_reducible refine below_drewN ?_ _) | (with_reducible refine bset ?_ ?_ _) | (with_reducible refine bstep ?_ (by assumption)) | go_size))))).mono ?_
  rintro e w1 ⟨rfl, hb1⟩
  have HA1 := Lib.hid (HA0.out.of_block (hb1.block _ HA0.out.lt))
  have HP1 := Lib.hid (HP0.out.of_block (hb1.block _ HP0.out.lt))
  have B1 : Hid (Below w.heap.size w w1) := bstep (by (repeat' (first | (with_reducible exact Below.refl _ _) | (with_reducible assumption) | (with_reducible refine balloc ?_ _) | (with_reducible refine Below.drew ?_) | (with_reducible refine below_drewN ?_ _) | (with_reducible refine bset ?_ ?_ _) | (with_reducible refine bstep ?_ (by assumption)) | go_size))) hb1
  clear HA0 HP0 hb1
  have hlP1 := HP1.out.lt
  obtain ⟨t0, t1, t2, t3⟩ := netAt_cells HP1.out
  go_wp2_with fail
  refine (KP.out _).mono ?_
  rintro e w2 ⟨rfl, hb2⟩
  clear t0 t1 t2 t3
  have HA2 := Lib.hid (HA1.out.of_block (hb2.block _ HA1.out.lt))
  have HP2 := Lib.hid (HP1.out.of_block (hb2.block _ HP1.out.lt))
  have B2 : Hid (Below w.heap.size w w2) := bstep B1.out hb2
  clear HA1 HP1 hb2
  have hlP2 := HP2.out.lt
  obtain ⟨t0, t1, t2, t3⟩ := netAt_cells HP2.out
  go_wp2_with fail
  refine (KQ.out _).mono ?_
  rintro e w3 ⟨rfl, hb3⟩
  clear t0 t1 t2 t3
  have HA3 := Lib.hid (HA2.out.of_block (hb3.block _ HA2.out.lt))
  have HP3 := Lib.hid (HP2.out.of_block (hb3.block _ HP2.out.lt))
  have B3 : Hid (Below w.heap.size w w3) := bstep B2.out hb3
  clear HA2 HP2 hb3
  have hlP3 := HP3.out.lt
  obtain ⟨t0, t1, t2, t3⟩ := netAt_cells HP3.out
  go_wp2_with fail
  refine (KT.out _ (HR.out.below B3.out)).mono ?_
  rintro e w4 ⟨g, r, rfl, G4, hb4⟩
  clear t0 t1 t2 t3
  have hlb3 : w.heap.size + 1 < w3.heap.size := HA3.out.lt
  have hs34 := hb4.size
  have HA4 := Lib.hid (HA3.out.of_block (hb4.block _ HA3.out.lt))
  have HP4 := Lib.hid (HP3.out.of_block (hb4.block _ HP3.out.lt))
  have B4 : Hid (Below w.heap.size w w4) := bstep B3.out hb4
  clear HA3 HP3 hb4
  have G4' := Lib.hid G4
  have G5 := Lib.hid (G4.swap hPM hQM)
  have o1 := G4.outer (i := P) hPM
  have o2 := G4.outer (i := Q) hQM
  have d1 := G4.og.frozen P
  have d2 := G4.og.frozen Q
  have lg := G4.og.lt
  have bg := G4.lbg
  have HB5 : Hid (Below w.heap.size w ((w4.setCell ⟨g, P, none⟩ (.slice (some ⟨r Q, 0, none⟩) M M)).setCell ⟨g, Q, none⟩ (.slice (some ⟨r P, 0, none⟩) M M))) := bset (bset B4.out (by show _ ≤ g; omega) _) (by show _ ≤ g; omega) _
  have HA5 := Lib.hid ((HA4.out.setOther (a := ⟨g, P, none⟩) (by show w.heap.size + 1 ≠ g; omega) (.slice (some ⟨r Q, 0, none⟩) M M)).setOther (a := ⟨g, Q, none⟩) (by show w.heap.size + 1 ≠ g; omega) (.slice (some ⟨r P, 0, none⟩) M M))
  have HP5 := Lib.hid ((HP4.out.setOther (a := ⟨g, P, none⟩) (by show w.heap.size ≠ g; omega) (.slice (some ⟨r Q, 0, none⟩) M M)).setOther (a := ⟨g, Q, none⟩) (by show w.heap.size ≠ g; omega) (.slice (some ⟨r P, 0, none⟩) M M))
  have hs4 : w.heap.size + 1 < w4.heap.size := by omega
  generalize r P = ρ1 at *
  generalize r Q = ρ2 at *
  clear G4
  go_wp2_with fail
  go_region
  all_goals
    go_wp2_with fail
    go_loopw [44] (fun u wr => ∃ i : Nat, i ≤ M ∧ u = .int .i64 i ∧ Hid (PG wr w3.heap.size g M M (fun i => r (swN P Q i)) (fun q j => swG (fun i j => wbF l (swN P Q i) j) P Q i q j)) ∧ Hid (wr.rowIs (w.heap.size + 1) 25 4 (netAt (.int .i64 0) (.int .i64 0) (.int .i64 0) (.slice none 0 0))) ∧ Hid (wr.rowIs w.heap.size 25 4 (netAt (.int .i64 M) (.int .i64 E) (.int .i64 s) (.slice a n c))) ∧ Hid (Below w.heap.size w wr)) (fun u _ => M - (intOf u).toNat)
    case atStart => exact ⟨0, by omega, rfl, by first | exact G5.out.drewN _ | exact G5.out, by first | exact HA5.out | exact HA5.out.drew, by first | exact HP5.out | exact HP5.out.drew, by first | exact below_drewN HB5.out _ | exact HB5.out⟩
    case round =>
      clear G5 HA5 HP5 HB5 o1 o2 d1 d2 lg
      obtain ⟨i, hi, rfl, HG, HA, HP, HB⟩ := hrel
      by_cases hlt : i < M
      · have lg := HG.out.og.lt
        have o1 := HG.out.outer (i := i) hlt
        have c1 := HG.out.cell (i := i) (j := P) hlt hPM
        have c2 := HG.out.cell (i := i) (j := Q) hlt hQM
        have d1 := (HG.out.rows i hlt).frozen P
        have d2 := (HG.out.rows i hlt).frozen Q
        have l1 := (HG.out.rows i hlt).lt
        have h1 := HG.out.ne i hlt
        have b1 := HG.out.lb i hlt
        have v1 : swG (fun i j => wbF l (swN P Q i) j) P Q i i P = wbF l (swN P Q i) P := if_neg (by omega)
        have v2 : swG (fun i j => wbF l (swN P Q i) j) P Q i i Q = wbF l (swN P Q i) Q := if_neg (by omega)
        simp only [v1] at c1
        simp only [v2] at c2
        have HG2 := Lib.hid ((((HG.out.put (i := i) (j := P) hlt (wbF l (swN P Q i) Q)).put (i := i) (j := Q) hlt (wbF l (swN P Q i) P))).congr (f' := fun q j => swG (fun i j => wbF l (swN P Q i) j) P Q (i + 1) q j) (fun q j hq hj => swG_step (fun i j => wbF l (swN P Q i) j) P Q i q j))
        have HA2 := Lib.hid ((HA.out.setOther (a := ⟨r (swN P Q i), P, none⟩) (by show w.heap.size + 1 ≠ r (swN P Q i); omega) (.int .i64 (wbF l (swN P Q i) Q))).setOther (a := ⟨r (swN P Q i), Q, none⟩) (by show w.heap.size + 1 ≠ r (swN P Q i); omega) (.int .i64 (wbF l (swN P Q i) P)))
        have HP2 := Lib.hid ((HP.out.setOther (a := ⟨r (swN P Q i), P, none⟩) (by show w.heap.size ≠ r (swN P Q i); omega) (.int .i64 (wbF l (swN P Q i) Q))).setOther (a := ⟨r (swN P Q i), Q, none⟩) (by show w.heap.size ≠ r (swN P Q i); omega) (.int .i64 (wbF l (swN P Q i) P)))
        have HB2 : Hid (Below w.heap.size w ((wr.setCell ⟨r (swN P Q i), P, none⟩ (.int .i64 (wbF l (swN P Q i) Q))).setCell ⟨r (swN P Q i), Q, none⟩ (.int .i64 (wbF l (swN P Q i) P)))) := bset (bset HB.out (by show _ ≤ r (swN P Q i); omega) _) (by show _ ≤ r (swN P Q i); omega) _
        generalize wbF l (swN P Q i) P = x1 at c1 HG2 HA2 HP2 HB2
        generalize wbF l (swN P Q i) Q = x2 at c2 HG2 HA2 HP2 HB2
        clear v1 v2
        generalize hρ : r (swN P Q i) = ρ at o1 c1 c2 d1 d2 l1 h1 b1 HG2 HA2 HP2 HB2
        clear hρ
        have h2 : ¬ g = ρ := fun e => h1 e.symm
        go_wp2_with fail
        go_region
        all_goals
          go_wp2_with fail
          go_roundw
          case rel => exact ⟨i + 1, by omega, by go_num, by first | exact HG2.out.drewN _ | exact HG2.out, by first | exact HA2.out | exact HA2.out.drew, by first | exact HP2.out | exact HP2.out.drew, by first | exact below_drewN HB2.out _ | exact HB2.out⟩
          case measure => simp [intOf]; omega
      · obtain rfl : i = M := by omega
        have hMx : i ≤ maxLen := by unfold maxLen; omega
        have hI := Lib.hid (PG.grid (f := fun i j => wbF l (sw P Q i) (sw P Q j)) (HG.out.congr (f' := fun q j => (fun i j => wbF l (sw P Q i) (sw P Q j)) q j) (fun q j hq _ => by
          unfold swG
          rw [if_pos hq]
          simp only [swN_sw])) hMx)
        obtain ⟨t0, t1, t2, t3⟩ := netAt_cells HP.out
        have hlP := HP.out.lt
        have hsA := HA.out.lt
        clear HG
        go_wp2_with fail
        refine (KO.out _ g hI.out).mono ?_
        rintro e w7 ⟨a7, c7, rfl, o7, hb7⟩
        have HA7 := Lib.hid (HA.out.of_block (hb7.block _ HA.out.lt))
        have B7 : Hid (Below w.heap.size w w7) := bstep HB.out hb7
        have O7 := Lib.hid o7
        have hs7 := hb7.size
        obtain ⟨r0, r1, r2, r3⟩ := netAt_cells HA7.out
        have f0 := HA7.out.frozen 0
        have f1 := HA7.out.frozen 1
        have f2 := HA7.out.frozen 2
        have f3 := HA7.out.frozen 3
        have hlA7 := HA7.out.lt
        clear t0 t1 t2 t3 o7 hb7
        go_wp2_with fail
        have rs0 : (w7.cell? { block := w.heap.size + 1, off := 0 }).isSome = true := by simp [go_sem, *]
        have rs1 : (w7.cell? { block := w.heap.size + 1, off := 1 }).isSome = true := by simp [go_sem, *]
        have rs2 : (w7.cell? { block := w.heap.size + 1, off := 2 }).isSome = true := by simp [go_sem, *]
        have rs3 : (w7.cell? { block := w.heap.size + 1, off := 3 }).isSome = true := by simp [go_sem, *]
        refine bodyPost_ret (v := (.tuple #[netV i E s a7 m2 c7, .bool true])) (by simp [results, Try.results75, go_sem, rs0, rs1, rs2, rs3]; try rfl) rfl ?_
        refine ⟨?_, by have := B7.out; (repeat' (first | (with_reducible exact Below.refl _ _) | (with_reducible assumption) | (with_reducible refine balloc ?_ _) | (with_reducible refine Below.drew ?_) | (with_reducible refine below_drewN ?_ _) | (with_reducible refine bset ?_ ?_ _) | (with_reducible refine bstep ?_ (by assumption)) | go_size))⟩
        unfold NetRes
        rw [if_pos rfl, HM2.out]
        refine ⟨a7, c7, rfl, ?_⟩
        refine World.ownsRow.mono (base := w.heap.size + 1 + 1) ?_ (by omega)
        have o9 := World.ownsRow.mono (base' := w.heap.size + 1 + 1) O7.out (by omega)
        repeat' (first | with_reducible exact o9 | (with_reducible refine ownsRow_setCell_below ?_ ?_ _) | (dsimp only; omega) | omega)
set_option maxRecDepth 100000 in
set_option maxHeartbeats 8000000 in
theorem implSwapNodes0 (N : Int) (E S : Int) (a : Option Addr) (n c : Nat) (l : List Wz) (p : Int) (q : Int) (hok : ¬ NetOk N E S l) (w : World) (hr : ArgRow w a n c 3 (wires l)) (hl : l.length = n) :
    Calls Try.prog 75 #[netV N E S a n c, .int .i64 p, .int .i64 q] w fun e w' => e = .returned (.tuple #[netV 0 0 0 none 0 0, .bool false]) ∧ Below w.heap.size w w' := by
  have HR := Lib.hid hr
  have KN := Lib.hid (fun (w : World) rr => implNetOk N E S a n c l false ⟨(fun h => by cases h), fun h => absurd h hok⟩ w rr hl)
  clear hr hok
  have HA0 : Hid (((w.alloc (.cells #[.int .i64 N, .int .i64 E, .int .i64 S, .slice a n c] 25)).alloc (.cells #[.int .i64 0, .int .i64 0, .int .i64 0, .slice none 0 0] 25)).rowIs (w.heap.size + 1) 25 4 (netAt (.int .i64 0) (.int .i64 0) (.int .i64 0) (.slice none 0 0))) := by
    have := netAt_new (w.alloc (.cells #[.int .i64 N, .int .i64 E, .int .i64 S, .slice a n c] 25)) (.int .i64 0) (.int .i64 0) (.int .i64 0) (.slice none 0 0) 25
    simpa [Hid] using this
  have HP0 : Hid (((w.alloc (.cells #[.int .i64 N, .int .i64 E, .int .i64 S, .slice a n c] 25)).alloc (.cells #[.int .i64 0, .int .i64 0, .int .i64 0, .slice none 0 0] 25)).rowIs w.heap.size 25 4 (netAt (.int .i64 N) (.int .i64 E) (.int .i64 S) (.slice a n c))) := (netAt_new _ _ _ _ _ _).alloc _
  go_enter Try.func75, Try.ntmps75
  go_wp2_with fail
  refine (KN.out _ (HR.out.below (by (repeat' (first | (with_reducible exact Below.refl _ _) | (with_reducible assumption) | (with_reducible refine balloc ?_ _) | (with_reducible refine Below.drew ?_) | (with_reducible refine below_drewN ?_ _) | (with_reducible refine bset ?_ ?_ _) | (with_reducible refine bstep ?_ (by assumption)) | go_size))))).mono ?_
  rintro e w1 ⟨rfl, hb1⟩
  have HA1 := Lib.hid (HA0.out.of_block (hb1.block _ HA0.out.lt))
  have HP1 := Lib.hid (HP0.out.of_block (hb1.block _ HP0.out.lt))
  have B1 : Hid (Below w.heap.size w w1) := bstep (by (repeat' (first | (with_reducible exact Below.refl _ _) | (with_reducible assumption) | (with_reducible refine balloc ?_ _) | (with_reducible refine Below.drew ?_) | (with_reducible refine below_drewN ?_ _) | (with_reducible refine bset ?_ ?_ _) | (with_reducible refine bstep ?_ (by assumption)) | go_size))) hb1
  clear HA0 HP0 hb1
  have hlP1 := HP1.out.lt
  obtain ⟨t0, t1, t2, t3⟩ := netAt_cells HP1.out
  obtain ⟨r0, r1, r2, r3⟩ := netAt_cells HA1.out
  have f0 := HA1.out.frozen 0
  have f1 := HA1.out.frozen 1
  have f2 := HA1.out.frozen 2
  have f3 := HA1.out.frozen 3
  have hlA1 := HA1.out.lt
  go_wp2_with fail
  have rs0 : (w1.cell? { block := w.heap.size + 1, off := 0 }).isSome = true := by simp [go_sem, *]
  have rs1 : (w1.cell? { block := w.heap.size + 1, off := 1 }).isSome = true := by simp [go_sem, *]
  have rs2 : (w1.cell? { block := w.heap.size + 1, off := 2 }).isSome = true := by simp [go_sem, *]
  have rs3 : (w1.cell? { block := w.heap.size + 1, off := 3 }).isSome = true := by simp [go_sem, *]
  refine bodyPost_ret (v := (.tuple #[netV 0 0 0 none 0 0, .bool false])) (by simp [results, Try.results75, go_sem, rs0, rs1, rs2, rs3]; try rfl) rfl ?_
  exact ⟨rfl, by have := B1.out; (repeat' (first | (with_reducible exact Below.refl _ _) | (with_reducible assumption) | (with_reducible refine balloc ?_ _) | (with_reducible refine Below.drew ?_) | (with_reducible refine below_drewN ?_ _) | (with_reducible refine bset ?_ ?_ _) | (with_reducible refine bstep ?_ (by assumption)) | go_size))⟩
set_option maxRecDepth 100000 in
set_option maxHeartbeats 8000000 in
theorem implSwapNodes1 (M : Nat) (E S : Int) (a : Option Addr) (n c : Nat) (l : List Wz) (p : Int) (q : Int) (hok : NetOk M E S l) (hbad : ¬ ((0 ≤ p ∧ p < M) ∧ (0 ≤ q ∧ q < M))) (w : World) (hr : ArgRow w a n c 3 (wires l)) (hl : l.length = n) :
    Calls Try.prog 75 #[netV M E S a n c, .int .i64 p, .int .i64 q] w fun e w' => e = .returned (.tuple #[netV 0 0 0 none 0 0, .bool false]) ∧ Below w.heap.size w w' := by
  have HR := Lib.hid hr
  have KN := Lib.hid (fun (w : World) rr => implNetOk M E S a n c l true ⟨fun _ => hok, fun _ => rfl⟩ w rr hl)
  by_cases hp : 0 ≤ p ∧ p < M
  rotate_left
  · have KP := Lib.hid (fun (w : World) => implIsNode M E S a n c p false ⟨(fun h => by cases h), fun h => absurd h hp⟩ w)
    clear hr hok hbad hp
    have HA0 : Hid (((w.alloc (.cells #[.int .i64 M, .int .i64 E, .int .i64 S, .slice a n c] 25)).alloc (.cells #[.int .i64 0, .int .i64 0, .int .i64 0, .slice none 0 0] 25)).rowIs (w.heap.size + 1) 25 4 (netAt (.int .i64 0) (.int .i64 0) (.int .i64 0) (.slice none 0 0))) := by
      have := netAt_new (w.alloc (.cells #[.int .i64 M, .int .i64 E, .int .i64 S, .slice a n c] 25)) (.int .i64 0) (.int .i64 0) (.int .i64 0) (.slice none 0 0) 25
      simpa [Hid] using this
    have HP0 : Hid (((w.alloc (.cells #[.int .i64 M, .int .i64 E, .int .i64 S, .slice a n c] 25)).alloc (.cells #[.int .i64 0, .int .i64 0, .int .i64 0, .slice none 0 0] 25)).rowIs w.heap.size 25 4 (netAt (.int .i64 M) (.int .i64 E) (.int .i64 S) (.slice a n c))) := (netAt_new _ _ _ _ _ _).alloc _
    go_enter Try.func75, Try.ntmps75
    go_wp2_with fail
    refine (KN.out _ (HR.out.below (by (repeat' (first | (with_reducible exact Below.refl _ _) | (with_reducible assumption) | (with_reducible refine balloc ?_ _) | (with_reducible refine Below.drew ?_) | (with_reducible refine below_drewN ?_ _) | (with_reducible refine bset ?_ ?_ _) | (with_reducible refine bstep ?_ (by assumption)) | go_size))))).mono ?_
    rintro e w1 ⟨rfl, hb1⟩
    have HA1 := Lib.hid (HA0.out.of_block (hb1.block _ HA0.out.lt))
    have HP1 := Lib.hid (HP0.out.of_block (hb1.block _ HP0.out.lt))
    have B1 : Hid (Below w.heap.size w w1) := bstep (by (repeat' (first | (with_reducible exact Below.refl _ _) | (with_reducible assumption) | (with_reducible refine balloc ?_ _) | (with_reducible refine Below.drew ?_) | (with_reducible refine below_drewN ?_ _) | (with_reducible refine bset ?_ ?_ _) | (with_reducible refine bstep ?_ (by assumption)) | go_size))) hb1
    clear HA0 HP0 hb1
    have hlP1 := HP1.out.lt
    obtain ⟨t0, t1, t2, t3⟩ := netAt_cells HP1.out
    go_wp2_with fail
    refine (KP.out _).mono ?_
    rintro e w2 ⟨rfl, hb2⟩
    clear t0 t1 t2 t3
    have HA2 := Lib.hid (HA1.out.of_block (hb2.block _ HA1.out.lt))
    have HP2 := Lib.hid (HP1.out.of_block (hb2.block _ HP1.out.lt))
    have B2 : Hid (Below w.heap.size w w2) := bstep B1.out hb2
    clear HA1 HP1 hb2
    have hlP2 := HP2.out.lt
    obtain ⟨t0, t1, t2, t3⟩ := netAt_cells HP2.out
    obtain ⟨r0, r1, r2, r3⟩ := netAt_cells HA2.out
    have f0 := HA2.out.frozen 0
    have f1 := HA2.out.frozen 1
    have f2 := HA2.out.frozen 2
    have f3 := HA2.out.frozen 3
    have hlA2 := HA2.out.lt
    go_wp2_with fail
    have rs0 : (w2.cell? { block := w.heap.size + 1, off := 0 }).isSome = true := by simp [go_sem, *]
    have rs1 : (w2.cell? { block := w.heap.size + 1, off := 1 }).isSome = true := by simp [go_sem, *]
    have rs2 : (w2.cell? { block := w.heap.size + 1, off := 2 }).isSome = true := by simp [go_sem, *]
    have rs3 : (w2.cell? { block := w.heap.size + 1, off := 3 }).isSome = true := by simp [go_sem, *]
    refine bodyPost_ret (v := (.tuple #[netV 0 0 0 none 0 0, .bool false])) (by simp [results, Try.results75, go_sem, rs0, rs1, rs2, rs3]; try rfl) rfl ?_
    exact ⟨rfl, by have := B2.out; (repeat' (first | (with_reducible exact Below.refl _ _) | (with_reducible assumption) | (with_reducible refine balloc ?_ _) | (with_reducible refine Below.drew ?_) | (with_reducible refine below_drewN ?_ _) | (with_reducible refine bset ?_ ?_ _) | (with_reducible refine bstep ?_ (by assumption)) | go_size))⟩
  have hq : ¬ (0 ≤ q ∧ q < M) := fun h => hbad ⟨hp, h⟩
  have KP := Lib.hid (fun (w : World) => implIsNode M E S a n c p true ⟨fun _ => hp, fun _ => rfl⟩ w)
  have KQ := Lib.hid (fun (w : World) => implIsNode M E S a n c q false ⟨(fun h => by cases h), fun h => absurd h hq⟩ w)
  clear hr hok hbad hp hq
  have HA0 : Hid (((w.alloc (.cells #[.int .i64 M, .int .i64 E, .int .i64 S, .slice a n c] 25)).alloc (.cells #[.int .i64 0, .int .i64 0, .int .i64 0, .slice none 0 0] 25)).rowIs (w.heap.size + 1) 25 4 (netAt (.int .i64 0) (.int .i64 0) (.int .i64 0) (.slice none 0 0))) := by
    have := netAt_new (w.alloc (.cells #[.int .i64 M, .int .i64 E, .int .i64 S, .slice a n c] 25)) (.int .i64 0) (.int .i64 0) (.int .i64 0) (.slice none 0 0) 25
    simpa [Hid] using this
  have HP0 : Hid (((w.alloc (.cells #[.int .i64 M, .int .i64 E, .int .i64 S, .slice a n c] 25)).alloc (.cells #[.int .i64 0, .int .i64 0, .int .i64 0, .slice none 0 0] 25)).rowIs w.heap.size 25 4 (netAt (.int .i64 M) (.int .i64 E) (.int .i64 S) (.slice a n c))) := (netAt_new _ _ _ _ _ _).alloc _
  go_enter Try.func75, Try.ntmps75
  go_wp2_with fail
  refine (KN.out _ (HR.out.below (by (repeat' (first | (with_reducible exact Below.refl _ _) | (with_reducible assumption) | (with_reducible refine balloc ?_ _) | (with_reducible refine Below.drew ?_) | (with_reducible refine below_drewN ?_ _) | (with_reducible refine bset ?_ ?_ _) | (with_reducible refine bstep ?_ (by assumption)) | go_size))))).mono ?_
  rintro e w1 ⟨rfl, hb1⟩
  have HA1 := Lib.hid (HA0.out.of_block (hb1.block _ HA0.out.lt))
  have HP1 := Lib.hid (HP0.out.of_block (hb1.block _ HP0.out.lt))
  have B1 : Hid (Below w.heap.size w w1) := bstep (by (repeat' (first | (with_reducible exact Below.refl _ _) | (with_reducible assumption) | (with_reducible refine balloc ?_ _) | (with_reducible refine Below.drew ?_) | (with_reducible refine below_drewN ?_ _) | (with_reducible refine bset ?_ ?_ _) | (with_reducible refine bstep ?_ (by assumption)) | go_size))) hb1
  clear HA0 HP0 hb1
  have hlP1 := HP1.out.lt
  obtain ⟨t0, t1, t2, t3⟩ := netAt_cells HP1.out
  go_wp2_with fail
  refine (KP.out _).mono ?_
  rintro e w2 ⟨rfl, hb2⟩
  clear t0 t1 t2 t3
  have HA2 := Lib.hid (HA1.out.of_block (hb2.block _ HA1.out.lt))
  have HP2 := Lib.hid (HP1.out.of_block (hb2.block _ HP1.out.lt))
  have B2 : Hid (Below w.heap.size w w2) := bstep B1.out hb2
  clear HA1 HP1 hb2
  have hlP2 := HP2.out.lt
  obtain ⟨t0, t1, t2, t3⟩ := netAt_cells HP2.out
  go_wp2_with fail
  refine (KQ.out _).mono ?_
  rintro e w3 ⟨rfl, hb3⟩
  clear t0 t1 t2 t3
  have HA3 := Lib.hid (HA2.out.of_block (hb3.block _ HA2.out.lt))
  have HP3 := Lib.hid (HP2.out.of_block (hb3.block _ HP2.out.lt))
  have B3 : Hid (Below w.heap.size w w3) := bstep B2.out hb3
  clear HA2 HP2 hb3
  have hlP3 := HP3.out.lt
  obtain ⟨t0, t1, t2, t3⟩ := netAt_cells HP3.out
  obtain ⟨r0, r1, r2, r3⟩ := netAt_cells HA3.out
  have f0 := HA3.out.frozen 0
  have f1 := HA3.out.frozen 1
  have f2 := HA3.out.frozen 2
  have f3 := HA3.out.frozen 3
  have hlA3 := HA3.out.lt
  go_wp2_with fail
  have rs0 : (w3.cell? { block := w.heap.size + 1, off := 0 }).isSome = true := by simp [go_sem, *]
  have rs1 : (w3.cell? { block := w.heap.size + 1, off := 1 }).isSome = true := by simp [go_sem, *]
  have rs2 : (w3.cell? { block := w.heap.size + 1, off := 2 }).isSome = true := by simp [go_sem, *]
  have rs3 : (w3.cell? { block := w.heap.size + 1, off := 3 }).isSome = true := by simp [go_sem, *]
  refine bodyPost_ret (v := (.tuple #[netV 0 0 0 none 0 0, .bool false])) (by simp [results, Try.results75, go_sem, rs0, rs1, rs2, rs3]; try rfl) rfl ?_
  exact ⟨rfl, by have := B3.out; (repeat' (first | (with_reducible exact Below.refl _ _) | (with_reducible assumption) | (with_reducible refine balloc ?_ _) | (with_reducible refine Below.drew ?_) | (with_reducible refine below_drewN ?_ _) | (with_reducible refine bset ?_ ?_ _) | (with_reducible refine bstep ?_ (by assumption)) | go_size))⟩
end Go.Proofs.Ytdmiihljepkapaa
