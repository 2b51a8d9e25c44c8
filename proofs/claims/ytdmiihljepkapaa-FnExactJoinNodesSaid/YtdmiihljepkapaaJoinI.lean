/- JoinNodes of the program. -/
import Derived.Test.YtdmiihljepkapaaNetOf
import Derived.Test.YtdmiihljepkapaaWithout
namespace Go.Proofs.Ytdmiihljepkapaa
set_option linter.unusedSimpArgs false
set_option linter.unusedVariables false
open Go.RowKit

/-- the table's entries when node Q's weights have been put on node P's for the nodes below i -/
def jG (l : List Wz) (P Q i q j : Nat) : Int :=
  if q = P ∧ j < i ∧ ¬ j = P ∧ ¬ j = Q then wbF l P j + wbF l Q j
  else if j = P ∧ q < i ∧ ¬ q = P ∧ ¬ q = Q then wbF l P q + wbF l Q q
  else wbF l q j
theorem jG_skip (l : List Wz) (P Q i q j : Nat) (h : i = P ∨ i = Q) : jG l P Q i q j = jG l P Q (i + 1) q j := by
  have a1 : (q = P ∧ j < i ∧ ¬ j = P ∧ ¬ j = Q) ↔ (q = P ∧ j < i + 1 ∧ ¬ j = P ∧ ¬ j = Q) := by omega
  have a2 : (j = P ∧ q < i ∧ ¬ q = P ∧ ¬ q = Q) ↔ (j = P ∧ q < i + 1 ∧ ¬ q = P ∧ ¬ q = Q) := by omega
  unfold jG
  simp only [a1, a2]
theorem jG_step (l : List Wz) (P Q i q j : Nat) (h1 : ¬ i = P) (h2 : ¬ i = Q) : (if q = i ∧ j = P then wbF l P i + wbF l Q i else if q = P ∧ j = i then wbF l P i + wbF l Q i else jG l P Q i q j) = jG l P Q (i + 1) q j := by
  unfold jG
  by_cases e1 : q = i ∧ j = P
  · rw [if_pos e1]
    obtain ⟨rfl, rfl⟩ := e1
    rw [if_neg (show ¬ (q = j ∧ j < q + 1 ∧ ¬ j = j ∧ ¬ j = Q) by omega), if_pos (show j = j ∧ q < q + 1 ∧ ¬ q = j ∧ ¬ q = Q by omega)]
  · rw [if_neg e1]
    by_cases e2 : q = P ∧ j = i
    · rw [if_pos e2]
      obtain ⟨rfl, rfl⟩ := e2
      rw [if_pos (show q = q ∧ j < j + 1 ∧ ¬ j = q ∧ ¬ j = Q by omega)]
    · rw [if_neg e2]
      have a1 : (q = P ∧ j < i ∧ ¬ j = P ∧ ¬ j = Q) ↔ (q = P ∧ j < i + 1 ∧ ¬ j = P ∧ ¬ j = Q) := by omega
      have a2 : (j = P ∧ q < i ∧ ¬ q = P ∧ ¬ q = Q) ↔ (j = P ∧ q < i + 1 ∧ ¬ q = P ∧ ¬ q = Q) := by omega
      simp only [a1, a2]
theorem jG_at (l : List Wz) (P Q i : Nat) (h1 : ¬ i = P) (h2 : ¬ i = Q) (hPQ : ¬ P = Q) : jG l P Q i P i = wbF l P i ∧ jG l P Q i Q i = wbF l Q i := by
  unfold jG
  exact ⟨by rw [if_neg (by omega), if_neg (by omega)], by rw [if_neg (by omega), if_neg (by omega)]⟩
theorem jG_end (l : List Wz) (P Q n q j : Nat) (hq : q < n) (hj : j < n) : jG l P Q n q j = jT l P Q q j := by
  unfold jG jT
  by_cases h1 : q = P
  · rw [if_pos (show (q : Int) = P by omega)]
    by_cases h2 : j = P ∨ j = Q
    · rw [if_neg (by omega), if_neg (by omega), if_pos (by omega)]
    · rw [if_pos (by omega), if_neg (by omega)]
  · rw [if_neg (by omega), if_neg (show ¬ (q : Int) = P by omega)]
    by_cases h2 : j = P
    · rw [if_pos (show (j : Int) = P by omega)]
      by_cases h3 : q = Q
      · rw [if_neg (by omega), if_pos (by omega)]
      · rw [if_pos (by omega), if_neg (by omega)]
    · rw [if_neg (by omega), if_neg (show ¬ (j : Int) = P by omega)]
theorem jG_zero (l : List Wz) (P Q q j : Nat) : jG l P Q 0 q j = wbF l q j := by
  unfold jG; rw [if_neg (by omega), if_neg (by omega)]
theorem jT_bd {N E S : Int} {l : List Wz} (h : NetOk N E S l) (a b p q : Int) : -1000000000000000000 ≤ jT l a b p q ∧ jT l a b p q ≤ 1000000000000000000 := by
  have h1 := h.wb p q; have h2 := h.wb a q; have h3 := h.wb b q; have h4 := h.wb a p; have h5 := h.wb b p
  unfold jT; split <;> (try split) <;> (try split) <;> omega

set_option maxRecDepth 100000 in
set_option maxHeartbeats 8000000 in
theorem implJoinNodes (M : Nat) (E S : Int) (a : Option Addr) (n c : Nat) (l : List Wz) (p : Int) (q : Int) (hg : 0 ≤ p ∧ p < q ∧ q < M) (hok : NetOk M E S l) (ok : Bool) (hoo : ok = true ↔ NetOk ((M : Int) - 1) (if q < E then E - 1 else E) S (joinL p q l)) (w : World) (hr : ArgRow w a n c 3 (wires l)) (hl : l.length = n) :
    Calls Try.prog 85 #[netV M E S a n c, .int .i64 p, .int .i64 q] w fun e w' => NetRes e w w' ok ((M : Int) - 1) (if q < E then E - 1 else E) S (joinL p q l) ∧ Below w.heap.size w w' := by
  have HR := Lib.hid hr
  have KN := Lib.hid (fun (w : World) rr => implNetOk M E S a n c l true ⟨fun _ => hok, fun _ => rfl⟩ w rr hl)
  have hM5 : M ≤ 5 := by have := hok.h.n5; omega
  have KT := Lib.hid (fun (w : World) rr => implTable M E S a n c l hM5 hok.asc w rr hl)
  obtain ⟨s, rfl⟩ : ∃ s : Nat, S = s := ⟨S.toNat, by have := hok.h.s1; omega⟩
  have hs1 : 0 < s := by have := hok.h.s1; omega
  have hs2 : s ≤ 1000000000000000000 := by have := hok.h.s2; omega
  have hE1 := hok.h.e1
  have hEM := hok.h.eN
  obtain ⟨K, rfl⟩ : ∃ K, M = K + 1 := ⟨M - 1, by omega⟩
  have hVT := joinL_tab (M := K) (a := p) (b := q) hok.srt hok.asc (fun x hx => by obtain ⟨g1, g2, g3, g4, g5⟩ := hok.good hx; exact ⟨g1, by simpa using g3⟩) (fun x hx => (hok.good hx).2.2.2.1) ⟨by omega, by omega, by omega⟩
  obtain ⟨L2, hL2⟩ : ∃ L2, joinL p q l = L2 := ⟨_, rfl⟩
  obtain ⟨m2, hm2⟩ : ∃ m2, L2.length = m2 := ⟨_, rfl⟩
  have hK1 : ((K + 1 : Nat) : Int) - 1 = (K : Int) := by omega
  obtain ⟨E2, hE2⟩ : ∃ E2 : Int, (if q < E then E - 1 else E) = E2 := ⟨_, rfl⟩
  rw [hE2, hL2, hK1] at hoo
  rw [hE2, hL2, hK1]
  have KO0 := Lib.hid (fun (w : World) (g : Nat) (c : Nat) rr => implNetOf K E2 s (fun i j => jT l p q (skip q i) (skip q j)) (some ⟨g, 0, none⟩) c false ok ⟨by omega, by omega⟩ hs1 hs2 (fun i j => jT_bd hok p q (skip q i) (skip q j)) (by rw [if_neg (by simp), if_neg (by simp), hVT, hL2]; exact hoo) w rr)
  rw [hVT, hL2] at KO0
  have HWB := Lib.hid hok.wb
  have HM2 := Lib.hid hm2
  have HE2 := Lib.hid hE2
  obtain ⟨P, rfl⟩ : ∃ P : Nat, p = P := ⟨p.toNat, by omega⟩
  obtain ⟨Q, rfl⟩ : ∃ Q : Nat, q = Q := ⟨q.toNat, by omega⟩
  have hPM : P < K + 1 := by omega
  have hQM : Q < K + 1 := by omega
  have hPQ : ¬ P = Q := by omega
  have hPQ2 : P < Q := by omega
  have KW := Lib.hid (fun (w : World) (g : Nat) rr => implWithout (K + 1) Q (fun i j => jT l P Q i j) (some ⟨g, 0, none⟩) (K + 1) hQM hM5 w rr)
  have HWT : Hid (woRows (K + 1) (fun i j => jT l P Q i j) Q (K + 1) = tab K (fun i j => jT l P Q (skip Q i) (skip Q j))) := woRows_tab K _ Q hQM
  clear hr hok hoo hVT hL2 hm2 hE2 hK1 hg
  have HA0 : Hid (((w.alloc (.cells #[.int .i64 (K + 1 : Nat), .int .i64 E, .int .i64 s, .slice a n c] 25)).alloc (.cells #[.int .i64 0, .int .i64 0, .int .i64 0, .slice none 0 0] 25)).rowIs (w.heap.size + 1) 25 4 (netAt (.int .i64 0) (.int .i64 0) (.int .i64 0) (.slice none 0 0))) := by
    have := netAt_new (w.alloc (.cells #[.int .i64 (K + 1 : Nat), .int .i64 E, .int .i64 s, .slice a n c] 25)) (.int .i64 0) (.int .i64 0) (.int .i64 0) (.slice none 0 0) 25
    simpa [Hid] using this
  have HP0 : Hid (((w.alloc (.cells #[.int .i64 (K + 1 : Nat), .int .i64 E, .int .i64 s, .slice a n c] 25)).alloc (.cells #[.int .i64 0, .int .i64 0, .int .i64 0, .slice none 0 0] 25)).rowIs w.heap.size 25 4 (netAt (.int .i64 (K + 1 : Nat)) (.int .i64 E) (.int .i64 s) (.slice a n c))) := (netAt_new _ _ _ _ _ _).alloc _
  go_enter Try.func85, Try.ntmps85
  go_wp2_with fail
  refine (KN.out _ (HR.out.below (by (repeat' (first | (with_reducible exact Below.refl _ _) | (with_reducible assumption) | (with_reducible refine balloc ?_ _) | (with_reducible refine Below.drew ?_) | (with_reducible refine below_drewN ?_ _) | (with_reducible refine bset ?_ ?_ _) | (with_reducible refine bstep ?_ (by assumption)) | go_size))))).mono ?_
  rintro e w1 ⟨rfl, hb1⟩
  have HA1 := Lib.hid (HA0.out.of_block (hb1.block _ HA0.out.lt))
  have HP1 := Lib.hid (HP0.out.of_block (hb1.block _ HP0.out.lt))
  have B1 : Hid (Below w.heap.size w w1) := bstep (by (repeat' (first | (with_reducible exact Below.refl _ _) | (with_reducible assumption) | (with_reducible refine balloc ?_ _) | (with_reducible refine Below.drew ?_) | (with_reducible refine below_drewN ?_ _) | (with_reducible refine bset ?_ ?_ _) | (with_reducible refine bstep ?_ (by assumption)) | go_size))) hb1
  clear HA0 HP0 hb1
  have hlP1 := HP1.out.lt
  obtain ⟨t0, t1, t2, t3⟩ := netAt_cells HP1.out
  go_wp2_with fail
  refine (KT.out _ (HR.out.below B1.out)).mono ?_
  rintro e w4 ⟨g, r, rfl, G4, hb4⟩
  clear t0 t1 t2 t3
  have hlb1 : w.heap.size + 1 < w1.heap.size := HA1.out.lt
  have hs14 := hb4.size
  have HA4 := Lib.hid (HA1.out.of_block (hb4.block _ HA1.out.lt))
  have HP4 := Lib.hid (HP1.out.of_block (hb4.block _ HP1.out.lt))
  have B4 : Hid (Below w.heap.size w w4) := bstep B1.out hb4
  clear HA1 HP1 hb4
  have G5 : Hid (PG w4 w1.heap.size g (K + 1) (K + 1) r (fun q' j => jG l P Q 0 q' j)) := G4.congr (fun q' j _ _ => (jG_zero l P Q q' j).symm)
  clear G4
  go_wp2_with fail
  go_loopw [34] (fun u wr => ∃ i : Nat, i ≤ K + 1 ∧ u = .int .i64 i ∧ Hid (PG wr w1.heap.size g (K + 1) (K + 1) r (fun q' j => jG l P Q i q' j)) ∧ Hid (wr.rowIs (w.heap.size + 1) 25 4 (netAt (.int .i64 0) (.int .i64 0) (.int .i64 0) (.slice none 0 0))) ∧ Hid (wr.rowIs w.heap.size 25 4 (netAt (.int .i64 (K + 1 : Nat)) (.int .i64 E) (.int .i64 s) (.slice a n c))) ∧ Hid (Below w.heap.size w wr)) (fun u _ => (K + 1) - (intOf u).toNat)
  case atStart => exact ⟨0, by omega, rfl, G5.out, HA4.out, HP4.out, B4.out⟩
  case round =>
    clear G5 HA4 HP4 B4
    obtain ⟨i, hi, rfl, HG, HA, HP, HB⟩ := hrel
    by_cases hlt : i < K + 1
    · by_cases hiP : i = P ∨ i = Q
      · have HG2 := Lib.hid (HG.out.congr (f' := fun q' j => jG l P Q (i + 1) q' j) (fun q' j _ _ => jG_skip l P Q i q' j hiP))
        have hc : ((i : Int) == (P : Int)) = true ∧ (i == P) = true ∨ (((i : Int) == (P : Int)) = false ∧ (i == P) = false ∧ ((i : Int) == (Q : Int)) = true ∧ (i == Q) = true) := by simp; omega
        have hc2 : ((i : Int) != (P : Int)) = false ∧ (i != P) = false ∨ (((i : Int) != (P : Int)) = true ∧ (i != P) = true ∧ ((i : Int) != (Q : Int)) = false ∧ (i != Q) = false) := by simp; omega
        clear hc
        rcases hiP with rfl | rfl
        · go_wp2_with fail
          go_roundw
          case rel => exact ⟨i + 1, by omega, by go_num, HG2.out, HA.out, HP.out, HB.out⟩
          case measure => simp [intOf]; omega
        · have hx1 : ((i : Int) != (P : Int)) = true := by simp; omega
          have hx2 : (i != P) = true := by simp; omega
          have hx3 : ((i : Int) == (P : Int)) = false := by simp; omega
          have hx4 : (i == P) = false := by simp; omega
          go_wp2_with fail
          go_roundw
          case rel => exact ⟨i + 1, by omega, by go_num, HG2.out, HA.out, HP.out, HB.out⟩
          case measure => simp [intOf]; omega
      · have h1 : ¬ i = P := fun e => hiP (.inl e)
        have h2 : ¬ i = Q := fun e => hiP (.inr e)
        have hx1 : ((i : Int) != (P : Int)) = true := by simp; omega
        have hx2 : (i != P) = true := by simp; omega
        have hx3 : ((i : Int) == (P : Int)) = false := by simp; omega
        have hx4 : (i == P) = false := by simp; omega
        have hy1 : ((i : Int) != (Q : Int)) = true := by simp; omega
        have hy2 : (i != Q) = true := by simp; omega
        have hy3 : ((i : Int) == (Q : Int)) = false := by simp; omega
        have hy4 : (i == Q) = false := by simp; omega
        have lg := HG.out.og.lt
        have o1 := HG.out.outer (i := P) hPM
        have o2 := HG.out.outer (i := Q) hQM
        have o3 := HG.out.outer (i := i) hlt
        have c1 := HG.out.cell (i := P) (j := i) hPM hlt
        have c2 := HG.out.cell (i := Q) (j := i) hQM hlt
        obtain ⟨old, c3⟩ : ∃ old, wr.cell? ⟨r i, P, none⟩ = some old := ⟨_, HG.out.cell (i := i) (j := P) hlt hPM⟩
        rw [(jG_at l P Q i h1 h2 hPQ).1] at c1
        rw [(jG_at l P Q i h1 h2 hPQ).2] at c2
        have d1 := (HG.out.rows P hPM).frozen i
        have d3 := (HG.out.rows i hlt).frozen P
        have l1 := (HG.out.rows P hPM).lt
        have l2 := (HG.out.rows Q hQM).lt
        have l3 := (HG.out.rows i hlt).lt
        have n1 := HG.out.ne P hPM
        have n2 := HG.out.ne Q hQM
        have n3 := HG.out.ne i hlt
        have n13 : ¬ r P = r i := fun e => h1 (HG.out.inj P i hPM hlt e).symm
        have n12 : ¬ r P = r Q := fun e => hPQ (HG.out.inj P Q hPM hQM e)
        have n23 : ¬ r Q = r i := fun e => h2 (HG.out.inj Q i hQM hlt e).symm
        have b1 := HG.out.lb P hPM
        have b3 := HG.out.lb i hlt
        have hwP := HWB.out P i
        have hwQ := HWB.out Q i
        have HG2 := Lib.hid (((HG.out.put (i := P) (j := i) hPM (wbF l P i + wbF l Q i)).put (i := i) (j := P) hlt (wbF l P i + wbF l Q i)).congr (f' := fun q' j => jG l P Q (i + 1) q' j) (fun q' j _ _ => jG_step l P Q i q' j h1 h2))
        have HA2 := Lib.hid ((HA.out.setOther (a := ⟨r P, i, none⟩) (by show w.heap.size + 1 ≠ r P; omega) (.int .i64 (wbF l P i + wbF l Q i))).setOther (a := ⟨r i, P, none⟩) (by show w.heap.size + 1 ≠ r i; omega) (.int .i64 (wbF l P i + wbF l Q i)))
        have HP2 := Lib.hid ((HP.out.setOther (a := ⟨r P, i, none⟩) (by show w.heap.size ≠ r P; omega) (.int .i64 (wbF l P i + wbF l Q i))).setOther (a := ⟨r i, P, none⟩) (by show w.heap.size ≠ r i; omega) (.int .i64 (wbF l P i + wbF l Q i)))
        have HB2 : Hid (Below w.heap.size w ((wr.setCell ⟨r P, i, none⟩ (.int .i64 (wbF l P i + wbF l Q i))).setCell ⟨r i, P, none⟩ (.int .i64 (wbF l P i + wbF l Q i)))) := bset (bset HB.out (by show _ ≤ r P; omega) _) (by show _ ≤ r i; omega) _
        generalize wbF l P i = x at c1 HG2 HA2 HP2 HB2 hwP
        generalize wbF l Q i = y at c2 HG2 HA2 HP2 HB2 hwQ
        have e1 : IntKind.i64.wrap (x + y) = x + y := IntWalk.i64_in _ ⟨by omega, by omega⟩
        have e2 : wrap64 (x + y) = x + y := wrap_small' ⟨by omega, by omega⟩
        generalize r P = ρ1 at o1 c1 d1 l1 n1 n13 n12 b1 HG2 HA2 HP2 HB2
        generalize r Q = ρ2 at o2 c2 l2 n2 n12 n23
        generalize r i = ρ3 at o3 c3 d3 l3 n3 n13 n23 b3 HG2 HA2 HP2 HB2
        have m1 : ¬ g = ρ1 := fun e => n1 e.symm
        have m2 : ¬ g = ρ2 := fun e => n2 e.symm
        have m3 : ¬ g = ρ3 := fun e => n3 e.symm
        have m13 : ¬ ρ3 = ρ1 := fun e => n13 e.symm
        have m12 : ¬ ρ2 = ρ1 := fun e => n12 e.symm
        clear hiP
        go_wp2_with fail
        go_region
        all_goals
          go_wp2_with fail
          go_region
          all_goals
            go_wp2_with fail
            go_roundw
            case rel => exact ⟨i + 1, by omega, by go_num, by first | exact HG2.out.drewN _ | exact (HG2.out.drewN 1).drewN 1 | exact HG2.out, by first | exact HA2.out | exact HA2.out.drew | exact HA2.out.drew.drew, by first | exact HP2.out | exact HP2.out.drew | exact HP2.out.drew.drew, by first | exact below_drewN HB2.out _ | exact HB2.out.drew.drew | exact HB2.out⟩
            case measure => simp [intOf]; omega
    · obtain rfl : i = K + 1 := by omega
      have HI := Lib.hid (PG.grid (f := fun i j => jT l P Q i j) (HG.out.congr (f' := fun q' j => (fun i j => jT l P Q i j) (q' : Int) (j : Int)) (fun q' j hq' hj => jG_end l P Q (K + 1) q' j hq' hj)) (by unfold maxLen; omega))
      obtain ⟨t0, t1, t2, t3⟩ := netAt_cells HP.out
      have hlP := HP.out.lt
      have hsA := HA.out.lt
      obtain ⟨r0, r1, r2, r3⟩ := netAt_cells HA.out
      have f0 := HA.out.frozen 0
      have f1 := HA.out.frozen 1
      have f2 := HA.out.frozen 2
      have f3 := HA.out.frozen 3
      have HB' := HB.out
      clear HG
      have HWG : Hid (∀ (w' : World) (g' m' c' : Nat), IGrid w' (some ⟨g', 0, none⟩) m' c' (woRows (K + 1) (fun i j => jT l P Q i j) Q (K + 1)) → K = m' ∧ IGrid w' (some ⟨g', 0, none⟩) K c' (tab K (fun i j => jT l P Q (skip Q i) (skip Q j)))) := fun w' g' m' c' h => by
        have h1 := h.len
        rw [HWT.out] at h1 h
        rw [tab_len] at h1
        subst h1
        exact ⟨rfl, h⟩
      by_cases hqE : (Q : Int) < E
      · have HEE : E2 = E - 1 := by have := HE2.out; rw [if_pos hqE] at this; exact this.symm
        subst HEE
        have hw3 : IntKind.i64.wrap (E - 1) = E - 1 := IntWalk.i64_in _ ⟨by omega, by omega⟩
        have hw3' : wrap64 (E - 1) = E - 1 := wrap_small' ⟨by omega, by omega⟩
        cases ok
        · have KO : Hid (∀ (w : World) (g c : Nat), IGrid w (some ⟨g, 0, none⟩) K c (tab K (fun i j => jT l P Q (skip Q i) (skip Q j))) → Calls Try.prog 139 #[.int .i64 (E - 1), .int .i64 s, .slice (some ⟨g, 0, none⟩) K c, .bool false] w fun e w' => e = .returned (.tuple #[netV 0 0 0 none 0 0, .bool false]) ∧ Below w.heap.size w w') := fun w g c rr => by
            refine (KO0.out w g c rr).mono ?_
            rintro e w' ⟨h1, h2⟩
            unfold NetRes at h1
            rw [if_neg (by simp)] at h1
            exact ⟨h1, h2⟩
          go_wp2_with fail
          go_region_held3 (fun w' => w'.cell? ⟨w.heap.size, 2, none⟩ = some (.int .i64 s)) (go_keep)
            ((first
            | (go_at_call 153; ((with_reducible refine (KW.out _ g (HI.out.below (by (repeat' (first | (with_reducible exact Below.refl _ _) | (with_reducible assumption) | (with_reducible refine balloc ?_ _) | (with_reducible refine Below.drew ?_) | (with_reducible refine below_drewN ?_ _) | (with_reducible refine bset ?_ ?_ _) | (with_reducible refine bstep ?_ (by assumption)) | go_size))))).mono ?_); rintro e wT ⟨gT, mT, cT, rfl, oT, hbT⟩); (try (replace hbT := bdrew hbT)); (obtain ⟨hmT, oT2⟩ := HWG.out _ _ _ _ oT); subst hmT; have GT := Lib.hid oT2; clear oT oT2; (try (have hq_ := bltn hbT (b := w.heap.size) (by (first | omega | (simp only [World.size_alloc, World.size_setCell, World.size_drew, World.heap_drewN]; omega))); obtain ⟨uu, vv, zz, nn, mm⟩ := hq_)); (try (have hq_ := bltn hbT (b := w.heap.size + 1) (by (first | omega | (simp only [World.size_alloc, World.size_setCell, World.size_drew, World.heap_drewN]; omega))); obtain ⟨uu, vv, zz, nn, mm⟩ := hq_)))
            | (go_at_call 139; ((with_reducible refine (KO.out _ gT cT (by first | exact GT.out | exact GT.out.below (by (repeat' (first | (with_reducible exact Below.refl _ _) | (with_reducible assumption) | (with_reducible refine balloc ?_ _) | (with_reducible refine Below.drew ?_) | (with_reducible refine below_drewN ?_ _) | (with_reducible refine bset ?_ ?_ _) | (with_reducible refine bstep ?_ (by assumption)) | go_size))))).mono ?_); rintro e wO ⟨rfl, hbO⟩); (try (replace hbO := bdrew hbO)); (try (have hq_ := bltn hbO (b := w.heap.size) (by (first | omega | (simp only [World.size_alloc, World.size_setCell, World.size_drew, World.heap_drewN]; omega))); obtain ⟨uu, vv, zz, nn, mm⟩ := hq_)); (try (have hq_ := bltn hbO (b := w.heap.size + 1) (by (first | omega | (simp only [World.size_alloc, World.size_setCell, World.size_drew, World.heap_drewN]; omega))); obtain ⟨uu, vv, zz, nn, mm⟩ := hq_)))))
          all_goals
            go_wp2_with fail
            have rs0 : (wO.cell? { block := w.heap.size + 1, off := 0 }).isSome = true := by simp [go_sem, *]
            have rs1 : (wO.cell? { block := w.heap.size + 1, off := 1 }).isSome = true := by simp [go_sem, *]
            have rs2 : (wO.cell? { block := w.heap.size + 1, off := 2 }).isSome = true := by simp [go_sem, *]
            have rs3 : (wO.cell? { block := w.heap.size + 1, off := 3 }).isSome = true := by simp [go_sem, *]
            refine bodyPost_ret (v := (.tuple #[netV 0 0 0 none 0 0, .bool false])) (by simp [results, Try.results85, go_sem, rs0, rs1, rs2, rs3]; try rfl) rfl ?_
            exact ⟨by unfold NetRes; rw [if_neg (by simp)], by (repeat' (first | (with_reducible exact Below.refl _ _) | (with_reducible assumption) | (with_reducible refine balloc ?_ _) | (with_reducible refine Below.drew ?_) | (with_reducible refine below_drewN ?_ _) | (with_reducible refine bset ?_ ?_ _) | (with_reducible refine bstep ?_ (by assumption)) | go_size))⟩
        · have KO : Hid (∀ (w : World) (g c : Nat), IGrid w (some ⟨g, 0, none⟩) K c (tab K (fun i j => jT l P Q (skip Q i) (skip Q j))) → Calls Try.prog 139 #[.int .i64 (E - 1), .int .i64 s, .slice (some ⟨g, 0, none⟩) K c, .bool false] w fun e w' => ∃ a' c', e = .returned (.tuple #[netV K (E - 1) s a' m2 c', .bool true]) ∧ w'.ownsRow w.heap.size 104 3 (.slice a' m2 c') m2 (wires L2) ∧ Below w.heap.size w w') := fun w g c rr => by
            refine (KO0.out w g c rr).mono ?_
            rintro e w' ⟨h1, h2⟩
            unfold NetRes at h1
            rw [if_pos rfl, if_neg (by simp), if_neg (by simp), HM2.out] at h1
            obtain ⟨a', c', h3, h4⟩ := h1
            exact ⟨a', c', h3, h4, h2⟩
          go_wp2_with fail
          go_region_held3 (fun w' => w'.cell? ⟨w.heap.size, 2, none⟩ = some (.int .i64 s)) (go_keep)
            ((first
            | (go_at_call 153; ((with_reducible refine (KW.out _ g (HI.out.below (by (repeat' (first | (with_reducible exact Below.refl _ _) | (with_reducible assumption) | (with_reducible refine balloc ?_ _) | (with_reducible refine Below.drew ?_) | (with_reducible refine below_drewN ?_ _) | (with_reducible refine bset ?_ ?_ _) | (with_reducible refine bstep ?_ (by assumption)) | go_size))))).mono ?_); rintro e wT ⟨gT, mT, cT, rfl, oT, hbT⟩); (try (replace hbT := bdrew hbT)); (obtain ⟨hmT, oT2⟩ := HWG.out _ _ _ _ oT); subst hmT; have GT := Lib.hid oT2; clear oT oT2; (try (have hq_ := bltn hbT (b := w.heap.size) (by (first | omega | (simp only [World.size_alloc, World.size_setCell, World.size_drew, World.heap_drewN]; omega))); obtain ⟨uu, vv, zz, nn, mm⟩ := hq_)); (try (have hq_ := bltn hbT (b := w.heap.size + 1) (by (first | omega | (simp only [World.size_alloc, World.size_setCell, World.size_drew, World.heap_drewN]; omega))); obtain ⟨uu, vv, zz, nn, mm⟩ := hq_)))
            | (go_at_call 139; ((with_reducible refine (KO.out _ gT cT (by first | exact GT.out | exact GT.out.below (by (repeat' (first | (with_reducible exact Below.refl _ _) | (with_reducible assumption) | (with_reducible refine balloc ?_ _) | (with_reducible refine Below.drew ?_) | (with_reducible refine below_drewN ?_ _) | (with_reducible refine bset ?_ ?_ _) | (with_reducible refine bstep ?_ (by assumption)) | go_size))))).mono ?_); rintro e wO ⟨aO, cO, rfl, oO, hbO⟩); (try (replace hbO := bdrew hbO)); have OO := Lib.hid oO; clear oO; (try (have hq_ := bltn hbO (b := w.heap.size) (by (first | omega | (simp only [World.size_alloc, World.size_setCell, World.size_drew, World.heap_drewN]; omega))); obtain ⟨uu, vv, zz, nn, mm⟩ := hq_)); (try (have hq_ := bltn hbO (b := w.heap.size + 1) (by (first | omega | (simp only [World.size_alloc, World.size_setCell, World.size_drew, World.heap_drewN]; omega))); obtain ⟨uu, vv, zz, nn, mm⟩ := hq_)))))
          all_goals
            go_wp2_with fail
            have rs0 : (wO.cell? { block := w.heap.size + 1, off := 0 }).isSome = true := by simp [go_sem, *]
            have rs1 : (wO.cell? { block := w.heap.size + 1, off := 1 }).isSome = true := by simp [go_sem, *]
            have rs2 : (wO.cell? { block := w.heap.size + 1, off := 2 }).isSome = true := by simp [go_sem, *]
            have rs3 : (wO.cell? { block := w.heap.size + 1, off := 3 }).isSome = true := by simp [go_sem, *]
            refine bodyPost_ret (v := (.tuple #[netV K (E - 1) s aO m2 cO, .bool true])) (by simp [results, Try.results85, go_sem, rs0, rs1, rs2, rs3]; try rfl) rfl ?_
            have HBO : Below w.heap.size w wO := by (repeat' (first | (with_reducible exact Below.refl _ _) | (with_reducible assumption) | (with_reducible refine balloc ?_ _) | (with_reducible refine Below.drew ?_) | (with_reducible refine below_drewN ?_ _) | (with_reducible refine bset ?_ ?_ _) | (with_reducible refine bstep ?_ (by assumption)) | go_size))
            refine ⟨?_, by (repeat' (first | (with_reducible exact Below.refl _ _) | (with_reducible assumption) | (with_reducible refine balloc ?_ _) | (with_reducible refine Below.drew ?_) | (with_reducible refine below_drewN ?_ _) | (with_reducible refine bset ?_ ?_ _) | (with_reducible refine bstep ?_ (by assumption)) | go_size))⟩
            unfold NetRes
            rw [if_pos rfl, HM2.out]
            refine ⟨aO, cO, rfl, ?_⟩
            refine World.ownsRow.mono (base := w.heap.size + 1 + 1) ?_ (by omega)
            have o9 := World.ownsRow.mono (base' := w.heap.size + 1 + 1) OO.out (by (first | omega | (simp only [World.size_alloc, World.size_setCell, World.size_drew, World.heap_drewN]; omega)))
            repeat' (first | with_reducible exact o9 | (with_reducible refine ownsRow_setCell_below ?_ ?_ _) | (dsimp only; omega) | omega)
      · have HEE : E2 = E := by have := HE2.out; rw [if_neg hqE] at this; exact this.symm
        subst HEE
        cases ok
        · have KO : Hid (∀ (w : World) (g c : Nat), IGrid w (some ⟨g, 0, none⟩) K c (tab K (fun i j => jT l P Q (skip Q i) (skip Q j))) → Calls Try.prog 139 #[.int .i64 E2, .int .i64 s, .slice (some ⟨g, 0, none⟩) K c, .bool false] w fun e w' => e = .returned (.tuple #[netV 0 0 0 none 0 0, .bool false]) ∧ Below w.heap.size w w') := fun w g c rr => by
            refine (KO0.out w g c rr).mono ?_
            rintro e w' ⟨h1, h2⟩
            unfold NetRes at h1
            rw [if_neg (by simp)] at h1
            exact ⟨h1, h2⟩
          go_wp2_with fail
          go_region_held3 (fun w' => w'.cell? ⟨w.heap.size, 2, none⟩ = some (.int .i64 s)) (go_keep)
            ((first
            | (go_at_call 153; ((with_reducible refine (KW.out _ g (HI.out.below (by (repeat' (first | (with_reducible exact Below.refl _ _) | (with_reducible assumption) | (with_reducible refine balloc ?_ _) | (with_reducible refine Below.drew ?_) | (with_reducible refine below_drewN ?_ _) | (with_reducible refine bset ?_ ?_ _) | (with_reducible refine bstep ?_ (by assumption)) | go_size))))).mono ?_); rintro e wT ⟨gT, mT, cT, rfl, oT, hbT⟩); (try (replace hbT := bdrew hbT)); (obtain ⟨hmT, oT2⟩ := HWG.out _ _ _ _ oT); subst hmT; have GT := Lib.hid oT2; clear oT oT2; (try (have hq_ := bltn hbT (b := w.heap.size) (by (first | omega | (simp only [World.size_alloc, World.size_setCell, World.size_drew, World.heap_drewN]; omega))); obtain ⟨uu, vv, zz, nn, mm⟩ := hq_)); (try (have hq_ := bltn hbT (b := w.heap.size + 1) (by (first | omega | (simp only [World.size_alloc, World.size_setCell, World.size_drew, World.heap_drewN]; omega))); obtain ⟨uu, vv, zz, nn, mm⟩ := hq_)))
            | (go_at_call 139; ((with_reducible refine (KO.out _ gT cT (by first | exact GT.out | exact GT.out.below (by (repeat' (first | (with_reducible exact Below.refl _ _) | (with_reducible assumption) | (with_reducible refine balloc ?_ _) | (with_reducible refine Below.drew ?_) | (with_reducible refine below_drewN ?_ _) | (with_reducible refine bset ?_ ?_ _) | (with_reducible refine bstep ?_ (by assumption)) | go_size))))).mono ?_); rintro e wO ⟨rfl, hbO⟩); (try (replace hbO := bdrew hbO)); (try (have hq_ := bltn hbO (b := w.heap.size) (by (first | omega | (simp only [World.size_alloc, World.size_setCell, World.size_drew, World.heap_drewN]; omega))); obtain ⟨uu, vv, zz, nn, mm⟩ := hq_)); (try (have hq_ := bltn hbO (b := w.heap.size + 1) (by (first | omega | (simp only [World.size_alloc, World.size_setCell, World.size_drew, World.heap_drewN]; omega))); obtain ⟨uu, vv, zz, nn, mm⟩ := hq_)))))
          all_goals
            go_wp2_with fail
            have rs0 : (wO.cell? { block := w.heap.size + 1, off := 0 }).isSome = true := by simp [go_sem, *]
            have rs1 : (wO.cell? { block := w.heap.size + 1, off := 1 }).isSome = true := by simp [go_sem, *]
            have rs2 : (wO.cell? { block := w.heap.size + 1, off := 2 }).isSome = true := by simp [go_sem, *]
            have rs3 : (wO.cell? { block := w.heap.size + 1, off := 3 }).isSome = true := by simp [go_sem, *]
            refine bodyPost_ret (v := (.tuple #[netV 0 0 0 none 0 0, .bool false])) (by simp [results, Try.results85, go_sem, rs0, rs1, rs2, rs3]; try rfl) rfl ?_
            exact ⟨by unfold NetRes; rw [if_neg (by simp)], by (repeat' (first | (with_reducible exact Below.refl _ _) | (with_reducible assumption) | (with_reducible refine balloc ?_ _) | (with_reducible refine Below.drew ?_) | (with_reducible refine below_drewN ?_ _) | (with_reducible refine bset ?_ ?_ _) | (with_reducible refine bstep ?_ (by assumption)) | go_size))⟩
        · have KO : Hid (∀ (w : World) (g c : Nat), IGrid w (some ⟨g, 0, none⟩) K c (tab K (fun i j => jT l P Q (skip Q i) (skip Q j))) → Calls Try.prog 139 #[.int .i64 E2, .int .i64 s, .slice (some ⟨g, 0, none⟩) K c, .bool false] w fun e w' => ∃ a' c', e = .returned (.tuple #[netV K E2 s a' m2 c', .bool true]) ∧ w'.ownsRow w.heap.size 104 3 (.slice a' m2 c') m2 (wires L2) ∧ Below w.heap.size w w') := fun w g c rr => by
            refine (KO0.out w g c rr).mono ?_
            rintro e w' ⟨h1, h2⟩
            unfold NetRes at h1
            rw [if_pos rfl, if_neg (by simp), if_neg (by simp), HM2.out] at h1
            obtain ⟨a', c', h3, h4⟩ := h1
            exact ⟨a', c', h3, h4, h2⟩
          go_wp2_with fail
          go_region_held3 (fun w' => w'.cell? ⟨w.heap.size, 2, none⟩ = some (.int .i64 s)) (go_keep)
            ((first
            | (go_at_call 153; ((with_reducible refine (KW.out _ g (HI.out.below (by (repeat' (first | (with_reducible exact Below.refl _ _) | (with_reducible assumption) | (with_reducible refine balloc ?_ _) | (with_reducible refine Below.drew ?_) | (with_reducible refine below_drewN ?_ _) | (with_reducible refine bset ?_ ?_ _) | (with_reducible refine bstep ?_ (by assumption)) | go_size))))).mono ?_); rintro e wT ⟨gT, mT, cT, rfl, oT, hbT⟩); (try (replace hbT := bdrew hbT)); (obtain ⟨hmT, oT2⟩ := HWG.out _ _ _ _ oT); subst hmT; have GT := Lib.hid oT2; clear oT oT2; (try (have hq_ := bltn hbT (b := w.heap.size) (by (first | omega | (simp only [World.size_alloc, World.size_setCell, World.size_drew, World.heap_drewN]; omega))); obtain ⟨uu, vv, zz, nn, mm⟩ := hq_)); (try (have hq_ := bltn hbT (b := w.heap.size + 1) (by (first | omega | (simp only [World.size_alloc, World.size_setCell, World.size_drew, World.heap_drewN]; omega))); obtain ⟨uu, vv, zz, nn, mm⟩ := hq_)))
            | (go_at_call 139; ((with_reducible refine (KO.out _ gT cT (by first | exact GT.out | exact GT.out.below (by (repeat' (first | (with_reducible exact Below.refl _ _) | (with_reducible assumption) | (with_reducible refine balloc ?_ _) | (with_reducible refine Below.drew ?_) | (with_reducible refine below_drewN ?_ _) | (with_reducible refine bset ?_ ?_ _) | (with_reducible refine bstep ?_ (by assumption)) | go_size))))).mono ?_); rintro e wO ⟨aO, cO, rfl, oO, hbO⟩); (try (replace hbO := bdrew hbO)); have OO := Lib.hid oO; clear oO; (try (have hq_ := bltn hbO (b := w.heap.size) (by (first | omega | (simp only [World.size_alloc, World.size_setCell, World.size_drew, World.heap_drewN]; omega))); obtain ⟨uu, vv, zz, nn, mm⟩ := hq_)); (try (have hq_ := bltn hbO (b := w.heap.size + 1) (by (first | omega | (simp only [World.size_alloc, World.size_setCell, World.size_drew, World.heap_drewN]; omega))); obtain ⟨uu, vv, zz, nn, mm⟩ := hq_)))))
          all_goals
            go_wp2_with fail
            have rs0 : (wO.cell? { block := w.heap.size + 1, off := 0 }).isSome = true := by simp [go_sem, *]
            have rs1 : (wO.cell? { block := w.heap.size + 1, off := 1 }).isSome = true := by simp [go_sem, *]
            have rs2 : (wO.cell? { block := w.heap.size + 1, off := 2 }).isSome = true := by simp [go_sem, *]
            have rs3 : (wO.cell? { block := w.heap.size + 1, off := 3 }).isSome = true := by simp [go_sem, *]
            refine bodyPost_ret (v := (.tuple #[netV K E2 s aO m2 cO, .bool true])) (by simp [results, Try.results85, go_sem, rs0, rs1, rs2, rs3]; try rfl) rfl ?_
            have HBO : Below w.heap.size w wO := by (repeat' (first | (with_reducible exact Below.refl _ _) | (with_reducible assumption) | (with_reducible refine balloc ?_ _) | (with_reducible refine Below.drew ?_) | (with_reducible refine below_drewN ?_ _) | (with_reducible refine bset ?_ ?_ _) | (with_reducible refine bstep ?_ (by assumption)) | go_size))
            refine ⟨?_, by (repeat' (first | (with_reducible exact Below.refl _ _) | (with_reducible assumption) | (with_reducible refine balloc ?_ _) | (with_reducible refine Below.drew ?_) | (with_reducible refine below_drewN ?_ _) | (with_reducible refine bset ?_ ?_ _) | (with_reducible refine bstep ?_ (by assumption)) | go_size))⟩
            unfold NetRes
            rw [if_pos rfl, HM2.out]
            refine ⟨aO, cO, rfl, ?_⟩
            refine World.ownsRow.mono (base := w.heap.size + 1 + 1) ?_ (by omega)
            have o9 := World.ownsRow.mono (base' := w.heap.size + 1 + 1) OO.out (by (first | omega | (simp only [World.size_alloc, World.size_setCell, World.size_drew, World.heap_drewN]; omega)))
            repeat' (first | with_reducible exact o9 | (with_reducible refine ownsRow_setCell_below ?_ ?_ _) | (dsimp only; omega) | omega)
set_option maxRecDepth 100000 in
set_option maxHeartbeats 8000000 in
theorem implJoinNodes0 (N : Int) (E S : Int) (a : Option Addr) (n c : Nat) (l : List Wz) (p : Int) (q : Int) (hok : ¬ NetOk N E S l) (w : World) (hr : ArgRow w a n c 3 (wires l)) (hl : l.length = n) :
    Calls Try.prog 85 #[netV N E S a n c, .int .i64 p, .int .i64 q] w fun e w' => e = .returned (.tuple #[netV 0 0 0 none 0 0, .bool false]) ∧ Below w.heap.size w w' := by
  have HR := Lib.hid hr
  have KN := Lib.hid (fun (w : World) rr => implNetOk N E S a n c l false ⟨(fun h => by cases h), fun h => absurd h hok⟩ w rr hl)
  clear hr hok
  have HA0 : Hid (((w.alloc (.cells #[.int .i64 N, .int .i64 E, .int .i64 S, .slice a n c] 25)).alloc (.cells #[.int .i64 0, .int .i64 0, .int .i64 0, .slice none 0 0] 25)).rowIs (w.heap.size + 1) 25 4 (netAt (.int .i64 0) (.int .i64 0) (.int .i64 0) (.slice none 0 0))) := by
    have := netAt_new (w.alloc (.cells #[.int .i64 N, .int .i64 E, .int .i64 S, .slice a n c] 25)) (.int .i64 0) (.int .i64 0) (.int .i64 0) (.slice none 0 0) 25
    simpa [Hid] using this
  have HP0 : Hid (((w.alloc (.cells #[.int .i64 N, .int .i64 E, .int .i64 S, .slice a n c] 25)).alloc (.cells #[.int .i64 0, .int .i64 0, .int .i64 0, .slice none 0 0] 25)).rowIs w.heap.size 25 4 (netAt (.int .i64 N) (.int .i64 E) (.int .i64 S) (.slice a n c))) := (netAt_new _ _ _ _ _ _).alloc _
  go_enter Try.func85, Try.ntmps85
  go_wp2_with fail
  refine (KN.out _ (HR.out.below (by (repeat' (first | (with_reducible exact Below.refl _ _) | (with_reducible assumption) | (with_reducible refine balloc ?_ _) | (with_reducible refine Below.drew ?_) | (with_reducible refine below_drewN ?_ _) | (with_reducible refine bset ?_ ?_ _) | (with_reducible refine bstep ?_ (by assumption)) | go_size))))).mono ?_
  rintro e w1 ⟨rfl, hb1⟩
  have HA1 := Lib.hid (HA0.out.of_block (hb1.block _ HA0.out.lt))
  have HP1 := Lib.hid (HP0.out.of_block (hb1.block _ HP0.out.lt))
  have B1 : Hid (Below w.heap.size w w1) := bstep (by (repeat' (first | (with_reducible exact Below.refl _ _) | (with_reducible assumption) | (with_reducible refine balloc ?_ _) | (with_reducible refine Below.drew ?_) | (with_reducible refine below_drewN ?_ _) | (with_reducible refine bset ?_ ?_ _) | (with_reducible refine bstep ?_ (by assumption)) | go_size))) hb1
  clear HA0 HP0 hb1
  have hlP1 := HP1.out.lt
  obtain ⟨t0, t1, t2, t3⟩ := netAt_cells HP1.out
  obtain ⟨r0, r1, r2, r3⟩ := netAt_cells HA1.out
  have f0 := HA1.out.frozen 0
  have f1 := HA1.out.frozen 1
  have f2 := HA1.out.frozen 2
  have f3 := HA1.out.frozen 3
  have hlA1 := HA1.out.lt
  go_wp2_with fail
  have rs0 : (w1.cell? { block := w.heap.size + 1, off := 0 }).isSome = true := by simp [go_sem, *]
  have rs1 : (w1.cell? { block := w.heap.size + 1, off := 1 }).isSome = true := by simp [go_sem, *]
  have rs2 : (w1.cell? { block := w.heap.size + 1, off := 2 }).isSome = true := by simp [go_sem, *]
  have rs3 : (w1.cell? { block := w.heap.size + 1, off := 3 }).isSome = true := by simp [go_sem, *]
  refine bodyPost_ret (v := (.tuple #[netV 0 0 0 none 0 0, .bool false])) (by simp [results, Try.results85, go_sem, rs0, rs1, rs2, rs3]; try rfl) rfl ?_
  exact ⟨rfl, by have := B1.out; (repeat' (first | (with_reducible exact Below.refl _ _) | (with_reducible assumption) | (with_reducible refine balloc ?_ _) | (with_reducible refine Below.drew ?_) | (with_reducible refine below_drewN ?_ _) | (with_reducible refine bset ?_ ?_ _) | (with_reducible refine bstep ?_ (by assumption)) | go_size))⟩
set_option maxRecDepth 100000 in
set_option maxHeartbeats 8000000 in
theorem implJoinNodes1 (M : Nat) (E S : Int) (a : Option Addr) (n c : Nat) (l : List Wz) (p : Int) (q : Int) (hok : NetOk M E S l) (hbad : ¬ (0 ≤ p ∧ p < q ∧ q < M)) (w : World) (hr : ArgRow w a n c 3 (wires l)) (hl : l.length = n) :
    Calls Try.prog 85 #[netV M E S a n c, .int .i64 p, .int .i64 q] w fun e w' => e = .returned (.tuple #[netV 0 0 0 none 0 0, .bool false]) ∧ Below w.heap.size w w' := by
  have HR := Lib.hid hr
  have KN := Lib.hid (fun (w : World) rr => implNetOk M E S a n c l true ⟨fun _ => hok, fun _ => rfl⟩ w rr hl)
  have hc : p < 0 ∨ (¬ p < 0 ∧ q ≤ p) ∨ (¬ p < 0 ∧ ¬ q ≤ p ∧ (M : Int) ≤ q) := by omega
  clear hr hok hbad
  rcases hc with hc | ⟨hc, hc2⟩ | ⟨hc, hc2, hc3⟩
  all_goals
    have HA0 : Hid (((w.alloc (.cells #[.int .i64 M, .int .i64 E, .int .i64 S, .slice a n c] 25)).alloc (.cells #[.int .i64 0, .int .i64 0, .int .i64 0, .slice none 0 0] 25)).rowIs (w.heap.size + 1) 25 4 (netAt (.int .i64 0) (.int .i64 0) (.int .i64 0) (.slice none 0 0))) := by
      have := netAt_new (w.alloc (.cells #[.int .i64 M, .int .i64 E, .int .i64 S, .slice a n c] 25)) (.int .i64 0) (.int .i64 0) (.int .i64 0) (.slice none 0 0) 25
      simpa [Hid] using this
    have HP0 : Hid (((w.alloc (.cells #[.int .i64 M, .int .i64 E, .int .i64 S, .slice a n c] 25)).alloc (.cells #[.int .i64 0, .int .i64 0, .int .i64 0, .slice none 0 0] 25)).rowIs w.heap.size 25 4 (netAt (.int .i64 M) (.int .i64 E) (.int .i64 S) (.slice a n c))) := (netAt_new _ _ _ _ _ _).alloc _
    go_enter Try.func85, Try.ntmps85
    go_wp2_with fail
    refine (KN.out _ (HR.out.below (by (repeat' (first | (with_reducible exact Below.refl _ _) | (with_reducible assumption) | (with_reducible refine balloc ?_ _) | (with_reducible refine Below.drew ?_) | (with_reducible refine below_drewN ?_ _) | (with_reducible refine bset ?_ ?_ _) | (with_reducible refine bstep ?_ (by assumption)) | go_size))))).mono ?_
    rintro e w1 ⟨rfl, hb1⟩
    have HA1 := Lib.hid (HA0.out.of_block (hb1.block _ HA0.out.lt))
    have HP1 := Lib.hid (HP0.out.of_block (hb1.block _ HP0.out.lt))
    have B1 : Hid (Below w.heap.size w w1) := bstep (by (repeat' (first | (with_reducible exact Below.refl _ _) | (with_reducible assumption) | (with_reducible refine balloc ?_ _) | (with_reducible refine Below.drew ?_) | (with_reducible refine below_drewN ?_ _) | (with_reducible refine bset ?_ ?_ _) | (with_reducible refine bstep ?_ (by assumption)) | go_size))) hb1
    clear HA0 HP0 hb1
    have hlP1 := HP1.out.lt
    obtain ⟨t0, t1, t2, t3⟩ := netAt_cells HP1.out
    obtain ⟨r0, r1, r2, r3⟩ := netAt_cells HA1.out
    have f0 := HA1.out.frozen 0
    have f1 := HA1.out.frozen 1
    have f2 := HA1.out.frozen 2
    have f3 := HA1.out.frozen 3
    have hlA1 := HA1.out.lt
    go_wp2_with fail
    have rs0 : (w1.cell? { block := w.heap.size + 1, off := 0 }).isSome = true := by simp [go_sem, *]
    have rs1 : (w1.cell? { block := w.heap.size + 1, off := 1 }).isSome = true := by simp [go_sem, *]
    have rs2 : (w1.cell? { block := w.heap.size + 1, off := 2 }).isSome = true := by simp [go_sem, *]
    have rs3 : (w1.cell? { block := w.heap.size + 1, off := 3 }).isSome = true := by simp [go_sem, *]
    refine bodyPost_ret (v := (.tuple #[netV 0 0 0 none 0 0, .bool false])) (by simp [results, Try.results85, go_sem, rs0, rs1, rs2, rs3]; try rfl) rfl ?_
    exact ⟨rfl, by have := B1.out; (repeat' (first | (with_reducible exact Below.refl _ _) | (with_reducible assumption) | (with_reducible refine balloc ?_ _) | (with_reducible refine Below.drew ?_) | (with_reducible refine below_drewN ?_ _) | (with_reducible refine bset ?_ ?_ _) | (with_reducible refine bstep ?_ (by assumption)) | go_size))⟩
end Go.Proofs.Ytdmiihljepkapaa
