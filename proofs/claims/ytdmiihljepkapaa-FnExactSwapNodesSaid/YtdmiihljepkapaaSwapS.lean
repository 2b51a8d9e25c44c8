/- SwapNodes of the reference. -/
import Derived.Test.YtdmiihljepkapaaNetOf
import Derived.Test.YtdmiihljepkapaaPutS2
import Derived.Test.YtdmiihljepkapaaBound
import Derived.Test.YtdmiihljepkapaaQTail
namespace Go.Proofs.Ytdmiihljepkapaa
set_option linter.unusedSimpArgs false
set_option linter.unusedVariables false
open Go.RowKit

theorem insL_len (x : Wz) : ∀ m : List Wz, (insL x m).length = m.length + 1
  | [] => rfl
  | e :: t => by rw [insL]; split <;> simp [insL_len x t]
theorem putL_len (l : List Wz) (p q w : Int) (add : Bool) : (putL l p q w add).length ≤ l.length + 1 := by
  have h1 : (rest l p q).length ≤ l.length := List.length_filter_le _ _
  unfold putL
  rw [insL_len]; omega
theorem swapL_len (a b : Int) (l : List Wz) : ∀ k, k ≤ l.length → (swapL a b (l.take k)).length ≤ k
  | 0, _ => by simp [swapL]
  | k + 1, h => by
    rw [swapL_snoc (by omega)]
    have h1 := swapL_len a b l k (by omega)
    have h2 := putL_len (swapL a b (l.take k)) (min (sw a b l[k].1) (sw a b l[k].2.1)) (max (sw a b l[k].1) (sw a b l[k].2.1)) l[k].2.2 false
    omega
theorem specSwapped (v p q : Int) (w : World) :
    Calls Try.prog 148 #[.int .i64 v, .int .i64 p, .int .i64 q] w fun e w' => e = .returned (.int .i64 (sw p q v)) ∧ w' = w := by
  unfold sw
  by_cases h1 : v = p
  · rw [if_pos h1]
    have e1 : (v == p) = true := by simp [h1]
    have e1' : (p == v) = true := by simp [h1]
    clear h1
    go_enter Try.func148, Try.ntmps148
    go_wp2_with fail
    go_ret
    exact ⟨rfl, rfl⟩
  · rw [if_neg h1]
    have e1 : (v == p) = false := by simp [h1]
    have e1' : (p == v) = false := by simp; omega
    by_cases h2 : v = q
    · rw [if_pos h2]
      have e2 : (v == q) = true := by simp [h2]
      have e2' : (q == v) = true := by simp [h2]
      clear h1 h2
      go_enter Try.func148, Try.ntmps148
      go_wp2_with fail
      go_ret
      exact ⟨rfl, rfl⟩
    · rw [if_neg h2]
      have e2 : (v == q) = false := by simp [h2]
      have e2' : (q == v) = false := by simp; omega
      clear h1 h2
      go_enter Try.func148, Try.ntmps148
      go_wp2_with fail
      go_ret
      exact ⟨rfl, rfl⟩

set_option maxRecDepth 100000 in
set_option maxHeartbeats 8000000 in
theorem specSwapNodes (M : Nat) (E S : Int) (a : Option Addr) (n c : Nat) (l : List Wz) (p : Int) (q : Int) (hp : 0 ≤ p ∧ p < M) (hq : 0 ≤ q ∧ q < M) (hok : NetOk M E S l) (w : World) (hr : ArgRow w a n c 3 (wires l)) (hl : l.length = n) :
    Calls Try.prog 74 #[netV M E S a n c, .int .i64 p, .int .i64 q] w fun e w' => NetRes e w w' true M E S (swapL p q l) ∧ Below w.heap.size w w' := by
  have HR := Lib.hid hr
  have KN := Lib.hid (fun (w : World) rr => specNetOk M E S a n c l true ⟨fun _ => hok, fun _ => rfl⟩ w rr hl)
  have hM5 : M ≤ 5 := by have := hok.h.n5; omega
  have hM1 : 1 ≤ M := by have := hok.h.n1; omega
  have KP := Lib.hid (fun (w : World) => specIn p 0 ((M : Int) - 1) true ⟨fun _ => by omega, fun _ => rfl⟩ w)
  have KQ := Lib.hid (fun (w : World) => specIn q 0 ((M : Int) - 1) true ⟨fun _ => by omega, fun _ => rfl⟩ w)
  have hfew := hok.few
  have hn1 : n ≤ 25 := by omega
  have HL := Lib.hid hl
  have HTOLD := Lib.hid (fun k hk => (swapL_told (a := p) (b := q) hok.srt hok.asc k hk).2)
  have HGD := Lib.hid (fun x (hx : x ∈ l) => hok.good hx)
  obtain ⟨L2, hL2⟩ : ∃ L2, swapL p q l = L2 := ⟨_, rfl⟩
  rw [hL2]
  have HL2 := Lib.hid hL2
  clear hr hok hL2
  have HA0 : Hid (((w.alloc (.cells #[.int .i64 M, .int .i64 E, .int .i64 S, .slice a n c] 25)).alloc (.cells #[.int .i64 0, .int .i64 0, .int .i64 0, .slice none 0 0] 25)).rowIs (w.heap.size + 1) 25 4 (netAt (.int .i64 0) (.int .i64 0) (.int .i64 0) (.slice none 0 0))) := by
    have := netAt_new (w.alloc (.cells #[.int .i64 M, .int .i64 E, .int .i64 S, .slice a n c] 25)) (.int .i64 0) (.int .i64 0) (.int .i64 0) (.slice none 0 0) 25
    simpa [Hid] using this
  have HP0 : Hid (((w.alloc (.cells #[.int .i64 M, .int .i64 E, .int .i64 S, .slice a n c] 25)).alloc (.cells #[.int .i64 0, .int .i64 0, .int .i64 0, .slice none 0 0] 25)).rowIs w.heap.size 25 4 (netAt (.int .i64 M) (.int .i64 E) (.int .i64 S) (.slice a n c))) := (netAt_new _ _ _ _ _ _).alloc _
  go_enter Try.func74, Try.ntmps74
  go_wp2_with fail
  refine (KN.out _ (HR.out.below (by (repeat' (first | (with_reducible exact Below.refl _ _) | (with_reducible assumption) | (with_reducible refine balloc ?_ _) | (with_reducible refine Below.drew ?_) | (with_reducible refine below_drewN ?_ _) | (with_reducible refine bset ?_ ?_ _) | (with_reducible refine bstep ?_ (by assumption)) | go_size))))).mono ?_
  rintro e w1 ⟨rfl, hb1⟩
  have HA1 := Lib.hid (HA0.out.of_block (hb1.block _ HA0.out.lt))
  have HP1 := Lib.hid (HP0.out.of_block (hb1.block _ HP0.out.lt))
  have B1 : Hid (Below w.heap.size w w1) := bstep (by (repeat' (first | (with_reducible exact Below.refl _ _) | (with_reducible assumption) | (with_reducible refine balloc ?_ _) | (with_reducible refine Below.drew ?_) | (with_reducible refine below_drewN ?_ _) | (with_reducible refine bset ?_ ?_ _) | (with_reducible refine bstep ?_ (by assumption)) | go_size))) hb1
  clear HA0 HP0 hb1
  have hlP1 := HP1.out.lt
  obtain ⟨t0, t1, t2, t3⟩ := netAt_cells HP1.out
  go_wp2_with fail
  refine (KP.out _).mono ?_
  rintro e w9 ⟨rfl, rfl⟩
  go_wp2_with fail
  refine (KQ.out _).mono ?_
  rintro e w9 ⟨rfl, rfl⟩
  go_wp2_with fail
  have HN0 : Hid ((w1.alloc (.cells #[.int .i64 M, .int .i64 E, .int .i64 S, .slice none 0 0] 25)).rowIs w1.heap.size 25 4 (netAt (.int .i64 M) (.int .i64 E) (.int .i64 S) (.slice none 0 0))) := netAt_new _ _ _ _ _ _
  have hlA1 := HA1.out.lt
  go_loopw [41] (fun u wr => ∃ (k m cg : Nat) (a' : Option Addr), k ≤ n ∧ m ≤ 25 ∧ u = .int .i64 k ∧ w1.heap.size < wr.heap.size ∧ Hid ((swapL p q (l.take k)).length = m) ∧ Hid (wr.ownsRow (w1.heap.size + 1) 104 3 (.slice a' m cg) m (wires (swapL p q (l.take k)))) ∧ Hid (wr.rowIs w1.heap.size 25 4 (netAt (.int .i64 M) (.int .i64 E) (.int .i64 S) (.slice a' m cg))) ∧ Hid (Below w1.heap.size w1 wr)) (fun u _ => n - (intOf u).toNat)
  case atStart => exact ⟨0, 0, 0, none, by omega, by omega, rfl, by simp, rfl, World.ownsRow_nil _ _ _ _, HN0.out, balloc (Below.refl _ _) _⟩
  case round =>
    clear HN0 t0 t1 t2 t3
    obtain ⟨k, m, cg, a', hk, hm, rfl, hsz, HM, HO, HN, HC⟩ := hrel
    have HB2 : Hid (Below w.heap.size w wr) := bstep B1.out HC.out
    have HP2 := Lib.hid (HP1.out.of_block (HC.out.block _ hlP1))
    obtain ⟨t0, t1, t2, t3⟩ := netAt_cells HP2.out
    obtain ⟨n0, n1, n2, n3⟩ := netAt_cells HN.out
    have nf3 := HN.out.frozen 3
    have hlP2 := HP2.out.lt
    by_cases hlt : k < n
    · have hli : k < l.length := by rw [HL.out]; exact hlt
      obtain ⟨b, o, rfl, hb, _⟩ := HR.out.form (by omega)
      obtain ⟨p0, p1, p2⟩ := wire_cells HR.out k hli
      have hbl : b < wr.heap.size := Nat.lt_of_lt_of_le hb HB2.out.size
      rw [← HB2.out.cell (p := ⟨b, _, none⟩) hb] at p0 p1 p2
      obtain ⟨g1, g2, g3, g4, g5⟩ := HGD.out l[k] (List.getElem_mem _)
      have hne : ¬ sw p q l[k].1 = sw p q l[k].2.1 := fun e => by have := sw_inj e; omega
      have KU := Lib.hid (fun (w : World) rr => specPut a' m cg (swapL p q (l.take k)) (min (sw p q l[k].1) (sw p q l[k].2.1)) (max (sw p q l[k].1) (sw p q l[k].2.1)) l[k].2.2 (sw p q l[k].1) (sw p q l[k].2.1) false (by omega) (by omega) (fun x hx => by
        obtain ⟨e, he, rfl⟩ := (HTOLD.out k (by omega) x).1 hx
        obtain ⟨_, _, _, g4, g5⟩ := HGD.out e (List.mem_of_mem_take he)
        simp only [swI]; omega) (by omega) w rr HM.out)
      rw [← swapL_snoc hli] at KU
      have hlen := swapL_len p q l (k + 1) (by omega)
      generalize hU : swapL p q (l.take (k + 1)) = U at KU hlen
      have HU := Lib.hid hU
      obtain ⟨m3, hm3⟩ : ∃ m3, U.length = m3 := ⟨_, rfl⟩
      rw [hm3] at KU hlen
      have HM3 := Lib.hid hm3
      have RO := Lib.hid ((ArgRow.own HO.out).below (w' := wr.alloc (.cells #[.int .i64 l[k].1, .int .i64 l[k].2.1, .int .i64 l[k].2.2] 104)) (balloc (Below.refl _ _) _))
      generalize l[k] = x at p0 p1 p2 KU RO
      obtain ⟨x0, x1, x2⟩ := x
      simp only at KU RO
      have KA := Lib.hid (fun w => specSwapped x0 p q w)
      have KB := Lib.hid (fun w => specSwapped x1 p q w)
      generalize sw p q x0 = y0 at KA KU
      generalize sw p q x1 = y1 at KB KU
      clear hU hm3 hne g1 g2 g3 g4 g5 hli
      have HT : Hid (∀ (W wU : World) (gU cU : Nat), W.heap = (wr.alloc (.cells #[.int .i64 x0, .int .i64 x1, .int .i64 x2] 104)).heap → W.os = wr.os → W.tape = wr.tape → W.output = wr.output → Below W.heap.size W wU → wU.ownsRow W.heap.size 104 3 (.slice (some ⟨gU, 0, none⟩) m3 cU) m3 (wires U) → w1.heap.size < wU.heap.size ∧ wU.cell? ⟨w1.heap.size, 3, none⟩ = some (.slice a' m cg) ∧ wU.frozen? ⟨w1.heap.size, 3, none⟩ = false ∧ Hid ((wU.setCell ⟨w1.heap.size, 3, none⟩ (.slice (some ⟨gU, 0, none⟩) m3 cU)).ownsRow (w1.heap.size + 1) 104 3 (.slice (some ⟨gU, 0, none⟩) m3 cU) m3 (wires U)) ∧ Hid ((wU.setCell ⟨w1.heap.size, 3, none⟩ (.slice (some ⟨gU, 0, none⟩) m3 cU)).rowIs w1.heap.size 25 4 (netAt (.int .i64 M) (.int .i64 E) (.int .i64 S) (.slice (some ⟨gU, 0, none⟩) m3 cU))) ∧ Hid (Below w1.heap.size w1 (wU.setCell ⟨w1.heap.size, 3, none⟩ (.slice (some ⟨gU, 0, none⟩) m3 cU)))) := by
        intro W wU gU cU hW hW2 hW3 hW4 hb ho
        have hWs : W.heap.size = wr.heap.size + 1 := by rw [hW]; simp
        have hbB : Below (wr.heap.size + 1) (wr.alloc (.cells #[.int .i64 x0, .int .i64 x1, .int .i64 x2] 104)) wU := ⟨hb.os.trans hW2, hb.tape.trans hW3, hb.output.trans hW4, by have := hb.size; rw [hWs] at this; simpa using this, fun k hk => by rw [hb.block k (by omega), hW]⟩
        have HC7 : Below w1.heap.size w1 wU := (HC.out.alloc (by omega) _).trans (hbB.mono (by omega))
        have HN7 := HN.out.of_block (w' := wU) (by rw [hbB.block _ (by omega)]; exact Below.heap_alloc _ _ _ (by omega))
        have o7 : wU.ownsRow (w1.heap.size + 1) 104 3 (.slice (some ⟨gU, 0, none⟩) m3 cU) m3 (wires U) := ho.mono (by omega)
        have hgU := (own_base o7 _ rfl).1
        simp only at hgU
        exact ⟨HN7.lt, (netAt_cells HN7).2.2.2, HN7.frozen 3, o7.kept (grown_set' _ ⟨w1.heap.size, 3, none⟩ _) (.inr (by simp [Value.ownBlock]; omega)), netAt_set3 HN7 (.slice (some ⟨gU, 0, none⟩) m3 cU), HC7.setCell (Nat.le_refl _) _⟩
      have HFIN : Hid (m3 ≤ 25 ∧ (swapL p q (l.take (k + 1))).length = m3) := ⟨by omega, by rw [HU.out]; exact HM3.out⟩
      have HUU : Hid (swapL p q (l.take (k + 1)) = U) := HU.out
      rw [← HU.out] at HT
      clear hlen HM3 HU
      go_wp2_with fail
      refine region_quiet_tail 14 (by kernel_rfl) (by kernel_rfl) ?_
      simp only [List.take_succ_cons, List.take_zero, List.drop_succ_cons, List.drop_zero]
      iterate 14 (quiet_step (first
        | (go_at_call_of 148 x0; exact Calls.quiet_of_same (KA.out _))
        | (go_at_call_of 148 x1; exact Calls.quiet_of_same (KB.out _))))
      refine wpQuiet_nil ?_
      rintro w' ⟨nq, rfl⟩
      go_wp2_with fail
      refine (KU.out _ (RO.out.below (below_drewN (Below.refl _ _) _))).mono ?_
      rintro e wU ⟨gU, cU, rfl, oU, hbU⟩
      obtain ⟨hl8, k0, k1, H8, HN8, HC8⟩ := HT.out ((wr.alloc (.cells #[.int .i64 x0, .int .i64 x1, .int .i64 x2] 104)).drewN nq) wU gU cU rfl rfl rfl rfl hbU (by rw [HUU.out]; exact oU)
      clear oU hbU
      go_wp2_with fail
      go_roundw
      case rel => exact ⟨k + 1, m3, cU, some ⟨gU, 0, none⟩, by omega, HFIN.out.1, by go_num, by simpa using hl8, HFIN.out.2, by first | exact H8.out | exact own_drewN H8.out, by first | exact HN8.out | exact HN8.out.drew, by first | exact HC8.out | exact below_drewN HC8.out _⟩
      case measure => simp [intOf]; omega
    · obtain rfl : k = n := by omega
      have hT : l.take k = l := List.take_of_length_le (by rw [HL.out]; omega)
      have HM2 : Hid (L2.length = m) := by have := HM.out; rw [hT, HL2.out] at this; exact this
      have HO2 : Hid (wr.ownsRow (w1.heap.size + 1) 104 3 (.slice a' m cg) m (wires L2)) := by have := HO.out; rw [hT, HL2.out] at this; exact this
      have HA2 := Lib.hid (HA1.out.of_block (HC.out.block _ hlA1))
      have hlA2 := HA2.out.lt
      obtain ⟨r0, r1, r2, r3⟩ := netAt_cells HA2.out
      have f0 := HA2.out.frozen 0
      have f1 := HA2.out.frozen 1
      have f2 := HA2.out.frozen 2
      have f3 := HA2.out.frozen 3
      clear hT HO HM
      go_wp2_with fail
      have rs0 : (wr.cell? { block := w.heap.size + 1, off := 0 }).isSome = true := by simp [go_sem, *]
      have rs1 : (wr.cell? { block := w.heap.size + 1, off := 1 }).isSome = true := by simp [go_sem, *]
      have rs2 : (wr.cell? { block := w.heap.size + 1, off := 2 }).isSome = true := by simp [go_sem, *]
      have rs3 : (wr.cell? { block := w.heap.size + 1, off := 3 }).isSome = true := by simp [go_sem, *]
      refine bodyPost_ret (v := (.tuple #[netV M E S a' m cg, .bool true])) (by simp [results, Try.results74, go_sem, rs0, rs1, rs2, rs3]; try rfl) rfl ?_
      refine ⟨?_, by have := HB2.out; (repeat' (first | (with_reducible exact Below.refl _ _) | (with_reducible assumption) | (with_reducible refine balloc ?_ _) | (with_reducible refine Below.drew ?_) | (with_reducible refine below_drewN ?_ _) | (with_reducible refine bset ?_ ?_ _) | (with_reducible refine bstep ?_ (by assumption)) | go_size))⟩
      unfold NetRes
      rw [if_pos rfl, HM2.out]
      refine ⟨a', cg, rfl, ?_⟩
      refine World.ownsRow.mono (base := w.heap.size + 1 + 1) ?_ (by omega)
      have o9 := World.ownsRow.mono (base' := w.heap.size + 1 + 1) HO2.out (by omega)
      repeat' (first | with_reducible exact o9 | (with_reducible refine ownsRow_setCell_below ?_ ?_ _) | (dsimp only; omega) | omega)
set_option maxRecDepth 100000 in
set_option maxHeartbeats 8000000 in
theorem specSwapNodes0 (N : Int) (E S : Int) (a : Option Addr) (n c : Nat) (l : List Wz) (p : Int) (q : Int) (hok : ¬ NetOk N E S l) (w : World) (hr : ArgRow w a n c 3 (wires l)) (hl : l.length = n) :
    Calls Try.prog 74 #[netV N E S a n c, .int .i64 p, .int .i64 q] w fun e w' => e = .returned (.tuple #[netV 0 0 0 none 0 0, .bool false]) ∧ Below w.heap.size w w' := by
  have HR := Lib.hid hr
  have KN := Lib.hid (fun (w : World) rr => specNetOk N E S a n c l false ⟨(fun h => by cases h), fun h => absurd h hok⟩ w rr hl)
  clear hr hok
  have HA0 : Hid (((w.alloc (.cells #[.int .i64 N, .int .i64 E, .int .i64 S, .slice a n c] 25)).alloc (.cells #[.int .i64 0, .int .i64 0, .int .i64 0, .slice none 0 0] 25)).rowIs (w.heap.size + 1) 25 4 (netAt (.int .i64 0) (.int .i64 0) (.int .i64 0) (.slice none 0 0))) := by
    have := netAt_new (w.alloc (.cells #[.int .i64 N, .int .i64 E, .int .i64 S, .slice a n c] 25)) (.int .i64 0) (.int .i64 0) (.int .i64 0) (.slice none 0 0) 25
    simpa [Hid] using this
  have HP0 : Hid (((w.alloc (.cells #[.int .i64 N, .int .i64 E, .int .i64 S, .slice a n c] 25)).alloc (.cells #[.int .i64 0, .int .i64 0, .int .i64 0, .slice none 0 0] 25)).rowIs w.heap.size 25 4 (netAt (.int .i64 N) (.int .i64 E) (.int .i64 S) (.slice a n c))) := (netAt_new _ _ _ _ _ _).alloc _
  go_enter Try.func74, Try.ntmps74
  go_wp2_with fail
  refine (KN.out _ (HR.out.below (by (repeat' (first | (with_reducible exact Below.refl _ _) | (with_reducible assumption) | (with_reducible refine balloc ?_ _) | (with_reducible refine Below.drew ?_) | (with_reducible refine below_drewN ?_ _) | (with_reducible refine bset ?_ ?_ _) | (with_reducible refine bstep ?_ (by assumption)) | go_size))))).mono ?_
  rintro e w1 ⟨rfl, hb1⟩
  have HA1 := Lib.hid (HA0.out.of_block (hb1.block _ HA0.out.lt))
  have HP1 := Lib.hid (HP0.out.of_block (hb1.block _ HP0.out.lt))
  have B1 : Hid (Below w.heap.size w w1) := bstep (by (repeat' (first | (with_reducible exact Below.refl _ _) | (with_reducible assumption) | (with_reducible refine balloc ?_ _) | (with_reducible refine Below.drew ?_) | (with_reducible refine below_drewN ?_ _) | (with_reducible refine bset ?_ ?_ _) | (with_reducible refine bstep ?_ (by assumption)) | go_size))) hb1
  clear HA0 HP0 hb1
  have hlP1 := HP1.out.lt
  obtain ⟨t0, t1, t2, t3⟩ := netAt_cells HP1.out
  obtain ⟨r0, r1, r2, r3⟩ := netAt_cells HA1.out
  have f0 := HA1.out.frozen 0
  have f1 := HA1.out.frozen 1
  have f2 := HA1.out.frozen 2
  have f3 := HA1.out.frozen 3
  have hlA1 := HA1.out.lt
  go_wp2_with fail
  have rs0 : (w1.cell? { block := w.heap.size + 1, off := 0 }).isSome = true := by simp [go_sem, *]
  have rs1 : (w1.cell? { block := w.heap.size + 1, off := 1 }).isSome = true := by simp [go_sem, *]
  have rs2 : (w1.cell? { block := w.heap.size + 1, off := 2 }).isSome = true := by simp [go_sem, *]
  have rs3 : (w1.cell? { block := w.heap.size + 1, off := 3 }).isSome = true := by simp [go_sem, *]
  refine bodyPost_ret (v := (.tuple #[netV 0 0 0 none 0 0, .bool false])) (by simp [results, Try.results74, go_sem, rs0, rs1, rs2, rs3]; try rfl) rfl ?_
  exact ⟨rfl, by have := B1.out; (repeat' (first | (with_reducible exact Below.refl _ _) | (with_reducible assumption) | (with_reducible refine balloc ?_ _) | (with_reducible refine Below.drew ?_) | (with_reducible refine below_drewN ?_ _) | (with_reducible refine bset ?_ ?_ _) | (with_reducible refine bstep ?_ (by assumption)) | go_size))⟩
set_option maxRecDepth 100000 in
set_option maxHeartbeats 8000000 in
theorem specSwapNodes1 (M : Nat) (E S : Int) (a : Option Addr) (n c : Nat) (l : List Wz) (p : Int) (q : Int) (hok : NetOk M E S l) (hbad : ¬ ((0 ≤ p ∧ p < M) ∧ (0 ≤ q ∧ q < M))) (w : World) (hr : ArgRow w a n c 3 (wires l)) (hl : l.length = n) :
    Calls Try.prog 74 #[netV M E S a n c, .int .i64 p, .int .i64 q] w fun e w' => e = .returned (.tuple #[netV 0 0 0 none 0 0, .bool false]) ∧ Below w.heap.size w w' := by
  have HR := Lib.hid hr
  have KN := Lib.hid (fun (w : World) rr => specNetOk M E S a n c l true ⟨fun _ => hok, fun _ => rfl⟩ w rr hl)
  have hM5 := hok.h.n5
  have hM1 := hok.h.n1
  by_cases h_P : 0 ≤ p ∧ p ≤ (M : Int) - 1
  rotate_left
  · have KP := Lib.hid (fun (w : World) => specIn p 0 ((M : Int) - 1) false ⟨(fun h => by cases h), fun h => absurd h h_P⟩ w)
    clear hr hok hbad h_P
    have HA0 : Hid (((w.alloc (.cells #[.int .i64 M, .int .i64 E, .int .i64 S, .slice a n c] 25)).alloc (.cells #[.int .i64 0, .int .i64 0, .int .i64 0, .slice none 0 0] 25)).rowIs (w.heap.size + 1) 25 4 (netAt (.int .i64 0) (.int .i64 0) (.int .i64 0) (.slice none 0 0))) := by
      have := netAt_new (w.alloc (.cells #[.int .i64 M, .int .i64 E, .int .i64 S, .slice a n c] 25)) (.int .i64 0) (.int .i64 0) (.int .i64 0) (.slice none 0 0) 25
      simpa [Hid] using this
    have HP0 : Hid (((w.alloc (.cells #[.int .i64 M, .int .i64 E, .int .i64 S, .slice a n c] 25)).alloc (.cells #[.int .i64 0, .int .i64 0, .int .i64 0, .slice none 0 0] 25)).rowIs w.heap.size 25 4 (netAt (.int .i64 M) (.int .i64 E) (.int .i64 S) (.slice a n c))) := (netAt_new _ _ _ _ _ _).alloc _
    go_enter Try.func74, Try.ntmps74
    go_wp2_with fail
    refine (KN.out _ (HR.out.below (by (repeat' (first | (with_reducible exact Below.refl _ _) | (with_reducible assumption) | (with_reducible refine balloc ?_ _) | (with_reducible refine Below.drew ?_) | (with_reducible refine below_drewN ?_ _) | (with_reducible refine bset ?_ ?_ _) | (with_reducible refine bstep ?_ (by assumption)) | go_size))))).mono ?_
    rintro e w1 ⟨rfl, hb1⟩
    have HA1 := Lib.hid (HA0.out.of_block (hb1.block _ HA0.out.lt))
    have HP1 := Lib.hid (HP0.out.of_block (hb1.block _ HP0.out.lt))
    have B1 : Hid (Below w.heap.size w w1) := bstep (by (repeat' (first | (with_reducible exact Below.refl _ _) | (with_reducible assumption) | (with_reducible refine balloc ?_ _) | (with_reducible refine Below.drew ?_) | (with_reducible refine below_drewN ?_ _) | (with_reducible refine bset ?_ ?_ _) | (with_reducible refine bstep ?_ (by assumption)) | go_size))) hb1
    clear HA0 HP0 hb1
    have hlP1 := HP1.out.lt
    obtain ⟨t0, t1, t2, t3⟩ := netAt_cells HP1.out
    obtain ⟨r0, r1, r2, r3⟩ := netAt_cells HA1.out
    have f0 := HA1.out.frozen 0
    have f1 := HA1.out.frozen 1
    have f2 := HA1.out.frozen 2
    have f3 := HA1.out.frozen 3
    have hlA1 := HA1.out.lt
    go_wp2_with fail
    refine (KP.out _).mono ?_
    rintro e w9 ⟨rfl, rfl⟩
    go_wp2_with fail
    have rs0 : (w1.cell? { block := w.heap.size + 1, off := 0 }).isSome = true := by simp [go_sem, *]
    have rs1 : (w1.cell? { block := w.heap.size + 1, off := 1 }).isSome = true := by simp [go_sem, *]
    have rs2 : (w1.cell? { block := w.heap.size + 1, off := 2 }).isSome = true := by simp [go_sem, *]
    have rs3 : (w1.cell? { block := w.heap.size + 1, off := 3 }).isSome = true := by simp [go_sem, *]
    refine bodyPost_ret (v := (.tuple #[netV 0 0 0 none 0 0, .bool false])) (by simp [results, Try.results74, go_sem, rs0, rs1, rs2, rs3]; try rfl) rfl ?_
    exact ⟨rfl, by have := B1.out; (repeat' (first | (with_reducible exact Below.refl _ _) | (with_reducible assumption) | (with_reducible refine balloc ?_ _) | (with_reducible refine Below.drew ?_) | (with_reducible refine below_drewN ?_ _) | (with_reducible refine bset ?_ ?_ _) | (with_reducible refine bstep ?_ (by assumption)) | go_size))⟩
  have KP := Lib.hid (fun (w : World) => specIn p 0 ((M : Int) - 1) true ⟨fun _ => by omega, fun _ => rfl⟩ w)
  have h_Q : ¬ (0 ≤ q ∧ q ≤ (M : Int) - 1) := fun h => hbad ⟨by omega, by omega⟩
  have KQ := Lib.hid (fun (w : World) => specIn q 0 ((M : Int) - 1) false ⟨(fun h => by cases h), fun h => absurd h h_Q⟩ w)
  clear hr hok hbad h_P h_Q
  have HA0 : Hid (((w.alloc (.cells #[.int .i64 M, .int .i64 E, .int .i64 S, .slice a n c] 25)).alloc (.cells #[.int .i64 0, .int .i64 0, .int .i64 0, .slice none 0 0] 25)).rowIs (w.heap.size + 1) 25 4 (netAt (.int .i64 0) (.int .i64 0) (.int .i64 0) (.slice none 0 0))) := by
    have := netAt_new (w.alloc (.cells #[.int .i64 M, .int .i64 E, .int .i64 S, .slice a n c] 25)) (.int .i64 0) (.int .i64 0) (.int .i64 0) (.slice none 0 0) 25
    simpa [Hid] using this
  have HP0 : Hid (((w.alloc (.cells #[.int .i64 M, .int .i64 E, .int .i64 S, .slice a n c] 25)).alloc (.cells #[.int .i64 0, .int .i64 0, .int .i64 0, .slice none 0 0] 25)).rowIs w.heap.size 25 4 (netAt (.int .i64 M) (.int .i64 E) (.int .i64 S) (.slice a n c))) := (netAt_new _ _ _ _ _ _).alloc _
  go_enter Try.func74, Try.ntmps74
  go_wp2_with fail
  refine (KN.out _ (HR.out.below (by (repeat' (first | (with_reducible exact Below.refl _ _) | (with_reducible assumption) | (with_reducible refine balloc ?_ _) | (with_reducible refine Below.drew ?_) | (with_reducible refine below_drewN ?_ _) | (with_reducible refine bset ?_ ?_ _) | (with_reducible refine bstep ?_ (by assumption)) | go_size))))).mono ?_
  rintro e w1 ⟨rfl, hb1⟩
  have HA1 := Lib.hid (HA0.out.of_block (hb1.block _ HA0.out.lt))
  have HP1 := Lib.hid (HP0.out.of_block (hb1.block _ HP0.out.lt))
  have B1 : Hid (Below w.heap.size w w1) := bstep (by (repeat' (first | (with_reducible exact Below.refl _ _) | (with_reducible assumption) | (with_reducible refine balloc ?_ _) | (with_reducible refine Below.drew ?_) | (with_reducible refine below_drewN ?_ _) | (with_reducible refine bset ?_ ?_ _) | (with_reducible refine bstep ?_ (by assumption)) | go_size))) hb1
  clear HA0 HP0 hb1
  have hlP1 := HP1.out.lt
  obtain ⟨t0, t1, t2, t3⟩ := netAt_cells HP1.out
  obtain ⟨r0, r1, r2, r3⟩ := netAt_cells HA1.out
  have f0 := HA1.out.frozen 0
  have f1 := HA1.out.frozen 1
  have f2 := HA1.out.frozen 2
  have f3 := HA1.out.frozen 3
  have hlA1 := HA1.out.lt
  go_wp2_with fail
  refine (KP.out _).mono ?_
  rintro e w9 ⟨rfl, rfl⟩
  go_wp2_with fail
  refine (KQ.out _).mono ?_
  rintro e w9 ⟨rfl, rfl⟩
  go_wp2_with fail
  have rs0 : (w1.cell? { block := w.heap.size + 1, off := 0 }).isSome = true := by simp [go_sem, *]
  have rs1 : (w1.cell? { block := w.heap.size + 1, off := 1 }).isSome = true := by simp [go_sem, *]
  have rs2 : (w1.cell? { block := w.heap.size + 1, off := 2 }).isSome = true := by simp [go_sem, *]
  have rs3 : (w1.cell? { block := w.heap.size + 1, off := 3 }).isSome = true := by simp [go_sem, *]
  refine bodyPost_ret (v := (.tuple #[netV 0 0 0 none 0 0, .bool false])) (by simp [results, Try.results74, go_sem, rs0, rs1, rs2, rs3]; try rfl) rfl ?_
  exact ⟨rfl, by have := B1.out; (repeat' (first | (with_reducible exact Below.refl _ _) | (with_reducible assumption) | (with_reducible refine balloc ?_ _) | (with_reducible refine Below.drew ?_) | (with_reducible refine below_drewN ?_ _) | (with_reducible refine bset ?_ ?_ _) | (with_reducible refine bstep ?_ (by assumption)) | go_size))⟩
end Go.Proofs.Ytdmiihljepkapaa
