/- JoinNodes of the reference. -/
import Derived.Test.YtdmiihljepkapaaNetOf
import Derived.Test.YtdmiihljepkapaaPutS2
import Derived.Test.YtdmiihljepkapaaBound
namespace Go.Proofs.Ytdmiihljepkapaa
set_option linter.unusedSimpArgs false
set_option linter.unusedVariables false
open Go.RowKit

theorem insL_len2 (x : Wz) : ∀ m : List Wz, (insL x m).length = m.length + 1
  | [] => rfl
  | e :: t => by rw [insL]; split <;> simp [insL_len2 x t]
theorem putL_len2 (l : List Wz) (p q w : Int) (add : Bool) : (putL l p q w add).length ≤ l.length + 1 := by
  have h1 : (rest l p q).length ≤ l.length := List.length_filter_le _ _
  unfold putL
  rw [insL_len2]; omega
theorem joinL_len (a b : Int) (l : List Wz) : ∀ k, k ≤ l.length → (joinL a b (l.take k)).length ≤ k
  | 0, _ => by simp [joinL]
  | k + 1, h => by
    rw [joinL_snoc (by omega)]
    have h1 := joinL_len a b l k (by omega)
    have h2 := putL_len2 (joinL a b (l.take k)) (jnMin a b l[k]) (jnMax a b l[k]) l[k].2.2 true
    split <;> omega
theorem jSum_bd {a b : Int} {l : List Wz} (h : ∀ x ∈ l, 0 ≤ x.2.2 ∧ x.2.2 ≤ 200) (p q : Int) : jSum a b l p q ≤ l.length * 200 := by
  induction l with
  | nil => simp [jSum]
  | cons e t ih =>
    have h1 := h e (by simp)
    have h2 := ih (fun x hx => h x (by simp [hx]))
    have e3 : ((e :: t).length : Int) * 200 = t.length * 200 + 200 := by simp [Int.add_mul]
    rw [e3]
    simp only [jSum]
    split <;> omega
theorem specJoined (v p q : Int) (w : World) (hv : 0 ≤ v ∧ v ≤ 5) :
    Calls Try.prog 152 #[.int .i64 v, .int .i64 p, .int .i64 q] w fun e w' => e = .returned (.int .i64 (jn p q v)) ∧ w = w' := by
  unfold jn
  by_cases h1 : v = q
  · rw [if_pos h1]
    have e1 : (v == q) = true := by simp [h1]
    clear h1
    go_enter Try.func152, Try.ntmps152
    go_wp2_with fail
    go_ret
    exact ⟨rfl, rfl⟩
  · rw [if_neg h1]
    have e1 : (v == q) = false := by simp [h1]
    by_cases h2 : q < v
    · rw [if_pos h2]
      have e3 : IntKind.i64.wrap (v - 1) = v - 1 := IntWalk.i64_in _ ⟨by omega, by omega⟩
      have e4 : wrap64 (v - 1) = v - 1 := wrap_small' ⟨by omega, by omega⟩
      clear h1
      go_enter Try.func152, Try.ntmps152
      go_wp2_with fail
      go_ret
      exact ⟨rfl, rfl⟩
    · rw [if_neg h2]
      clear h1
      go_enter Try.func152, Try.ntmps152
      go_wp2_with fail
      go_ret
      exact ⟨rfl, rfl⟩

set_option maxRecDepth 100000 in
set_option maxHeartbeats 8000000 in
theorem specJoinNodes (M : Nat) (E S : Int) (a : Option Addr) (n c : Nat) (l : List Wz) (p : Int) (q : Int) (hg : 0 ≤ p ∧ p < q ∧ q < M) (hok : NetOk M E S l) (ok : Bool) (hoo : ok = true ↔ NetOk ((M : Int) - 1) (if q < E then E - 1 else E) S (joinL p q l)) (w : World) (hr : ArgRow w a n c 3 (wires l)) (hl : l.length = n) :
    Calls Try.prog 84 #[netV M E S a n c, .int .i64 p, .int .i64 q] w fun e w' => NetRes e w w' ok ((M : Int) - 1) (if q < E then E - 1 else E) S (joinL p q l) ∧ Below w.heap.size w w' := by
  have HR := Lib.hid hr
  have KN := Lib.hid (fun (w : World) rr => specNetOk M E S a n c l true ⟨fun _ => hok, fun _ => rfl⟩ w rr hl)
  have hM5 : M ≤ 5 := by have := hok.h.n5; omega
  have hM1 : 1 ≤ M := by have := hok.h.n1; omega
  have hE1 := hok.h.e1
  have hEM := hok.h.eN
  have KP := Lib.hid (fun (w : World) => specIn p 0 ((M : Int) - 1) true ⟨fun _ => by omega, fun _ => rfl⟩ w)
  have KQ := Lib.hid (fun (w : World) => specIn q (p + 1) ((M : Int) - 1) true ⟨fun _ => by omega, fun _ => rfl⟩ w)
  have hfew := hok.few
  have hn1 : n ≤ 25 := by omega
  have HL := Lib.hid hl
  have HTOLD := Lib.hid (fun k hk => (joinL_told (a := p) (b := q) (fun x hx => (hok.good hx).2.2.2.1) k hk).2)
  have HGD := Lib.hid (fun x (hx : x ∈ l) => hok.good hx)
  have HNN := Lib.hid (fun k a b => jSum_nn (a := p) (b := q) (l := l.take k) (fun x hx => (hok.good (List.mem_of_mem_take hx)).2.2.2.1) a b)
  have HBB := Lib.hid (fun k a b => jSum_bd (a := p) (b := q) (l := l.take k) (fun x hx => by have := (hok.good (List.mem_of_mem_take hx)).2.2.2; omega) a b)
  obtain ⟨E2, hE2⟩ : ∃ E2 : Int, (if q < E then E - 1 else E) = E2 := ⟨_, rfl⟩
  obtain ⟨L2, hL2⟩ : ∃ L2, joinL p q l = L2 := ⟨_, rfl⟩
  obtain ⟨M2, hM2⟩ : ∃ M2 : Int, (M : Int) - 1 = M2 := ⟨_, rfl⟩
  rw [hE2, hL2, hM2] at hoo
  rw [hE2, hL2, hM2]
  have KN2 := Lib.hid (fun (w : World) a' m cg rr hm => specNetOk M2 E2 S a' m cg L2 ok hoo w rr hm)
  have HL2 := Lib.hid hL2
  have hw1 : IntKind.i64.wrap ((M : Int) - 1) = M2 := by rw [hM2]; exact IntWalk.i64_in _ ⟨by omega, by omega⟩
  have hw1' : wrap64 ((M : Int) - 1) = M2 := by rw [hM2]; exact wrap_small' ⟨by omega, by omega⟩
  have hw2 : IntKind.i64.wrap (p + 1) = p + 1 := IntWalk.i64_in _ ⟨by omega, by omega⟩
  have hw2' : wrap64 (p + 1) = p + 1 := wrap_small' ⟨by omega, by omega⟩
  rw [hM2] at KP KQ
  have HE2 := Lib.hid hE2
  clear hr hok hoo hL2 hM2 hE2
  have HA0 : Hid (((w.alloc (.cells #[.int .i64 M, .int .i64 E, .int .i64 S, .slice a n c] 25)).alloc (.cells #[.int .i64 0, .int .i64 0, .int .i64 0, .slice none 0 0] 25)).rowIs (w.heap.size + 1) 25 4 (netAt (.int .i64 0) (.int .i64 0) (.int .i64 0) (.slice none 0 0))) := by
    have := netAt_new (w.alloc (.cells #[.int .i64 M, .int .i64 E, .int .i64 S, .slice a n c] 25)) (.int .i64 0) (.int .i64 0) (.int .i64 0) (.slice none 0 0) 25
    simpa [Hid] using this
  have HP0 : Hid (((w.alloc (.cells #[.int .i64 M, .int .i64 E, .int .i64 S, .slice a n c] 25)).alloc (.cells #[.int .i64 0, .int .i64 0, .int .i64 0, .slice none 0 0] 25)).rowIs w.heap.size 25 4 (netAt (.int .i64 M) (.int .i64 E) (.int .i64 S) (.slice a n c))) := (netAt_new _ _ _ _ _ _).alloc _
  go_enter Try.func84, Try.ntmps84
  go_wp2_with fail
  refine (KN.out _ (HR.out.below (by (repeat' (first | (with_reducible exact Below.refl _ _) | (with_reducible assumption) | (with_reducible refine balloc ?_ _) | (with_reducible refine Below.drew ?_) | (with_reducible refine below_drewN ?_ _) | (with_reducible refine bset ?_ ?_ _) | (with_reducible refine bstep ?_ (by assumption)) | go_size))))).mono ?_
  rintro e w1 ⟨rfl, hb1⟩
  have HA1 := Lib.hid (HA0.out.of_block (hb1.block _ HA0.out.lt))
  have HP1 := Lib.hid (HP0.out.of_block (hb1.block _ HP0.out.lt))
  have B1 : Hid (Below w.heap.size w w1) := bstep (by (repeat' (first | (with_reducible exact Below.refl _ _) | (with_reducible assumption) | (with_reducible refine balloc ?_ _) | (with_reducible refine Below.drew ?_) | (with_reducible refine below_drewN ?_ _) | (with_reducible refine bset ?_ ?_ _) | (with_reducible refine bstep ?_ (by assumption)) | go_size))) hb1
  clear HA0 HP0 hb1
  by_cases hqE : q < E
  · have HEE : Hid (E2 = (E - 1)) := by have := HE2.out; rw [if_pos hqE] at this; exact this.symm
    rw [HEE.out] at KN2
    have hw3 : IntKind.i64.wrap (E - 1) = (E - 1) := IntWalk.i64_in _ ⟨by omega, by omega⟩
    have hw3' : wrap64 (E - 1) = (E - 1) := wrap_small' ⟨by omega, by omega⟩
    have HN0 : Hid ((w1.alloc (.cells #[.int .i64 M2, .int .i64 (E - 1), .int .i64 S, .slice none 0 0] 25)).rowIs w1.heap.size 25 4 (netAt (.int .i64 M2) (.int .i64 (E - 1)) (.int .i64 S) (.slice none 0 0))) := netAt_new _ _ _ _ _ _
    have hlP1 := HP1.out.lt
    obtain ⟨t0, t1, t2, t3⟩ := netAt_cells HP1.out
    have hlA1 := HA1.out.lt
    go_wp2_with fail
    refine (KP.out _).mono ?_
    rintro e w9 ⟨rfl, rfl⟩
    go_wp2_with fail
    refine (KQ.out _).mono ?_
    rintro e w9 ⟨rfl, rfl⟩
    go_wp2_with fail
    go_loopw [54] (fun u wr => ∃ (k m cg : Nat) (a' : Option Addr), k ≤ n ∧ m ≤ 25 ∧ u = .int .i64 k ∧ w1.heap.size < wr.heap.size ∧ Hid ((joinL p q (l.take k)).length = m) ∧ Hid (wr.ownsRow (w1.heap.size + 1) 104 3 (.slice a' m cg) m (wires (joinL p q (l.take k)))) ∧ Hid (wr.rowIs w1.heap.size 25 4 (netAt (.int .i64 M2) (.int .i64 (E - 1)) (.int .i64 S) (.slice a' m cg))) ∧ Hid (Below w1.heap.size w1 wr)) (fun u _ => n - (intOf u).toNat)
    case atStart => exact ⟨0, 0, 0, none, by omega, by omega, rfl, by simp, rfl, World.ownsRow_nil _ _ _ _, HN0.out, balloc (Below.refl _ _) _⟩
    case round =>
      clear HN0 t0 t1 t2 t3
      obtain ⟨k, m, cg, a', hk, hm, rfl, hsz, HM, HO, HN, HC⟩ := hrel
      have HB2 : Hid (Below w.heap.size w wr) := bstep B1.out HC.out
      have HP2 := Lib.hid (HP1.out.of_block (HC.out.block _ hlP1))
      obtain ⟨t0, t1, t2, t3⟩ := netAt_cells HP2.out
      obtain ⟨n0, n1, n2, n3⟩ := netAt_cells HN.out
      have nf3 := HN.out.frozen 3
      have hlP2 := HP2.out.lt
      by_cases hlt : k < n
      · have hli : k < l.length := by rw [HL.out]; exact hlt
        obtain ⟨b, o, rfl, hb, _⟩ := HR.out.form (by omega)
        obtain ⟨p0, p1, p2⟩ := wire_cells HR.out k hli
        have hbl : b < wr.heap.size := Nat.lt_of_lt_of_le hb HB2.out.size
        rw [← HB2.out.cell (p := ⟨b, _, none⟩) hb] at p0 p1 p2
        obtain ⟨g1, g2, g3, g4, g5⟩ := HGD.out l[k] (List.getElem_mem _)
        by_cases hj : jn p q l[k].1 = jn p q l[k].2.1
        · have hT : joinL p q (l.take (k + 1)) = joinL p q (l.take k) := by rw [joinL_snoc hli, if_pos hj]
          have HT := Lib.hid hT
          generalize l[k] = x at p0 p1 p2 hj g1 g2 g3 g4 g5
          obtain ⟨x0, x1, x2⟩ := x
          simp only at hj g1 g2 g3 g4 g5
          have KA := Lib.hid (fun w => specJoined x0 p q w (by omega))
          have KB := Lib.hid (fun w => specJoined x1 p q w (by omega))
          rw [← hj] at KB
          generalize jn p q x0 = y0 at KA KB
          clear hT hj g1 g2 g3 g4 g5 hli
          go_wp2_with fail
          refine (KA.out _).mono ?_
          rintro e wA ⟨rfl, rfl⟩
          go_wp2_with fail
          refine (KB.out _).mono ?_
          rintro e wB ⟨rfl, rfl⟩
          go_wp2_with fail
          go_roundw
          case rel => exact ⟨k + 1, m, cg, a', by omega, by omega, by go_num, by simp; omega, by rw [HT.out]; exact HM.out, by rw [HT.out]; exact HO.out.alloc _, HN.out.alloc _, HC.out.alloc (by omega) _⟩
          case measure => simp [intOf]; omega
        · have KU := Lib.hid (fun (w : World) rr => specPut a' m cg (joinL p q (l.take k)) (jnMin p q l[k]) (jnMax p q l[k]) l[k].2.2 (jn p q l[k].1) (jn p q l[k].2.1) true (by unfold jnMin jnMax; omega) (by omega) (fun x hx => by
            have h1 := ((HTOLD.out k (by omega) x).1 hx).2.1
            have h2 := HNN.out k x.1 x.2.1
            have h3 := HBB.out k x.1 x.2.1
            have h4 : ((l.take k).length : Int) ≤ 25 := by rw [List.length_take]; omega
            omega) (by omega) w rr HM.out)
          have hjs := joinL_snoc (a := p) (b := q) hli
          rw [if_neg hj] at hjs
          rw [← hjs] at KU
          have hlen := joinL_len p q l (k + 1) (by omega)
          generalize hU : joinL p q (l.take (k + 1)) = U at KU hlen hjs
          have HU := Lib.hid hU
          obtain ⟨m3, hm3⟩ : ∃ m3, U.length = m3 := ⟨_, rfl⟩
          rw [hm3] at KU hlen
          have HM3 := Lib.hid hm3
          have RO := Lib.hid ((ArgRow.own HO.out).below (w' := wr.alloc (.cells #[.int .i64 l[k].1, .int .i64 l[k].2.1, .int .i64 l[k].2.2] 104)) (balloc (Below.refl _ _) _))
          clear hjs
          generalize l[k] = x at p0 p1 p2 KU RO hj g1 g2 g3 g4 g5
          obtain ⟨x0, x1, x2⟩ := x
          simp only at KU RO hj g1 g2 g3 g4 g5
          have KA := Lib.hid (fun w => specJoined x0 p q w (by omega))
          have KB := Lib.hid (fun w => specJoined x1 p q w (by omega))
          generalize jn p q x0 = y0 at KA KU hj
          generalize jn p q x1 = y1 at KB KU hj
          have hj1 : (y0 == y1) = false := by simp [hj]
          have hj2 : (y0 != y1) = true := by simp [hj]
          clear hU hm3 hj g1 g2 g3 g4 g5 hli
          go_wp2_with fail
          refine (KA.out _).mono ?_
          rintro e wA ⟨rfl, rfl⟩
          go_wp2_with fail
          refine (KB.out _).mono ?_
          rintro e wB ⟨rfl, rfl⟩
          go_wp2_with fail
          refine (KU.out _ RO.out).mono ?_
          rintro e wU ⟨gU, cU, rfl, oU, hbU⟩
          have hsU := hbU.size
          simp only [World.size_alloc] at hsU
          have HC7 : Below w1.heap.size w1 wU := (HC.out.alloc (by omega) _).trans (hbU.mono (by (first | omega | (simp only [World.size_alloc, World.size_setCell, World.size_drew, World.heap_drewN]; omega))))
          have HN7 := HN.out.of_block (w' := wU) (by rw [hbU.block _ (by (first | omega | (simp only [World.size_alloc, World.size_setCell, World.size_drew, World.heap_drewN]; omega)))]; exact Below.heap_alloc _ _ _ (by omega))
          have o7 : wU.ownsRow (w1.heap.size + 1) 104 3 (.slice (some ⟨gU, 0, none⟩) m3 cU) m3 (wires U) := oU.mono (by (first | omega | (simp only [World.size_alloc, World.size_setCell, World.size_drew, World.heap_drewN]; omega)))
          have hgU := (own_base o7 _ rfl).1
          simp only at hgU
          have H8 : Hid ((wU.setCell ⟨w1.heap.size, 3, none⟩ (.slice (some ⟨gU, 0, none⟩) m3 cU)).ownsRow (w1.heap.size + 1) 104 3 (.slice (some ⟨gU, 0, none⟩) m3 cU) m3 (wires U)) := o7.kept (grown_set' _ ⟨w1.heap.size, 3, none⟩ _) (.inr (by simp [Value.ownBlock]; omega))
          have HN8 := Lib.hid (netAt_set3 HN7 (.slice (some ⟨gU, 0, none⟩) m3 cU))
          have HC8 : Hid (Below w1.heap.size w1 (wU.setCell ⟨w1.heap.size, 3, none⟩ (.slice (some ⟨gU, 0, none⟩) m3 cU))) := HC7.setCell (Nat.le_refl _) _
          have hl8 : w1.heap.size < wU.heap.size := HN7.lt
          have k0 := (netAt_cells HN7).2.2.2
          have k1 := HN7.frozen 3
          clear HN7 HC7 o7 oU hbU n0 n1 n2 n3 nf3
          go_wp2_with fail
          go_roundw
          case rel => exact ⟨k + 1, m3, cU, some ⟨gU, 0, none⟩, by omega, by omega, by go_num, by simpa using hl8, by rw [HU.out]; exact HM3.out, by rw [HU.out]; exact H8.out, HN8.out, HC8.out⟩
          case measure => simp [intOf]; omega
      · obtain rfl : k = n := by omega
        have hT : l.take k = l := List.take_of_length_le (by rw [HL.out]; omega)
        have HM2 : Hid (L2.length = m) := by have := HM.out; rw [hT, HL2.out] at this; exact this
        have HO2 : Hid (wr.ownsRow (w1.heap.size + 1) 104 3 (.slice a' m cg) m (wires L2)) := by have := HO.out; rw [hT, HL2.out] at this; exact this
        have RW := Lib.hid (ArgRow.own HO2.out)
        have HA2 := Lib.hid (HA1.out.of_block (HC.out.block _ hlA1))
        clear hT HO HM
        go_wp2_with fail
        refine (KN2.out _ a' m cg RW.out HM2.out).mono ?_
        rintro e w5 ⟨rfl, hb5⟩
        have HA5 := Lib.hid (HA2.out.of_block (hb5.block _ HA2.out.lt))
        have HN5 := Lib.hid (HN.out.of_block (hb5.block _ HN.out.lt))
        have O5 := Lib.hid (own_below HO2.out hb5)
        have B5 : Hid (Below w.heap.size w w5) := bstep HB2.out hb5
        have hs5 := hb5.size
        clear hb5 n0 n1 n2 n3 nf3 t0 t1 t2 t3
        obtain ⟨n0, n1, n2, n3⟩ := netAt_cells HN5.out
        have hlN5 := HN5.out.lt
        have hlA5 := HA5.out.lt
        obtain ⟨r0, r1, r2, r3⟩ := netAt_cells HA5.out
        have f0 := HA5.out.frozen 0
        have f1 := HA5.out.frozen 1
        have f2 := HA5.out.frozen 2
        have f3 := HA5.out.frozen 3
        have hx1 : ¬ w.heap.size + 1 = w1.heap.size := by omega
        have hx2 : ¬ w1.heap.size = w.heap.size + 1 := by omega
        cases ok
        · go_wp2_with fail
          have rs0 : (w5.cell? { block := w.heap.size + 1, off := 0 }).isSome = true := by simp [go_sem, *]
          have rs1 : (w5.cell? { block := w.heap.size + 1, off := 1 }).isSome = true := by simp [go_sem, *]
          have rs2 : (w5.cell? { block := w.heap.size + 1, off := 2 }).isSome = true := by simp [go_sem, *]
          have rs3 : (w5.cell? { block := w.heap.size + 1, off := 3 }).isSome = true := by simp [go_sem, *]
          refine bodyPost_ret (v := (.tuple #[netV 0 0 0 none 0 0, .bool false])) (by simp [results, Try.results84, go_sem, rs0, rs1, rs2, rs3]; try rfl) rfl ?_
          exact ⟨by unfold NetRes; rw [if_neg (by simp)], by have := B5.out; (repeat' (first | (with_reducible exact Below.refl _ _) | (with_reducible assumption) | (with_reducible refine balloc ?_ _) | (with_reducible refine Below.drew ?_) | (with_reducible refine below_drewN ?_ _) | (with_reducible refine bset ?_ ?_ _) | (with_reducible refine bstep ?_ (by assumption)) | go_size))⟩
        · go_wp2_with fail
          have rs0 : (w5.cell? { block := w.heap.size + 1, off := 0 }).isSome = true := by simp [go_sem, *]
          have rs1 : (w5.cell? { block := w.heap.size + 1, off := 1 }).isSome = true := by simp [go_sem, *]
          have rs2 : (w5.cell? { block := w.heap.size + 1, off := 2 }).isSome = true := by simp [go_sem, *]
          have rs3 : (w5.cell? { block := w.heap.size + 1, off := 3 }).isSome = true := by simp [go_sem, *]
          refine bodyPost_ret (v := (.tuple #[netV M2 (E - 1) S a' m cg, .bool true])) (by simp [results, Try.results84, go_sem, rs0, rs1, rs2, rs3]; try rfl) rfl ?_
          refine ⟨?_, by have := B5.out; (repeat' (first | (with_reducible exact Below.refl _ _) | (with_reducible assumption) | (with_reducible refine balloc ?_ _) | (with_reducible refine Below.drew ?_) | (with_reducible refine below_drewN ?_ _) | (with_reducible refine bset ?_ ?_ _) | (with_reducible refine bstep ?_ (by assumption)) | go_size))⟩
          unfold NetRes
          rw [if_pos rfl, HM2.out, HEE.out]
          refine ⟨a', cg, rfl, ?_⟩
          refine World.ownsRow.mono (base := w.heap.size + 1 + 1) ?_ (by omega)
          have o9 := World.ownsRow.mono (base' := w.heap.size + 1 + 1) O5.out (by omega)
          repeat' (first | with_reducible exact o9 | (with_reducible refine ownsRow_setCell_below ?_ ?_ _) | (dsimp only; omega) | omega)
  · have HEE : Hid (E2 = E) := by have := HE2.out; rw [if_neg hqE] at this; exact this.symm
    rw [HEE.out] at KN2
    have HN0 : Hid ((w1.alloc (.cells #[.int .i64 M2, .int .i64 E, .int .i64 S, .slice none 0 0] 25)).rowIs w1.heap.size 25 4 (netAt (.int .i64 M2) (.int .i64 E) (.int .i64 S) (.slice none 0 0))) := netAt_new _ _ _ _ _ _
    have hlP1 := HP1.out.lt
    obtain ⟨t0, t1, t2, t3⟩ := netAt_cells HP1.out
    have hlA1 := HA1.out.lt
    go_wp2_with fail
    refine (KP.out _).mono ?_
    rintro e w9 ⟨rfl, rfl⟩
    go_wp2_with fail
    refine (KQ.out _).mono ?_
    rintro e w9 ⟨rfl, rfl⟩
    go_wp2_with fail
    go_loopw [54] (fun u wr => ∃ (k m cg : Nat) (a' : Option Addr), k ≤ n ∧ m ≤ 25 ∧ u = .int .i64 k ∧ w1.heap.size < wr.heap.size ∧ Hid ((joinL p q (l.take k)).length = m) ∧ Hid (wr.ownsRow (w1.heap.size + 1) 104 3 (.slice a' m cg) m (wires (joinL p q (l.take k)))) ∧ Hid (wr.rowIs w1.heap.size 25 4 (netAt (.int .i64 M2) (.int .i64 E) (.int .i64 S) (.slice a' m cg))) ∧ Hid (Below w1.heap.size w1 wr)) (fun u _ => n - (intOf u).toNat)
    case atStart => exact ⟨0, 0, 0, none, by omega, by omega, rfl, by simp, rfl, World.ownsRow_nil _ _ _ _, HN0.out, balloc (Below.refl _ _) _⟩
    case round =>
      clear HN0 t0 t1 t2 t3
      obtain ⟨k, m, cg, a', hk, hm, rfl, hsz, HM, HO, HN, HC⟩ := hrel
      have HB2 : Hid (Below w.heap.size w wr) := bstep B1.out HC.out
      have HP2 := Lib.hid (HP1.out.of_block (HC.out.block _ hlP1))
      obtain ⟨t0, t1, t2, t3⟩ := netAt_cells HP2.out
      obtain ⟨n0, n1, n2, n3⟩ := netAt_cells HN.out
      have nf3 := HN.out.frozen 3
      have hlP2 := HP2.out.lt
      by_cases hlt : k < n
      · have hli : k < l.length := by rw [HL.out]; exact hlt
        obtain ⟨b, o, rfl, hb, _⟩ := HR.out.form (by omega)
        obtain ⟨p0, p1, p2⟩ := wire_cells HR.out k hli
        have hbl : b < wr.heap.size := Nat.lt_of_lt_of_le hb HB2.out.size
        rw [← HB2.out.cell (p := ⟨b, _, none⟩) hb] at p0 p1 p2
        obtain ⟨g1, g2, g3, g4, g5⟩ := HGD.out l[k] (List.getElem_mem _)
        by_cases hj : jn p q l[k].1 = jn p q l[k].2.1
        · have hT : joinL p q (l.take (k + 1)) = joinL p q (l.take k) := by rw [joinL_snoc hli, if_pos hj]
          have HT := Lib.hid hT
          generalize l[k] = x at p0 p1 p2 hj g1 g2 g3 g4 g5
          obtain ⟨x0, x1, x2⟩ := x
          simp only at hj g1 g2 g3 g4 g5
          have KA := Lib.hid (fun w => specJoined x0 p q w (by omega))
          have KB := Lib.hid (fun w => specJoined x1 p q w (by omega))
          rw [← hj] at KB
          generalize jn p q x0 = y0 at KA KB
          clear hT hj g1 g2 g3 g4 g5 hli
          go_wp2_with fail
          refine (KA.out _).mono ?_
          rintro e wA ⟨rfl, rfl⟩
          go_wp2_with fail
          refine (KB.out _).mono ?_
          rintro e wB ⟨rfl, rfl⟩
          go_wp2_with fail
          go_roundw
          case rel => exact ⟨k + 1, m, cg, a', by omega, by omega, by go_num, by simp; omega, by rw [HT.out]; exact HM.out, by rw [HT.out]; exact HO.out.alloc _, HN.out.alloc _, HC.out.alloc (by omega) _⟩
          case measure => simp [intOf]; omega
        · have KU := Lib.hid (fun (w : World) rr => specPut a' m cg (joinL p q (l.take k)) (jnMin p q l[k]) (jnMax p q l[k]) l[k].2.2 (jn p q l[k].1) (jn p q l[k].2.1) true (by unfold jnMin jnMax; omega) (by omega) (fun x hx => by
            have h1 := ((HTOLD.out k (by omega) x).1 hx).2.1
            have h2 := HNN.out k x.1 x.2.1
            have h3 := HBB.out k x.1 x.2.1
            have h4 : ((l.take k).length : Int) ≤ 25 := by rw [List.length_take]; omega
            omega) (by omega) w rr HM.out)
          have hjs := joinL_snoc (a := p) (b := q) hli
          rw [if_neg hj] at hjs
          rw [← hjs] at KU
          have hlen := joinL_len p q l (k + 1) (by omega)
          generalize hU : joinL p q (l.take (k + 1)) = U at KU hlen hjs
          have HU := Lib.hid hU
          obtain ⟨m3, hm3⟩ : ∃ m3, U.length = m3 := ⟨_, rfl⟩
          rw [hm3] at KU hlen
          have HM3 := Lib.hid hm3
          have RO := Lib.hid ((ArgRow.own HO.out).below (w' := wr.alloc (.cells #[.int .i64 l[k].1, .int .i64 l[k].2.1, .int .i64 l[k].2.2] 104)) (balloc (Below.refl _ _) _))
          clear hjs
          generalize l[k] = x at p0 p1 p2 KU RO hj g1 g2 g3 g4 g5
          obtain ⟨x0, x1, x2⟩ := x
          simp only at KU RO hj g1 g2 g3 g4 g5
          have KA := Lib.hid (fun w => specJoined x0 p q w (by omega))
          have KB := Lib.hid (fun w => specJoined x1 p q w (by omega))
          generalize jn p q x0 = y0 at KA KU hj
          generalize jn p q x1 = y1 at KB KU hj
          have hj1 : (y0 == y1) = false := by simp [hj]
          have hj2 : (y0 != y1) = true := by simp [hj]
          clear hU hm3 hj g1 g2 g3 g4 g5 hli
          go_wp2_with fail
          refine (KA.out _).mono ?_
          rintro e wA ⟨rfl, rfl⟩
          go_wp2_with fail
          refine (KB.out _).mono ?_
          rintro e wB ⟨rfl, rfl⟩
          go_wp2_with fail
          refine (KU.out _ RO.out).mono ?_
          rintro e wU ⟨gU, cU, rfl, oU, hbU⟩
          have hsU := hbU.size
          simp only [World.size_alloc] at hsU
          have HC7 : Below w1.heap.size w1 wU := (HC.out.alloc (by omega) _).trans (hbU.mono (by (first | omega | (simp only [World.size_alloc, World.size_setCell, World.size_drew, World.heap_drewN]; omega))))
          have HN7 := HN.out.of_block (w' := wU) (by rw [hbU.block _ (by (first | omega | (simp only [World.size_alloc, World.size_setCell, World.size_drew, World.heap_drewN]; omega)))]; exact Below.heap_alloc _ _ _ (by omega))
          have o7 : wU.ownsRow (w1.heap.size + 1) 104 3 (.slice (some ⟨gU, 0, none⟩) m3 cU) m3 (wires U) := oU.mono (by (first | omega | (simp only [World.size_alloc, World.size_setCell, World.size_drew, World.heap_drewN]; omega)))
          have hgU := (own_base o7 _ rfl).1
          simp only at hgU
          have H8 : Hid ((wU.setCell ⟨w1.heap.size, 3, none⟩ (.slice (some ⟨gU, 0, none⟩) m3 cU)).ownsRow (w1.heap.size + 1) 104 3 (.slice (some ⟨gU, 0, none⟩) m3 cU) m3 (wires U)) := o7.kept (grown_set' _ ⟨w1.heap.size, 3, none⟩ _) (.inr (by simp [Value.ownBlock]; omega))
          have HN8 := Lib.hid (netAt_set3 HN7 (.slice (some ⟨gU, 0, none⟩) m3 cU))
          have HC8 : Hid (Below w1.heap.size w1 (wU.setCell ⟨w1.heap.size, 3, none⟩ (.slice (some ⟨gU, 0, none⟩) m3 cU))) := HC7.setCell (Nat.le_refl _) _
          have hl8 : w1.heap.size < wU.heap.size := HN7.lt
          have k0 := (netAt_cells HN7).2.2.2
          have k1 := HN7.frozen 3
          clear HN7 HC7 o7 oU hbU n0 n1 n2 n3 nf3
          go_wp2_with fail
          go_roundw
          case rel => exact ⟨k + 1, m3, cU, some ⟨gU, 0, none⟩, by omega, by omega, by go_num, by simpa using hl8, by rw [HU.out]; exact HM3.out, by rw [HU.out]; exact H8.out, HN8.out, HC8.out⟩
          case measure => simp [intOf]; omega
      · obtain rfl : k = n := by omega
        have hT : l.take k = l := List.take_of_length_le (by rw [HL.out]; omega)
        have HM2 : Hid (L2.length = m) := by have := HM.out; rw [hT, HL2.out] at this; exact this
        have HO2 : Hid (wr.ownsRow (w1.heap.size + 1) 104 3 (.slice a' m cg) m (wires L2)) := by have := HO.out; rw [hT, HL2.out] at this; exact this
        have RW := Lib.hid (ArgRow.own HO2.out)
        have HA2 := Lib.hid (HA1.out.of_block (HC.out.block _ hlA1))
        clear hT HO HM
        go_wp2_with fail
        refine (KN2.out _ a' m cg RW.out HM2.out).mono ?_
        rintro e w5 ⟨rfl, hb5⟩
        have HA5 := Lib.hid (HA2.out.of_block (hb5.block _ HA2.out.lt))
        have HN5 := Lib.hid (HN.out.of_block (hb5.block _ HN.out.lt))
        have O5 := Lib.hid (own_below HO2.out hb5)
        have B5 : Hid (Below w.heap.size w w5) := bstep HB2.out hb5
        have hs5 := hb5.size
        clear hb5 n0 n1 n2 n3 nf3 t0 t1 t2 t3
        obtain ⟨n0, n1, n2, n3⟩ := netAt_cells HN5.out
        have hlN5 := HN5.out.lt
        have hlA5 := HA5.out.lt
        obtain ⟨r0, r1, r2, r3⟩ := netAt_cells HA5.out
        have f0 := HA5.out.frozen 0
        have f1 := HA5.out.frozen 1
        have f2 := HA5.out.frozen 2
        have f3 := HA5.out.frozen 3
        have hx1 : ¬ w.heap.size + 1 = w1.heap.size := by omega
        have hx2 : ¬ w1.heap.size = w.heap.size + 1 := by omega
        cases ok
        · go_wp2_with fail
          have rs0 : (w5.cell? { block := w.heap.size + 1, off := 0 }).isSome = true := by simp [go_sem, *]
          have rs1 : (w5.cell? { block := w.heap.size + 1, off := 1 }).isSome = true := by simp [go_sem, *]
          have rs2 : (w5.cell? { block := w.heap.size + 1, off := 2 }).isSome = true := by simp [go_sem, *]
          have rs3 : (w5.cell? { block := w.heap.size + 1, off := 3 }).isSome = true := by simp [go_sem, *]
          refine bodyPost_ret (v := (.tuple #[netV 0 0 0 none 0 0, .bool false])) (by simp [results, Try.results84, go_sem, rs0, rs1, rs2, rs3]; try rfl) rfl ?_
          exact ⟨by unfold NetRes; rw [if_neg (by simp)], by have := B5.out; (repeat' (first | (with_reducible exact Below.refl _ _) | (with_reducible assumption) | (with_reducible refine balloc ?_ _) | (with_reducible refine Below.drew ?_) | (with_reducible refine below_drewN ?_ _) | (with_reducible refine bset ?_ ?_ _) | (with_reducible refine bstep ?_ (by assumption)) | go_size))⟩
        · go_wp2_with fail
          have rs0 : (w5.cell? { block := w.heap.size + 1, off := 0 }).isSome = true := by simp [go_sem, *]
          have rs1 : (w5.cell? { block := w.heap.size + 1, off := 1 }).isSome = true := by simp [go_sem, *]
          have rs2 : (w5.cell? { block := w.heap.size + 1, off := 2 }).isSome = true := by simp [go_sem, *]
          have rs3 : (w5.cell? { block := w.heap.size + 1, off := 3 }).isSome = true := by simp [go_sem, *]
          refine bodyPost_ret (v := (.tuple #[netV M2 E S a' m cg, .bool true])) (by simp [results, Try.results84, go_sem, rs0, rs1, rs2, rs3]; try rfl) rfl ?_
          refine ⟨?_, by have := B5.out; (repeat' (first | (with_reducible exact Below.refl _ _) | (with_reducible assumption) | (with_reducible refine balloc ?_ _) | (with_reducible refine Below.drew ?_) | (with_reducible refine below_drewN ?_ _) | (with_reducible refine bset ?_ ?_ _) | (with_reducible refine bstep ?_ (by assumption)) | go_size))⟩
          unfold NetRes
          rw [if_pos rfl, HM2.out, HEE.out]
          refine ⟨a', cg, rfl, ?_⟩
          refine World.ownsRow.mono (base := w.heap.size + 1 + 1) ?_ (by omega)
          have o9 := World.ownsRow.mono (base' := w.heap.size + 1 + 1) O5.out (by omega)
          repeat' (first | with_reducible exact o9 | (with_reducible refine ownsRow_setCell_below ?_ ?_ _) | (dsimp only; omega) | omega)
set_option maxRecDepth 100000 in
set_option maxHeartbeats 8000000 in
theorem specJoinNodes0 (N : Int) (E S : Int) (a : Option Addr) (n c : Nat) (l : List Wz) (p : Int) (q : Int) (hok : ¬ NetOk N E S l) (w : World) (hr : ArgRow w a n c 3 (wires l)) (hl : l.length = n) :
    Calls Try.prog 84 #[netV N E S a n c, .int .i64 p, .int .i64 q] w fun e w' => e = .returned (.tuple #[netV 0 0 0 none 0 0, .bool false]) ∧ Below w.heap.size w w' := by
  have HR := Lib.hid hr
  have KN := Lib.hid (fun (w : World) rr => specNetOk N E S a n c l false ⟨(fun h => by cases h), fun h => absurd h hok⟩ w rr hl)
  clear hr hok
  have HA0 : Hid (((w.alloc (.cells #[.int .i64 N, .int .i64 E, .int .i64 S, .slice a n c] 25)).alloc (.cells #[.int .i64 0, .int .i64 0, .int .i64 0, .slice none 0 0] 25)).rowIs (w.heap.size + 1) 25 4 (netAt (.int .i64 0) (.int .i64 0) (.int .i64 0) (.slice none 0 0))) := by
    have := netAt_new (w.alloc (.cells #[.int .i64 N, .int .i64 E, .int .i64 S, .slice a n c] 25)) (.int .i64 0) (.int .i64 0) (.int .i64 0) (.slice none 0 0) 25
    simpa [Hid] using this
  have HP0 : Hid (((w.alloc (.cells #[.int .i64 N, .int .i64 E, .int .i64 S, .slice a n c] 25)).alloc (.cells #[.int .i64 0, .int .i64 0, .int .i64 0, .slice none 0 0] 25)).rowIs w.heap.size 25 4 (netAt (.int .i64 N) (.int .i64 E) (.int .i64 S) (.slice a n c))) := (netAt_new _ _ _ _ _ _).alloc _
  go_enter Try.func84, Try.ntmps84
  go_wp2_with fail
  refine (KN.out _ (HR.out.below (by (repeat' (first | (with_reducible exact Below.refl _ _) | (with_reducible assumption) | (with_reducible refine balloc ?_ _) | (with_reducible refine Below.drew ?_) | (with_reducible refine below_drewN ?_ _) | (with_reducible refine bset ?_ ?_ _) | (with_reducible refine bstep ?_ (by assumption)) | go_size))))).mono ?_
  rintro e w1 ⟨rfl, hb1⟩
  have HA1 := Lib.hid (HA0.out.of_block (hb1.block _ HA0.out.lt))
  have HP1 := Lib.hid (HP0.out.of_block (hb1.block _ HP0.out.lt))
  have B1 : Hid (Below w.heap.size w w1) := bstep (by (repeat' (first | (with_reducible exact Below.refl _ _) | (with_reducible assumption) | (with_reducible refine balloc ?_ _) | (with_reducible refine Below.drew ?_) | (with_reducible refine below_drewN ?_ _) | (with_reducible refine bset ?_ ?_ _) | (with_reducible refine bstep ?_ (by assumption)) | go_size))) hb1
  clear HA0 HP0 hb1
  have hlP1 := HP1.out.lt
  obtain ⟨t0, t1, t2, t3⟩ := netAt_cells HP1.out
  obtain ⟨r0, r1, r2, r3⟩ := netAt_cells HA1.out
  have f0 := HA1.out.frozen 0
  have f1 := HA1.out.frozen 1
  have f2 := HA1.out.frozen 2
  have f3 := HA1.out.frozen 3
  have hlA1 := HA1.out.lt
  go_wp2_with fail
  have rs0 : (w1.cell? { block := w.heap.size + 1, off := 0 }).isSome = true := by simp [go_sem, *]
  have rs1 : (w1.cell? { block := w.heap.size + 1, off := 1 }).isSome = true := by simp [go_sem, *]
  have rs2 : (w1.cell? { block := w.heap.size + 1, off := 2 }).isSome = true := by simp [go_sem, *]
  have rs3 : (w1.cell? { block := w.heap.size + 1, off := 3 }).isSome = true := by simp [go_sem, *]
  refine bodyPost_ret (v := (.tuple #[netV 0 0 0 none 0 0, .bool false])) (by simp [results, Try.results84, go_sem, rs0, rs1, rs2, rs3]; try rfl) rfl ?_
  exact ⟨rfl, by have := B1.out; (repeat' (first | (with_reducible exact Below.refl _ _) | (with_reducible assumption) | (with_reducible refine balloc ?_ _) | (with_reducible refine Below.drew ?_) | (with_reducible refine below_drewN ?_ _) | (with_reducible refine bset ?_ ?_ _) | (with_reducible refine bstep ?_ (by assumption)) | go_size))⟩
set_option maxRecDepth 100000 in
set_option maxHeartbeats 8000000 in
theorem specJoinNodes1 (M : Nat) (E S : Int) (a : Option Addr) (n c : Nat) (l : List Wz) (p : Int) (q : Int) (hok : NetOk M E S l) (hbad : ¬ (0 ≤ p ∧ p < q ∧ q < M)) (w : World) (hr : ArgRow w a n c 3 (wires l)) (hl : l.length = n) :
    Calls Try.prog 84 #[netV M E S a n c, .int .i64 p, .int .i64 q] w fun e w' => e = .returned (.tuple #[netV 0 0 0 none 0 0, .bool false]) ∧ Below w.heap.size w w' := by
  have HR := Lib.hid hr
  have KN := Lib.hid (fun (w : World) rr => specNetOk M E S a n c l true ⟨fun _ => hok, fun _ => rfl⟩ w rr hl)
  have hM5 := hok.h.n5
  have hM1 := hok.h.n1
  by_cases h_P : 0 ≤ p ∧ p ≤ (M : Int) - 1
  rotate_left
  · have KP := Lib.hid (fun (w : World) => specIn p 0 ((M : Int) - 1) false ⟨(fun h => by cases h), fun h => absurd h h_P⟩ w)
    clear hr hok hbad h_P
    have HA0 : Hid (((w.alloc (.cells #[.int .i64 M, .int .i64 E, .int .i64 S, .slice a n c] 25)).alloc (.cells #[.int .i64 0, .int .i64 0, .int .i64 0, .slice none 0 0] 25)).rowIs (w.heap.size + 1) 25 4 (netAt (.int .i64 0) (.int .i64 0) (.int .i64 0) (.slice none 0 0))) := by
      have := netAt_new (w.alloc (.cells #[.int .i64 M, .int .i64 E, .int .i64 S, .slice a n c] 25)) (.int .i64 0) (.int .i64 0) (.int .i64 0) (.slice none 0 0) 25
      simpa [Hid] using this
    have HP0 : Hid (((w.alloc (.cells #[.int .i64 M, .int .i64 E, .int .i64 S, .slice a n c] 25)).alloc (.cells #[.int .i64 0, .int .i64 0, .int .i64 0, .slice none 0 0] 25)).rowIs w.heap.size 25 4 (netAt (.int .i64 M) (.int .i64 E) (.int .i64 S) (.slice a n c))) := (netAt_new _ _ _ _ _ _).alloc _
    go_enter Try.func84, Try.ntmps84
    go_wp2_with fail
    refine (KN.out _ (HR.out.below (by (repeat' (first | (with_reducible exact Below.refl _ _) | (with_reducible assumption) | (with_reducible refine balloc ?_ _) | (with_reducible refine Below.drew ?_) | (with_reducible refine below_drewN ?_ _) | (with_reducible refine bset ?_ ?_ _) | (with_reducible refine bstep ?_ (by assumption)) | go_size))))).mono ?_
    rintro e w1 ⟨rfl, hb1⟩
    have HA1 := Lib.hid (HA0.out.of_block (hb1.block _ HA0.out.lt))
    have HP1 := Lib.hid (HP0.out.of_block (hb1.block _ HP0.out.lt))
    have B1 : Hid (Below w.heap.size w w1) := bstep (by (repeat' (first | (with_reducible exact Below.refl _ _) | (with_reducible assumption) | (with_reducible refine balloc ?_ _) | (with_reducible refine Below.drew ?_) | (with_reducible refine below_drewN ?_ _) | (with_reducible refine bset ?_ ?_ _) | (with_reducible refine bstep ?_ (by assumption)) | go_size))) hb1
    clear HA0 HP0 hb1
    have hlP1 := HP1.out.lt
    obtain ⟨t0, t1, t2, t3⟩ := netAt_cells HP1.out
    obtain ⟨r0, r1, r2, r3⟩ := netAt_cells HA1.out
    have f0 := HA1.out.frozen 0
    have f1 := HA1.out.frozen 1
    have f2 := HA1.out.frozen 2
    have f3 := HA1.out.frozen 3
    have hlA1 := HA1.out.lt
    go_wp2_with fail
    refine (KP.out _).mono ?_
    rintro e w9 ⟨rfl, rfl⟩
    go_wp2_with fail
    have rs0 : (w1.cell? { block := w.heap.size + 1, off := 0 }).isSome = true := by simp [go_sem, *]
    have rs1 : (w1.cell? { block := w.heap.size + 1, off := 1 }).isSome = true := by simp [go_sem, *]
    have rs2 : (w1.cell? { block := w.heap.size + 1, off := 2 }).isSome = true := by simp [go_sem, *]
    have rs3 : (w1.cell? { block := w.heap.size + 1, off := 3 }).isSome = true := by simp [go_sem, *]
    refine bodyPost_ret (v := (.tuple #[netV 0 0 0 none 0 0, .bool false])) (by simp [results, Try.results84, go_sem, rs0, rs1, rs2, rs3]; try rfl) rfl ?_
    exact ⟨rfl, by have := B1.out; (repeat' (first | (with_reducible exact Below.refl _ _) | (with_reducible assumption) | (with_reducible refine balloc ?_ _) | (with_reducible refine Below.drew ?_) | (with_reducible refine below_drewN ?_ _) | (with_reducible refine bset ?_ ?_ _) | (with_reducible refine bstep ?_ (by assumption)) | go_size))⟩
  have KP := Lib.hid (fun (w : World) => specIn p 0 ((M : Int) - 1) true ⟨fun _ => by omega, fun _ => rfl⟩ w)
  have h_Q : ¬ (p + 1 ≤ q ∧ q ≤ (M : Int) - 1) := fun h => hbad ⟨by omega, by omega, by omega⟩
  have KQ := Lib.hid (fun (w : World) => specIn q (p + 1) ((M : Int) - 1) false ⟨(fun h => by cases h), fun h => absurd h h_Q⟩ w)
  have hw2 : IntKind.i64.wrap (p + 1) = p + 1 := IntWalk.i64_in _ ⟨by omega, by omega⟩
  have hw2' : wrap64 (p + 1) = p + 1 := wrap_small' ⟨by omega, by omega⟩
  clear hr hok hbad h_P h_Q
  have HA0 : Hid (((w.alloc (.cells #[.int .i64 M, .int .i64 E, .int .i64 S, .slice a n c] 25)).alloc (.cells #[.int .i64 0, .int .i64 0, .int .i64 0, .slice none 0 0] 25)).rowIs (w.heap.size + 1) 25 4 (netAt (.int .i64 0) (.int .i64 0) (.int .i64 0) (.slice none 0 0))) := by
    have := netAt_new (w.alloc (.cells #[.int .i64 M, .int .i64 E, .int .i64 S, .slice a n c] 25)) (.int .i64 0) (.int .i64 0) (.int .i64 0) (.slice none 0 0) 25
    simpa [Hid] using this
  have HP0 : Hid (((w.alloc (.cells #[.int .i64 M, .int .i64 E, .int .i64 S, .slice a n c] 25)).alloc (.cells #[.int .i64 0, .int .i64 0, .int .i64 0, .slice none 0 0] 25)).rowIs w.heap.size 25 4 (netAt (.int .i64 M) (.int .i64 E) (.int .i64 S) (.slice a n c))) := (netAt_new _ _ _ _ _ _).alloc _
  go_enter Try.func84, Try.ntmps84
  go_wp2_with fail
  refine (KN.out _ (HR.out.below (by (repeat' (first | (with_reducible exact Below.refl _ _) | (with_reducible assumption) | (with_reducible refine balloc ?_ _) | (with_reducible refine Below.drew ?_) | (with_reducible refine below_drewN ?_ _) | (with_reducible refine bset ?_ ?_ _) | (with_reducible refine bstep ?_ (by assumption)) | go_size))))).mono ?_
  rintro e w1 ⟨rfl, hb1⟩
  have HA1 := Lib.hid (HA0.out.of_block (hb1.block _ HA0.out.lt))
  have HP1 := Lib.hid (HP0.out.of_block (hb1.block _ HP0.out.lt))
  have B1 : Hid (Below w.heap.size w w1) := bstep (by (repeat' (first | (with_reducible exact Below.refl _ _) | (with_reducible assumption) | (with_reducible refine balloc ?_ _) | (with_reducible refine Below.drew ?_) | (with_reducible refine below_drewN ?_ _) | (with_reducible refine bset ?_ ?_ _) | (with_reducible refine bstep ?_ (by assumption)) | go_size))) hb1
  clear HA0 HP0 hb1
  have hlP1 := HP1.out.lt
  obtain ⟨t0, t1, t2, t3⟩ := netAt_cells HP1.out
  obtain ⟨r0, r1, r2, r3⟩ := netAt_cells HA1.out
  have f0 := HA1.out.frozen 0
  have f1 := HA1.out.frozen 1
  have f2 := HA1.out.frozen 2
  have f3 := HA1.out.frozen 3
  have hlA1 := HA1.out.lt
  go_wp2_with fail
  refine (KP.out _).mono ?_
  rintro e w9 ⟨rfl, rfl⟩
  go_wp2_with fail
  refine (KQ.out _).mono ?_
  rintro e w9 ⟨rfl, rfl⟩
  go_wp2_with fail
  have rs0 : (w1.cell? { block := w.heap.size + 1, off := 0 }).isSome = true := by simp [go_sem, *]
  have rs1 : (w1.cell? { block := w.heap.size + 1, off := 1 }).isSome = true := by simp [go_sem, *]
  have rs2 : (w1.cell? { block := w.heap.size + 1, off := 2 }).isSome = true := by simp [go_sem, *]
  have rs3 : (w1.cell? { block := w.heap.size + 1, off := 3 }).isSome = true := by simp [go_sem, *]
  refine bodyPost_ret (v := (.tuple #[netV 0 0 0 none 0 0, .bool false])) (by simp [results, Try.results84, go_sem, rs0, rs1, rs2, rs3]; try rfl) rfl ?_
  exact ⟨rfl, by have := B1.out; (repeat' (first | (with_reducible exact Below.refl _ _) | (with_reducible assumption) | (with_reducible refine balloc ?_ _) | (with_reducible refine Below.drew ?_) | (with_reducible refine below_drewN ?_ _) | (with_reducible refine bset ?_ ?_ _) | (with_reducible refine bstep ?_ (by assumption)) | go_size))⟩
end Go.Proofs.Ytdmiihljepkapaa
