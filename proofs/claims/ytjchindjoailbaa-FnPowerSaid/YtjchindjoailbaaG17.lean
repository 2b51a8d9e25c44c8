/- PowerOf of the program. -/
import Derived.Test.YtjchindjoailbaaG07
import Derived.Test.YtjchindjoailbaaG13
import Derived.Test.YtjchindjoailbaaG08
import Derived.Test.YtjchindjoailbaaG04
namespace Go.Proofs.Ytjchindjoailbaa
set_option linter.unusedSimpArgs false
set_option linter.unusedVariables false
open Go.RowKit

set_option maxRecDepth 100000 in
set_option maxHeartbeats 16000000 in
theorem implPowerOf (N E S : Int) (a : Option Addr) (n c : Nat) (l : List Wz) (aq : Option Addr) (nq cq : Nat) (Q : List Rz) (B : Bool) (hB : B = true ↔ PowOk N E S l Q) (w : World) (hr : ArgRow w a n c 3 (wires l)) (hl : l.length = n) (hp : ArgRow w aq nq cq 2 (rats Q)) :
    Calls Try.prog 26 #[netV N E S a n c, .slice aq nq cq] w fun e w' => e = .returned (.tuple #[ratV (sel B (powL S Q l)).1 (sel B (powL S Q l)).2, .bool B]) ∧ Below w.heap.size w w' := by
  have HR := Lib.hid hr
  have HL := Lib.hid hl
  have HP := Lib.hid hp
  have HQl := Lib.hid hp.rats_len
  have HBB := Lib.hid hB
  have hn := hr.le
  have hnq := hp.le
  unfold maxLen at hn hnq
  obtain ⟨ok, hok⟩ := bool_of (NetOk N E S l)
  have KN := Lib.hid (fun (w : World) rr => implNetOk N E S a n c l ok hok w rr hl)
  have HA0 : Hid (((w.alloc (.cells #[.int .i64 N, .int .i64 E, .int .i64 S, .slice a n c] 25)).alloc (.cells #[.int .i64 0, .int .i64 0] 32)).rowIs (w.heap.size + 1) 32 2 (ratAt (0, 0))) := by
    have := ratAt_new (w.alloc (.cells #[.int .i64 N, .int .i64 E, .int .i64 S, .slice a n c] 25)) 0 0 32
    simpa [Hid] using this
  have HP0 : Hid (((w.alloc (.cells #[.int .i64 N, .int .i64 E, .int .i64 S, .slice a n c] 25)).alloc (.cells #[.int .i64 0, .int .i64 0] 32)).rowIs w.heap.size 25 4 (netAt (.int .i64 N) (.int .i64 E) (.int .i64 S) (.slice a n c))) := (netAt_new _ _ _ _ _ _).alloc _
  clear hr hl hp hB
  go_enter Try.func26, Try.ntmps26
  go_wp2_with fail
  refine (KN.out _ (HR.out.below (by (repeat' (first | (with_reducible exact Below.refl _ _) | (with_reducible assumption) | (with_reducible refine balloc ?_ _) | (with_reducible refine Below.drew ?_) | (with_reducible refine below_drewN ?_ _) | (with_reducible refine bset ?_ ?_ _) | (with_reducible refine bstep ?_ (by assumption)) | go_size))))).mono ?_
  rintro e w1 ⟨rfl, hb1⟩
  have HR1 := Lib.hid (HA0.out.of_block (hb1.block _ HA0.out.lt))
  have HN1 := Lib.hid (HP0.out.of_block (hb1.block _ HP0.out.lt))
  have B1 : Hid (Below w.heap.size w w1) := bstep (by (repeat' (first | (with_reducible exact Below.refl _ _) | (with_reducible assumption) | (with_reducible refine balloc ?_ _) | (with_reducible refine Below.drew ?_) | (with_reducible refine below_drewN ?_ _) | (with_reducible refine bset ?_ ?_ _) | (with_reducible refine bstep ?_ (by assumption)) | go_size))) hb1
  clear HA0 HP0 hb1
  have hlN := HN1.out.lt
  have hlR := HR1.out.lt
  obtain ⟨n0, n1, n2, n3⟩ := netAt_cells HN1.out
  have f0 := HR1.out.frozen 0
  have f1 := HR1.out.frozen 1
  obtain ⟨r0, r1⟩ := ratAt_cells HR1.out
  cases ok
  · have hv : Hid (B = false) := bfalse HBB.out (fun h => by have := hok.2 h.net; cases this)
    clear hok
    go_wp2_with fail
    have rs0 : (w1.cell? { block := w.heap.size + 1, off := 0 }).isSome = true := by simp [go_sem, *]
    have rs1 : (w1.cell? { block := w.heap.size + 1, off := 1 }).isSome = true := by simp [go_sem, *]
    refine bodyPost_ret (v := (.tuple #[ratV 0 0, .bool false])) (by simp [results, Try.results26, go_sem, rs0, rs1]; try rfl) rfl ?_
    exact ⟨by rw [hv.out]; rfl, bset (bset B1.out (by show w.heap.size ≤ w.heap.size + 1; omega) _) (by show w.heap.size ≤ w.heap.size + 1; omega) _⟩
  have HNK := Lib.hid (hok.1 rfl)
  clear hok
  by_cases hlen : (nq : Int) = N
  rotate_left
  · have hv : Hid (B = false) := bfalse HBB.out (fun h => hlen (by rw [← HQl.out]; exact h.len))
    have hq1 : ((nq : Int) != N) = true := by simp; omega
    clear hlen
    go_wp2_with fail
    have rs0 : (w1.cell? { block := w.heap.size + 1, off := 0 }).isSome = true := by simp [go_sem, *]
    have rs1 : (w1.cell? { block := w.heap.size + 1, off := 1 }).isSome = true := by simp [go_sem, *]
    refine bodyPost_ret (v := (.tuple #[ratV 0 0, .bool false])) (by simp [results, Try.results26, go_sem, rs0, rs1]; try rfl) rfl ?_
    exact ⟨by rw [hv.out]; rfl, bset (bset B1.out (by show w.heap.size ≤ w.heap.size + 1; omega) _) (by show w.heap.size ≤ w.heap.size + 1; omega) _⟩
  subst hlen
  have HQL : Hid ((Q.length : Int) = nq) := by have := HQl.out; show _ = _; omega
  have hq1 : ((nq : Int) != (nq : Int)) = false := by simp
  have hN1 := HNK.out.h.n1
  go_wp2_with fail
  go_loopw [25] (fun v wr => ∃ k : Nat, k ≤ nq ∧ v = .int .i64 k ∧ Hid (∀ x ∈ Q.take k, okZ x.1 x.2) ∧ Hid (Below w1.heap.size w1 wr)) (fun v _ => nq - (intOf v).toNat)
  case atStart => exact ⟨0, by omega, rfl, by simp [Hid], Below.refl _ _⟩
  case round =>
    obtain ⟨k, hk, rfl, HT, HB⟩ := hrel
    by_cases hlt : k < nq
    · have hli : k < Q.length := by rw [HQl.out]; exact hlt
      have F1 := HP.out.below (B1.out.trans (HB.out.mono B1.out.size))
      obtain ⟨b3, o3, rfl, hbb3, hcc3⟩ := F1.form (by omega)
      obtain ⟨s0, s1⟩ := rat_cells F1 k hli
      obtain ⟨b, hb⟩ := bool_of (okZ Q[k].1 Q[k].2)
      have HY : okZ Q[k].1 Q[k].2 → Hid (∀ x ∈ Q.take (k + 1), okZ x.1 x.2) := fun h x hx => by
        rw [List.take_succ_eq_append_getElem hli] at hx
        rcases List.mem_append.1 hx with hx | hx
        · exact HT.out x hx
        · simp at hx; subst hx; exact h
      have HN : ¬ okZ Q[k].1 Q[k].2 → Hid (B = false) := fun h => bfalse HBB.out (fun h9 => h (h9.ok _ (List.getElem_mem _)))
      have KC := Lib.hid (fun w => implRatioOk Q[k].1 Q[k].2 w b hb)
      generalize Q[k] = x at s0 s1 HY HN KC hb
      obtain ⟨x0, x1⟩ := x
      simp only at hb KC HY HN
      clear hcc3 F1 hli
      have zz1 : ¬ w.heap.size + 1 = wr.heap.size := by have := HB.out.size; omega
      have zz2 : ¬ wr.heap.size = w.heap.size + 1 := by have := HB.out.size; omega
      have zz3 : ¬ b3 = wr.heap.size := by omega
      cases b
      · have HN2 := HN (fun h => by have := hb.2 h; cases this)
        clear hb HY HN
        go_wp2_with fail
        refine (KC.out _).mono ?_
        rintro e w2 ⟨rfl, hb2⟩
        have HB2 : Hid (Below w1.heap.size w1 w2) := bstep (balloc HB.out _) hb2
        have HRr := HR1.out.of_block (HB2.out.block _ hlR)
        have g0 := HRr.frozen 0
        have g1 := HRr.frozen 1
        obtain ⟨j0, j1⟩ := ratAt_cells HRr
        have hlr := HRr.lt
        clear hb2
        go_wp2_with fail
        have rs0 : (w2.cell? { block := w.heap.size + 1, off := 0 }).isSome = true := by simp [go_sem, *]
        have rs1 : (w2.cell? { block := w.heap.size + 1, off := 1 }).isSome = true := by simp [go_sem, *]
        refine bodyPost_ret (v := (.tuple #[ratV 0 0, .bool false])) (by simp [results, Try.results26, go_sem, rs0, rs1]; try rfl) rfl ?_
        exact ⟨by rw [HN2.out]; rfl, bset (bset (B1.out.trans (HB2.out.mono B1.out.size)) (by show w.heap.size ≤ w.heap.size + 1; omega) _) (by show w.heap.size ≤ w.heap.size + 1; omega) _⟩
      · have HY2 := HY (hb.1 rfl)
        clear hb HY HN
        go_wp2_with fail
        refine (KC.out _).mono ?_
        rintro e w2 ⟨rfl, hb2⟩
        have HB2 : Hid (Below w1.heap.size w1 w2) := bstep (balloc HB.out _) hb2
        clear hb2
        go_wp2_with fail
        go_roundw
        case rel => exact ⟨k + 1, by omega, by go_num, HY2.out, HB2.out⟩
        case measure => simp [intOf]; omega
    · obtain rfl : nq = k := by omega
      have hT : Q.take nq = Q := List.take_of_length_le (by rw [HQl.out]; omega)
      have HQO : Hid (∀ x ∈ Q, okZ x.1 x.2) := by have := HT.out; rw [hT] at this; exact this
      have HBW : Hid (Below w.heap.size w wr) := B1.out.trans (HB.out.mono B1.out.size)
      have HN2 := Lib.hid (HN1.out.of_block (HB.out.block _ hlN))
      have HR2 := Lib.hid (HR1.out.of_block (HB.out.block _ hlR))
      clear hT HT HB HR1 HN1 hlN hlR n0 n1 n2 n3 f0 f1 r0 r1 B1
      obtain ⟨wb, rfl⟩ : ∃ wb : World, wb = wr := ⟨_, rfl⟩
      have HR1 := HR2
      have HN1 := HN2
      have hlN2 := HN1.out.lt
      have hlR2 := HR1.out.lt
      obtain ⟨n0, n1, n2, n3⟩ := netAt_cells HN1.out
      clear HR2 HN2
      have HS0 : Hid ((wb.alloc (.cells #[.int .i64 0, .int .i64 1] 32)).rowIs wb.heap.size 32 2 (ratAt (0, 1))) := ratAt_new _ _ _ _
      have ne1 : ¬ w.heap.size = wb.heap.size := by omega
      have ne2 : ¬ w.heap.size + 1 = wb.heap.size := by omega
      go_wp2_with fail
      clear n0 n1 n2 n3
      go_loopw [38] (fun v wr => ∃ k : Nat, k ≤ n ∧ v = .int .i64 k ∧ wb.heap.size < wr.heap.size ∧ Hid (wr.rowIs wb.heap.size 32 2 (ratAt (powL S Q (l.take k)))) ∧ Hid (Below wb.heap.size wb wr)) (fun v _ => n - (intOf v).toNat)
      case atStart => exact ⟨0, by omega, rfl, by simp, by show World.rowIs _ _ _ _ _; simpa [powL] using HS0.out, balloc (Below.refl _ _) _⟩
      case round =>
      clear HS0
      obtain ⟨k, hk, rfl, hsz, HS, HC⟩ := hrel
      obtain ⟨z0, z1⟩ := ratAt_cells HS.out
      by_cases hlt : k < n
      · have hli : k < l.length := by rw [HL.out]; exact hlt
        have G1 := HR.out.below (HBW.out.trans (HC.out.mono HBW.out.size))
        obtain ⟨b4, o4, rfl, hbb4, hcc4⟩ := G1.form (by omega)
        obtain ⟨t0, t1, t2⟩ := wire_cells G1 k hli
        have F2 := HP.out.below (HBW.out.trans (HC.out.mono HBW.out.size))
        have hg := HNK.out.w k hli
        unfold good at hg
        obtain ⟨i0, hi0⟩ : ∃ i0 : Nat, l[k].1 = i0 := ⟨l[k].1.toNat, by omega⟩
        obtain ⟨i1, hi1⟩ : ∃ i1 : Nat, l[k].2.1 = i1 := ⟨l[k].2.1.toNat, by omega⟩
        have hS1 := HNK.out.h.s1
        have hS2 := HNK.out.h.s2
        obtain ⟨bq, oq, rfl, hbbq, hccq⟩ := F2.form (by omega)
        have hj0 : i0 < Q.length := by rw [HQl.out]; omega
        have hj1 : i1 < Q.length := by rw [HQl.out]; omega
        obtain ⟨u0, u1⟩ := rat_cells F2 i0 hj0
        obtain ⟨v0, v1⟩ := rat_cells F2 i1 hj1
        have hK0 : i0 < nq := by omega
        have hK1 : i1 < nq := by omega
        have hSN := powL_snoc (S := S) (Q := Q) hli
        unfold powStep at hSN
        rw [hi0, hi1, getR_eq hj0, getR_eq hj1] at hSN
        have KD := fun w => implDiffR Q[i0] Q[i1] w
        generalize Q[i0] = p at u0 u1 hSN KD
        generalize Q[i1] = q at v0 v1 hSN KD
        rw [hi0] at t0
        rw [hi1] at t1
        rw [hi0, hi1] at hg
        generalize l[k].2.2 = x2 at t2 hSN hg
        generalize diffR p q = D at hSN KD
        have KT1 := fun w => implTimesR D D w
        generalize timesR D D = T at hSN KT1
        have KR := fun w => implRatioOf x2 S w (by omega) (by omega) (by omega) (by omega)
        generalize Gn.rat x2 S = R at hSN KR
        have KT2 := fun w => implTimesR T R w
        generalize timesR T R = F at hSN KT2
        have KS := fun w => implSumR (powL S Q (l.take k)) F w
        generalize powL S Q (l.take k) = s at hSN KS z0 z1 HS
        generalize addR s F = Z at hSN KS
        obtain ⟨p0, p1⟩ := p
        obtain ⟨q0, q1⟩ := q
        obtain ⟨D0, D1⟩ := D
        obtain ⟨T0, T1⟩ := T
        obtain ⟨R0, R1⟩ := R
        obtain ⟨F0, F1⟩ := F
        obtain ⟨s0', s1'⟩ := s
        obtain ⟨Z0, Z1⟩ := Z
        simp only at u0 u1 v0 v1 KD KT1 KR KT2 KS z0 z1
        replace KD := Lib.hid KD
        replace KT1 := Lib.hid KT1
        replace KR := Lib.hid KR
        replace KT2 := Lib.hid KT2
        replace KS := Lib.hid KS
        have HSN := Lib.hid hSN
        have hbq' : bq < wr.heap.size := hbbq
        have hlN' : w.heap.size < wr.heap.size := by have := HC.out.size; omega
        have HNr := HN1.out.of_block (HC.out.block _ hlN2)
        obtain ⟨n0, n1, n2, n3⟩ := netAt_cells HNr
        have y1 : ¬ b4 = wr.heap.size := by omega
        have zb1 : ¬ bq = wr.heap.size := by omega
        have zb2 : ¬ bq = wr.heap.size + 1 := by omega
        have zb3 : ¬ wr.heap.size + 1 = bq := by omega
        have zb4 : ¬ wr.heap.size + 1 = wr.heap.size := by omega
        clear hcc4 hccq G1 F2 hli hj0 hj1 hi0 hi1 hSN hg HNr
        go_wp2_with fail
        go_upto_region 13 with fail
        go_cut [11] (fun s11 wx => ∃ g : Nat, s11 = .pointer (some ⟨g, 0, none⟩) ∧ MadeQ (wr.alloc (.cells #[.int .i64 i0, .int .i64 i1, .int .i64 x2] 102)) g D0 D1 wx)
        case first =>
          go_region_held3 (fun w' => w'.cell? ⟨wr.heap.size, 0, none⟩ = some (.int .i64 i0) ∧ w'.cell? ⟨wr.heap.size, 1, none⟩ = some (.int .i64 i1) ∧ w'.cell? ⟨bq, oq + i0 * 2, none⟩ = some (.int .i64 p0) ∧ w'.cell? ⟨bq, oq + i0 * 2 + 1, none⟩ = some (.int .i64 p1) ∧ w'.cell? ⟨bq, oq + i1 * 2, none⟩ = some (.int .i64 q0) ∧ w'.cell? ⟨bq, oq + i1 * 2 + 1, none⟩ = some (.int .i64 q1)) (go_keep)
            ((first | (go_at_call 20; ((with_reducible refine (KD.out _).mono ?_); rintro e wD ⟨rfl, hbD⟩); (try (replace hbD := bdrew hbD)); (try (have hq_ := bltn hbD (b := wr.heap.size) (by (first | omega | (simp only [World.size_alloc, World.size_setCell, World.size_drew, World.heap_drewN]; omega))); obtain ⟨uu, vv, zz, nn, mm⟩ := hq_)); (try (have hq_ := bltn hbD (b := wr.heap.size + 1) (by (first | omega | (simp only [World.size_alloc, World.size_setCell, World.size_drew, World.heap_drewN]; omega))); obtain ⟨uu, vv, zz, nn, mm⟩ := hq_)); (try (have hq_ := bltn hbD (b := bq) (by (first | omega | (simp only [World.size_alloc, World.size_setCell, World.size_drew, World.heap_drewN]; omega))); obtain ⟨uu, vv, zz, nn, mm⟩ := hq_)))))
          all_goals
            go_wp2_with fail
            go_meet
            have qd := hbD.size
            try simp only [World.size_alloc, World.size_drew] at qd
            first
              | exact ⟨_, rfl, madeq_alloc _ (by (repeat' (first | (with_reducible exact Below.refl _ _) | (with_reducible assumption) | (with_reducible refine balloc ?_ _) | (with_reducible refine Below.drew ?_) | (with_reducible refine below_drewN ?_ _) | (with_reducible refine bset ?_ ?_ _) | (with_reducible refine bstep ?_ (by assumption)) | go_size))) D0 D1⟩
              | exact ⟨_, rfl, madeq_set (by (repeat' (first | (with_reducible exact Below.refl _ _) | (with_reducible assumption) | (with_reducible refine balloc ?_ _) | (with_reducible refine Below.drew ?_) | (with_reducible refine below_drewN ?_ _) | (with_reducible refine bset ?_ ?_ _) | (with_reducible refine bstep ?_ (by assumption)) | go_size))) (by (first | omega | (simp only [World.size_alloc, World.size_setCell, World.size_drew, World.heap_drewN]; omega))) (by simp only [*]; simp [go_sem]; try rfl) (by simp only [*]; simp [go_sem]; try rfl) D0 D1⟩
        case rest =>
        obtain ⟨g, rfl, hM⟩ := hcut
        obtain ⟨⟨hg1, hg2⟩, ⟨hg3, hg4⟩, hQ⟩ := hM
        obtain ⟨wQ, rfl⟩ : ∃ wQ : World, wQ = wc := ⟨_, rfl⟩
        simp only [World.size_alloc] at hg1 hQ
        have hQr : Below wr.heap.size wr wQ := (balloc (Below.refl _ _) _).trans (hQ.mono (by omega))
        have hlQ : wr.heap.size < wQ.heap.size := by have := hQ.size; simp at this; omega
        have hrd2 : ∀ w', Below wQ.heap.size wQ w' → w'.cell? ⟨g, 0, none⟩ = some (.int .i64 D0) ∧ w'.cell? ⟨g, 1, none⟩ = some (.int .i64 D1) ∧ w'.cell? ⟨wb.heap.size, 0, none⟩ = some (.int .i64 s0') ∧ w'.cell? ⟨wb.heap.size, 1, none⟩ = some (.int .i64 s1') ∧ w'.cell? ⟨wr.heap.size, 2, none⟩ = some (.int .i64 x2) ∧ w'.cell? ⟨w.heap.size, 2, none⟩ = some (.int .i64 S) := fun w' h => by
          have h3 : Below wr.heap.size wr w' := hQr.trans (h.mono (by omega))
          refine ⟨(h.cell (p := ⟨g, 0, none⟩) hg2).trans hg3, (h.cell (p := ⟨g, 1, none⟩) hg2).trans hg4, (h3.cell (p := ⟨wb.heap.size, 0, none⟩) hsz).trans z0, (h3.cell (p := ⟨wb.heap.size, 1, none⟩) hsz).trans z1, ((h.cell (p := ⟨wr.heap.size, 2, none⟩) hlQ).trans (hQ.cell (p := ⟨wr.heap.size, 2, none⟩) (by show wr.heap.size < _; omega))).trans ?_, (h3.cell (p := ⟨w.heap.size, 2, none⟩) hlN').trans n2⟩
          simp only [World.cell?, heap_alloc_new]; rfl
        go_wp2_with fail
        refine region_quiet_tail_in (fun w' => Below wQ.heap.size wQ w') 11 (by kernel_rfl) (by kernel_rfl) (Below.refl _ _).drew ?_
        simp only [List.take_succ_cons, List.take_zero, List.drop_succ_cons, List.drop_zero]
        refine wpQuiet_step (fun K hK => ?_)
        go_simp
        refine ⟨.agg #[.int .i64 s0', .int .i64 s1'], fun w' hw' => ?_, hK _ ?_⟩
        · obtain ⟨c0, c1, c2, c3, c4, c5⟩ := hrd2 w' hw'
          go_simp
        clear hK K
        refine wpQuiet_step (fun K hK => ?_)
        go_simp
        refine ⟨.agg #[.int .i64 D0, .int .i64 D1], fun w' hw' => ?_, hK _ ?_⟩
        · obtain ⟨c0, c1, c2, c3, c4, c5⟩ := hrd2 w' hw'
          go_simp
        clear hK K
        refine wpQuiet_step (fun K hK => ?_)
        go_simp
        refine ⟨.agg #[.int .i64 D0, .int .i64 D1], fun w' hw' => ?_, hK _ ?_⟩
        · obtain ⟨c0, c1, c2, c3, c4, c5⟩ := hrd2 w' hw'
          go_simp
        clear hK K
        refine wpQuiet_step (fun K hK => ?_)
        go_simp
        refine ⟨ratV T0 T1, fun w' hw' => (KT1.out w').mono (fun e w'' h => ⟨h.1, hw'.trans (h.2.mono (by have := hw'.size; simpa using this))⟩), hK _ ?_⟩
        clear hK K
        refine wpQuiet_step (fun K hK => ?_)
        go_simp
        apply Exists.intro
        constructor
        · intro w' hw'; exact rfl
        refine hK _ ?_
        clear hK K
        refine wpQuiet_step (fun K hK => ?_)
        go_simp
        refine ⟨.int .i64 x2, fun w' hw' => ?_, hK _ ?_⟩
        · obtain ⟨c0, c1, c2, c3, c4, c5⟩ := hrd2 w' hw'
          go_simp
        clear hK K
        refine wpQuiet_step (fun K hK => ?_)
        go_simp
        apply Exists.intro
        constructor
        · intro w' hw'; exact rfl
        refine hK _ ?_
        clear hK K
        refine wpQuiet_step (fun K hK => ?_)
        go_simp
        refine ⟨.int .i64 S, fun w' hw' => ?_, hK _ ?_⟩
        · obtain ⟨c0, c1, c2, c3, c4, c5⟩ := hrd2 w' hw'
          go_simp
        clear hK K
        refine wpQuiet_step (fun K hK => ?_)
        go_simp
        refine ⟨ratV R0 R1, fun w' hw' => (KR.out w').mono (fun e w'' h => ⟨h.1, hw'.trans (h.2.mono (by have := hw'.size; simpa using this))⟩), hK _ ?_⟩
        clear hK K
        refine wpQuiet_step (fun K hK => ?_)
        go_simp
        refine ⟨ratV F0 F1, fun w' hw' => (KT2.out w').mono (fun e w'' h => ⟨h.1, hw'.trans (h.2.mono (by have := hw'.size; simpa using this))⟩), hK _ ?_⟩
        clear hK K
        refine wpQuiet_step (fun K hK => ?_)
        go_simp
        refine ⟨ratV Z0 Z1, fun w' hw' => (KS.out w').mono (fun e w'' h => ⟨h.1, hw'.trans (h.2.mono (by have := hw'.size; simpa using this))⟩), hK _ ?_⟩
        clear hK K
        refine wpQuiet_nil ?_
        intro wZ hZ
        have hZr : Below wr.heap.size wr wZ := hQr.trans (hZ.mono (by omega))
        have HSq := HS.out.of_block (hZr.block _ hsz)
        have yf0 := HSq.frozen 0
        have yf1 := HSq.frozen 1
        obtain ⟨y0, y1⟩ := ratAt_cells HSq
        have hlZ := HSq.lt
        have HS8 := Lib.hid (ratAt_set HSq (Z0, Z1))
        have HC8 : Hid (Below wb.heap.size wb ((wZ.setCell ⟨wb.heap.size, 0, none⟩ (.int .i64 Z0)).setCell ⟨wb.heap.size, 1, none⟩ (.int .i64 Z1))) := bset (bset (HC.out.trans (hZr.mono (by omega))) (Nat.le_refl _) _) (Nat.le_refl _) _
        clear HSq hQ hZ hZr hrd2 hQr
        go_wp2_with fail
        go_roundw
        case rel => exact ⟨k + 1, by omega, by go_num, by simpa using hlZ, by rw [HSN.out]; exact HS8.out, HC8.out⟩
        case measure => simp [intOf]; omega
      · obtain rfl : k = n := by omega
        have hT : l.take k = l := List.take_of_length_le (by rw [HL.out]; omega)
        obtain ⟨bz, hbz⟩ := bool_of (okZ (powL S Q l).1 (powL S Q l).2)
        have hgood : bz = true → Hid (B = true) := fun h => HBB.out.2 ⟨HNK.out, HQL.out, HQO.out, hbz.1 h⟩
        have hbad : bz = false → Hid (B = false) := fun h => bfalse HBB.out (fun h9 => by have := hbz.2 h9.pow; rw [h] at this; cases this)
        have KOZ := Lib.hid (fun w => implRatioOk (powL S Q l).1 (powL S Q l).2 w bz hbz)
        rw [hT] at HS z0 z1
        obtain ⟨s, hs⟩ : ∃ s, powL S Q l = s := ⟨_, rfl⟩
        rw [hs] at HS z0 z1 KOZ
        obtain ⟨s0', s1'⟩ := s
        have HSV := Lib.hid hs
        clear hs
        clear hT hbz
        go_wp2_with fail
        refine (KOZ.out _).mono ?_
        rintro e w9 ⟨rfl, hb9⟩
        have HC9 : Hid (Below wb.heap.size wb w9) := bstep HC.out hb9
        have HS9 := HS.out.of_block (hb9.block _ hsz)
        have HRr := HR1.out.of_block (HC9.out.block _ hlR2)
        have g0 := HRr.frozen 0
        have g1 := HRr.frozen 1
        obtain ⟨j0, j1⟩ := ratAt_cells HRr
        have hlr := HRr.lt
        have s8 := HS9.lt
        obtain ⟨z0, z1⟩ := ratAt_cells HS9
        have HFB : Hid (Below w.heap.size w w9) := HBW.out.trans (HC9.out.mono HBW.out.size)
        clear hb9
        cases bz
        · have hv := hbad rfl
          clear hgood hbad
          go_wp2_with fail
          have rs0 : (w9.cell? { block := w.heap.size + 1, off := 0 }).isSome = true := by simp [go_sem, *]
          have rs1 : (w9.cell? { block := w.heap.size + 1, off := 1 }).isSome = true := by simp [go_sem, *]
          refine bodyPost_ret (v := (.tuple #[ratV 0 0, .bool false])) (by simp [results, Try.results26, go_sem, rs0, rs1]; try rfl) rfl ?_
          exact ⟨by rw [hv.out]; rfl, bset (bset HFB.out (by show w.heap.size ≤ w.heap.size + 1; omega) _) (by show w.heap.size ≤ w.heap.size + 1; omega) _⟩
        · have hv := hgood rfl
          clear hgood hbad
          go_wp2_with fail
          have rs0 : (w9.cell? { block := w.heap.size + 1, off := 0 }).isSome = true := by simp [go_sem, *]
          have rs1 : (w9.cell? { block := w.heap.size + 1, off := 1 }).isSome = true := by simp [go_sem, *]
          refine bodyPost_ret (v := (.tuple #[ratV s0' s1', .bool true])) (by simp [results, Try.results26, go_sem, rs0, rs1]; try rfl) rfl ?_
          exact ⟨by rw [hv.out, HSV.out]; rfl, bset (bset HFB.out (by show w.heap.size ≤ w.heap.size + 1; omega) _) (by show w.heap.size ≤ w.heap.size + 1; omega) _⟩
end Go.Proofs.Ytjchindjoailbaa

/- PowerOf of the reference. -/
namespace Go.Proofs.Ytjchindjoailbaa
set_option linter.unusedSimpArgs false
set_option linter.unusedVariables false
open Go.RowKit

set_option maxRecDepth 100000 in
set_option maxHeartbeats 16000000 in
theorem specPowerOf (N E S : Int) (a : Option Addr) (n c : Nat) (l : List Wz) (aq : Option Addr) (nq cq : Nat) (Q : List Rz) (B : Bool) (hB : B = true ↔ PowOk N E S l Q) (w : World) (hr : ArgRow w a n c 3 (wires l)) (hl : l.length = n) (hp : ArgRow w aq nq cq 2 (rats Q)) :
    Calls Try.prog 44 #[netV N E S a n c, .slice aq nq cq] w fun e w' => e = .returned (.tuple #[ratV (sel B (powL S Q l)).1 (sel B (powL S Q l)).2, .bool B]) ∧ Below w.heap.size w w' := by
  have HR := Lib.hid hr
  have HL := Lib.hid hl
  have HP := Lib.hid hp
  have HQl := Lib.hid hp.rats_len
  have HBB := Lib.hid hB
  have hn := hr.le
  have hnq := hp.le
  unfold maxLen at hn hnq
  obtain ⟨ok, hok⟩ := bool_of (NetOk N E S l)
  have KN := Lib.hid (fun (w : World) rr => specNetOk N E S a n c l ok hok w rr hl)
  have HA0 : Hid (((w.alloc (.cells #[.int .i64 N, .int .i64 E, .int .i64 S, .slice a n c] 25)).alloc (.cells #[.int .i64 0, .int .i64 0] 32)).rowIs (w.heap.size + 1) 32 2 (ratAt (0, 0))) := by
    have := ratAt_new (w.alloc (.cells #[.int .i64 N, .int .i64 E, .int .i64 S, .slice a n c] 25)) 0 0 32
    simpa [Hid] using this
  have HP0 : Hid (((w.alloc (.cells #[.int .i64 N, .int .i64 E, .int .i64 S, .slice a n c] 25)).alloc (.cells #[.int .i64 0, .int .i64 0] 32)).rowIs w.heap.size 25 4 (netAt (.int .i64 N) (.int .i64 E) (.int .i64 S) (.slice a n c))) := (netAt_new _ _ _ _ _ _).alloc _
  clear hr hl hp hB
  go_enter Try.func44, Try.ntmps44
  go_wp2_with fail
  refine (KN.out _ (HR.out.below (by (repeat' (first | (with_reducible exact Below.refl _ _) | (with_reducible assumption) | (with_reducible refine balloc ?_ _) | (with_reducible refine Below.drew ?_) | (with_reducible refine below_drewN ?_ _) | (with_reducible refine bset ?_ ?_ _) | (with_reducible refine bstep ?_ (by assumption)) | go_size))))).mono ?_
  rintro e w1 ⟨rfl, hb1⟩
  have HR1 := Lib.hid (HA0.out.of_block (hb1.block _ HA0.out.lt))
  have HN1 := Lib.hid (HP0.out.of_block (hb1.block _ HP0.out.lt))
  have B1 : Hid (Below w.heap.size w w1) := bstep (by (repeat' (first | (with_reducible exact Below.refl _ _) | (with_reducible assumption) | (with_reducible refine balloc ?_ _) | (with_reducible refine Below.drew ?_) | (with_reducible refine below_drewN ?_ _) | (with_reducible refine bset ?_ ?_ _) | (with_reducible refine bstep ?_ (by assumption)) | go_size))) hb1
  clear HA0 HP0 hb1
  have hlN := HN1.out.lt
  have hlR := HR1.out.lt
  obtain ⟨n0, n1, n2, n3⟩ := netAt_cells HN1.out
  have f0 := HR1.out.frozen 0
  have f1 := HR1.out.frozen 1
  obtain ⟨r0, r1⟩ := ratAt_cells HR1.out
  cases ok
  · have hv : Hid (B = false) := bfalse HBB.out (fun h => by have := hok.2 h.net; cases this)
    clear hok
    go_wp2_with fail
    have rs0 : (w1.cell? { block := w.heap.size + 1, off := 0 }).isSome = true := by simp [go_sem, *]
    have rs1 : (w1.cell? { block := w.heap.size + 1, off := 1 }).isSome = true := by simp [go_sem, *]
    refine bodyPost_ret (v := (.tuple #[ratV 0 0, .bool false])) (by simp [results, Try.results44, go_sem, rs0, rs1]; try rfl) rfl ?_
    exact ⟨by rw [hv.out]; rfl, bset (bset B1.out (by show w.heap.size ≤ w.heap.size + 1; omega) _) (by show w.heap.size ≤ w.heap.size + 1; omega) _⟩
  have HNK := Lib.hid (hok.1 rfl)
  clear hok
  by_cases hlen : (nq : Int) = N
  rotate_left
  · have hv : Hid (B = false) := bfalse HBB.out (fun h => hlen (by rw [← HQl.out]; exact h.len))
    have hq1 : ((nq : Int) != N) = true := by simp; omega
    clear hlen
    go_wp2_with fail
    have rs0 : (w1.cell? { block := w.heap.size + 1, off := 0 }).isSome = true := by simp [go_sem, *]
    have rs1 : (w1.cell? { block := w.heap.size + 1, off := 1 }).isSome = true := by simp [go_sem, *]
    refine bodyPost_ret (v := (.tuple #[ratV 0 0, .bool false])) (by simp [results, Try.results44, go_sem, rs0, rs1]; try rfl) rfl ?_
    exact ⟨by rw [hv.out]; rfl, bset (bset B1.out (by show w.heap.size ≤ w.heap.size + 1; omega) _) (by show w.heap.size ≤ w.heap.size + 1; omega) _⟩
  subst hlen
  have HQL : Hid ((Q.length : Int) = nq) := by have := HQl.out; show _ = _; omega
  have hq1 : ((nq : Int) != (nq : Int)) = false := by simp
  have hN1 := HNK.out.h.n1
  go_wp2_with fail
  go_loopw [25] (fun v wr => ∃ k : Nat, k ≤ nq ∧ v = .int .i64 k ∧ Hid (∀ x ∈ Q.take k, okZ x.1 x.2) ∧ Hid (Below w1.heap.size w1 wr)) (fun v _ => nq - (intOf v).toNat)
  case atStart => exact ⟨0, by omega, rfl, by simp [Hid], Below.refl _ _⟩
  case round =>
    obtain ⟨k, hk, rfl, HT, HB⟩ := hrel
    by_cases hlt : k < nq
    · have hli : k < Q.length := by rw [HQl.out]; exact hlt
      have F1 := HP.out.below (B1.out.trans (HB.out.mono B1.out.size))
      obtain ⟨b3, o3, rfl, hbb3, hcc3⟩ := F1.form (by omega)
      obtain ⟨s0, s1⟩ := rat_cells F1 k hli
      obtain ⟨b, hb⟩ := bool_of (okZ Q[k].1 Q[k].2)
      have HY : okZ Q[k].1 Q[k].2 → Hid (∀ x ∈ Q.take (k + 1), okZ x.1 x.2) := fun h x hx => by
        rw [List.take_succ_eq_append_getElem hli] at hx
        rcases List.mem_append.1 hx with hx | hx
        · exact HT.out x hx
        · simp at hx; subst hx; exact h
      have HN : ¬ okZ Q[k].1 Q[k].2 → Hid (B = false) := fun h => bfalse HBB.out (fun h9 => h (h9.ok _ (List.getElem_mem _)))
      have KC := Lib.hid (fun w => specRatioOk Q[k].1 Q[k].2 w b hb)
      generalize Q[k] = x at s0 s1 HY HN KC hb
      obtain ⟨x0, x1⟩ := x
      simp only at hb KC HY HN
      clear hcc3 F1 hli
      have zz1 : ¬ w.heap.size + 1 = wr.heap.size := by have := HB.out.size; omega
      have zz2 : ¬ wr.heap.size = w.heap.size + 1 := by have := HB.out.size; omega
      have zz3 : ¬ b3 = wr.heap.size := by omega
      cases b
      · have HN2 := HN (fun h => by have := hb.2 h; cases this)
        clear hb HY HN
        go_wp2_with fail
        refine (KC.out _).mono ?_
        rintro e w2 ⟨rfl, hb2⟩
        have HB2 : Hid (Below w1.heap.size w1 w2) := bstep (balloc HB.out _) hb2
        have HRr := HR1.out.of_block (HB2.out.block _ hlR)
        have g0 := HRr.frozen 0
        have g1 := HRr.frozen 1
        obtain ⟨j0, j1⟩ := ratAt_cells HRr
        have hlr := HRr.lt
        clear hb2
        go_wp2_with fail
        have rs0 : (w2.cell? { block := w.heap.size + 1, off := 0 }).isSome = true := by simp [go_sem, *]
        have rs1 : (w2.cell? { block := w.heap.size + 1, off := 1 }).isSome = true := by simp [go_sem, *]
        refine bodyPost_ret (v := (.tuple #[ratV 0 0, .bool false])) (by simp [results, Try.results44, go_sem, rs0, rs1]; try rfl) rfl ?_
        exact ⟨by rw [HN2.out]; rfl, bset (bset (B1.out.trans (HB2.out.mono B1.out.size)) (by show w.heap.size ≤ w.heap.size + 1; omega) _) (by show w.heap.size ≤ w.heap.size + 1; omega) _⟩
      · have HY2 := HY (hb.1 rfl)
        clear hb HY HN
        go_wp2_with fail
        refine (KC.out _).mono ?_
        rintro e w2 ⟨rfl, hb2⟩
        have HB2 : Hid (Below w1.heap.size w1 w2) := bstep (balloc HB.out _) hb2
        clear hb2
        go_wp2_with fail
        go_roundw
        case rel => exact ⟨k + 1, by omega, by go_num, HY2.out, HB2.out⟩
        case measure => simp [intOf]; omega
    · obtain rfl : nq = k := by omega
      have hT : Q.take nq = Q := List.take_of_length_le (by rw [HQl.out]; omega)
      have HQO : Hid (∀ x ∈ Q, okZ x.1 x.2) := by have := HT.out; rw [hT] at this; exact this
      have HBW : Hid (Below w.heap.size w wr) := B1.out.trans (HB.out.mono B1.out.size)
      have HN2 := Lib.hid (HN1.out.of_block (HB.out.block _ hlN))
      have HR2 := Lib.hid (HR1.out.of_block (HB.out.block _ hlR))
      clear hT HT HB HR1 HN1 hlN hlR n0 n1 n2 n3 f0 f1 r0 r1 B1
      obtain ⟨wb, rfl⟩ : ∃ wb : World, wb = wr := ⟨_, rfl⟩
      have HR1 := HR2
      have HN1 := HN2
      have hlN2 := HN1.out.lt
      have hlR2 := HR1.out.lt
      obtain ⟨n0, n1, n2, n3⟩ := netAt_cells HN1.out
      clear HR2 HN2
      have HS0 : Hid ((wb.alloc (.cells #[.int .i64 0, .int .i64 1] 32)).rowIs wb.heap.size 32 2 (ratAt (0, 1))) := ratAt_new _ _ _ _
      have ne1 : ¬ w.heap.size = wb.heap.size := by omega
      have ne2 : ¬ w.heap.size + 1 = wb.heap.size := by omega
      go_wp2_with fail
      clear n0 n1 n2 n3
      go_loopw [38] (fun v wr => ∃ k : Nat, k ≤ n ∧ v = .int .i64 k ∧ wb.heap.size < wr.heap.size ∧ Hid (wr.rowIs wb.heap.size 32 2 (ratAt (powL S Q (l.take k)))) ∧ Hid (okZ (powL S Q (l.take k)).1 (powL S Q (l.take k)).2) ∧ Hid (Below wb.heap.size wb wr)) (fun v _ => n - (intOf v).toNat)
      case atStart => exact ⟨0, by omega, rfl, by simp, by show World.rowIs _ _ _ _ _; simpa [powL] using HS0.out, (by show okZ 0 1; refine ⟨by omega, by omega, ?_⟩; rfl), balloc (Below.refl _ _) _⟩
      case round =>
      clear HS0
      obtain ⟨k, hk, rfl, hsz, HS, HOK, HC⟩ := hrel
      obtain ⟨z0, z1⟩ := ratAt_cells HS.out
      by_cases hlt : k < n
      · have hli : k < l.length := by rw [HL.out]; exact hlt
        have G1 := HR.out.below (HBW.out.trans (HC.out.mono HBW.out.size))
        obtain ⟨b4, o4, rfl, hbb4, hcc4⟩ := G1.form (by omega)
        obtain ⟨t0, t1, t2⟩ := wire_cells G1 k hli
        have F2 := HP.out.below (HBW.out.trans (HC.out.mono HBW.out.size))
        have hg := HNK.out.w k hli
        unfold good at hg
        obtain ⟨i0, hi0⟩ : ∃ i0 : Nat, l[k].1 = i0 := ⟨l[k].1.toNat, by omega⟩
        obtain ⟨i1, hi1⟩ : ∃ i1 : Nat, l[k].2.1 = i1 := ⟨l[k].2.1.toNat, by omega⟩
        have hS1 := HNK.out.h.s1
        have hS2 := HNK.out.h.s2
        obtain ⟨bq, oq, rfl, hbbq, hccq⟩ := F2.form (by omega)
        have hj0 : i0 < Q.length := by rw [HQl.out]; omega
        have hj1 : i1 < Q.length := by rw [HQl.out]; omega
        obtain ⟨u0, u1⟩ := rat_cells F2 i0 hj0
        obtain ⟨v0, v1⟩ := rat_cells F2 i1 hj1
        have hK0 : i0 < nq := by omega
        have hK1 : i1 < nq := by omega
        have hSN := powL_snoc (S := S) (Q := Q) hli
        unfold powStep at hSN
        rw [hi0, hi1, getR_eq hj0, getR_eq hj1] at hSN
        have KD := fun w => specDiffR Q[i0] Q[i1] w
        generalize Q[i0] = p at u0 u1 hSN KD
        generalize Q[i1] = q at v0 v1 hSN KD
        rw [hi0] at t0
        rw [hi1] at t1
        rw [hi0, hi1] at hg
        generalize l[k].2.2 = x2 at t2 hSN hg
        generalize diffR p q = D at hSN KD
        have KT1 := fun w => specTimesR D D w
        generalize timesR D D = T at hSN KT1
        have KR := fun w => specRatioOf x2 S w (by omega) (by omega) (by omega) (by omega)
        generalize Gn.rat x2 S = R at hSN KR
        have KT2 := fun w => specTimesR T R w
        generalize timesR T R = F at hSN KT2
        have KS := fun w => specSumR (powL S Q (l.take k)) F w
        generalize powL S Q (l.take k) = s at hSN KS z0 z1 HS HOK
        generalize addR s F = Z at hSN KS
        obtain ⟨p0, p1⟩ := p
        obtain ⟨q0, q1⟩ := q
        obtain ⟨D0, D1⟩ := D
        obtain ⟨T0, T1⟩ := T
        obtain ⟨R0, R1⟩ := R
        obtain ⟨F0, F1⟩ := F
        obtain ⟨s0', s1'⟩ := s
        obtain ⟨Z0, Z1⟩ := Z
        simp only at u0 u1 v0 v1 KD KT1 KR KT2 KS z0 z1
        replace KD := Lib.hid KD
        replace KT1 := Lib.hid KT1
        replace KR := Lib.hid KR
        replace KT2 := Lib.hid KT2
        replace KS := Lib.hid KS
        have HSN := Lib.hid hSN
        obtain ⟨bz, hbz⟩ := bool_of (okZ Z0 Z1)
        have KOZ := Lib.hid (fun w => specRatioOk Z0 Z1 w bz hbz)
        have hbq' : bq < wr.heap.size := hbbq
        have hlN' : w.heap.size < wr.heap.size := by have := HC.out.size; omega
        have HNr := HN1.out.of_block (HC.out.block _ hlN2)
        obtain ⟨n0, n1, n2, n3⟩ := netAt_cells HNr
        have y1 : ¬ b4 = wr.heap.size := by omega
        have zb1 : ¬ bq = wr.heap.size := by omega
        have zb2 : ¬ bq = wr.heap.size + 1 := by omega
        have zb3 : ¬ wr.heap.size + 1 = bq := by omega
        have zb4 : ¬ wr.heap.size + 1 = wr.heap.size := by omega
        clear hcc4 hccq G1 F2 hli hj0 hj1 hi0 hi1 hSN hg HNr
        go_wp2_with fail
        go_upto_region 13 with fail
        go_cut [11] (fun s11 wx => ∃ g : Nat, s11 = .pointer (some ⟨g, 0, none⟩) ∧ MadeQ (wr.alloc (.cells #[.int .i64 i0, .int .i64 i1, .int .i64 x2] 102)) g D0 D1 wx)
        case first =>
          go_region_held3 (fun w' => w'.cell? ⟨wr.heap.size, 0, none⟩ = some (.int .i64 i0) ∧ w'.cell? ⟨wr.heap.size, 1, none⟩ = some (.int .i64 i1) ∧ w'.cell? ⟨bq, oq + i0 * 2, none⟩ = some (.int .i64 p0) ∧ w'.cell? ⟨bq, oq + i0 * 2 + 1, none⟩ = some (.int .i64 p1) ∧ w'.cell? ⟨bq, oq + i1 * 2, none⟩ = some (.int .i64 q0) ∧ w'.cell? ⟨bq, oq + i1 * 2 + 1, none⟩ = some (.int .i64 q1)) (go_keep)
            ((first | (go_at_call 95; ((with_reducible refine (KD.out _).mono ?_); rintro e wD ⟨rfl, hbD⟩); (try (replace hbD := bdrew hbD)); (try (have hq_ := bltn hbD (b := wr.heap.size) (by (first | omega | (simp only [World.size_alloc, World.size_setCell, World.size_drew, World.heap_drewN]; omega))); obtain ⟨uu, vv, zz, nn, mm⟩ := hq_)); (try (have hq_ := bltn hbD (b := wr.heap.size + 1) (by (first | omega | (simp only [World.size_alloc, World.size_setCell, World.size_drew, World.heap_drewN]; omega))); obtain ⟨uu, vv, zz, nn, mm⟩ := hq_)); (try (have hq_ := bltn hbD (b := bq) (by (first | omega | (simp only [World.size_alloc, World.size_setCell, World.size_drew, World.heap_drewN]; omega))); obtain ⟨uu, vv, zz, nn, mm⟩ := hq_)))))
          all_goals
            go_wp2_with fail
            go_meet
            have qd := hbD.size
            try simp only [World.size_alloc, World.size_drew] at qd
            first
              | exact ⟨_, rfl, madeq_alloc _ (by (repeat' (first | (with_reducible exact Below.refl _ _) | (with_reducible assumption) | (with_reducible refine balloc ?_ _) | (with_reducible refine Below.drew ?_) | (with_reducible refine below_drewN ?_ _) | (with_reducible refine bset ?_ ?_ _) | (with_reducible refine bstep ?_ (by assumption)) | go_size))) D0 D1⟩
              | exact ⟨_, rfl, madeq_set (by (repeat' (first | (with_reducible exact Below.refl _ _) | (with_reducible assumption) | (with_reducible refine balloc ?_ _) | (with_reducible refine Below.drew ?_) | (with_reducible refine below_drewN ?_ _) | (with_reducible refine bset ?_ ?_ _) | (with_reducible refine bstep ?_ (by assumption)) | go_size))) (by (first | omega | (simp only [World.size_alloc, World.size_setCell, World.size_drew, World.heap_drewN]; omega))) (by simp only [*]; simp [go_sem]; try rfl) (by simp only [*]; simp [go_sem]; try rfl) D0 D1⟩
        case rest =>
        obtain ⟨g, rfl, hM⟩ := hcut
        obtain ⟨⟨hg1, hg2⟩, ⟨hg3, hg4⟩, hQ⟩ := hM
        obtain ⟨wQ, rfl⟩ : ∃ wQ : World, wQ = wc := ⟨_, rfl⟩
        simp only [World.size_alloc] at hg1 hQ
        have hQr : Below wr.heap.size wr wQ := (balloc (Below.refl _ _) _).trans (hQ.mono (by omega))
        have hlQ : wr.heap.size < wQ.heap.size := by have := hQ.size; simp at this; omega
        have hrd2 : ∀ w', Below wQ.heap.size wQ w' → w'.cell? ⟨g, 0, none⟩ = some (.int .i64 D0) ∧ w'.cell? ⟨g, 1, none⟩ = some (.int .i64 D1) ∧ w'.cell? ⟨wb.heap.size, 0, none⟩ = some (.int .i64 s0') ∧ w'.cell? ⟨wb.heap.size, 1, none⟩ = some (.int .i64 s1') ∧ w'.cell? ⟨wr.heap.size, 2, none⟩ = some (.int .i64 x2) ∧ w'.cell? ⟨w.heap.size, 2, none⟩ = some (.int .i64 S) := fun w' h => by
          have h3 : Below wr.heap.size wr w' := hQr.trans (h.mono (by omega))
          refine ⟨(h.cell (p := ⟨g, 0, none⟩) hg2).trans hg3, (h.cell (p := ⟨g, 1, none⟩) hg2).trans hg4, (h3.cell (p := ⟨wb.heap.size, 0, none⟩) hsz).trans z0, (h3.cell (p := ⟨wb.heap.size, 1, none⟩) hsz).trans z1, ((h.cell (p := ⟨wr.heap.size, 2, none⟩) hlQ).trans (hQ.cell (p := ⟨wr.heap.size, 2, none⟩) (by show wr.heap.size < _; omega))).trans ?_, (h3.cell (p := ⟨w.heap.size, 2, none⟩) hlN').trans n2⟩
          simp only [World.cell?, heap_alloc_new]; rfl
        go_wp2_with fail
        refine region_quiet_tail_in (fun w' => Below wQ.heap.size wQ w') 11 (by kernel_rfl) (by kernel_rfl) (Below.refl _ _).drew ?_
        simp only [List.take_succ_cons, List.take_zero, List.drop_succ_cons, List.drop_zero]
        refine wpQuiet_step (fun K hK => ?_)
        go_simp
        refine ⟨.agg #[.int .i64 s0', .int .i64 s1'], fun w' hw' => ?_, hK _ ?_⟩
        · obtain ⟨c0, c1, c2, c3, c4, c5⟩ := hrd2 w' hw'
          go_simp
        clear hK K
        refine wpQuiet_step (fun K hK => ?_)
        go_simp
        refine ⟨.agg #[.int .i64 D0, .int .i64 D1], fun w' hw' => ?_, hK _ ?_⟩
        · obtain ⟨c0, c1, c2, c3, c4, c5⟩ := hrd2 w' hw'
          go_simp
        clear hK K
        refine wpQuiet_step (fun K hK => ?_)
        go_simp
        refine ⟨.agg #[.int .i64 D0, .int .i64 D1], fun w' hw' => ?_, hK _ ?_⟩
        · obtain ⟨c0, c1, c2, c3, c4, c5⟩ := hrd2 w' hw'
          go_simp
        clear hK K
        refine wpQuiet_step (fun K hK => ?_)
        go_simp
        refine ⟨ratV T0 T1, fun w' hw' => (KT1.out w').mono (fun e w'' h => ⟨h.1, hw'.trans (h.2.mono (by have := hw'.size; simpa using this))⟩), hK _ ?_⟩
        clear hK K
        refine wpQuiet_step (fun K hK => ?_)
        go_simp
        apply Exists.intro
        constructor
        · intro w' hw'; exact rfl
        refine hK _ ?_
        clear hK K
        refine wpQuiet_step (fun K hK => ?_)
        go_simp
        refine ⟨.int .i64 x2, fun w' hw' => ?_, hK _ ?_⟩
        · obtain ⟨c0, c1, c2, c3, c4, c5⟩ := hrd2 w' hw'
          go_simp
        clear hK K
        refine wpQuiet_step (fun K hK => ?_)
        go_simp
        apply Exists.intro
        constructor
        · intro w' hw'; exact rfl
        refine hK _ ?_
        clear hK K
        refine wpQuiet_step (fun K hK => ?_)
        go_simp
        refine ⟨.int .i64 S, fun w' hw' => ?_, hK _ ?_⟩
        · obtain ⟨c0, c1, c2, c3, c4, c5⟩ := hrd2 w' hw'
          go_simp
        clear hK K
        refine wpQuiet_step (fun K hK => ?_)
        go_simp
        refine ⟨ratV R0 R1, fun w' hw' => (KR.out w').mono (fun e w'' h => ⟨h.1, hw'.trans (h.2.mono (by have := hw'.size; simpa using this))⟩), hK _ ?_⟩
        clear hK K
        refine wpQuiet_step (fun K hK => ?_)
        go_simp
        refine ⟨ratV F0 F1, fun w' hw' => (KT2.out w').mono (fun e w'' h => ⟨h.1, hw'.trans (h.2.mono (by have := hw'.size; simpa using this))⟩), hK _ ?_⟩
        clear hK K
        refine wpQuiet_step (fun K hK => ?_)
        go_simp
        refine ⟨ratV Z0 Z1, fun w' hw' => (KS.out w').mono (fun e w'' h => ⟨h.1, hw'.trans (h.2.mono (by have := hw'.size; simpa using this))⟩), hK _ ?_⟩
        clear hK K
        refine wpQuiet_nil ?_
        intro wZ hZ
        have hZr : Below wr.heap.size wr wZ := hQr.trans (hZ.mono (by omega))
        have HSq := HS.out.of_block (hZr.block _ hsz)
        have yf0 := HSq.frozen 0
        have yf1 := HSq.frozen 1
        obtain ⟨y0, y1⟩ := ratAt_cells HSq
        have hlZ := HSq.lt
        have HS8 := Lib.hid (ratAt_set HSq (Z0, Z1))
        have HC8 : Hid (Below wb.heap.size wb ((wZ.setCell ⟨wb.heap.size, 0, none⟩ (.int .i64 Z0)).setCell ⟨wb.heap.size, 1, none⟩ (.int .i64 Z1))) := bset (bset (HC.out.trans (hZr.mono (by omega))) (Nat.le_refl _) _) (Nat.le_refl _) _
        clear HSq hQ hZ hZr hrd2 hQr
        go_wp2_with fail
        refine (KOZ.out _).mono ?_
        rintro e w9 ⟨rfl, hb9⟩
        have hb9' : Below ((wZ.setCell ⟨wb.heap.size, 0, none⟩ (.int .i64 Z0)).setCell ⟨wb.heap.size, 1, none⟩ (.int .i64 Z1)).heap.size ((wZ.setCell ⟨wb.heap.size, 0, none⟩ (.int .i64 Z0)).setCell ⟨wb.heap.size, 1, none⟩ (.int .i64 Z1)) w9 := hb9
        have HS9 := Lib.hid (HS8.out.of_block (hb9'.block _ (by simpa using hlZ)))
        have HC9 : Hid (Below wb.heap.size wb w9) := HC8.out.trans (hb9'.mono HC8.out.size)
        have hl9 := HS9.out.lt
        clear hb9 hb9' HS8 HC8
        cases bz
        · have hv := bfalse HBB.out (fun h9 => powL_bad (k := k + 1) (fun h8 => by rw [HSN.out] at h8; have := hbz.2 h8; cases this) h9.pow)
          have HRr := HR1.out.of_block (HC9.out.block _ hlR2)
          have g0 := HRr.frozen 0
          have g1 := HRr.frozen 1
          obtain ⟨j0, j1⟩ := ratAt_cells HRr
          have hlr := HRr.lt
          clear hbz
          go_wp2_with fail
          have rs0 : (w9.cell? { block := w.heap.size + 1, off := 0 }).isSome = true := by simp [go_sem, *]
          have rs1 : (w9.cell? { block := w.heap.size + 1, off := 1 }).isSome = true := by simp [go_sem, *]
          refine bodyPost_ret (v := (.tuple #[ratV 0 0, .bool false])) (by simp [results, Try.results44, go_sem, rs0, rs1]; try rfl) rfl ?_
          exact ⟨by rw [hv]; rfl, bset (bset (HBW.out.trans (HC9.out.mono HBW.out.size)) (by show w.heap.size ≤ w.heap.size + 1; omega) _) (by show w.heap.size ≤ w.heap.size + 1; omega) _⟩
        have hok2 := Lib.hid (hbz.1 rfl)
        clear hbz
        go_wp2_with fail
        go_roundw
        case rel => exact ⟨k + 1, by omega, by go_num, by simpa using hl9, by rw [HSN.out]; exact HS9.out, by rw [HSN.out]; exact hok2.out, HC9.out⟩
        case measure => simp [intOf]; omega
      · obtain rfl : k = n := by omega
        have hT : l.take k = l := List.take_of_length_le (by rw [HL.out]; omega)
        rw [hT] at HS z0 z1 HOK
        have hv : Hid (B = true) := HBB.out.2 ⟨HNK.out, HQL.out, HQO.out, HOK.out⟩
        obtain ⟨s, hs⟩ : ∃ s, powL S Q l = s := ⟨_, rfl⟩
        rw [hs] at HS z0 z1
        obtain ⟨s0', s1'⟩ := s
        have HSV := Lib.hid hs
        clear hs
        have HRr := HR1.out.of_block (HC.out.block _ hlR2)
        have g0 := HRr.frozen 0
        have g1 := HRr.frozen 1
        obtain ⟨j0, j1⟩ := ratAt_cells HRr
        have hlr := HRr.lt
        have HFB : Hid (Below w.heap.size w wr) := HBW.out.trans (HC.out.mono HBW.out.size)
        clear hT HOK
        go_wp2_with fail
        have rs0 : (wr.cell? { block := w.heap.size + 1, off := 0 }).isSome = true := by simp [go_sem, *]
        have rs1 : (wr.cell? { block := w.heap.size + 1, off := 1 }).isSome = true := by simp [go_sem, *]
        refine bodyPost_ret (v := (.tuple #[ratV s0' s1', .bool true])) (by simp [results, Try.results44, go_sem, rs0, rs1]; try rfl) rfl ?_
        exact ⟨by rw [hv.out, HSV.out]; rfl, bset (bset HFB.out (by show w.heap.size ≤ w.heap.size + 1; omega) _) (by show w.heap.size ≤ w.heap.size + 1; omega) _⟩
end Go.Proofs.Ytjchindjoailbaa
