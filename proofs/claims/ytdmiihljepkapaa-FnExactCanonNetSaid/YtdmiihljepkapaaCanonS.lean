/- CanonNet of the reference. -/
import Derived.Test.YtdmiihljepkapaaNetOf
import Derived.Test.YtdmiihljepkapaaNetOk3
import Derived.Test.YtdmiihljepkapaaBound
namespace Go.Proofs.Ytdmiihljepkapaa
set_option linter.unusedSimpArgs false
set_option linter.unusedVariables false
open Go.RowKit

set_option maxRecDepth 100000 in
set_option maxHeartbeats 16000000 in
theorem specCanon (N E : Int) (s : Nat) (a : Option Addr) (n c : Nat) (l : List Wz) (hs1 : 0 < s) (hs2 : s ≤ 1000000000000000000) (hb : ∀ x ∈ l, -1000000000000000000 ≤ x.2.2 ∧ x.2.2 ≤ 1000000000000000000) (hn : n ≤ 1000) (w : World) (hr : ArgRow w a n c 3 (wires l)) (hl : l.length = n) :
    Calls Try.prog 138 #[netV N E s a n c] w fun e w' => ∃ a' c', e = .returned (netV N E (Int.tdiv (s : Int) (gL s l)) a' n c') ∧ w'.ownsRow w.heap.size 104 3 (.slice a' n c') n (wires (divL (gL s l) l)) ∧ Below w.heap.size w w' := by
  obtain ⟨i0, hi, hz0, hz1, hz2⟩ := info_parts infoWire
  have HI := Lib.hid (And.intro hi (And.intro hz0 (And.intro hz1 hz2)))
  clear hi hz0 hz1 hz2
  generalize hD : Int.tdiv (s : Int) (gL s l) = D
  generalize hL2 : divL (gL s l) l = L2
  have HD0 := Lib.hid hD
  have HL20 := Lib.hid hL2
  clear hD hL2
  have HR := Lib.hid hr
  have HL := Lib.hid hl
  have HBD := Lib.hid hb
  have HG0 := Lib.hid (fun L => gL_pos hs1 L)
  have HG1 := Lib.hid (fun L => gL_le hs1 L)
  have HGC := Lib.hid (fun (L : List Wz) (x : Int) (hx : -1000000000000000000 ≤ x ∧ x ≤ 1000000000000000000) (i j : Int) => gcd_step_z (L := L) hs1 hs2 hx i j)
  clear hr hl hb
  have HA0 : Hid (((w.alloc (.cells #[.int .i64 N, .int .i64 E, .int .i64 s, .slice a n c] 25)).alloc (.cells #[.int .i64 0, .int .i64 0, .int .i64 0, .slice none 0 0] 25)).rowIs (w.heap.size + 1) 25 4 (netAt (.int .i64 0) (.int .i64 0) (.int .i64 0) (.slice none 0 0))) := by
    have := netAt_new (w.alloc (.cells #[.int .i64 N, .int .i64 E, .int .i64 s, .slice a n c] 25)) (.int .i64 0) (.int .i64 0) (.int .i64 0) (.slice none 0 0) 25
    simpa [Hid] using this
  have HP0 : Hid (((w.alloc (.cells #[.int .i64 N, .int .i64 E, .int .i64 s, .slice a n c] 25)).alloc (.cells #[.int .i64 0, .int .i64 0, .int .i64 0, .slice none 0 0] 25)).rowIs w.heap.size 25 4 (netAt (.int .i64 N) (.int .i64 E) (.int .i64 s) (.slice a n c))) := (netAt_new _ _ _ _ _ _).alloc _
  go_enter Try.func138, Try.ntmps138
  go_wp2_with fail
  go_loopw [3, 14] (fun gv u wr => ∃ k q : Nat, k ≤ n ∧ u = .int .i64 k ∧ gv = .int .i64 q ∧ Hid (q = gL s (l.take k)) ∧ Hid (wr.rowIs (w.heap.size + 1) 25 4 (netAt (.int .i64 0) (.int .i64 0) (.int .i64 0) (.slice none 0 0))) ∧ Hid (wr.rowIs w.heap.size 25 4 (netAt (.int .i64 N) (.int .i64 E) (.int .i64 s) (.slice a n c))) ∧ Hid (Below w.heap.size w wr)) (fun _ u _ => n - (intOf u).toNat)
  case atStart => exact ⟨0, s, by omega, rfl, rfl, rfl, HA0.out, HP0.out, by show Below _ _ _; (repeat' (first | (with_reducible exact Below.refl _ _) | (with_reducible assumption) | (with_reducible refine balloc ?_ _) | (with_reducible refine Below.drew ?_) | (with_reducible refine below_drewN ?_ _) | (with_reducible refine bset ?_ ?_ _) | (with_reducible refine bstep ?_ (by assumption)) | go_size))⟩
  case round =>
    clear HA0 HP0
    obtain ⟨k, q, hk, rfl, rfl, HQ, HA, HP, HB⟩ := hrel
    have hlA := HA.out.lt
    have hlP := HP.out.lt
    obtain ⟨t0, t1, t2, t3⟩ := netAt_cells HP.out
    have hgq : 0 < q ∧ q ≤ 1000000000000000000 := by
      rw [HQ.out]; exact ⟨HG0.out _, Nat.le_trans (HG1.out _) hs2⟩
    by_cases hlt : k < n
    · have hli : k < l.length := by rw [HL.out]; exact hlt
      obtain ⟨b, o, rfl, hb, _⟩ := HR.out.form (by omega)
      obtain ⟨p0, p1, p2⟩ := wire_cells HR.out k hli
      have hbl : b < wr.heap.size := Nat.lt_of_lt_of_le hb HB.out.size
      rw [← HB.out.cell (p := ⟨b, _, none⟩) hb] at p0 p1 p2
      have hxb := HBD.out l[k] (List.getElem_mem _)
      obtain ⟨q2, hq2⟩ : ∃ q2, q2 = gL s (l.take (k + 1)) := ⟨_, rfl⟩
      have hgv : gcdZ (q : Int) l[k].2.2 = (q2 : Int) := by
        rw [hq2, List.take_succ_eq_append_getElem hli, HQ.out]
        exact HGC.out (l.take k) l[k].2.2 hxb l[k].1 l[k].2.1
      have HQ2 := Lib.hid hq2
      generalize l[k] = x at p0 p1 p2 hxb hgv
      obtain ⟨x0, x1, x2⟩ := x
      simp only at hxb hgv
      have KG := Lib.hid (fun w => specGcd (q : Int) x2 w (by omega) (by omega) (by omega) (by omega))
      rw [hgv] at KG
      clear hli hq2 hgv
      go_wp2_with fail
      refine (KG.out _).mono ?_
      rintro e w9 ⟨rfl, nn, rfl⟩
      go_wp2_with fail
      go_roundw
      case rel => exact ⟨k + 1, q2, by omega, by go_num, rfl, HQ2.out, (HA.out.alloc (.cells #[.int .i64 x0, .int .i64 x1, .int .i64 x2] 104)), (HP.out.alloc (.cells #[.int .i64 x0, .int .i64 x1, .int .i64 x2] 104)), below_drewN (balloc HB.out _) _⟩
      case measure => simp [intOf]; omega
    · obtain rfl : k = n := by omega
      have hqL : q = gL s l := by rw [HQ.out, List.take_of_length_le (by rw [HL.out]; omega)]
      obtain ⟨y, hy⟩ : ∃ y : Nat, s / q = y := ⟨_, rfl⟩
      have hyb : y ≤ s := by rw [← hy]; exact Nat.div_le_self s q
      have hyt : Int.tdiv (s : Int) q = y := by rw [← hy, Int.ofNat_tdiv]
      have hyd : (s : Int) / (q : Int) = (y : Int) := by rw [← hy]; exact (Int.natCast_ediv s q).symm
      clear hy
      have hyi : IntKind.i64.wrap (y : Int) = y := IntWalk.i64_in _ ⟨by omega, by omega⟩
      have hyw : wrap64 (y : Int) = y := wrap_small' ⟨by omega, by omega⟩
      have e1 : IntKind.i64.wrap (Int.tdiv (s : Int) q) = y := by rw [hyt]; exact hyi
      have e1' : wrap64 ((s : Int) / (q : Int)) = y := by rw [hyd]; exact hyw
      have e1'' : IntKind.i64.wrap ((s : Int) / (q : Int)) = y := by rw [hyd]; exact hyi
      have hq0 : ((q : Int) == 0) = false := by simp; omega
      have hq1 : ¬ (q : Int) = 0 := by omega
      have hq2 : ¬ q = 0 := by omega
      have HV : Hid (L2 = divL q l ∧ D = (y : Int)) := ⟨by rw [← HL20.out, ← hqL], by rw [← HD0.out, ← hqL]; exact hyt⟩
      have HN0 : Hid ((wr.alloc (.cells #[.int .i64 N, .int .i64 E, .int .i64 y, .slice none 0 0] 25)).rowIs wr.heap.size 25 4 (netAt (.int .i64 N) (.int .i64 E) (.int .i64 y) (.slice none 0 0))) := netAt_new _ _ _ _ _ _
      obtain ⟨w1, rfl⟩ : ∃ w1 : World, w1 = wr := ⟨_, rfl⟩
      clear HQ hyt hyd hyi hyw hqL
      go_wp2_with fail
      go_region
      all_goals
        go_wp2_with fail
        go_loopw [35] (fun u wr => ∃ (k' cg : Nat) (a' : Option Addr), k' ≤ k ∧ u = .int .i64 k' ∧ w1.heap.size < wr.heap.size ∧ Hid (wr.ownsRow (w1.heap.size + 1) 104 3 (.slice a' k' cg) k' (wires (divL q (l.take k')))) ∧ Hid (wr.rowIs w1.heap.size 25 4 (netAt (.int .i64 N) (.int .i64 E) (.int .i64 y) (.slice a' k' cg))) ∧ Hid (Below w1.heap.size w1 wr)) (fun u _ => k - (intOf u).toNat)
        case atStart => exact ⟨0, 0, none, by omega, rfl, by simp, World.ownsRow_nil _ _ _ _, by first | exact HN0.out | exact HN0.out.drew, by first | exact balloc (Below.refl _ _) _ | exact below_drewN (balloc (Below.refl _ _) _) _ | exact (balloc (Below.refl _ _) _).drew⟩
        case round =>
          clear HN0 t0 t1 t2 t3
          obtain ⟨k', cg, a', hk', rfl, hsz, HO, HN, HC⟩ := hrel
          have HB2 : Hid (Below w.heap.size w wr) := bstep HB.out HC.out
          have HP2 := Lib.hid (HP.out.of_block (HC.out.block _ hlP))
          obtain ⟨t0, t1, t2, t3⟩ := netAt_cells HP2.out
          obtain ⟨n0, n1, n2, n3⟩ := netAt_cells HN.out
          have nf3 := HN.out.frozen 3
          have hlP2 := HP2.out.lt
          by_cases hlt' : k' < k
          · have hli : k' < l.length := by rw [HL.out]; exact hlt'
            obtain ⟨b, o, rfl, hb, _⟩ := HR.out.form (by omega)
            obtain ⟨p0, p1, p2⟩ := wire_cells HR.out k' hli
            have hbl : b < wr.heap.size := Nat.lt_of_lt_of_le hb HB2.out.size
            rw [← HB2.out.cell (p := ⟨b, _, none⟩) hb] at p0 p1 p2
            have hxb := HBD.out l[k'] (List.getElem_mem _)
            have HD : Hid (divL q (l.take (k' + 1)) = divL q (l.take k') ++ [(l[k'].1, l[k'].2.1, Int.tdiv l[k'].2.2 q)]) := by
              show _ = _
              rw [List.take_succ_eq_append_getElem hli, divL, List.map_append]; rfl
            generalize l[k'] = x at p0 p1 p2 hxb HD
            obtain ⟨x0, x1, x2⟩ := x
            simp only at hxb HD
            have hyb2 : -1000000000000000000 ≤ Int.tdiv x2 q ∧ Int.tdiv x2 q ≤ 1000000000000000000 := by
              have h1 := Int.natAbs_tdiv_le_natAbs x2 q
              omega
            generalize hxy : Int.tdiv x2 q = z at HD hyb2
            have e2 : IntKind.i64.wrap z = z := IntWalk.i64_in _ ⟨by omega, by omega⟩
            have hzw : wrap64 z = z := wrap_small' ⟨by omega, by omega⟩
            have hown := (HO.out.alloc (.cells #[.int .i64 x0, .int .i64 x1, .int .i64 z] 104)).alloc (.cells #[.int .i64 x0, .int .i64 x1, .int .i64 z] 104)
            clear hli
            go_wp2_with (at_builtin; refine wpList_append_lies _ rfl _ _ 23 rfl (w1.heap.size + 1) 104 i0 (.agg #[.int .i64 0, .int .i64 0, .int .i64 0]) 3 24 Try.underlying23 HI.out.1 HI.out.2.1 HI.out.2.2.1 HI.out.2.2.2 rfl (by decide) _ _ _ rfl hown ⟨wr.heap.size + 1, 0, none⟩ 1 1 (wireV (x0, x1, z)) rfl rfl ?c1 ?c2 (by omega) ?c3 ?c4 ?c5 _ rfl ?_)
            case c1 => first | (exact fun j u hu => hu) | (have := cell_wire_new (wr.alloc (.cells #[.int .i64 x0, .int .i64 x1, .int .i64 z] 104)) (x0, x1, z) 104; simp only [World.size_alloc] at this; exact this)
            case c2 => exact wireV_one _
            case c3 => unfold maxLen; omega
            case c4 => omega
            case c5 => first | omega | (simp only [World.size_alloc]; omega) | (simp; omega)
            intro g3 c3 w7 hown' hgrow hlies hlt7
            have hs7 := hgrow.size
            simp only [World.size_alloc] at hs7
            have H7 : w7.ownsRow (w1.heap.size + 1) 104 3 (.slice (some ⟨g3, 0, none⟩) (k' + 1) c3) (k' + 1) (wires (divL q (l.take (k' + 1)))) := by rw [HD.out, ← wires_snoc]; exact hown'
            have HN7 : w7.rowIs w1.heap.size 25 4 (netAt (.int .i64 N) (.int .i64 E) (.int .i64 y) (.slice a' k' cg)) := ((HN.out.alloc _).alloc _).of_block (hgrow.block _ (by simp only [World.size_alloc]; omega) (fun e => by have := (hown.lt _ e.symm).1; omega))
            have HC7 : Below w1.heap.size w1 w7 := ((HC.out.alloc (by omega) _).alloc (by simp only [World.size_alloc]; omega) _).grown hgrow (by simp only [World.size_alloc]; omega) (fun q hq => by have := (hown.lt q hq).1; omega)
            have hg3 := (own_base H7 _ rfl).1
            simp only at hg3
            have H8 : Hid ((w7.setCell ⟨w1.heap.size, 3, none⟩ (.slice (some ⟨g3, 0, none⟩) (k' + 1) c3)).ownsRow (w1.heap.size + 1) 104 3 (.slice (some ⟨g3, 0, none⟩) (k' + 1) c3) (k' + 1) (wires (divL q (l.take (k' + 1))))) := H7.kept (grown_set' _ ⟨w1.heap.size, 3, none⟩ _) (.inr (by simp [Value.ownBlock]; omega))
            have HN8 := Lib.hid (netAt_set3 HN7 (.slice (some ⟨g3, 0, none⟩) (k' + 1) c3))
            have HC8 : Hid (Below w1.heap.size w1 (w7.setCell ⟨w1.heap.size, 3, none⟩ (.slice (some ⟨g3, 0, none⟩) (k' + 1) c3))) := HC7.setCell (Nat.le_refl _) _
            have k0 := (netAt_cells HN7).2.2.2
            have k1 := HN7.frozen 3
            have hl7 := HN7.lt
            clear hown hown' hgrow hlies H7 HN7 HC7 n0 n1 n2 n3 nf3
            go_wp2_with fail
            go_roundw
            case rel => exact ⟨k' + 1, c3, some ⟨g3, 0, none⟩, by omega, by go_num, by simpa using hl7, H8.out, HN8.out, HC8.out⟩
            case measure => simp [intOf]; omega
          · obtain rfl : k' = k := by omega
            have hT : l.take k' = l := List.take_of_length_le (by rw [HL.out]; omega)
            have HO2 : Hid (wr.ownsRow (w1.heap.size + 1) 104 3 (.slice a' k' cg) k' (wires (divL q l))) := by have := HO.out; rw [hT] at this; exact this
            have HA2 := Lib.hid (HA.out.of_block (HC.out.block _ hlA))
            have hlA2 := HA2.out.lt
            obtain ⟨r0, r1, r2, r3⟩ := netAt_cells HA2.out
            have f0 := HA2.out.frozen 0
            have f1 := HA2.out.frozen 1
            have f2 := HA2.out.frozen 2
            have f3 := HA2.out.frozen 3
            clear hT HO
            go_wp2_with fail
            have rs0 : (wr.cell? { block := w.heap.size + 1, off := 0 }).isSome = true := by simp [go_sem, *]
            have rs1 : (wr.cell? { block := w.heap.size + 1, off := 1 }).isSome = true := by simp [go_sem, *]
            have rs2 : (wr.cell? { block := w.heap.size + 1, off := 2 }).isSome = true := by simp [go_sem, *]
            have rs3 : (wr.cell? { block := w.heap.size + 1, off := 3 }).isSome = true := by simp [go_sem, *]
            refine bodyPost_ret (v := (netV N E y a' k' cg)) (by simp [results, Try.results138, go_sem, rs0, rs1, rs2, rs3]; try rfl) rfl ?_
            refine ⟨a', cg, by rw [HV.out.2], ?_, by have := HB2.out; (repeat' (first | (with_reducible exact Below.refl _ _) | (with_reducible assumption) | (with_reducible refine balloc ?_ _) | (with_reducible refine Below.drew ?_) | (with_reducible refine below_drewN ?_ _) | (with_reducible refine bset ?_ ?_ _) | (with_reducible refine bstep ?_ (by assumption)) | go_size))⟩
            rw [HV.out.1]
            refine World.ownsRow.mono (base := w.heap.size + 1 + 1) ?_ (by omega)
            have o9 := World.ownsRow.mono (base' := w.heap.size + 1 + 1) HO2.out (by omega)
            repeat' (first | with_reducible exact o9 | (with_reducible refine ownsRow_setCell_below ?_ ?_ _) | (dsimp only; omega) | omega)
set_option maxRecDepth 100000 in
set_option maxHeartbeats 8000000 in
theorem specCanonNet (M : Nat) (E S : Int) (a : Option Addr) (n c : Nat) (l : List Wz) (hok : NetOk M E S l) (w : World) (hr : ArgRow w a n c 3 (wires l)) (hl : l.length = n) :
    Calls Try.prog 64 #[netV M E S a n c] w fun e w' => NetRes e w w' true M E (Int.tdiv S (gL S.toNat l)) (divL (gL S.toNat l) l) ∧ Below w.heap.size w w' := by
  have HR := Lib.hid hr
  have KN := Lib.hid (fun (w : World) rr => specNetOk M E S a n c l true ⟨fun _ => hok, fun _ => rfl⟩ w rr hl)
  have hfew := hok.few
  have hn1 : n ≤ 1000 := by omega
  obtain ⟨s, rfl⟩ : ∃ s : Nat, S = s := ⟨S.toNat, by have := hok.h.s1; omega⟩
  have hs1 : 0 < s := by have := hok.h.s1; omega
  have hs2 : s ≤ 1000000000000000000 := by have := hok.h.s2; omega
  have KC := Lib.hid (fun (w : World) rr => specCanon M E s a n c l hs1 hs2 (fun x hx => by obtain ⟨_, _, _, g4, g5⟩ := hok.good hx; omega) hn1 w rr hl)
  simp only [Int.toNat_natCast]
  have HDL : Hid ((divL (gL s l) l).length = n) := (divL_len _ _).trans hl
  generalize Int.tdiv (s : Int) (gL s l) = D at KC ⊢
  generalize divL (gL s l) l = L2 at KC HDL ⊢
  clear hr hok
  have HA0 : Hid (((w.alloc (.cells #[.int .i64 M, .int .i64 E, .int .i64 s, .slice a n c] 25)).alloc (.cells #[.int .i64 0, .int .i64 0, .int .i64 0, .slice none 0 0] 25)).rowIs (w.heap.size + 1) 25 4 (netAt (.int .i64 0) (.int .i64 0) (.int .i64 0) (.slice none 0 0))) := by
    have := netAt_new (w.alloc (.cells #[.int .i64 M, .int .i64 E, .int .i64 s, .slice a n c] 25)) (.int .i64 0) (.int .i64 0) (.int .i64 0) (.slice none 0 0) 25
    simpa [Hid] using this
  have HP0 : Hid (((w.alloc (.cells #[.int .i64 M, .int .i64 E, .int .i64 s, .slice a n c] 25)).alloc (.cells #[.int .i64 0, .int .i64 0, .int .i64 0, .slice none 0 0] 25)).rowIs w.heap.size 25 4 (netAt (.int .i64 M) (.int .i64 E) (.int .i64 s) (.slice a n c))) := (netAt_new _ _ _ _ _ _).alloc _
  go_enter Try.func64, Try.ntmps64
  go_wp2_with fail
  refine (KN.out _ (HR.out.below (by (repeat' (first | (with_reducible exact Below.refl _ _) | (with_reducible assumption) | (with_reducible refine balloc ?_ _) | (with_reducible refine Below.drew ?_) | (with_reducible refine below_drewN ?_ _) | (with_reducible refine bset ?_ ?_ _) | (with_reducible refine bstep ?_ (by assumption)) | go_size))))).mono ?_
  rintro e w1 ⟨rfl, hb1⟩
  have HA1 := Lib.hid (HA0.out.of_block (hb1.block _ HA0.out.lt))
  have HP1 := Lib.hid (HP0.out.of_block (hb1.block _ HP0.out.lt))
  have B1 : Hid (Below w.heap.size w w1) := bstep (by (repeat' (first | (with_reducible exact Below.refl _ _) | (with_reducible assumption) | (with_reducible refine balloc ?_ _) | (with_reducible refine Below.drew ?_) | (with_reducible refine below_drewN ?_ _) | (with_reducible refine bset ?_ ?_ _) | (with_reducible refine bstep ?_ (by assumption)) | go_size))) hb1
  clear HA0 HP0 hb1
  have hlP1 := HP1.out.lt
  obtain ⟨t0, t1, t2, t3⟩ := netAt_cells HP1.out
  obtain ⟨r0, r1, r2, r3⟩ := netAt_cells HA1.out
  have f0 := HA1.out.frozen 0
  have f1 := HA1.out.frozen 1
  have f2 := HA1.out.frozen 2
  have f3 := HA1.out.frozen 3
  have hlA1 := HA1.out.lt
  have hsA := HA1.out.lt
  go_wp2_with fail
  refine (KC.out _ (HR.out.below B1.out)).mono ?_
  rintro e w2 ⟨a2, c2, rfl, o2, hb2⟩
  have O2 := Lib.hid o2
  clear t0 t1 t2 t3 r0 r1 r2 r3 f0 f1 f2 f3
  have HA2 := Lib.hid (HA1.out.of_block (hb2.block _ HA1.out.lt))
  have HP2 := Lib.hid (HP1.out.of_block (hb2.block _ HP1.out.lt))
  have B2 : Hid (Below w.heap.size w w2) := bstep B1.out hb2
  clear o2 hb2 HA1 HP1
  obtain ⟨r0, r1, r2, r3⟩ := netAt_cells HA2.out
  have f0 := HA2.out.frozen 0
  have f1 := HA2.out.frozen 1
  have f2 := HA2.out.frozen 2
  have f3 := HA2.out.frozen 3
  have hlA2 := HA2.out.lt
  go_wp2_with fail
  have rs0 : (w2.cell? { block := w.heap.size + 1, off := 0 }).isSome = true := by simp [go_sem, *]
  have rs1 : (w2.cell? { block := w.heap.size + 1, off := 1 }).isSome = true := by simp [go_sem, *]
  have rs2 : (w2.cell? { block := w.heap.size + 1, off := 2 }).isSome = true := by simp [go_sem, *]
  have rs3 : (w2.cell? { block := w.heap.size + 1, off := 3 }).isSome = true := by simp [go_sem, *]
  refine bodyPost_ret (v := (.tuple #[netV M E D a2 n c2, .bool true])) (by simp [results, Try.results64, go_sem, rs0, rs1, rs2, rs3]; try rfl) rfl ?_
  refine ⟨?_, by have := B2.out; (repeat' (first | (with_reducible exact Below.refl _ _) | (with_reducible assumption) | (with_reducible refine balloc ?_ _) | (with_reducible refine Below.drew ?_) | (with_reducible refine below_drewN ?_ _) | (with_reducible refine bset ?_ ?_ _) | (with_reducible refine bstep ?_ (by assumption)) | go_size))⟩
  unfold NetRes
  rw [if_pos rfl, HDL.out]
  refine ⟨a2, c2, rfl, ?_⟩
  refine World.ownsRow.mono (base := w.heap.size + 1 + 1) ?_ (by omega)
  have o9 := World.ownsRow.mono (base' := w.heap.size + 1 + 1) O2.out (by omega)
  repeat' (first | with_reducible exact o9 | (with_reducible refine ownsRow_setCell_below ?_ ?_ _) | (dsimp only; omega) | omega)
set_option maxRecDepth 100000 in
set_option maxHeartbeats 8000000 in
theorem specCanonNet0 (N : Int) (E S : Int) (a : Option Addr) (n c : Nat) (l : List Wz) (hok : ¬ NetOk N E S l) (w : World) (hr : ArgRow w a n c 3 (wires l)) (hl : l.length = n) :
    Calls Try.prog 64 #[netV N E S a n c] w fun e w' => e = .returned (.tuple #[netV 0 0 0 none 0 0, .bool false]) ∧ Below w.heap.size w w' := by
  have HR := Lib.hid hr
  have KN := Lib.hid (fun (w : World) rr => specNetOk N E S a n c l false ⟨(fun h => by cases h), fun h => absurd h hok⟩ w rr hl)
  clear hr hok
  have HA0 : Hid (((w.alloc (.cells #[.int .i64 N, .int .i64 E, .int .i64 S, .slice a n c] 25)).alloc (.cells #[.int .i64 0, .int .i64 0, .int .i64 0, .slice none 0 0] 25)).rowIs (w.heap.size + 1) 25 4 (netAt (.int .i64 0) (.int .i64 0) (.int .i64 0) (.slice none 0 0))) := by
    have := netAt_new (w.alloc (.cells #[.int .i64 N, .int .i64 E, .int .i64 S, .slice a n c] 25)) (.int .i64 0) (.int .i64 0) (.int .i64 0) (.slice none 0 0) 25
    simpa [Hid] using this
  have HP0 : Hid (((w.alloc (.cells #[.int .i64 N, .int .i64 E, .int .i64 S, .slice a n c] 25)).alloc (.cells #[.int .i64 0, .int .i64 0, .int .i64 0, .slice none 0 0] 25)).rowIs w.heap.size 25 4 (netAt (.int .i64 N) (.int .i64 E) (.int .i64 S) (.slice a n c))) := (netAt_new _ _ _ _ _ _).alloc _
  go_enter Try.func64, Try.ntmps64
  go_wp2_with fail
  refine (KN.out _ (HR.out.below (by (repeat' (first | (with_reducible exact Below.refl _ _) | (with_reducible assumption) | (with_reducible refine balloc ?_ _) | (with_reducible refine Below.drew ?_) | (with_reducible refine below_drewN ?_ _) | (with_reducible refine bset ?_ ?_ _) | (with_reducible refine bstep ?_ (by assumption)) | go_size))))).mono ?_
  rintro e w1 ⟨rfl, hb1⟩
  have HA1 := Lib.hid (HA0.out.of_block (hb1.block _ HA0.out.lt))
  have HP1 := Lib.hid (HP0.out.of_block (hb1.block _ HP0.out.lt))
  have B1 : Hid (Below w.heap.size w w1) := bstep (by (repeat' (first | (with_reducible exact Below.refl _ _) | (with_reducible assumption) | (with_reducible refine balloc ?_ _) | (with_reducible refine Below.drew ?_) | (with_reducible refine below_drewN ?_ _) | (with_reducible refine bset ?_ ?_ _) | (with_reducible refine bstep ?_ (by assumption)) | go_size))) hb1
  clear HA0 HP0 hb1
  have hlP1 := HP1.out.lt
  obtain ⟨t0, t1, t2, t3⟩ := netAt_cells HP1.out
  obtain ⟨r0, r1, r2, r3⟩ := netAt_cells HA1.out
  have f0 := HA1.out.frozen 0
  have f1 := HA1.out.frozen 1
  have f2 := HA1.out.frozen 2
  have f3 := HA1.out.frozen 3
  have hlA1 := HA1.out.lt
  go_wp2_with fail
  have rs0 : (w1.cell? { block := w.heap.size + 1, off := 0 }).isSome = true := by simp [go_sem, *]
  have rs1 : (w1.cell? { block := w.heap.size + 1, off := 1 }).isSome = true := by simp [go_sem, *]
  have rs2 : (w1.cell? { block := w.heap.size + 1, off := 2 }).isSome = true := by simp [go_sem, *]
  have rs3 : (w1.cell? { block := w.heap.size + 1, off := 3 }).isSome = true := by simp [go_sem, *]
  refine bodyPost_ret (v := (.tuple #[netV 0 0 0 none 0 0, .bool false])) (by simp [results, Try.results64, go_sem, rs0, rs1, rs2, rs3]; try rfl) rfl ?_
  exact ⟨rfl, by have := B1.out; (repeat' (first | (with_reducible exact Below.refl _ _) | (with_reducible assumption) | (with_reducible refine balloc ?_ _) | (with_reducible refine Below.drew ?_) | (with_reducible refine below_drewN ?_ _) | (with_reducible refine bset ?_ ?_ _) | (with_reducible refine bstep ?_ (by assumption)) | go_size))⟩
end Go.Proofs.Ytdmiihljepkapaa
