/- Determinants of the reference. -/
import Derived.Test.YtdmiihljepkapaaDetI
import Derived.Test.YtdmiihljepkapaaNetOk2
import Derived.Test.YtdmiihljepkapaaHeld
import Derived.Deep.RegionLaw
namespace Go.Proofs.Ytdmiihljepkapaa
set_option linter.unusedSimpArgs false
set_option linter.unusedVariables false
open Go.RowKit

/-- an append to an owned row, as a step of a region that draws -/
theorem step_append_own2 {P : Program} (w : World) {ops : Array Oper} {o : Oper} {a : Act} {K : Act → World → Prop} {Q : Exit → Act → World → Prop} {E : Prop} (hgd : o.guard = none) (s x : Operand) (t : TypeId)
    (ho : o.op = .call { callee := .builtin .append, args := #[s, x], argTypes := #[t, t] })
    (base : Nat) (e : TypeId) (i : TypeInfo) (z : Value) (size bytes : Nat) (ht : P.underlying t = some (.slice e)) (hi : P.info? e = some i) (hz : i.zero = some z)
    (hsize : i.size = size) (hby : i.bytes = bytes) (hzs : z.cells.size = size) (hsz : 0 < size)
    (v : Value) (n : Nat) (xs : List Value) (hs : a.eval s = v) (hown : w.ownsRow base e size v n xs)
    (ad : Addr) (m c : Nat) (news : List Value) (hx : a.eval x = .slice (some ad) m c) (hl : news.length = m * size) (hnews : ∀ j u, news[j]? = some u → w.cell? (ad.add j) = some u) (h1 : ∀ u ∈ news, u.oneCell' = true)
    (h63 : n + m ≤ maxLen) (hbytes : (n + m) * bytes ≤ 140737488355328) (hbase : base ≤ w.heap.size)
    (h : ∀ v' w', w'.ownsRow base e size v' (n + m) (xs ++ news) → w.grownBy w' v.ownBlock → (v' = .slice none 0 0 ↔ v = .slice none 0 0 ∧ m = 0) → K (a.put o.dst v') w') :
    if Region.wanted o (yielded ops a.tmps) = true then Oper.wp P o a w K Q else E := by
  have hw : Region.wanted o (yielded ops a.tmps) = true := by simp [Region.wanted, hgd]
  rw [if_pos hw]
  exact wp_append_own w s x t ho base e i z size bytes ht hi hz hsize hby hzs hsz v n xs hs hown ad m c news hx hl hnews h1 h63 hbytes hbase h

theorem ints_one (l : List Int) : ∀ u ∈ ints l, u.oneCell' = true := by
  intro u hu
  unfold ints at hu
  rw [List.mem_flatMap] at hu
  obtain ⟨z, _, h⟩ := hu
  simp at h
  subst h
  rfl
set_option maxRecDepth 100000 in
set_option maxHeartbeats 8000000 in
theorem specDet (n : Nat) (M : List (List Int)) (hn : n ≤ 5) (hsq : ∀ r ∈ M, r.length = n) : ∀ (rows cols : List Int) (am ar ac : Option Addr) (cm nr cr nc cc : Nat) (w : World), IGrid w am n cm M → ArgRow w ar nr cr 1 (ints rows) → ArgRow w ac nc cc 1 (ints cols) → nc = nr → nr ≤ 5 → (∀ x ∈ rows, 0 ≤ x ∧ x < n) → (∀ x ∈ cols, 0 ≤ x ∧ x < n) →
    Calls Try.prog 130 #[.slice am n cm, .slice ar nr cr, .slice ac nc cc] w fun e w' => e = .returned (.int .i64 (detW (ent M) rows cols)) ∧ Below w.heap.size w w' := by
  intro rows
  induction rows with
  | nil =>
    intro cols am ar ac cm nr cr nc cc w hM hr hc hlen h5 hrs hcs
    have hl := hr.ints_len
    simp at hl
    subst hl
    clear hM hr hc hrs hcs
    go_enter Try.func130, Try.ntmps130
    go_wp2_with fail
    go_ret
    exact ⟨rfl, Below.refl _ _⟩
  | cons r rs ih =>
    intro cols am ar ac cm nr cr nc cc w hM hr hc hlen h5 hrs hcs
    obtain rfl : nc = nr := hlen
    have hl := hr.ints_len
    simp at hl
    have hlc := hc.ints_len
    have hcr := hr.2.1
    have hml := hM.len
    obtain ⟨br, or', rfl, hbr, _⟩ := hr.form (by omega)
    obtain ⟨bc, oc, rfl, hbc, _⟩ := hc.form (by omega)
    have hr0 := hrs r (by simp)
    obtain ⟨bm, om, rfl, hbm⟩ := hM.form (by omega)
    obtain ⟨r', rfl⟩ : ∃ r' : Nat, r = r' := ⟨r.toNat, by omega⟩
    obtain ⟨a', c', hcell, hrow⟩ := hM.row r' (by omega)
    have hMr := hsq _ (List.getElem_mem (show r' < M.length by omega))
    rw [hMr] at hcell hrow
    obtain ⟨b', o', rfl, hb', _⟩ := hrow.form (by omega)
    have h0 := int_cell hr 0 (by simp)
    simp only [Nat.add_zero, List.getElem_cons_zero] at h0
    have hent : ∀ q' : Nat, q' < n → ∃ x, ent M r' q' = x ∧ w.cell? ⟨b', o' + q', none⟩ = some (.int .i64 x) := by
      intro q' hq'
      refine ⟨_, rfl, ?_⟩
      have h1 : r' < M.length := by omega
      have h2 : q' < M[r'].length := by omega
      rw [int_cell hrow q' h2]
      unfold ent
      simp [List.getD_eq_getElem?_getD, h1, h2]
    have HM := Lib.hid hM
    have HRT := Lib.hid hr.tail'
    have HC := Lib.hid hc
    have HE := Lib.hid hent
    have HCS := Lib.hid hcs
    have KD := Lib.hid (fun (k : Nat) ar' n1 c1 ac' n2 cc' (w' : World) hM' hr' hc' (h1 : n2 = n1) (h2 : n1 ≤ 5) => ih (cols.eraseIdx k) (some ⟨bm, om, none⟩) ar' ac' cm n1 c1 n2 cc' w' hM' hr' hc' h1 h2 (fun x hx => hrs x (by simp [hx])) (fun x hx => hcs x (List.mem_of_mem_eraseIdx hx)))
    have HST := Lib.hid (fun (k : Nat) (x : Int) hx h => @dsum_step (ent M) (detW (ent M) rs) r' cols k x hx h)
    have HZ := Lib.hid (fun (k : Nat) (x : Int) hx h => @dsum_zero (ent M) (detW (ent M) rs) r' cols k x hx h)
    have HD : Hid (detW (ent M) ((r' : Int) :: rs) cols = dsum (ent M) (detW (ent M) rs) r' cols nc) := by show _ = _; rw [← hlc]; rfl
    have hz : dsum (ent M) (detW (ent M) rs) r' cols 0 = 0 := rfl
    generalize dsum (ent M) (detW (ent M) rs) r' cols = ds at HST HZ HD hz
    have HZ0 := Lib.hid hz
    have HLC := Lib.hid hlc
    have hnz : ((nc : Int) == 0) = false := by simp; omega
    obtain ⟨i0, hi0, hz0, hz1, hz2⟩ := info_parts infoInt
    have HI := Lib.hid (And.intro hi0 (And.intro hz0 (And.intro hz1 hz2)))
    clear hi0 hz0 hz1 hz2
    clear hM hr hc hent hcs ih hrs hz hlc hrow hsq
    go_enter Try.func130, Try.ntmps130
    go_wp2_with fail
    go_loopw [7, 8, 18] (fun s g v wr => ∃ k : Nat, k ≤ nc ∧ v = .int .i64 k ∧ s = .int .i64 (ds k) ∧ g = .int .i64 (sgn k) ∧ Hid (Below w.heap.size w wr)) (fun _ _ v _ => nc - (intOf v).toNat)
    case atStart => exact ⟨0, by omega, rfl, by rw [HZ0.out], rfl, Below.refl _ _⟩
    case round =>
      obtain ⟨k, hk, rfl, rfl, rfl, HB⟩ := hrel
      by_cases hlt : k < nc
      · have hli : k < cols.length := by rw [HLC.out]; exact hlt
        have c1 := int_cell HC.out k hli
        have hcb := HCS.out cols[k] (List.getElem_mem _)
        have HG : Hid (cols.getD k 0 = cols[k]) := by show _ = _; rw [List.getD_eq_getElem?_getD, List.getElem?_eq_getElem hli]; rfl
        generalize cols[k] = q at c1 hcb HG
        obtain ⟨q', rfl⟩ : ∃ q' : Nat, q = q' := ⟨q.toNat, by omega⟩
        obtain ⟨x, hx, c2⟩ := HE.out q' (by omega)
        have HX : Hid (ent M r' (cols.getD k 0) = x) := by show _ = _; rw [HG.out]; exact hx
        have d0 := h0
        have d1 := hcell
        rw [← HB.out.cell (p := ⟨br, _, none⟩) hbr] at d0
        rw [← HB.out.cell (p := ⟨bm, _, none⟩) hbm] at d1
        rw [← HB.out.cell (p := ⟨bc, _, none⟩) hbc] at c1
        rw [← HB.out.cell (p := ⟨b', _, none⟩) hb'] at c2
        have hq' : q' < n := by omega
        clear hli hx hcb
        by_cases h0x : x = 0
        · have HV := Lib.hid (HZ.out k x HX.out h0x)
          have HSG := Lib.hid (sgn_wrap k)
          have hx0 : (x != 0) = false := by simp [h0x]
          clear h0x
          go_wp2_with fail
          go_roundw
          case rel => exact ⟨k + 1, by omega, by go_num, by rw [HV.out], by rw [HSG.out], HB.out⟩
          case measure => simp [intOf]; omega
        · have HV := Lib.hid (HST.out k x HX.out h0x)
          have HSG := Lib.hid (sgn_wrap k)
          have hx0 : (x != 0) = true := by simp [h0x]
          have HCW := Lib.hid (HC.out.below HB.out)
          have HMW := Lib.hid (HM.out.below HB.out)
          have HRW := Lib.hid (HRT.out.below HB.out)
          have hccb : nc ≤ cc := HC.out.2.1
          have hcb2 : bc < wr.heap.size := Nat.lt_of_lt_of_le hbc HB.out.size
          have hnr1 : 1 ≤ nc := by omega
          have hs1 : IntKind.i64.wrap ((k : Int) + 1) = (k : Int) + 1 := IntWalk.i64_in _ (by omega)
          clear h0x
          go_upto_region 10 with fail
          go_cut [12] (fun s12 wx => ∃ a9 c9, s12 = .slice a9 (nc - 1) c9 ∧ Hid (ArgRow wx a9 (nc - 1) c9 1 (ints (cols.eraseIdx k))) ∧ Hid (Below wr.heap.size wr wx))
          case first =>
            have HEM : Hid ((wr.alloc (.cells #[] 3)).drew.ownsRow wr.heap.size 3 1 (.slice (some ⟨wr.heap.size, 0, none⟩) 0 0) 0 []) := World.ownsRow_lit (base := wr.heap.size) (size := 1) wr #[] 0 (Nat.le_refl _) (by simp) rfl
            have N1 : Hid ((ints (cols.take k)).length = k * 1) := by show _ = _; rw [ints_len, List.length_take, HLC.out]; omega
            have N2 : Hid (∀ j u, (ints (cols.take k))[j]? = some u → (wr.alloc (.cells #[] 3)).drew.cell? ((⟨bc, oc, none⟩ : Addr).add j) = some u) := by
              intro j u hu
              have hj := (List.getElem?_eq_some_iff.1 hu).1
              rw [ints_len, List.length_take] at hj
              rw [Addr.add_lit]
              have h9 := int_cell HCW.out j (by omega)
              have hb9 : (wr.alloc (.cells #[] 3)).drew.cell? ⟨bc, oc + j, none⟩ = wr.cell? ⟨bc, oc + j, none⟩ := ((balloc (Below.refl _ _) _).drew).cell (p := ⟨bc, oc + j, none⟩) hcb2
              rw [hb9, h9, ← hu, List.getElem?_eq_getElem (by rw [ints_len, List.length_take]; omega), ints_at _ j (by rw [List.length_take]; omega), List.getElem_take]
            have N3 : Hid (∀ u ∈ ints (cols.take k), u.oneCell' = true) := ints_one _
            have BSTEP1 : Hid (∀ w1 : World, (wr.alloc (.cells #[] 3)).drew.grownBy w1 (Value.ownBlock (.slice (some ⟨wr.heap.size, 0, none⟩) 0 0)) → Below wr.heap.size wr w1) := fun w1 hg => ((balloc (Below.refl _ _) _).drew).grown hg (by simp) (fun q hq => by simp [Value.ownBlock] at hq; omega)
            have hk3 : (0 : Int) ≤ (k : Int) + 1 := by omega
            have hk4 : (k : Int) + 1 ≤ (nc : Int) := by omega
            have hk5 : (k : Int) ≤ (cc : Int) := by omega
            by_cases hck : cc = k + 1
            · have M1 : Hid (([] : List Value).length = 0 * 1) := rfl
              have M2 : Hid (∀ w1 : World, Below wr.heap.size wr w1 → ∀ j u, ([] : List Value)[j]? = some u → w1.cell? ((⟨bc, oc, none⟩ : Addr).add j) = some u) := fun w1 _ j u hu => by simp at hu
              have M3 : Hid (∀ u ∈ ([] : List Value), u.oneCell' = true) := fun u hu => by simp at hu
              have hck2 : (k : Int) ≤ (k : Int) + 1 := by omega
              subst hck
              go_region_law (first
              | (refine step_append_own2 _ rfl (.tmp 34) (.tmp 37) 60 rfl wr.heap.size 3 i0 (.int .i64 0) 1 8 Try.underlying60 HI.out.1 HI.out.2.1 HI.out.2.2.1 HI.out.2.2.2 rfl (by decide) (.slice (some ⟨wr.heap.size, 0, none⟩) 0 0) 0 [] (by simp [Act.eval, Act.put]) HEM.out ⟨bc, oc, none⟩ k (k + 1) (ints (cols.take k)) (by simp [Act.eval, Act.put]) N1.out N2.out N3.out (by unfold maxLen; omega) (by omega) (by simp) ?_; intro v1 w1 hown1 hgrow1 hnil1; rw [Nat.zero_add, List.nil_append] at hown1; have B1 := Lib.hid (BSTEP1.out w1 hgrow1))
              | (refine step_append_own2 _ rfl (.tmp 38) (.tmp 42) 60 rfl wr.heap.size 3 i0 (.int .i64 0) 1 8 Try.underlying60 HI.out.1 HI.out.2.1 HI.out.2.2.1 HI.out.2.2.2 rfl (by decide) v1 k (ints (cols.take k)) (by simp [Act.eval, Act.put]) hown1 ⟨bc, oc, none⟩ 0 0 [] (by simp [Act.eval, Act.put]) M1.out (M2.out w1 B1.out) M3.out (by unfold maxLen; omega) (by omega) (by have := B1.out.size; omega) ?_; intro v2 w2 hown2 hgrow2 hnil2))
              all_goals
                go_wp2_with fail
                go_meet
                have hown3 : w2.ownsRow wr.heap.size 3 1 v2 (nc - 1) (ints (cols.eraseIdx k)) := by
                  have e1 : k + 0 = nc - 1 := by omega
                  have e2 : ints (cols.take k) ++ [] = ints (cols.eraseIdx k) := by
                    rw [List.eraseIdx_eq_take_drop_succ, ints_append]; rw [List.drop_eq_nil_of_le (by rw [HLC.out]; omega)]; rfl
                  rw [← e1, ← e2]; exact hown2
                obtain ⟨a9, c9, rfl⟩ := own_slice hown3
                exact ⟨a9, c9, rfl, ArgRow.own hown3, B1.out.grown hgrow2 (by have := B1.out.size; omega) (fun q hq => (hown1.lt q hq).1)⟩
            · have M1 : Hid ((ints (cols.drop (k + 1))).length = (nc - (k + 1)) * 1) := by show _ = _; rw [ints_len, List.length_drop, HLC.out]; omega
              have M2 : Hid (∀ w1 : World, Below wr.heap.size wr w1 → ∀ j u, (ints (cols.drop (k + 1)))[j]? = some u → w1.cell? ((⟨bc, oc + (k + 1), none⟩ : Addr).add j) = some u) := by
                intro w1 hb1 j u hu
                have hj := (List.getElem?_eq_some_iff.1 hu).1
                rw [ints_len, List.length_drop] at hj
                rw [Addr.add_lit]
                have h9 := int_cell HCW.out (k + 1 + j) (by omega)
                rw [show oc + (k + 1) + j = oc + (k + 1 + j) from by omega, hb1.cell (p := ⟨bc, oc + (k + 1 + j), none⟩) hcb2, h9, ← hu, List.getElem?_eq_getElem (by rw [ints_len, List.length_drop]; omega), ints_at _ j (by rw [List.length_drop]; omega), List.getElem_drop]
              have M3 : Hid (∀ u ∈ ints (cols.drop (k + 1)), u.oneCell' = true) := ints_one _
              have hck2 : ¬ cc - (k + 1) = 0 := by omega
              go_region_law (first
              | (refine step_append_own2 _ rfl (.tmp 34) (.tmp 37) 60 rfl wr.heap.size 3 i0 (.int .i64 0) 1 8 Try.underlying60 HI.out.1 HI.out.2.1 HI.out.2.2.1 HI.out.2.2.2 rfl (by decide) (.slice (some ⟨wr.heap.size, 0, none⟩) 0 0) 0 [] (by simp [Act.eval, Act.put]) HEM.out ⟨bc, oc, none⟩ k cc (ints (cols.take k)) (by simp [Act.eval, Act.put]) N1.out N2.out N3.out (by unfold maxLen; omega) (by omega) (by simp) ?_; intro v1 w1 hown1 hgrow1 hnil1; rw [Nat.zero_add, List.nil_append] at hown1; have B1 := Lib.hid (BSTEP1.out w1 hgrow1))
              | (refine step_append_own2 _ rfl (.tmp 38) (.tmp 42) 60 rfl wr.heap.size 3 i0 (.int .i64 0) 1 8 Try.underlying60 HI.out.1 HI.out.2.1 HI.out.2.2.1 HI.out.2.2.2 rfl (by decide) v1 k (ints (cols.take k)) (by simp [Act.eval, Act.put]) hown1 ⟨bc, oc + (k + 1), none⟩ (nc - (k + 1)) (cc - (k + 1)) (ints (cols.drop (k + 1))) (by simp [Act.eval, Act.put]) M1.out (M2.out w1 B1.out) M3.out (by unfold maxLen; omega) (by omega) (by have := B1.out.size; omega) ?_; intro v2 w2 hown2 hgrow2 hnil2))
              all_goals
                go_wp2_with fail
                go_meet
                have hown3 : w2.ownsRow wr.heap.size 3 1 v2 (nc - 1) (ints (cols.eraseIdx k)) := by
                  have e1 : k + (nc - (k + 1)) = nc - 1 := by omega
                  have e2 : ints (cols.take k) ++ (ints (cols.drop (k + 1))) = ints (cols.eraseIdx k) := by
                    rw [List.eraseIdx_eq_take_drop_succ, ints_append]
                  rw [← e1, ← e2]; exact hown2
                obtain ⟨a9, c9, rfl⟩ := own_slice hown3
                exact ⟨a9, c9, rfl, ArgRow.own hown3, B1.out.grown hgrow2 (by have := B1.out.size; omega) (fun q hq => (hown1.lt q hq).1)⟩
          case rest =>
            obtain ⟨a9, c9, rfl, R9, HB9⟩ := hcut
            have HMX := Lib.hid (HMW.out.below HB9.out)
            have HRX := Lib.hid (HRW.out.below HB9.out)
            by_cases hcr1 : cr = 1
            · subst hcr1
              have hrs0 : rs = [] := List.length_eq_zero_iff.1 (by omega)
              subst hrs0
              have R0 := R9.out
              rw [show nc - 1 = 0 from by omega] at R0
              have R0 := Lib.hid R0
              go_wp2_with fail
              refine (KD.out k (some ⟨br, or', none⟩) 0 0 a9 0 c9 _ HMX.out ⟨rfl, Nat.le_refl _, Nat.zero_le _, .inl rfl⟩ R0.out rfl (by omega)).mono ?_
              rintro e w3 ⟨rfl, hb3⟩
              go_wp2_with fail
              go_roundw
              case rel => exact ⟨k + 1, by omega, by go_num, by (first | rw [HV.out] | (rw [HV.out]; simp only [wrap64, IntKind.wrap_i64])), by (first | rw [HSG.out] | (rw [← HSG.out]; simp only [wrap64, IntKind.wrap_i64])), bstep (bstep HB.out HB9.out) hb3⟩
              case measure => simp [intOf]; omega
            have hcr2 : ¬ cr - 1 = 0 := by omega
            go_wp2_with fail
            refine (KD.out k (some ⟨br, or' + 1, none⟩) (nc - 1) (cr - 1) a9 (nc - 1) c9 _ HMX.out HRX.out R9.out rfl (by omega)).mono ?_
            rintro e w3 ⟨rfl, hb3⟩
            go_wp2_with fail
            go_roundw
            case rel => exact ⟨k + 1, by omega, by go_num, by (first | rw [HV.out] | (rw [HV.out]; simp only [wrap64, IntKind.wrap_i64])), by (first | rw [HSG.out] | (rw [← HSG.out]; simp only [wrap64, IntKind.wrap_i64])), bstep (bstep HB.out HB9.out) hb3⟩
            case measure => simp [intOf]; omega
      · obtain rfl : k = nc := by omega
        go_wp2_with fail
        go_ret
        exact ⟨by rw [HD.out]; rfl, HB.out⟩
end Go.Proofs.Ytdmiihljepkapaa
