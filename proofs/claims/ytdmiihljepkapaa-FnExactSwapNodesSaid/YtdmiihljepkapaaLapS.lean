/- The table of a network with the sums at its nodes: the reference's. -/
import Derived.Test.YtdmiihljepkapaaWB
import Derived.Test.YtdmiihljepkapaaNetOk3
namespace Go.Proofs.Ytdmiihljepkapaa
set_option linter.unusedSimpArgs false
set_option linter.unusedVariables false
open Go.RowKit

/-- row i's first j entries -/
def lapRow (l : List Wz) (i j : Nat) : List Int := (upto j).map fun q => lapE l i q
theorem lapRow_succ (l : List Wz) (i j : Nat) : lapRow l i (j + 1) = lapRow l i j ++ [lapE l i j] := by simp [lapRow, upto_succ]
theorem lapRow_len (l : List Wz) (i j : Nat) : (lapRow l i j).length = j := by simp [lapRow, upto_len]
theorem tab_rows (M : Nat) (l : List Wz) : tab M (lapE l) = (List.range M).map fun q => lapRow l q M := by
  simp [tab, upto, lapRow, Function.comp_def]
theorem own_ne {w : World} {b1 b2 : Nat} {e1 e2 : TypeId} {s1 s2 g1 g2 n1 n2 c1 c2 m1 m2 : Nat} {x1 x2 : List Value} (h1 : w.ownsRow b1 e1 s1 (.slice (some ⟨g1, 0, none⟩) n1 c1) m1 x1) (h2 : w.ownsRow b2 e2 s2 (.slice (some ⟨g2, 0, none⟩) n2 c2) m2 x2) (he : e1 ≠ e2) : g1 ≠ g2 := by
  intro e
  subst e
  obtain ⟨_, h1⟩ := h1
  obtain ⟨_, h2⟩ := h2
  rcases h1 with ⟨h, _⟩ | ⟨g, c, cur, h, _, hc, _⟩
  · cases h
  · rcases h2 with ⟨h', _⟩ | ⟨g', c', cur', h', _, hc', _⟩
    · cases h'
    · cases h; cases h'
      rw [hc] at hc'
      cases hc'
      exact he rfl
theorem infoSl : (Try.prog.info? 60).map (fun i => (i.zero, i.size, i.bytes)) = some (some (.slice none 0 0), 1, 24) := by kernel_rfl
theorem sl_ne : (3 : TypeId) ≠ 60 := by decide
/-- rows of the call's own -/
def OwnRows (w : World) (base M : Nat) (rs : List (Option Addr × Nat × List Int)) : Prop := ∀ x ∈ rs, ∃ b, x.1 = some ⟨b, 0, none⟩ ∧ x.2.2.length = M ∧ w.ownsRow base 3 1 (.slice (some ⟨b, 0, none⟩) M x.2.1) M (ints x.2.2)
theorem OwnRows.below {w w' : World} {base M : Nat} {rs : List (Option Addr × Nat × List Int)} (h : OwnRows w base M rs) (hb : Below w.heap.size w w') : OwnRows w' base M rs := by
  intro x hx
  obtain ⟨b, h1, h2, h3⟩ := h x hx
  exact ⟨b, h1, h2, own_below h3 hb⟩
set_option maxRecDepth 100000 in
set_option maxHeartbeats 8000000 in
theorem specLapl (M : Nat) (E S : Int) (a : Option Addr) (n c : Nat) (l : List Wz) (hok : NetOk M E S l) (w : World) (hr : ArgRow w a n c 3 (wires l)) (hl : l.length = n) :
    Calls Try.prog 68 #[netV M E S a n c] w fun e w' => ∃ g c', e = .returned (.slice (some ⟨g, 0, none⟩) M c') ∧ IGrid w' (some ⟨g, 0, none⟩) M c' (tab M (lapE l)) ∧ Below w.heap.size w w' := by
  obtain ⟨i0, hi, hz0, hz1, hz2⟩ := info_parts infoInt
  have HI := Lib.hid (And.intro hi (And.intro hz0 (And.intro hz1 hz2)))
  clear hi hz0 hz1 hz2
  have hM5 : M ≤ 5 := by have := hok.h.n5; omega
  have HR := Lib.hid hr
  have KN := Lib.hid (fun (w : World) r => specNetOk M E S a n c l true ⟨fun _ => hok, fun _ => rfl⟩ w r hl)
  have KA := Lib.hid (fun (v : Int) (w : World) r => specWeightAt M E S a n c l v w r hl)
  have KW := Lib.hid (fun (p q : Int) (w : World) r => specWB M E S a n c l p q hok.asc w r hl)
  have HWB := Lib.hid hok.wb
  clear hr
  go_enter Try.func68, Try.ntmps68
  go_wp2_with fail
  refine (KN.out _ (HR.out.below (by (repeat' (first | (with_reducible exact Below.refl _ _) | (with_reducible assumption) | (with_reducible refine balloc ?_ _) | (with_reducible refine Below.drew ?_) | (with_reducible refine below_drewN ?_ _) | (with_reducible refine bset ?_ ?_ _) | (with_reducible refine bstep ?_ (by assumption)) | go_size))))).mono ?_
  rintro e w1 ⟨rfl, hb1⟩
  have HB1 : Hid (Below (w.heap.size + 1) (NBox M E S a n c w) w1) := by have := hb1; simpa [Hid] using this
  obtain ⟨hB1, hz1, u1, hz2, hz3⟩ := nbox_cells HB1.out
  go_wp2_with fail
  obtain ⟨j0, ji, jz0, jz1, jz2⟩ := info_parts infoSl
  have HJ := Lib.hid (And.intro ji (And.intro jz0 (And.intro jz1 jz2)))
  clear ji jz0 jz1 jz2
  go_loopw [3, 4] (fun v u wr => ∃ (i g cg : Nat) (rs : List (Option Addr × Nat × List Int)), i ≤ M ∧ u = .int .i64 i ∧ v = .slice (some ⟨g, 0, none⟩) i cg ∧ Hid (wr.ownsRow (w.heap.size + 1) 60 1 (.slice (some ⟨g, 0, none⟩) i cg) i (rs.map slV)) ∧ Hid (rs.map (fun x => x.2.2) = (List.range i).map fun q => lapRow l q M) ∧ Hid (OwnRows wr (w.heap.size + 1) M rs) ∧ Hid (Below (w.heap.size + 1) (NBox M E S a n c w) wr)) (fun _ u _ => M - (intOf u).toNat)
  case atStart => exact ⟨0, w1.heap.size, 0, [], by omega, rfl, rfl, World.ownsRow_lit (base := w.heap.size + 1) (size := 1) w1 #[] 0 (by omega) (by simp) rfl, rfl, fun x hx => by simp at hx, HB1.out.alloc (by omega) _⟩
  case round =>
    clear hb1 HB1 hB1 hz1 u1 hz2 hz3
    obtain ⟨i, g, cg, rs, hi, rfl, rfl, HO, HE, HW, HB⟩ := hrel
    obtain ⟨hB, hz1, u1, hz2, hz3⟩ := nbox_cells HB.out
    by_cases hlt : i < M
    · clear hB
      go_wp2_with fail
      obtain ⟨wo, rfl⟩ : ∃ wo : World, wo = wr := ⟨_, rfl⟩
      clear u1 hz2 hz3
      go_loopw [5, 6] (fun v u wr => ∃ (j h ch : Nat), j ≤ M ∧ u = .int .i64 j ∧ v = .slice (some ⟨h, 0, none⟩) j ch ∧ Hid (wr.ownsRow wo.heap.size 3 1 (.slice (some ⟨h, 0, none⟩) j ch) j (ints (lapRow l i j))) ∧ Hid (Below wo.heap.size wo wr)) (fun _ u _ => M - (intOf u).toNat)
      case atStart => exact ⟨0, wo.heap.size, 0, by omega, rfl, rfl, World.ownsRow_lit (base := wo.heap.size) (size := 1) wo #[] 0 (Nat.le_refl _) (by simp) rfl, (Below.refl _ _).alloc (Nat.le_refl _) _⟩
      case round =>
        obtain ⟨j, h, ch, hj, rfl, rfl, HR5, HB5⟩ := hrel
        have HBW : Hid (Below (w.heap.size + 1) (NBox M E S a n c w) wr) := HB.out.trans (HB5.out.mono (by omega))
        obtain ⟨hB, hy1, u1, hy2, hy3⟩ := nbox_cells HBW.out
        have hsz5 := HB5.out.size
        by_cases hlj : j < M
        · by_cases hij : i = j
          · subst hij
            go_wp2_with fail
            refine (KA.out i _ (HR.out.below hB)).mono ?_
            rintro e w6 ⟨rfl, hb6⟩
            have hown := own_below HR5.out hb6
            have hs6 := hb6.size
            go_wp2_with (at_builtin; refine wpList_append_own _ rfl _ _ 60 rfl wo.heap.size 3 i0 (.int .i64 0) 1 8 Try.underlying60 HI.out.1 HI.out.2.1 HI.out.2.2.1 HI.out.2.2.2 rfl (by decide) _ _ _ rfl (hown.alloc _) ⟨w6.heap.size, 0, none⟩ 1 1 [.int .i64 (atSum l i)] rfl rfl ?c1 ?c2 ?c3 ?c4 ?c5 ?_)
            case c1 => exact cell_one_new _ _ _
            case c2 => intro v hv; simp at hv; subst hv; rfl
            case c3 => unfold maxLen; omega
            case c4 => omega
            case c5 => simp; omega
            intro v' w7 hown' hgrow _
            obtain ⟨h3, c3, rfl⟩ := own_some hown' (by omega)
            have H7 : Hid (w7.ownsRow wo.heap.size 3 1 (.slice (some ⟨h3, 0, none⟩) (i + 1) c3) (i + 1) (ints (lapRow l i (i + 1)))) := by
              show World.ownsRow _ _ _ _ _ _ _
              rw [lapRow_succ, show lapE l i i = atSum l i from if_pos rfl, ← ints_snoc]; exact hown'
            have HB7 : Hid (Below wo.heap.size wo w7) := ((HB5.out.trans (hb6.mono hsz5)).alloc (by omega) _).grown hgrow (by simp; omega) (fun k hk => (hown.lt k hk).1)
            clear hown hown' hgrow
            go_wp2_with fail
            go_roundw
            case rel => exact ⟨i + 1, h3, c3, by omega, by go_num, rfl, H7.out, HB7.out⟩
            case measure => simp [intOf]; omega
          · have hq1 : ((i : Int) == (j : Int)) = false := by simp; omega
            have hq2 : (i == j) = false := by simp; omega
            have hwb := HWB.out i j
            have hle : lapE l i j = -(wbF l i j) := if_neg (by omega)
            have hv1 : wrap64 (-(wbF l i j)) = -(wbF l i j) := by unfold wrap64; omega
            have HLE := Lib.hid hle
            go_wp2_with fail
            refine (KW.out i j _ (HR.out.below hB)).mono ?_
            rintro e w6 ⟨rfl, hb6⟩
            have hown := own_below HR5.out hb6
            have hs6 := hb6.size
            generalize wbF l i j = x at hv1 HLE hwb
            clear hle
            go_wp2_with (at_builtin; refine wpList_append_own _ rfl _ _ 60 rfl wo.heap.size 3 i0 (.int .i64 0) 1 8 Try.underlying60 HI.out.1 HI.out.2.1 HI.out.2.2.1 HI.out.2.2.2 rfl (by decide) _ _ _ rfl (hown.alloc _) ⟨w6.heap.size, 0, none⟩ 1 1 [.int .i64 (-x)] rfl rfl ?c1 ?c2 ?c3 ?c4 ?c5 ?_)
            case c1 => exact cell_one_new _ _ _
            case c2 => intro v hv; simp at hv; subst hv; rfl
            case c3 => unfold maxLen; omega
            case c4 => omega
            case c5 => simp; omega
            intro v' w7 hown' hgrow _
            obtain ⟨h3, c3, rfl⟩ := own_some hown' (by omega)
            have H7 : Hid (w7.ownsRow wo.heap.size 3 1 (.slice (some ⟨h3, 0, none⟩) (j + 1) c3) (j + 1) (ints (lapRow l i (j + 1)))) := by
              show World.ownsRow _ _ _ _ _ _ _
              rw [lapRow_succ, HLE.out, ← ints_snoc]; exact hown'
            have HB7 : Hid (Below wo.heap.size wo w7) := ((HB5.out.trans (hb6.mono hsz5)).alloc (by omega) _).grown hgrow (by simp; omega) (fun k hk => (hown.lt k hk).1)
            clear hown hown' hgrow
            go_wp2_with fail
            go_roundw
            case rel => exact ⟨j + 1, h3, c3, by omega, by go_num, rfl, H7.out, HB7.out⟩
            case measure => simp [intOf]; omega
        · obtain rfl : j = M := by omega
          have hown : wr.ownsRow (w.heap.size + 1) 60 1 (.slice (some ⟨g, 0, none⟩) i cg) i (rs.map slV) := own_below HO.out HB5.out
          have HW5 := Lib.hid (HW.out.below HB5.out)
          have HR6 := Lib.hid (HR5.out.mono (base' := w.heap.size + 1) (by omega))
          clear hB
          go_wp2_with (at_builtin; refine wpList_append_own _ rfl _ _ 59 rfl (w.heap.size + 1) 60 j0 (.slice none 0 0) 1 24 Try.underlying59 HJ.out.1 HJ.out.2.1 HJ.out.2.2.1 HJ.out.2.2.2 rfl (by decide) _ _ _ rfl (hown.alloc _) ⟨wr.heap.size, 0, none⟩ 1 1 [.slice (some ⟨h, 0, none⟩) j ch] rfl rfl ?c1 ?c2 ?c3 ?c4 ?c5 ?_)
          case c1 => exact cell_one_new _ _ _
          case c2 => intro v hv; simp at hv; subst hv; rfl
          case c3 => unfold maxLen; omega
          case c4 => omega
          case c5 => simp; omega
          intro v' w7 hown' hgrow _
          obtain ⟨g3, c3, rfl⟩ := own_some hown' (by omega)
          have H7 : Hid (w7.ownsRow (w.heap.size + 1) 60 1 (.slice (some ⟨g3, 0, none⟩) (i + 1) c3) (i + 1) ((rs ++ [((some ⟨h, 0, none⟩, ch, lapRow l i j) : Option Addr × Nat × List Int)]).map slV)) := by
            show World.ownsRow _ _ _ _ _ _ _
            rw [List.map_append]
            simpa [slV, lapRow_len] using hown'
          have HB7 : Hid (Below (w.heap.size + 1) (NBox j E S a n c w) w7) := (HBW.out.alloc (by omega) _).grown hgrow (by simp; omega) (fun k hk => (hown.lt k hk).1)
          have HW7 : Hid (OwnRows w7 (w.heap.size + 1) j (rs ++ [((some ⟨h, 0, none⟩, ch, lapRow l i j) : Option Addr × Nat × List Int)])) := by
            intro x hx
            have key : ∀ (b c8 : Nat) (xs : List Int), wr.ownsRow (w.heap.size + 1) 3 1 (.slice (some ⟨b, 0, none⟩) j c8) j (ints xs) → w7.ownsRow (w.heap.size + 1) 3 1 (.slice (some ⟨b, 0, none⟩) j c8) j (ints xs) := fun b c8 xs h8 => (h8.alloc _).kept hgrow (.inr (by simp only [Value.ownBlock]; intro e; exact own_ne h8 hown sl_ne (by simpa using e)))
            rcases List.mem_append.1 hx with hx | hx
            · obtain ⟨b, e1, e2, e3⟩ := HW5.out x hx
              exact ⟨b, e1, e2, key _ _ _ e3⟩
            · simp at hx; subst hx
              exact ⟨h, rfl, lapRow_len _ _ _, key _ _ _ HR6.out⟩
          have HE7 : Hid ((rs ++ [((some ⟨h, 0, none⟩, ch, lapRow l i j) : Option Addr × Nat × List Int)]).map (fun x => x.2.2) = (List.range (i + 1)).map fun q => lapRow l q j) := by
            show _ = _
            rw [List.map_append, HE.out, List.range_succ, List.map_append]; rfl
          clear hown hown' hgrow
          go_wp2_with fail
          go_roundw
          case rel => exact ⟨i + 1, g3, c3, _, by omega, by go_num, rfl, H7.out, HE7.out, HW7.out, HB7.out⟩
          case measure => simp [intOf]; omega
    · obtain rfl : i = M := by omega
      have hr0 := ArgRow.own HO.out
      go_wp2_with fail
      go_ret
      refine ⟨g, cg, rfl, ⟨rs, by rw [tab_rows]; exact HE.out, hr0, fun x hx => ?_⟩, hB⟩
      obtain ⟨b, e1, e2, e3⟩ := HW.out x hx
      rw [e1, e2]; exact ArgRow.own e3
end Go.Proofs.Ytdmiihljepkapaa
