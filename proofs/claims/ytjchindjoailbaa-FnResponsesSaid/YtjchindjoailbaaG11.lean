/- The table of a network with the sums at its nodes: the program's. -/
import Derived.Test.YtjchindjoailbaaG09
import Derived.Test.YtjchindjoailbaaG10
import Derived.Test.YtjchindjoailbaaG08
import Derived.Test.YtjchindjoailbaaG07
import Derived.Test.YtjchindjoailbaaG04
import Derived.Ground.Names2Prog
import Derived.Shelf.Slices.Clone
import Derived.Shelf.Slices.Delete
import Derived.Shelf.Slices.Cells
import Derived.Test.YtjchindjoailbaaProg
namespace Go.Proofs.Ytjchindjoailbaa
set_option linter.unusedSimpArgs false
set_option linter.unusedVariables false
open Go.RowKit

theorem PG.mono {w : World} {base base' g N k : Nat} {r : Nat → Nat} {f : Nat → Nat → Int} (h : PG w base g N k r f) (hb : base' ≤ base) : PG w base' g N k r f :=
  ⟨h.og, h.rows, h.ne, h.inj, by have := h.lbg; omega, fun i hi => by have := h.lb i hi; omega, h.le⟩
/-- the entries while row i is being turned -/
def lapG (l : List Wz) (i j q j' : Nat) : Int := if q < i then lapE l q j' else if q = i ∧ j' < j then -(wbF l q j') else wbF l q j'
theorem wrap_small {x : Int} (h : -9223372036854775808 ≤ x ∧ x ≤ 9223372036854775807) : wrap64 x = x := by unfold wrap64; omega

set_option maxRecDepth 100000 in
set_option maxHeartbeats 8000000 in
theorem implLapl (M : Nat) (E S : Int) (a : Option Addr) (n c : Nat) (l : List Wz) (hok : NetOk M E S l) (w : World) (hr : ArgRow w a n c 3 (wires l)) (hl : l.length = n) :
    Calls Try.prog 140 #[netV M E S a n c] w fun e w' => ∃ g r, e = .returned (.slice (some ⟨g, 0, none⟩) M M) ∧ PG w' w.heap.size g M M r (fun i j => lapE l i j) ∧ Below w.heap.size w w' := by
  have hM5 : M ≤ 5 := by have := hok.h.n5; omega
  have HR := Lib.hid hr
  have KN := Lib.hid (fun (w : World) r => implNetOk M E S a n c l true ⟨fun _ => hok, fun _ => rfl⟩ w r hl)
  have KT := Lib.hid (fun (w : World) r => implTable M E S a n c l hM5 hok.asc w r hl)
  have KA := Lib.hid (fun (v : Int) (w : World) r => implWeightAt M E S a n c l v w r hl)
  have HWB := Lib.hid hok.wb
  clear hr
  go_enter Try.func140, Try.ntmps140
  go_wp2_with fail
  refine (KN.out _ (HR.out.below (by (repeat' (first | (with_reducible exact Below.refl _ _) | (with_reducible assumption) | (with_reducible refine balloc ?_ _) | (with_reducible refine Below.drew ?_) | (with_reducible refine below_drewN ?_ _) | (with_reducible refine bset ?_ ?_ _) | (with_reducible refine bstep ?_ (by assumption)) | go_size))))).mono ?_
  rintro e w1 ⟨rfl, hb1⟩
  have HB1 : Hid (Below (w.heap.size + 1) (NBox M E S a n c w) w1) := by have := hb1; simpa [Hid] using this
  obtain ⟨hB1, hz1, u1, hz2, hz3⟩ := nbox_cells HB1.out
  go_wp2_with fail
  refine (KT.out _ (HR.out.below hB1)).mono ?_
  rintro e w2 ⟨g, r, rfl, hG, hb2⟩
  have HB2 : Hid (Below (w.heap.size + 1) (NBox M E S a n c w) w2) := HB1.out.trans (hb2.mono (by omega))
  have HG : Hid (PG w2 (w.heap.size + 1) g M M r (fun q j' => lapG l 0 0 q j')) := (hG.mono (by omega)).congr (fun i j _ _ => by simp [lapG])
  clear hG hb2 hB1 u1 hz1 hz2 hz3 hb1
  obtain ⟨hB2, hz1, u1, hz2, hz3⟩ := nbox_cells HB2.out
  clear hB2
  go_wp2_with fail
  go_loopw [13] (fun v wr => ∃ i : Nat, i ≤ M ∧ v = .int .i64 i ∧ Hid (PG wr (w.heap.size + 1) g M M r (fun q j' => lapG l i 0 q j')) ∧ Hid (Below (w.heap.size + 1) (NBox M E S a n c w) wr)) (fun v _ => M - (intOf v).toNat)
  case atStart => exact ⟨0, by omega, rfl, HG.out, HB2.out⟩
  case round =>
    clear hz1 u1 hz2 hz3 HG HB2
    obtain ⟨i, hi, rfl, HG, HB⟩ := hrel
    by_cases hlt : i < M
    · go_wp2_with fail
      go_loopw [18] (fun v wr => ∃ j : Nat, j ≤ M ∧ v = .int .i64 j ∧ Hid (PG wr (w.heap.size + 1) g M M r (fun q j' => lapG l i j q j')) ∧ Hid (Below (w.heap.size + 1) (NBox M E S a n c w) wr)) (fun v _ => M - (intOf v).toNat)
      case atStart => exact ⟨0, by omega, rfl, HG.out, HB.out⟩
      case round =>
        clear HG HB
        obtain ⟨j, hj, rfl, HG, HB⟩ := hrel
        obtain ⟨hB, hz1, u1, hz2, hz3⟩ := nbox_cells HB.out
        have HB' := Lib.hid hB
        clear hB
        by_cases hlj : j < M
        · have hgo := HG.out.og.lt
          have hrl := (HG.out.rows i hlt).lt
          have hco := HG.out.outer (i := i) hlt
          have hce := HG.out.cell (i := i) (j := j) hlt hlj
          have hfe := (HG.out.rows i hlt).frozen j
          have e0 : lapG l i j i j = wbF l i j := by simp [lapG]
          rw [e0] at hce
          have hwb := HWB.out i j
          have hv1 : wrap64 (-(wbF l i j)) = -(wbF l i j) := wrap_small (by omega)
          have hv2 : IntKind.i64.wrap (-(wbF l i j)) = -(wbF l i j) := IntWalk.i64_in _ (by omega)
          have HP := Lib.hid ((HG.out.put (i := i) (j := j) hlt (-(wbF l i j))).congr (f' := fun q j' => lapG l i (j + 1) q j') (fun q j' hq _ => by
            unfold lapG
            by_cases e : q = i
            · by_cases e' : j' = j
              · simp [e, e']
              · by_cases e2 : j' < j
                · simp [e, e', e2, show j' < j + 1 from by omega]
                · simp [e, e', e2, show ¬ j' < j + 1 from by omega]
            · simp [e]))
          have hlg := HG.out.lb i hlt
          have HBP := Lib.hid (HB.out.setCell (p := ⟨r i, j, none⟩) (by show _ ≤ r i; omega) (.int .i64 (-(wbF l i j))))
          generalize wbF l i j = x at hce hwb hv1 hv2 HP HBP
          generalize r i = ρ at hrl hco hce hfe HP HBP
          go_wp2_with fail
          go_region
          all_goals
            go_wp2_with fail
            go_roundw
            case rel => exact ⟨j + 1, by omega, by go_num, HP.out.drewN 1, below_drewN HBP.out 1⟩
            case measure => simp [intOf]; omega
        · obtain rfl : j = M := by omega
          have hgo := HG.out.og.lt
          have hrl := (HG.out.rows i hlt).lt
          have hco := HG.out.outer (i := i) hlt
          obtain ⟨old, hce⟩ : ∃ old, wr.cell? ⟨r i, i, none⟩ = some old := ⟨_, HG.out.cell (i := i) (j := i) hlt hlt⟩
          have hfe := (HG.out.rows i hlt).frozen i
          have hlg := HG.out.lb i hlt
          have hgl := HG.out.lbg
          obtain ⟨ρ, hρ⟩ : ∃ ρ, r i = ρ := ⟨_, rfl⟩
          rw [hρ] at hrl hco hce hfe hlg
          have HΡ := Lib.hid hρ
          clear hρ
          go_wp2_with fail
          go_region_with (go_at_call 55; ((with_reducible refine (KA.out i _ (HR.out.below (by first | exact HB'.out | exact HB'.out.drew | exact below_drewN HB'.out _))).mono ?_); rintro e w6 ⟨rfl, hb6⟩); (try (replace hb6 := bdrew hb6)); (try (have hq_ := bltn hb6 (b := w.heap.size) (by (first | omega | (simp only [World.size_alloc, World.size_setCell, World.size_drew, World.heap_drewN]; omega))); obtain ⟨uu, vv, zz, nn, mm⟩ := hq_)); (try (have hq_ := bltn hb6 (b := g) (by (first | omega | (simp only [World.size_alloc, World.size_setCell, World.size_drew, World.heap_drewN]; omega))); obtain ⟨uu, vv, zz, nn, mm⟩ := hq_)); (try (have hq_ := bltn hb6 (b := ρ) (by (first | omega | (simp only [World.size_alloc, World.size_setCell, World.size_drew, World.heap_drewN]; omega))); obtain ⟨uu, vv, zz, nn, mm⟩ := hq_)))
          all_goals
            have HG7 := (HG.out.below hb6).put (i := i) (j := i) hlt (atSum l i)
            rw [HΡ.out] at HG7
            have HG8 := Lib.hid (HG7.congr (f' := fun q j' => lapG l (i + 1) 0 q j') (fun q j' hq hj' => by
              unfold lapG lapE
              by_cases e : q = i
              · by_cases e' : j' = i
                · simp [e, e']
                · have e3 : ¬ (i : Int) = (j' : Int) := by omega
                  simp [e, e', hj', e3]
              · by_cases e2 : q < i
                · simp [e, e2, show q < i + 1 from by omega]
                · simp [e, e2, show ¬ q < i + 1 from by omega]))
            have HB8 := Lib.hid ((HB.out.trans (hb6.mono (by omega))).setCell (p := ⟨ρ, i, none⟩) (by show _ ≤ ρ; omega) (.int .i64 (atSum l i)))
            clear HG7 hb6
            go_wp2_with fail
            go_roundw
            case rel => exact ⟨i + 1, by omega, by go_num, HG8.out, HB8.out⟩
            case measure => simp [intOf]; omega
    · obtain rfl : i = M := by omega
      obtain ⟨hB, _, _, _, _⟩ := nbox_cells HB.out
      have HG9 := Lib.hid ((HG.out.mono (base' := w.heap.size) (by omega)).congr (f' := fun q j' => lapE l q j') (fun q j' hq _ => by simp [lapG, hq]))
      go_wp2_with fail
      go_ret
      exact ⟨g, r, rfl, HG9.out, hB⟩
end Go.Proofs.Ytjchindjoailbaa

/- The table of a network with the sums at its nodes: the reference's. -/
namespace Go.Proofs.Ytjchindjoailbaa
set_option linter.unusedSimpArgs false
set_option linter.unusedVariables false
open Go.RowKit

/-- row i's first j entries -/
def lapRow (l : List Wz) (i j : Nat) : List Int := (upto j).map fun q => lapE l i q
theorem lapRow_succ (l : List Wz) (i j : Nat) : lapRow l i (j + 1) = lapRow l i j ++ [lapE l i j] := by simp [lapRow, upto_succ]
theorem lapRow_len (l : List Wz) (i j : Nat) : (lapRow l i j).length = j := by simp [lapRow, upto_len]
theorem tab_rows (M : Nat) (l : List Wz) : tab M (lapE l) = (List.range M).map fun q => lapRow l q M := by
  simp [tab, upto, lapRow, Function.comp_def]
theorem own_ne {w : World} {b1 b2 : Nat} {e1 e2 : TypeId} {s1 s2 g1 g2 n1 n2 c1 c2 m1 m2 : Nat} {x1 x2 : List Value} (h1 : w.ownsRow b1 e1 s1 (.slice (some ⟨g1, 0, none⟩) n1 c1) m1 x1) (h2 : w.ownsRow b2 e2 s2 (.slice (some ⟨g2, 0, none⟩) n2 c2) m2 x2) (he : e1 ≠ e2) : g1 ≠ g2 := by
  intro e
  subst e
  obtain ⟨_, h1⟩ := h1
  obtain ⟨_, h2⟩ := h2
  rcases h1 with ⟨h, _⟩ | ⟨g, c, cur, h, _, hc, _⟩
  · cases h
  · rcases h2 with ⟨h', _⟩ | ⟨g', c', cur', h', _, hc', _⟩
    · cases h'
    · cases h; cases h'
      rw [hc] at hc'
      cases hc'
      exact he rfl
theorem infoSl : (Try.prog.info? 79).map (fun i => (i.zero, i.size, i.bytes)) = some (some (.slice none 0 0), 1, 24) := by kernel_rfl
theorem sl_ne : (3 : TypeId) ≠ 79 := by decide
/-- rows of the call's own -/
def OwnRows (w : World) (base M : Nat) (rs : List (Option Addr × Nat × List Int)) : Prop := ∀ x ∈ rs, ∃ b, x.1 = some ⟨b, 0, none⟩ ∧ x.2.2.length = M ∧ w.ownsRow base 3 1 (.slice (some ⟨b, 0, none⟩) M x.2.1) M (ints x.2.2)
theorem OwnRows.below {w w' : World} {base M : Nat} {rs : List (Option Addr × Nat × List Int)} (h : OwnRows w base M rs) (hb : Below w.heap.size w w') : OwnRows w' base M rs := by
  intro x hx
  obtain ⟨b, h1, h2, h3⟩ := h x hx
  exact ⟨b, h1, h2, own_below h3 hb⟩
set_option maxRecDepth 100000 in
set_option maxHeartbeats 8000000 in
theorem specLapl (M : Nat) (E S : Int) (a : Option Addr) (n c : Nat) (l : List Wz) (hok : NetOk M E S l) (w : World) (hr : ArgRow w a n c 3 (wires l)) (hl : l.length = n) :
    Calls Try.prog 149 #[netV M E S a n c] w fun e w' => ∃ g c', e = .returned (.slice (some ⟨g, 0, none⟩) M c') ∧ IGrid w' (some ⟨g, 0, none⟩) M c' (tab M (lapE l)) ∧ Below w.heap.size w w' := by
  obtain ⟨i0, hi, hz0, hz1, hz2⟩ := info_parts infoInt
  have HI := Lib.hid (And.intro hi (And.intro hz0 (And.intro hz1 hz2)))
  clear hi hz0 hz1 hz2
  have hM5 : M ≤ 5 := by have := hok.h.n5; omega
  have HR := Lib.hid hr
  have KN := Lib.hid (fun (w : World) r => specNetOk M E S a n c l true ⟨fun _ => hok, fun _ => rfl⟩ w r hl)
  have KA := Lib.hid (fun (v : Int) (w : World) r => specWeightAt M E S a n c l v w r hl)
  have KW := Lib.hid (fun (p q : Int) (w : World) r => specWB M E S a n c l p q hok.asc w r hl)
  have HWB := Lib.hid hok.wb
  clear hr
  go_enter Try.func149, Try.ntmps149
  go_wp2_with fail
  refine (KN.out _ (HR.out.below (by (repeat' (first | (with_reducible exact Below.refl _ _) | (with_reducible assumption) | (with_reducible refine balloc ?_ _) | (with_reducible refine Below.drew ?_) | (with_reducible refine below_drewN ?_ _) | (with_reducible refine bset ?_ ?_ _) | (with_reducible refine bstep ?_ (by assumption)) | go_size))))).mono ?_
  rintro e w1 ⟨rfl, hb1⟩
  have HB1 : Hid (Below (w.heap.size + 1) (NBox M E S a n c w) w1) := by have := hb1; simpa [Hid] using this
  obtain ⟨hB1, hz1, u1, hz2, hz3⟩ := nbox_cells HB1.out
  go_wp2_with fail
  obtain ⟨j0, ji, jz0, jz1, jz2⟩ := info_parts infoSl
  have HJ := Lib.hid (And.intro ji (And.intro jz0 (And.intro jz1 jz2)))
  clear ji jz0 jz1 jz2
  go_loopw [3, 4] (fun v u wr => ∃ (i g cg : Nat) (rs : List (Option Addr × Nat × List Int)), i ≤ M ∧ u = .int .i64 i ∧ v = .slice (some ⟨g, 0, none⟩) i cg ∧ Hid (wr.ownsRow (w.heap.size + 1) 79 1 (.slice (some ⟨g, 0, none⟩) i cg) i (rs.map slV)) ∧ Hid (rs.map (fun x => x.2.2) = (List.range i).map fun q => lapRow l q M) ∧ Hid (OwnRows wr (w.heap.size + 1) M rs) ∧ Hid (Below (w.heap.size + 1) (NBox M E S a n c w) wr)) (fun _ u _ => M - (intOf u).toNat)
  case atStart => exact ⟨0, w1.heap.size, 0, [], by omega, rfl, rfl, World.ownsRow_lit (base := w.heap.size + 1) (size := 1) w1 #[] 0 (by omega) (by simp) rfl, rfl, fun x hx => by simp at hx, HB1.out.alloc (by omega) _⟩
  case round =>
    clear hb1 HB1 hB1 hz1 u1 hz2 hz3
    obtain ⟨i, g, cg, rs, hi, rfl, rfl, HO, HE, HW, HB⟩ := hrel
    obtain ⟨hB, hz1, u1, hz2, hz3⟩ := nbox_cells HB.out
    by_cases hlt : i < M
    · clear hB
      go_wp2_with fail
      obtain ⟨wo, rfl⟩ : ∃ wo : World, wo = wr := ⟨_, rfl⟩
      clear u1 hz2 hz3
      go_loopw [5, 6] (fun v u wr => ∃ (j h ch : Nat), j ≤ M ∧ u = .int .i64 j ∧ v = .slice (some ⟨h, 0, none⟩) j ch ∧ Hid (wr.ownsRow wo.heap.size 3 1 (.slice (some ⟨h, 0, none⟩) j ch) j (ints (lapRow l i j))) ∧ Hid (Below wo.heap.size wo wr)) (fun _ u _ => M - (intOf u).toNat)
      case atStart => exact ⟨0, wo.heap.size, 0, by omega, rfl, rfl, World.ownsRow_lit (base := wo.heap.size) (size := 1) wo #[] 0 (Nat.le_refl _) (by simp) rfl, (Below.refl _ _).alloc (Nat.le_refl _) _⟩
      case round =>
        obtain ⟨j, h, ch, hj, rfl, rfl, HR5, HB5⟩ := hrel
        have HBW : Hid (Below (w.heap.size + 1) (NBox M E S a n c w) wr) := HB.out.trans (HB5.out.mono (by omega))
        obtain ⟨hB, hy1, u1, hy2, hy3⟩ := nbox_cells HBW.out
        have hsz5 := HB5.out.size
        by_cases hlj : j < M
        · by_cases hij : i = j
          · subst hij
            go_wp2_with fail
            refine (KA.out i _ (HR.out.below hB)).mono ?_
            rintro e w6 ⟨rfl, hb6⟩
            have hown := own_below HR5.out hb6
            have hs6 := hb6.size
            go_wp2_with (at_builtin; refine wpList_append_own _ rfl _ _ 79 rfl wo.heap.size 3 i0 (.int .i64 0) 1 8 Try.underlying79 HI.out.1 HI.out.2.1 HI.out.2.2.1 HI.out.2.2.2 rfl (by decide) _ _ _ rfl (hown.alloc _) ⟨w6.heap.size, 0, none⟩ 1 1 [.int .i64 (atSum l i)] rfl rfl ?c1 ?c2 ?c3 ?c4 ?c5 ?_)
            case c1 => exact cell_one_new _ _ _
            case c2 => intro v hv; simp at hv; subst hv; rfl
            case c3 => unfold maxLen; omega
            case c4 => omega
            case c5 => simp; omega
            intro v' w7 hown' hgrow _
            obtain ⟨h3, c3, rfl⟩ := own_some hown' (by omega)
            have H7 : Hid (w7.ownsRow wo.heap.size 3 1 (.slice (some ⟨h3, 0, none⟩) (i + 1) c3) (i + 1) (ints (lapRow l i (i + 1)))) := by
              show World.ownsRow _ _ _ _ _ _ _
              rw [lapRow_succ, show lapE l i i = atSum l i from if_pos rfl, ← ints_snoc]; exact hown'
            have HB7 : Hid (Below wo.heap.size wo w7) := ((HB5.out.trans (hb6.mono hsz5)).alloc (by omega) _).grown hgrow (by simp; omega) (fun k hk => (hown.lt k hk).1)
            clear hown hown' hgrow
            go_wp2_with fail
            go_roundw
            case rel => exact ⟨i + 1, h3, c3, by omega, by go_num, rfl, H7.out, HB7.out⟩
            case measure => simp [intOf]; omega
          · have hq1 : ((i : Int) == (j : Int)) = false := by simp; omega
            have hq2 : (i == j) = false := by simp; omega
            have hwb := HWB.out i j
            have hle : lapE l i j = -(wbF l i j) := if_neg (by omega)
            have hv1 : wrap64 (-(wbF l i j)) = -(wbF l i j) := by unfold wrap64; omega
            have HLE := Lib.hid hle
            go_wp2_with fail
            refine (KW.out i j _ (HR.out.below hB)).mono ?_
            rintro e w6 ⟨rfl, hb6⟩
            have hown := own_below HR5.out hb6
            have hs6 := hb6.size
            generalize wbF l i j = x at hv1 HLE hwb
            clear hle
            go_wp2_with (at_builtin; refine wpList_append_own _ rfl _ _ 79 rfl wo.heap.size 3 i0 (.int .i64 0) 1 8 Try.underlying79 HI.out.1 HI.out.2.1 HI.out.2.2.1 HI.out.2.2.2 rfl (by decide) _ _ _ rfl (hown.alloc _) ⟨w6.heap.size, 0, none⟩ 1 1 [.int .i64 (-x)] rfl rfl ?c1 ?c2 ?c3 ?c4 ?c5 ?_)
            case c1 => exact cell_one_new _ _ _
            case c2 => intro v hv; simp at hv; subst hv; rfl
            case c3 => unfold maxLen; omega
            case c4 => omega
            case c5 => simp; omega
            intro v' w7 hown' hgrow _
            obtain ⟨h3, c3, rfl⟩ := own_some hown' (by omega)
            have H7 : Hid (w7.ownsRow wo.heap.size 3 1 (.slice (some ⟨h3, 0, none⟩) (j + 1) c3) (j + 1) (ints (lapRow l i (j + 1)))) := by
              show World.ownsRow _ _ _ _ _ _ _
              rw [lapRow_succ, HLE.out, ← ints_snoc]; exact hown'
            have HB7 : Hid (Below wo.heap.size wo w7) := ((HB5.out.trans (hb6.mono hsz5)).alloc (by omega) _).grown hgrow (by simp; omega) (fun k hk => (hown.lt k hk).1)
            clear hown hown' hgrow
            go_wp2_with fail
            go_roundw
            case rel => exact ⟨j + 1, h3, c3, by omega, by go_num, rfl, H7.out, HB7.out⟩
            case measure => simp [intOf]; omega
        · obtain rfl : j = M := by omega
          have hown : wr.ownsRow (w.heap.size + 1) 79 1 (.slice (some ⟨g, 0, none⟩) i cg) i (rs.map slV) := own_below HO.out HB5.out
          have HW5 := Lib.hid (HW.out.below HB5.out)
          have HR6 := Lib.hid (HR5.out.mono (base' := w.heap.size + 1) (by omega))
          clear hB
          go_wp2_with (at_builtin; refine wpList_append_own _ rfl _ _ 114 rfl (w.heap.size + 1) 79 j0 (.slice none 0 0) 1 24 Try.underlying114 HJ.out.1 HJ.out.2.1 HJ.out.2.2.1 HJ.out.2.2.2 rfl (by decide) _ _ _ rfl (hown.alloc _) ⟨wr.heap.size, 0, none⟩ 1 1 [.slice (some ⟨h, 0, none⟩) j ch] rfl rfl ?c1 ?c2 ?c3 ?c4 ?c5 ?_)
          case c1 => exact cell_one_new _ _ _
          case c2 => intro v hv; simp at hv; subst hv; rfl
          case c3 => unfold maxLen; omega
          case c4 => omega
          case c5 => simp; omega
          intro v' w7 hown' hgrow _
          obtain ⟨g3, c3, rfl⟩ := own_some hown' (by omega)
          have H7 : Hid (w7.ownsRow (w.heap.size + 1) 79 1 (.slice (some ⟨g3, 0, none⟩) (i + 1) c3) (i + 1) ((rs ++ [((some ⟨h, 0, none⟩, ch, lapRow l i j) : Option Addr × Nat × List Int)]).map slV)) := by
            show World.ownsRow _ _ _ _ _ _ _
            rw [List.map_append]
            simpa [slV, lapRow_len] using hown'
          have HB7 : Hid (Below (w.heap.size + 1) (NBox j E S a n c w) w7) := (HBW.out.alloc (by omega) _).grown hgrow (by simp; omega) (fun k hk => (hown.lt k hk).1)
          have HW7 : Hid (OwnRows w7 (w.heap.size + 1) j (rs ++ [((some ⟨h, 0, none⟩, ch, lapRow l i j) : Option Addr × Nat × List Int)])) := by
            intro x hx
            have key : ∀ (b c8 : Nat) (xs : List Int), wr.ownsRow (w.heap.size + 1) 3 1 (.slice (some ⟨b, 0, none⟩) j c8) j (ints xs) → w7.ownsRow (w.heap.size + 1) 3 1 (.slice (some ⟨b, 0, none⟩) j c8) j (ints xs) := fun b c8 xs h8 => (h8.alloc _).kept hgrow (.inr (by simp only [Value.ownBlock]; intro e; exact own_ne h8 hown sl_ne (by simpa using e)))
            rcases List.mem_append.1 hx with hx | hx
            · obtain ⟨b, e1, e2, e3⟩ := HW5.out x hx
              exact ⟨b, e1, e2, key _ _ _ e3⟩
            · simp at hx; subst hx
              exact ⟨h, rfl, lapRow_len _ _ _, key _ _ _ HR6.out⟩
          have HE7 : Hid ((rs ++ [((some ⟨h, 0, none⟩, ch, lapRow l i j) : Option Addr × Nat × List Int)]).map (fun x => x.2.2) = (List.range (i + 1)).map fun q => lapRow l q j) := by
            show _ = _
            rw [List.map_append, HE.out, List.range_succ, List.map_append]; rfl
          clear hown hown' hgrow
          go_wp2_with fail
          go_roundw
          case rel => exact ⟨i + 1, g3, c3, _, by omega, by go_num, rfl, H7.out, HE7.out, HW7.out, HB7.out⟩
          case measure => simp [intOf]; omega
    · obtain rfl : i = M := by omega
      have hr0 := ArgRow.own HO.out
      go_wp2_with fail
      go_ret
      refine ⟨g, cg, rfl, ⟨rs, by rw [tab_rows]; exact HE.out, hr0, fun x hx => ?_⟩, hB⟩
      obtain ⟨b, e1, e2, e3⟩ := HW.out x hx
      rw [e1, e2]; exact ArgRow.own e3
end Go.Proofs.Ytjchindjoailbaa

/- The nodes that a list has not: the program's and the reference's. -/
namespace Go.Proofs.Ytjchindjoailbaa
set_option linter.unusedSimpArgs false
set_option linter.unusedVariables false
open Go.RowKit

set_option maxHeartbeats 1000000 in
theorem indexInt (a : Option Addr) (n c : Nat) (m : List Int) (x : Int) (w : World) (hr : ArgRow w a n c 1 (ints m)) :
    Calls Try.prog 171 #[.slice a n c, .int .i64 x] w fun e w' => ∃ i : Int, e = .returned (.int .i64 i) ∧ (0 ≤ i ↔ x ∈ m) ∧ w = w' := by
  have hl := hr.ints_len
  have hn := hr.le
  unfold maxLen at hn
  have R := Lib.hid hr
  have HL := Lib.hid hl
  clear hr hl
  go_enter Try.func171, Try.ntmps171
  go_wp2_with fail
  go_loopw [8] (fun v wr => ∃ k : Nat, k ≤ n ∧ v = .int .i64 k ∧ Hid (¬ x ∈ m.take k) ∧ wr = w) (fun v _ => n - (intOf v).toNat)
  case atStart => exact ⟨0, by omega, rfl, by simp [Hid], rfl⟩
  case round =>
    obtain ⟨k, hk, rfl, HT, rfl⟩ := hrel
    by_cases hlt : k < n
    · obtain ⟨b, o, rfl, _, _⟩ := R.out.form (by omega)
      have hli : k < m.length := by rw [HL.out]; exact hlt
      have p0 := int_cell R.out k hli
      have HM : Hid (m[k] ∈ m) := List.getElem_mem _
      have HS : Hid (m.take (k + 1) = m.take k ++ [m[k]]) := List.take_succ_eq_append_getElem hli
      generalize m[k] = y at p0 HM HS
      clear hli
      by_cases he : x = y
      · subst he
        go_wp2_with fail
        go_ret
        exact ⟨k, rfl, ⟨fun _ => HM.out, fun _ => by omega⟩, rfl⟩
      · have HT2 : Hid (¬ x ∈ m.take (k + 1)) := by
          show ¬ _
          rw [HS.out]
          have := HT.out
          simp only [List.mem_append, List.mem_singleton, not_or]
          exact ⟨this, he⟩
        have hq : (x == y) = false := by simp [he]
        clear he
        go_wp2_with fail
        go_roundw
        case rel => exact ⟨k + 1, by omega, by go_num, HT2.out, by trivial⟩
        case measure => simp [intOf]; omega
    · go_wp2_with fail
      go_ret
      have := HT.out
      rw [List.take_of_length_le (by rw [HL.out]; omega)] at this
      exact ⟨-1, rfl, ⟨fun h => by omega, fun h => absurd h this⟩, rfl⟩
theorem containsInt (a : Option Addr) (n c : Nat) (m : List Int) (x : Int) (b : Bool) (hb : b = true ↔ x ∈ m) (w : World) (hr : ArgRow w a n c 1 (ints m)) :
    Calls Try.prog 165 #[.slice a n c, .int .i64 x] w fun e w' => e = .returned (.bool b) ∧ w = w' := by
  go_enter Try.func165, Try.ntmps165
  go_wp2_with fail
  refine (indexInt a n c m x _ hr).mono ?_
  rintro e w' ⟨i, rfl, hi, rfl⟩
  by_cases h0 : 0 ≤ i
  · have : b = true := hb.2 (hi.1 h0)
    subst this
    clear hi hb
    go_wp2_with fail
    go_ret
    exact ⟨rfl, rfl⟩
  · have : b = false := bfalse hb (fun h => h0 (hi.2 h))
    subst this
    clear hi hb
    go_wp2_with fail
    go_ret
    exact ⟨by show Ending.returned (.bool (decide (0 ≤ i))) = _; rw [decide_eq_false (by omega)], rfl⟩

set_option maxRecDepth 100000 in
set_option maxHeartbeats 8000000 in
theorem implOthers (M : Nat) (E S : Int) (a : Option Addr) (n c : Nat) (al : Option Addr) (nl cl : Nat) (q : List Int) (hM : M ≤ 5) (w : World) (hr : ArgRow w al nl cl 1 (ints q)) :
    Calls Try.prog 141 #[netV M E S a n c, .slice al nl cl] w fun e w' => ∃ g c', e = .returned (.slice (some ⟨g, 0, none⟩) (others M q).length c') ∧ w'.ownsRow w.heap.size 3 1 (.slice (some ⟨g, 0, none⟩) (others M q).length c') (others M q).length (ints (others M q)) ∧ Below w.heap.size w w' := by
  obtain ⟨i0, hi, hz0, hz1, hz2⟩ := info_parts infoInt
  have HI := Lib.hid (And.intro hi (And.intro hz0 (And.intro hz1 hz2)))
  clear hi hz0 hz1 hz2
  have HR := Lib.hid hr
  clear hr
  go_enter Try.func141, Try.ntmps141
  go_wp2_with fail
  go_loopw [5, 10] (fun v u wr => ∃ (k g cq : Nat), k ≤ M ∧ u = .int .i64 k ∧ v = .slice (some ⟨g, 0, none⟩) (others k q).length cq ∧ Hid (wr.ownsRow (w.heap.size + 1) 3 1 (.slice (some ⟨g, 0, none⟩) (others k q).length cq) (others k q).length (ints (others k q))) ∧ Hid (Below (w.heap.size + 1) (NBox M E S a n c w) wr)) (fun _ u _ => M - (intOf u).toNat)
  case atStart => exact ⟨0, w.heap.size + 1, 0, by omega, rfl, rfl, by
    have := World.ownsRow_lit (base := w.heap.size + 1) (size := 1) (e := 3) (NBox M E S a n c w) #[] 0 (by simp) (by simp) rfl
    show World.ownsRow _ _ _ _ _ _ _
    simpa [others, upto, ints] using this, (Below.refl _ _).alloc (by simp) _⟩
  case round =>
    obtain ⟨k, g, cq, hk, rfl, rfl, H, HB⟩ := hrel
    obtain ⟨hB, hz1, u1, hz2, hz3⟩ := nbox_cells HB.out
    by_cases hlt : k < M
    · obtain ⟨b, hb⟩ := bool_of ((k : Int) ∈ q)
      have hsu := others_succ k q b (by cases b <;> simp_all)
      have KC := Lib.hid (fun (w : World) r => containsInt al nl cl q k b hb w r)
      have R1 := Lib.hid (HR.out.below hB)
      have HB' := Lib.hid hB
      clear hb hB
      go_wp2_with fail
      refine (KC.out _ R1.out).mono ?_
      rintro e w1 ⟨rfl, rfl⟩
      cases b with
      | true =>
        rw [if_pos rfl] at hsu
        go_wp2_with fail
        go_roundw
        case rel => exact ⟨k + 1, g, cq, by omega, by go_num, by rw [hsu], by rw [hsu]; exact H.out, HB.out⟩
        case measure => simp [intOf]; omega
      | false =>
        simp only [Bool.false_eq_true, if_false] at hsu
        have hown := H.out
        have hol := others_len k q
        go_wp2_with (at_builtin; refine wpList_append_own _ rfl _ _ 79 rfl (w.heap.size + 1) 3 i0 (.int .i64 0) 1 8 Try.underlying79 HI.out.1 HI.out.2.1 HI.out.2.2.1 HI.out.2.2.2 rfl (by decide) _ _ _ rfl (hown.alloc _) ⟨wr.heap.size, 0, none⟩ 1 1 [.int .i64 k] rfl rfl ?c1 ?c2 ?c3 ?c4 ?c5 ?_)
        case c1 => exact cell_one_new _ _ _
        case c2 => intro v hv; simp at hv; subst hv; rfl
        case c3 => unfold maxLen; omega
        case c4 => omega
        case c5 => simp; omega
        intro v' w2 hown' hgrow _
        obtain ⟨g3, c3, rfl⟩ := own_some hown' (by omega)
        have e3 : (others (k + 1) q).length = (others k q).length + 1 := by rw [hsu]; simp
        have H3 : Hid (w2.ownsRow (w.heap.size + 1) 3 1 (.slice (some ⟨g3, 0, none⟩) (others (k + 1) q).length c3) (others (k + 1) q).length (ints (others (k + 1) q))) := by
          show World.ownsRow _ _ _ _ _ _ _
          rw [e3, hsu, ← ints_snoc]; exact hown'
        have HB3 : Hid (Below (w.heap.size + 1) (NBox M E S a n c w) w2) := (HB.out.alloc (by omega) _).grown hgrow (by simp; omega) (fun k hk => (hown.lt k hk).1)
        clear hown hown' hgrow
        rw [← e3]
        go_wp2_with fail
        go_roundw
        case rel => exact ⟨k + 1, g3, c3, by omega, by go_num, by rw [e3], H3.out, HB3.out⟩
        case measure => simp [intOf]; omega
    · obtain rfl : k = M := by omega
      go_wp2_with fail
      go_ret
      exact ⟨g, cq, rfl, H.out.mono (by omega), hB⟩
set_option maxRecDepth 100000 in
set_option maxHeartbeats 8000000 in
theorem specOthers (M : Nat) (al : Option Addr) (nl cl : Nat) (q : List Int) (hM : M ≤ 5) (w : World) (hr : ArgRow w al nl cl 1 (ints q)) :
    Calls Try.prog 166 #[.int .i64 M, .slice al nl cl] w fun e w' => ∃ g c', e = .returned (.slice (some ⟨g, 0, none⟩) (others M q).length c') ∧ w'.ownsRow w.heap.size 3 1 (.slice (some ⟨g, 0, none⟩) (others M q).length c') (others M q).length (ints (others M q)) ∧ Below w.heap.size w w' := by
  obtain ⟨i0, hi, hz0, hz1, hz2⟩ := info_parts infoInt
  have HI := Lib.hid (And.intro hi (And.intro hz0 (And.intro hz1 hz2)))
  clear hi hz0 hz1 hz2
  have HR := Lib.hid hr
  clear hr
  go_enter Try.func166, Try.ntmps166
  go_wp2_with fail
  go_loopw [5, 6] (fun v u wr => ∃ (k g cq : Nat), k ≤ M ∧ u = .int .i64 k ∧ v = .slice (some ⟨g, 0, none⟩) (others k q).length cq ∧ Hid (wr.ownsRow w.heap.size 3 1 (.slice (some ⟨g, 0, none⟩) (others k q).length cq) (others k q).length (ints (others k q))) ∧ Hid (Below w.heap.size w wr)) (fun _ u _ => M - (intOf u).toNat)
  case atStart => exact ⟨0, w.heap.size, 0, by omega, rfl, rfl, by
    have := World.ownsRow_lit (base := w.heap.size) (size := 1) (e := 3) w #[] 0 (by simp) (by simp) rfl
    show World.ownsRow _ _ _ _ _ _ _
    simpa [others, upto, ints] using this, (Below.refl _ _).alloc (by simp) _⟩
  case round =>
    obtain ⟨k, g, cq, hk, rfl, rfl, H, HB⟩ := hrel
    have hB := HB.out
    have hz1 := hB.size
    by_cases hlt : k < M
    · obtain ⟨b, hb⟩ := bool_of ((k : Int) ∈ q)
      have hsu := others_succ k q b (by cases b <;> simp_all)
      have KC := Lib.hid (fun (w : World) r => specHas al nl cl q k b hb w r)
      have R1 := Lib.hid (HR.out.below hB)
      have HB' := Lib.hid hB
      clear hb hB
      go_wp2_with fail
      refine (KC.out _ R1.out).mono ?_
      rintro e w1 ⟨rfl, rfl⟩
      cases b with
      | true =>
        rw [if_pos rfl] at hsu
        go_wp2_with fail
        go_roundw
        case rel => exact ⟨k + 1, g, cq, by omega, by go_num, by rw [hsu], by rw [hsu]; exact H.out, HB.out⟩
        case measure => simp [intOf]; omega
      | false =>
        simp only [Bool.false_eq_true, if_false] at hsu
        have hown := H.out
        have hol := others_len k q
        go_wp2_with (at_builtin; refine wpList_append_own _ rfl _ _ 79 rfl w.heap.size 3 i0 (.int .i64 0) 1 8 Try.underlying79 HI.out.1 HI.out.2.1 HI.out.2.2.1 HI.out.2.2.2 rfl (by decide) _ _ _ rfl (hown.alloc _) ⟨wr.heap.size, 0, none⟩ 1 1 [.int .i64 k] rfl rfl ?c1 ?c2 ?c3 ?c4 ?c5 ?_)
        case c1 => exact cell_one_new _ _ _
        case c2 => intro v hv; simp at hv; subst hv; rfl
        case c3 => unfold maxLen; omega
        case c4 => omega
        case c5 => simp; omega
        intro v' w2 hown' hgrow _
        obtain ⟨g3, c3, rfl⟩ := own_some hown' (by omega)
        have e3 : (others (k + 1) q).length = (others k q).length + 1 := by rw [hsu]; simp
        have H3 : Hid (w2.ownsRow w.heap.size 3 1 (.slice (some ⟨g3, 0, none⟩) (others (k + 1) q).length c3) (others (k + 1) q).length (ints (others (k + 1) q))) := by
          show World.ownsRow _ _ _ _ _ _ _
          rw [e3, hsu, ← ints_snoc]; exact hown'
        have HB3 : Hid (Below w.heap.size w w2) := (HB.out.alloc (by omega) _).grown hgrow (by simp; omega) (fun k hk => (hown.lt k hk).1)
        clear hown hown' hgrow
        rw [← e3]
        go_wp2_with fail
        go_roundw
        case rel => exact ⟨k + 1, g3, c3, by omega, by go_num, by rw [e3], H3.out, HB3.out⟩
        case measure => simp [intOf]; omega
    · obtain rfl : k = M := by omega
      go_wp2_with fail
      go_ret
      exact ⟨g, cq, rfl, H.out, hB⟩
end Go.Proofs.Ytjchindjoailbaa

/- Copying a slice of numbers, and taking elements out of it: the contracts of the shelf, laid at this program. -/
namespace Go.Proofs
open Go.Shelf
def Try.laysNm215_ren : Go.Shelf.Ren := ⟨fun | 15 => 164 | n => n, fun | 22 => 79 | 3 => 3 | 4 => 4 | n => n, fun | n => n⟩
theorem Try.laysNm215 : Go.Proofs.Lays2.n15 Try.prog Try.laysNm215_ren := {
  mixed := by kernel_rfl
  f15 := Try.func164.trans (congrArg some (by kernel_rfl))
  t3 := Try.underlying3
  a3 := Try.isAgg3
  z3 := Try.sizeOf3
  v3 := Try.zeroValue3
  t4 := Try.underlying4
  a4 := Try.isAgg4
  z4 := Try.sizeOf4
  v4 := Try.zeroValue4
  t22 := Try.underlying79
  a22 := Try.isAgg79
  z22 := Try.sizeOf79
  v22 := Try.zeroValue79
  i3 := by kernel_rfl }
open Go.RowKit Go.Lib in
theorem Try.slices_Clone_int (b off n c : Nat) (zs : List Int) (w : World) (hz : n ≤ zs.length) (hbig : n * 8 ≤ 140737488355328) (hc : ∀ j, j < zs.length → w.cell? ⟨b, off + j, none⟩ = some (.int .i64 (zs.getD j 0))) :
    Calls Try.prog 164 #[.slice (some ⟨b, off, none⟩) n c] w fun e w' => ∃ v', e = .returned v' ∧ w'.ownsRow w.heap.size 3 1 v' n ((zs.take n).map (Value.int .i64)) ∧ v' ≠ .slice none 0 0 ∧ Below w.heap.size w w' := Any.slices_Clone_int Try.laysNm215 b off n c zs w hz hbig hc
def Try.laysNm223_ren : Go.Shelf.Ren := ⟨fun | 23 => 163 | n => n, fun | 22 => 79 | 3 => 3 | 4 => 4 | 0 => 0 | n => n, fun | n => n⟩
theorem Try.laysNm223 : Go.Proofs.Lays2.n23 Try.prog Try.laysNm223_ren := {
  mixed := by kernel_rfl
  f23 := Try.func163.trans (congrArg some (by kernel_rfl))
  t0 := Try.underlying0
  a0 := Try.isAgg0
  z0 := Try.sizeOf0
  v0 := Try.zeroValue0
  t3 := Try.underlying3
  a3 := Try.isAgg3
  z3 := Try.sizeOf3
  v3 := Try.zeroValue3
  t4 := Try.underlying4
  a4 := Try.isAgg4
  z4 := Try.sizeOf4
  v4 := Try.zeroValue4
  t22 := Try.underlying79
  a22 := Try.isAgg79
  z22 := Try.sizeOf79
  v22 := Try.zeroValue79
  i3 := by kernel_rfl }
open Go.RowKit Go.Lib Go.Sort in
theorem Try.slices_Delete_int_cells (b off n c i j : Nat) (zs : List Int) (w : World) (hz : n ≤ zs.length) (hcap : n ≤ c) (hm : c ≤ 9223372036854775807) (hij : i ≤ j) (hj : j ≤ n) (hc : ∀ j, j < zs.length → w.cell? ⟨b, off + j, none⟩ = some (.int .i64 (zs.getD j 0))) (hf : ∀ j, j < n → w.frozen? ⟨b, off + j, none⟩ = false) :
    Calls Try.prog 163 #[.slice (some ⟨b, off, none⟩) n c, .int .i64 i, .int .i64 j] w fun e w' => e = .returned (.slice (some ⟨b, off, none⟩) (n - (j - i)) c) ∧ ∃ q, w' = (w.drewN q).setCells b off (((zs.take n).take i ++ (zs.take n).drop j ++ List.replicate (j - i) 0).map (Value.int .i64)) := Any.slices_Delete_int_cells Try.laysNm223 b off n c i j zs w hz hcap hm hij hj hc hf
end Go.Proofs
