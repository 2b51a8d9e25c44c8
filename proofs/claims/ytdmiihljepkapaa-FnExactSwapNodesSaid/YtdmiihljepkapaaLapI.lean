/- The table of a network with the sums at its nodes: the program's. -/
import Derived.Test.YtdmiihljepkapaaTable
import Derived.Test.YtdmiihljepkapaaNetOk
namespace Go.Proofs.Ytdmiihljepkapaa
set_option linter.unusedSimpArgs false
set_option linter.unusedVariables false
open Go.RowKit

theorem PG.mono {w : World} {base base' g N k : Nat} {r : Nat → Nat} {f : Nat → Nat → Int} (h : PG w base g N k r f) (hb : base' ≤ base) : PG w base' g N k r f :=
  ⟨h.og, h.rows, h.ne, h.inj, by have := h.lbg; omega, fun i hi => by have := h.lb i hi; omega, h.le⟩
/-- the entries while row i is being turned -/
def lapG (l : List Wz) (i j q j' : Nat) : Int := if q < i then lapE l q j' else if q = i ∧ j' < j then -(wbF l q j') else wbF l q j'
theorem wrap_small {x : Int} (h : -9223372036854775808 ≤ x ∧ x ≤ 9223372036854775807) : wrap64 x = x := by unfold wrap64; omega

set_option maxRecDepth 100000 in
set_option maxHeartbeats 8000000 in
theorem implLapl (M : Nat) (E S : Int) (a : Option Addr) (n c : Nat) (l : List Wz) (hok : NetOk M E S l) (w : World) (hr : ArgRow w a n c 3 (wires l)) (hl : l.length = n) :
    Calls Try.prog 69 #[netV M E S a n c] w fun e w' => ∃ g r, e = .returned (.slice (some ⟨g, 0, none⟩) M M) ∧ PG w' w.heap.size g M M r (fun i j => lapE l i j) ∧ Below w.heap.size w w' := by
  have hM5 : M ≤ 5 := by have := hok.h.n5; omega
  have HR := Lib.hid hr
  have KN := Lib.hid (fun (w : World) r => implNetOk M E S a n c l true ⟨fun _ => hok, fun _ => rfl⟩ w r hl)
  have KT := Lib.hid (fun (w : World) r => implTable M E S a n c l hM5 hok.asc w r hl)
  have KA := Lib.hid (fun (v : Int) (w : World) r => implWeightAt M E S a n c l v w r hl)
  have HWB := Lib.hid hok.wb
  clear hr
  go_enter Try.func69, Try.ntmps69
  go_wp2_with fail
  refine (KN.out _ (HR.out.below (by (repeat' (first | (with_reducible exact Below.refl _ _) | (with_reducible assumption) | (with_reducible refine balloc ?_ _) | (with_reducible refine Below.drew ?_) | (with_reducible refine below_drewN ?_ _) | (with_reducible refine bset ?_ ?_ _) | (with_reducible refine bstep ?_ (by assumption)) | go_size))))).mono ?_
  rintro e w1 ⟨rfl, hb1⟩
  have HB1 : Hid (Below (w.heap.size + 1) (NBox M E S a n c w) w1) := by have := hb1; simpa [Hid] using this
  obtain ⟨hB1, hz1, u1, hz2, hz3⟩ := nbox_cells HB1.out
  go_wp2_with fail
  refine (KT.out _ (HR.out.below hB1)).mono ?_
  rintro e w2 ⟨g, r, rfl, hG, hb2⟩
  have HB2 : Hid (Below (w.heap.size + 1) (NBox M E S a n c w) w2) := HB1.out.trans (hb2.mono (by omega))
  have HG : Hid (PG w2 (w.heap.size + 1) g M M r (fun q j' => lapG l 0 0 q j')) := (hG.mono (by omega)).congr (fun i j _ _ => by simp [lapG])
  clear hG hb2 hB1 u1 hz1 hz2 hz3 hb1
  obtain ⟨hB2, hz1, u1, hz2, hz3⟩ := nbox_cells HB2.out
  clear hB2
  go_wp2_with fail
  go_loopw [13] (fun v wr => ∃ i : Nat, i ≤ M ∧ v = .int .i64 i ∧ Hid (PG wr (w.heap.size + 1) g M M r (fun q j' => lapG l i 0 q j')) ∧ Hid (Below (w.heap.size + 1) (NBox M E S a n c w) wr)) (fun v _ => M - (intOf v).toNat)
  case atStart => exact ⟨0, by omega, rfl, HG.out, HB2.out⟩
  case round =>
    clear hz1 u1 hz2 hz3 HG HB2
    obtain ⟨i, hi, rfl, HG, HB⟩ := hrel
    by_cases hlt : i < M
    · go_wp2_with fail
      go_loopw [18] (fun v wr => ∃ j : Nat, j ≤ M ∧ v = .int .i64 j ∧ Hid (PG wr (w.heap.size + 1) g M M r (fun q j' => lapG l i j q j')) ∧ Hid (Below (w.heap.size + 1) (NBox M E S a n c w) wr)) (fun v _ => M - (intOf v).toNat)
      case atStart => exact ⟨0, by omega, rfl, HG.out, HB.out⟩
      case round =>
        clear HG HB
        obtain ⟨j, hj, rfl, HG, HB⟩ := hrel
        obtain ⟨hB, hz1, u1, hz2, hz3⟩ := nbox_cells HB.out
        have HB' := Lib.hid hB
        clear hB
        by_cases hlj : j < M
        · have hgo := HG.out.og.lt
          have hrl := (HG.out.rows i hlt).lt
          have hco := HG.out.outer (i := i) hlt
          have hce := HG.out.cell (i := i) (j := j) hlt hlj
          have hfe := (HG.out.rows i hlt).frozen j
          have e0 : lapG l i j i j = wbF l i j := by simp [lapG]
          rw [e0] at hce
          have hwb := HWB.out i j
          have hv1 : wrap64 (-(wbF l i j)) = -(wbF l i j) := wrap_small (by omega)
          have hv2 : IntKind.i64.wrap (-(wbF l i j)) = -(wbF l i j) := IntWalk.i64_in _ (by omega)
          have HP := Lib.hid ((HG.out.put (i := i) (j := j) hlt (-(wbF l i j))).congr (f' := fun q j' => lapG l i (j + 1) q j') (fun q j' hq _ => by
            unfold lapG
            by_cases e : q = i
            · by_cases e' : j' = j
              · simp [e, e']
              · by_cases e2 : j' < j
                · simp [e, e', e2, show j' < j + 1 from by omega]
                · simp [e, e', e2, show ¬ j' < j + 1 from by omega]
            · simp [e]))
          have hlg := HG.out.lb i hlt
          have HBP := Lib.hid (HB.out.setCell (p := ⟨r i, j, none⟩) (by show _ ≤ r i; omega) (.int .i64 (-(wbF l i j))))
          generalize wbF l i j = x at hce hwb hv1 hv2 HP HBP
          generalize r i = ρ at hrl hco hce hfe HP HBP
          go_wp2_with fail
          go_region
          all_goals
            go_wp2_with fail
            go_roundw
            case rel => exact ⟨j + 1, by omega, by go_num, HP.out.drewN 1, below_drewN HBP.out 1⟩
            case measure => simp [intOf]; omega
        · obtain rfl : j = M := by omega
          have hgo := HG.out.og.lt
          have hrl := (HG.out.rows i hlt).lt
          have hco := HG.out.outer (i := i) hlt
          obtain ⟨old, hce⟩ : ∃ old, wr.cell? ⟨r i, i, none⟩ = some old := ⟨_, HG.out.cell (i := i) (j := i) hlt hlt⟩
          have hfe := (HG.out.rows i hlt).frozen i
          have hlg := HG.out.lb i hlt
          have hgl := HG.out.lbg
          obtain ⟨ρ, hρ⟩ : ∃ ρ, r i = ρ := ⟨_, rfl⟩
          rw [hρ] at hrl hco hce hfe hlg
          have HΡ := Lib.hid hρ
          clear hρ
          go_wp2_with fail
          go_region_with (go_at_call 44; ((with_reducible refine (KA.out i _ (HR.out.below (by first | exact HB'.out | exact HB'.out.drew | exact below_drewN HB'.out _))).mono ?_); rintro e w6 ⟨rfl, hb6⟩); (try (replace hb6 := bdrew hb6)); (try (have hq_ := bltn hb6 (b := w.heap.size) (by (first | omega | (simp only [World.size_alloc, World.size_setCell, World.size_drew, World.heap_drewN]; omega))); obtain ⟨uu, vv, zz, nn, mm⟩ := hq_)); (try (have hq_ := bltn hb6 (b := g) (by (first | omega | (simp only [World.size_alloc, World.size_setCell, World.size_drew, World.heap_drewN]; omega))); obtain ⟨uu, vv, zz, nn, mm⟩ := hq_)); (try (have hq_ := bltn hb6 (b := ρ) (by (first | omega | (simp only [World.size_alloc, World.size_setCell, World.size_drew, World.heap_drewN]; omega))); obtain ⟨uu, vv, zz, nn, mm⟩ := hq_)))
          all_goals
            have HG7 := (HG.out.below hb6).put (i := i) (j := i) hlt (atSum l i)
            rw [HΡ.out] at HG7
            have HG8 := Lib.hid (HG7.congr (f' := fun q j' => lapG l (i + 1) 0 q j') (fun q j' hq hj' => by
              unfold lapG lapE
              by_cases e : q = i
              · by_cases e' : j' = i
                · simp [e, e']
                · have e3 : ¬ (i : Int) = (j' : Int) := by omega
                  simp [e, e', hj', e3]
              · by_cases e2 : q < i
                · simp [e, e2, show q < i + 1 from by omega]
                · simp [e, e2, show ¬ q < i + 1 from by omega]))
            have HB8 := Lib.hid ((HB.out.trans (hb6.mono (by omega))).setCell (p := ⟨ρ, i, none⟩) (by show _ ≤ ρ; omega) (.int .i64 (atSum l i)))
            clear HG7 hb6
            go_wp2_with fail
            go_roundw
            case rel => exact ⟨i + 1, by omega, by go_num, HG8.out, HB8.out⟩
            case measure => simp [intOf]; omega
    · obtain rfl : i = M := by omega
      obtain ⟨hB, _, _, _, _⟩ := nbox_cells HB.out
      have HG9 := Lib.hid ((HG.out.mono (base' := w.heap.size) (by omega)).congr (f' := fun q j' => lapE l q j') (fun q j' hq _ => by simp [lapG, hq]))
      go_wp2_with fail
      go_ret
      exact ⟨g, r, rfl, HG9.out, hB⟩
end Go.Proofs.Ytdmiihljepkapaa
