/- LaplacianOf: the law's walk. -/
import Derived.Test.YtdmiihljepkapaaMarkI
namespace Go.Proofs.Ytdmiihljepkapaa
set_option linter.unusedSimpArgs false
set_option linter.unusedVariables false
open Go.RowKit

/-- a law's box of a network -/
abbrev LBox (N E S : Int) (a : Option Addr) (n c : Nat) (w : World) : World := w.alloc (.cells #[.int .i64 N, .int .i64 E, .int .i64 S, .slice a n c] 44)
theorem lbox_cells {N E S : Int} {a : Option Addr} {n c : Nat} {w wr : World} (h : Below (w.heap.size + 1) (LBox N E S a n c w) wr) :
    Below w.heap.size w wr ∧ w.heap.size < wr.heap.size ∧ (∀ o, wr.cell? ⟨w.heap.size, o, none⟩ = (LBox N E S a n c w).cell? ⟨w.heap.size, o, none⟩) ∧ ¬ w.heap.size = wr.heap.size ∧ ¬ wr.heap.size = w.heap.size := by
  have h1 : w.heap.size + 1 ≤ wr.heap.size := by have := h.size; simpa using this
  exact ⟨(balloc (Below.refl _ _) _).trans (h.mono (by omega)), by omega, fun o => h.cell (p := ⟨w.heap.size, o, none⟩) (by show w.heap.size < _; omega), by omega, by omega⟩
theorem OG.kept {w w' : World} {base g : Nat} {a : Option Addr} {n c : Nat} {f : Int → Int → Int} {r : Option Nat} (h : OG w base a n c f) (hg : w.grownBy w' r) (hr : r = some g) (hl : g < base) : OG w' base a n c f := by
  subst hr
  obtain ⟨h5, h | ⟨q, r, e1, e2, h⟩⟩ := h
  · exact ⟨h5, .inl h⟩
  · exact ⟨h5, .inr ⟨q, r, e1, e2, h.og.of_block (hg.block _ h.og.lt (fun e => by have := h.lbg; simp at e; omega)), fun i hi => (h.rows i hi).of_block (hg.block _ (h.rows i hi).lt (fun e => by have := h.lb i hi; simp at e; omega)), h.ne, h.inj, h.lbg, h.lb, h.le⟩⟩

set_option maxRecDepth 100000 in
set_option maxHeartbeats 4000000 in
theorem implLapl0 (N E S : Int) (a : Option Addr) (n c : Nat) (l : List Wz) (hok : ¬ NetOk N E S l) (w : World) (hr : ArgRow w a n c 3 (wires l)) (hl : l.length = n) :
    Calls Try.prog 69 #[netV N E S a n c] w fun e w' => e = .returned (.slice none 0 0) ∧ Below w.heap.size w w' := by
  have HR := Lib.hid hr
  have KN := Lib.hid (fun (w : World) rr => implNetOk N E S a n c l false ⟨(fun h => by cases h), fun h => absurd h hok⟩ w rr hl)
  clear hr hok
  go_enter Try.func69, Try.ntmps69
  go_wp2_with fail
  refine (KN.out _ (HR.out.below (by (repeat' (first | (with_reducible exact Below.refl _ _) | (with_reducible assumption) | (with_reducible refine balloc ?_ _) | (with_reducible refine Below.drew ?_) | (with_reducible refine below_drewN ?_ _) | (with_reducible refine bset ?_ ?_ _) | (with_reducible refine bstep ?_ (by assumption)) | go_size))))).mono ?_
  rintro e w1 ⟨rfl, hb1⟩
  go_wp2_with fail
  go_ret
  exact ⟨rfl, bstep (by (repeat' (first | (with_reducible exact Below.refl _ _) | (with_reducible assumption) | (with_reducible refine balloc ?_ _) | (with_reducible refine Below.drew ?_) | (with_reducible refine below_drewN ?_ _) | (with_reducible refine bset ?_ ?_ _) | (with_reducible refine bstep ?_ (by assumption)) | go_size))) hb1⟩
set_option maxRecDepth 100000 in
set_option maxHeartbeats 4000000 in
theorem specLapl0 (N E S : Int) (a : Option Addr) (n c : Nat) (l : List Wz) (hok : ¬ NetOk N E S l) (w : World) (hr : ArgRow w a n c 3 (wires l)) (hl : l.length = n) :
    Calls Try.prog 68 #[netV N E S a n c] w fun e w' => e = .returned (.slice none 0 0) ∧ Below w.heap.size w w' := by
  have HR := Lib.hid hr
  have KN := Lib.hid (fun (w : World) rr => specNetOk N E S a n c l false ⟨(fun h => by cases h), fun h => absurd h hok⟩ w rr hl)
  clear hr hok
  go_enter Try.func68, Try.ntmps68
  go_wp2_with fail
  refine (KN.out _ (HR.out.below (by (repeat' (first | (with_reducible exact Below.refl _ _) | (with_reducible assumption) | (with_reducible refine balloc ?_ _) | (with_reducible refine Below.drew ?_) | (with_reducible refine below_drewN ?_ _) | (with_reducible refine bset ?_ ?_ _) | (with_reducible refine bstep ?_ (by assumption)) | go_size))))).mono ?_
  rintro e w1 ⟨rfl, hb1⟩
  go_wp2_with fail
  go_ret
  exact ⟨rfl, bstep (by (repeat' (first | (with_reducible exact Below.refl _ _) | (with_reducible assumption) | (with_reducible refine balloc ?_ _) | (with_reducible refine Below.drew ?_) | (with_reducible refine below_drewN ?_ _) | (with_reducible refine bset ?_ ?_ _) | (with_reducible refine bstep ?_ (by assumption)) | go_size))) hb1⟩

set_option maxRecDepth 100000 in
set_option maxHeartbeats 8000000 in
theorem walk_FnExactLaplacianOf (N E S : Int) (a : Option Addr) (n c : Nat) (l : List Wz) (w : World) (ha : NetArg w N E S a n c l) :
    Calls Try.prog 12 #[netV N E S a n c] w fun e w' => e = .returned (.bool true) ∧ Below w.heap.size w w' := by
  have hr := ha.row
  have hl := ha.len
  have hn := hr.le
  clear ha
  have K := fun w => szNet N E S a n c w hn
  by_cases hb : 1048576 < n
  · simp only [if_pos hb] at K
    have K := Lib.hid K
    go_enter Try.func12, Try.ntmps12
    go_wp2_with fail
    refine (K.out _).mono ?_
    rintro e wx ⟨rfl, hbx⟩
    obtain ⟨hcx, hfx⟩ := bcell hbx
    have hzx := bsize hbx
    go_wp2_with fail
    go_ret
    exact ⟨rfl, by (repeat' (first | (with_reducible exact Below.refl _ _) | (with_reducible assumption) | (with_reducible refine balloc ?_ _) | (with_reducible refine Below.drew ?_) | (with_reducible refine below_drewN ?_ _) | (with_reducible refine bset ?_ ?_ _) | (with_reducible refine bstep ?_ (by assumption)) | go_size))⟩
  simp only [if_neg hb] at K
  have K := Lib.hid K
  have HR := Lib.hid hr
  have HL := Lib.hid hl
  have hn' : n ≤ 1048576 := by omega
  obtain ⟨m, f, KS, KI⟩ : ∃ (m : Nat) (f : Int → Int → Int), Hid (∀ (w : World) (g : Nat), ArgRow w (some ⟨g, 0, none⟩) n n 3 (wires l) → Calls Try.prog 68 #[netV N E S (some ⟨g, 0, none⟩) n n] w fun e w' => ∃ a' c', e = .returned (.slice a' m c') ∧ IGrid w' a' m c' (tab m f) ∧ Below w.heap.size w w') ∧ Hid (∀ (w : World) (g : Nat), ArgRow w (some ⟨g, 0, none⟩) n n 3 (wires l) → Calls Try.prog 69 #[netV N E S (some ⟨g, 0, none⟩) n n] w fun e w' => ∃ a' c', e = .returned (.slice a' m c') ∧ OG w' w.heap.size a' m c' f ∧ Below w.heap.size w w') := by
    by_cases hok : NetOk N E S l
    · obtain ⟨M, rfl⟩ : ∃ M : Nat, N = M := ⟨N.toNat, by have := hok.h.n1; omega⟩
      have h5 : M ≤ 5 := by have := hok.h.n5; omega
      exact ⟨M, lapE l, fun w g rr => (specLapl M E S _ n n l hok w rr hl).mono (by rintro e w' ⟨g', c', rfl, h1, h2⟩; exact ⟨_, c', rfl, h1, h2⟩), fun w g rr => (implLapl M E S _ n n l hok w rr hl).mono (by rintro e w' ⟨g', r, rfl, h1, h2⟩; exact ⟨_, M, rfl, ⟨h5, .inr ⟨g', r, rfl, rfl, h1⟩⟩, h2⟩)⟩
    · exact ⟨0, fun _ _ => 0, fun w g rr => (specLapl0 N E S _ n n l hok w rr hl).mono (by rintro e w' ⟨rfl, h2⟩; exact ⟨none, 0, rfl, IGrid.none _, h2⟩), fun w g rr => (implLapl0 N E S _ n n l hok w rr hl).mono (by rintro e w' ⟨rfl, h2⟩; exact ⟨none, 0, rfl, ⟨by omega, .inl ⟨rfl, rfl, rfl⟩⟩, h2⟩)⟩
  clear hr hl hn hb
  go_enter Try.func12, Try.ntmps12
  go_wp2_with fail
  refine (K.out _).mono ?_
  rintro e w1 ⟨rfl, hb1⟩
  have HB1 : Hid (Below (w.heap.size + 1) (LBox N E S a n c w) w1) := by have := hb1; simpa [Hid] using this
  clear hb1
  obtain ⟨hB1, hz1, u1, hy1, hx1⟩ := lbox_cells HB1.out
  go_wp2_with fail
  refine (toNet N E S a n c l _ (HR.out.below hB1) HL.out hn').mono ?_
  rintro e w2 ⟨g2, rfl, o2, hb2⟩
  have R2 := Lib.hid (ArgRow.own o2)
  have HB2 : Hid (Below (w.heap.size + 1) (LBox N E S a n c w) w2) := HB1.out.trans (hb2.mono (by omega))
  clear o2 hb2 hB1 hz1 u1 hy1 hx1
  obtain ⟨hB2, hz2, u2, hy2, hx2⟩ := lbox_cells HB2.out
  go_wp2_with fail
  refine (KS.out _ g2 R2.out).mono ?_
  rintro e w3 ⟨aS, cS, rfl, gS, hb3⟩
  have GS := Lib.hid gS
  have HB3 : Hid (Below (w.heap.size + 1) (LBox N E S a n c w) w3) := HB2.out.trans (hb3.mono (by omega))
  clear gS hb3 hB2 hz2 u2 hy2 hx2
  obtain ⟨hB3, hz3, u3, hy3, hx3⟩ := lbox_cells HB3.out
  go_wp2_with fail
  refine (toNet N E S a n c l _ (HR.out.below hB3) HL.out hn').mono ?_
  rintro e w4 ⟨g4, rfl, o4, hb4⟩
  have hg4 := own_base o4 _ rfl
  simp only at hg4
  have R4 := Lib.hid (ArgRow.own o4)
  have O4 := Lib.hid o4
  have HC4 := Lib.hid hb4
  have HB4 : Hid (Below (w.heap.size + 1) (LBox N E S a n c w) w4) := HB3.out.trans (hb4.mono (by omega))
  have hs34 := hb4.size
  clear o4 hb4 hB3 u3 hy3 hx3
  obtain ⟨hB4, hz4, u4, hy4, hx4⟩ := lbox_cells HB4.out
  have HG4 := Lib.hid hg4
  go_wp2_with fail
  refine (KI.out _ g4 (R4.out.below (by (repeat' (first | (with_reducible exact Below.refl _ _) | (with_reducible assumption) | (with_reducible refine balloc ?_ _) | (with_reducible refine Below.drew ?_) | (with_reducible refine below_drewN ?_ _) | (with_reducible refine bset ?_ ?_ _) | (with_reducible refine bstep ?_ (by assumption)) | go_size))))).mono ?_
  rintro e w5 ⟨aI, cI, rfl, gI, hb5⟩
  have GI := Lib.hid gI
  have O5 := Lib.hid (own_below (O4.out.alloc _) hb5)
  have hs45 := hb5.size
  rw [World.size_alloc] at hs45
  have HC5 : Hid (Below w3.heap.size w3 w5) := (HC4.out.alloc hs34 _).trans (hb5.mono (by simp; omega))
  have HB5 : Hid (Below (w.heap.size + 1) (LBox N E S a n c w) w5) := (HB4.out.alloc (by omega) _).trans (hb5.mono (by simp; omega))
  obtain ⟨ur5, vr5, zs5, rn5, rm5⟩ := bltn hb5 (b := w4.heap.size) (by (first | omega | (simp only [World.size_alloc, World.size_setCell, World.size_drew, World.heap_drewN]; omega)))
  have R5 : Hid (ArgRow w5 (some ⟨g4, 0, none⟩) n n 3 (wires l)) := (R4.out.below (w' := w4.alloc _) (by (repeat' (first | (with_reducible exact Below.refl _ _) | (with_reducible assumption) | (with_reducible refine balloc ?_ _) | (with_reducible refine Below.drew ?_) | (with_reducible refine below_drewN ?_ _) | (with_reducible refine bset ?_ ?_ _) | (with_reducible refine bstep ?_ (by assumption)) | go_size)))).below hb5
  clear gI hb5 hB4 u4 hy4 hx4
  obtain ⟨hB5, hz5, u5, hy5, hx5⟩ := lbox_cells HB5.out
  go_wp2_with fail
  refine (eqIntSS aI aS m cI cS (tab m f) _ GI.out.grid (GS.out.below HC5.out)).mono ?_
  rintro e w6 ⟨rfl, hb6⟩
  have B6 := Lib.hid hb6
  obtain ⟨ur6, vr6, zs6, rn6, rm6⟩ := bltn hb6 (b := w4.heap.size) (by (first | omega | (simp only [World.size_alloc, World.size_setCell, World.size_drew, World.heap_drewN]; omega)))
  have HB6 : Hid (Below (w.heap.size + 1) (LBox N E S a n c w) w6) := HB5.out.trans (hb6.mono (by omega))
  have HC6 : Hid (Below w3.heap.size w3 w6) := HC5.out.trans (hb6.mono (by omega))
  have O6 := Lib.hid (own_below O5.out hb6)
  have G6 := Lib.hid (GI.out.below hb6)
  have R6 := Lib.hid (R5.out.below hb6)
  clear hb6 hB5 u5 hy5 hx5
  obtain ⟨hB6, hz6, u6, hy6, hx6⟩ := lbox_cells HB6.out
  have HB6' := Lib.hid hB6
  clear hB6
  go_upto_region 10 with fail
  go_cut [31] (fun s31 wc => s31 = .bool false ∧ Hid (Below w6.heap.size w6 wc))
  case first =>
    go_region_with (first
      | (go_at_call 43; ((with_reducible refine (toNet N E S a n c l _ (HR.out.below (by first | exact HB6'.out | exact HB6'.out.drew | exact below_drewN HB6'.out _)) HL.out hn').mono ?_); rintro e w7 ⟨g7, rfl, o7, hb7⟩); (try (replace hb7 := bdrew hb7)); have R7 := Lib.hid (ArgRow.own o7); have R67 := Lib.hid (R6.out.below hb7); clear o7; (try (have hq_ := bltn hb7 (b := w.heap.size) (by (first | omega | (simp only [World.size_alloc, World.size_setCell, World.size_drew, World.heap_drewN]; omega))); obtain ⟨uu, vv, zz, nn, mm⟩ := hq_)); (try (have hq_ := bltn hb7 (b := w4.heap.size) (by (first | omega | (simp only [World.size_alloc, World.size_setCell, World.size_drew, World.heap_drewN]; omega))); obtain ⟨uu, vv, zz, nn, mm⟩ := hq_)))
      | (go_at_call 45; ((with_reducible refine (eqNet N E S (some ⟨g4, 0, none⟩) (some ⟨g7, 0, none⟩) n n n l _ (by exact R67.out) (by exact R7.out) HL.out).mono ?_); rintro e w8 ⟨rfl, hb8⟩); (try (replace hb8 := bdrew hb8))))
    all_goals
      go_wp2_with fail
      go_meet
      exact ⟨rfl, bstep hb7 hb8⟩
  case rest =>
    obtain ⟨rfl, HQ⟩ := hcut
    have hq := HQ.out
    obtain ⟨ur9, vr9, zs9, rn9, rm9⟩ := bltn hq (b := w4.heap.size) (by (first | omega | (simp only [World.size_alloc, World.size_setCell, World.size_drew, World.heap_drewN]; omega)))
    have HB9 : Hid (Below (w.heap.size + 1) (LBox N E S a n c w) wc) := HB6.out.trans (hq.mono (by omega))
    have HC9 : Hid (Below w3.heap.size w3 wc) := HC6.out.trans (hq.mono (by omega))
    have O9 := Lib.hid (own_below O6.out hq)
    have G9 := Lib.hid (G6.out.below hq)
    clear hq HQ u6 hy6 hx6
    obtain ⟨hB9, hz9, u9, hy9, hx9⟩ := lbox_cells HB9.out
    go_wp2_with fail
    refine (markNet N E S _ (some ⟨g4, 0, none⟩) n n _ _ O9.out hn').mono ?_
    rintro e wa ⟨rfl, _, gma⟩
    have HBa : Hid (Below (w.heap.size + 1) (LBox N E S a n c w) wa) := HB9.out.grown gma (by omega) (fun k hk => by simp [Value.ownBlock] at hk; have := HG4.out; omega)
    have HCa : Hid (Below w3.heap.size w3 wa) := HC9.out.grown gma (by have := HC9.out.size; omega) (fun k hk => by simp [Value.ownBlock] at hk; have := HG4.out; omega)
    have Ga := Lib.hid (G9.out.kept gma rfl (by have := HG4.out; simp; omega))
    clear gma hB9 u9 hy9 hx9 ur9 vr9 zs9 rn9 rm9 ur6 vr6 zs6 rn6 rm6 ur5 vr5 zs5 rn5 rm5
    obtain ⟨hBa, hza, ua, hya, hxa⟩ := lbox_cells HBa.out
    have hk0 : ¬ (3 * (n : Int) + 1) < 0 := by omega
    go_wp2_with fail
    refine (eqIntSS aI aS m cI cS (tab m f) _ Ga.out.grid (GS.out.below HCa.out)).mono ?_
    rintro e wb ⟨rfl, hbb⟩
    have HBb : Hid (Below (w.heap.size + 1) (LBox N E S a n c w) wb) := HBa.out.trans (hbb.mono (by omega))
    have HCb : Hid (Below w3.heap.size w3 wb) := HCa.out.trans (hbb.mono (by have := HCa.out.size; omega))
    have Gb := Lib.hid (Ga.out.below hbb)
    clear hbb hBa ua hya hxa
    go_wp2_with fail
    refine (markIntSS _ aI m cI f _ Gb.out).mono ?_
    rintro e wd ⟨rfl, gd, hbd⟩
    have Gd := Lib.hid gd
    have HBd : Hid (Below (w.heap.size + 1) (LBox N E S a n c w) wd) := HBb.out.trans (hbd.mono (by simp; omega))
    have HCd : Hid (Below w3.heap.size w3 wd) := HCb.out.trans (hbd.mono (by simp; omega))
    clear gd hbd
    have h5 := Gd.out.1
    have KH := Lib.hid (fun (w : World) g => heldIntSS aI m cI w h5 g)
    generalize (1 + m * m : Nat) = Q at KH ⊢
    have hQ0 : ¬ (Q : Int) < 0 := by omega
    go_wp2_with fail
    refine (KH.out _ Gd.out.grid).mono ?_
    rintro e we ⟨rfl, hbe⟩
    have HBe : Hid (Below (w.heap.size + 1) (LBox N E S a n c w) we) := HBd.out.trans (hbe.mono (by have := HBd.out.size; simp at this; omega))
    have HCe : Hid (Below w3.heap.size w3 we) := HCd.out.trans (hbe.mono (by have := HCd.out.size; omega))
    have Ge := Lib.hid (Gd.out.below hbe)
    clear hbe
    obtain ⟨hBe, hze, ue, hye, hxe⟩ := lbox_cells HBe.out
    go_wp2_with fail
    refine (toNet N E S a n c l _ (HR.out.below hBe) HL.out hn').mono ?_
    rintro e wf ⟨gf, rfl, of, hbf⟩
    have Rf := Lib.hid (ArgRow.own of)
    have HBf : Hid (Below (w.heap.size + 1) (LBox N E S a n c w) wf) := HBe.out.trans (hbf.mono (by omega))
    have HCf : Hid (Below w3.heap.size w3 wf) := HCe.out.trans (hbf.mono (by have := HCe.out.size; omega))
    have Gf := Lib.hid (Ge.out.below hbf)
    clear of hbf hBe hze ue hye hxe
    go_wp2_with fail
    refine (KI.out _ gf Rf.out).mono ?_
    rintro e wg ⟨aH, cH, rfl, gH, hbg⟩
    have GH := Lib.hid gH
    have HBg : Hid (Below (w.heap.size + 1) (LBox N E S a n c w) wg) := HBf.out.trans (hbg.mono (by have := HBf.out.size; simp at this; omega))
    have HCg : Hid (Below w3.heap.size w3 wg) := HCf.out.trans (hbg.mono (by have := HCf.out.size; omega))
    have Gg := Lib.hid (Gf.out.below hbg)
    clear gH hbg
    go_wp2_with fail
    refine (eqIntSS aH aS m cH cS (tab m f) _ GH.out.grid (GS.out.below HCg.out)).mono ?_
    rintro e wh ⟨rfl, hbh⟩
    have HBh : Hid (Below (w.heap.size + 1) (LBox N E S a n c w) wh) := HBg.out.trans (hbh.mono (by have := HBg.out.size; simp at this; omega))
    have Gh := Lib.hid (Gg.out.below hbh)
    clear hbh
    go_wp2_with fail
    refine (KH.out _ Gh.out.grid).mono ?_
    rintro e wi ⟨rfl, hbi⟩
    have HBi : Hid (Below (w.heap.size + 1) (LBox N E S a n c w) wi) := HBh.out.trans (hbi.mono (by have := HBh.out.size; simp at this; omega))
    obtain ⟨hBi, hzi, ui, hyi, hxi⟩ := lbox_cells HBi.out
    clear hbi ui
    go_wp2_with fail
    go_ret
    exact ⟨rfl, hBi⟩
end Go.Proofs.Ytdmiihljepkapaa
