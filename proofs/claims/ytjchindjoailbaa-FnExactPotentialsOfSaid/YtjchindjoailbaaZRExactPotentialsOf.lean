/- PotentialsOf: the law's walk. -/
import Derived.Test.YtjchindjoailbaaG16
import Derived.Test.YtjchindjoailbaaG18
import Derived.Test.YtjchindjoailbaaG14
import Derived.WalkKit
import Derived.ProofKit
import Derived.OpenShut
import Derived.ShutString
import Derived.ChangeOld
import Derived.Below
import Derived.Lib.SmallJoins
namespace Go.Proofs.Ytjchindjoailbaa
set_option linter.unusedSimpArgs false
set_option linter.unusedVariables false
open Go.RowKit

/-- a law's box of a network -/
abbrev LBoxP (N E S : Int) (a : Option Addr) (n c : Nat) (w : World) : World := w.alloc (.cells #[.int .i64 N, .int .i64 E, .int .i64 S, .slice a n c] 60)
theorem lboxp_cells {N E S : Int} {a : Option Addr} {n c : Nat} {w wr : World} (h : Below (w.heap.size + 1) (LBoxP N E S a n c w) wr) :
    Below w.heap.size w wr ∧ w.heap.size < wr.heap.size ∧ (∀ o, wr.cell? ⟨w.heap.size, o, none⟩ = (LBoxP N E S a n c w).cell? ⟨w.heap.size, o, none⟩) ∧ ¬ w.heap.size = wr.heap.size ∧ ¬ wr.heap.size = w.heap.size := by
  have h1 : w.heap.size + 1 ≤ wr.heap.size := by have := h.size; simpa using this
  exact ⟨(balloc (Below.refl _ _) _).trans (h.mono (by omega)), by omega, fun o => h.cell (p := ⟨w.heap.size, o, none⟩) (by show w.heap.size < _; omega), by omega, by omega⟩
theorem arg_nil (w : World) (size : Nat) : ArgRow w none 0 0 size [] := ⟨by simp, by omega, by unfold maxLen; omega, .inl rfl⟩

set_option maxRecDepth 100000 in
set_option maxHeartbeats 8000000 in
theorem walk_FnExactPotentialsOf (N E S : Int) (a : Option Addr) (n c : Nat) (l : List Wz) (p q : Int) (w : World) (ha : NetArg w N E S a n c l) (_ : (Lit.int .i64 p).wf = true) (_ : (Lit.int .i64 q).wf = true) :
    Calls Try.prog 14 #[netV N E S a n c, .int .i64 p, .int .i64 q] w fun e w' => e = .returned (.bool true) ∧ Below w.heap.size w w' := by
  have hr := ha.row
  have hl := ha.len
  have hn := hr.le
  clear ha
  have K := fun w => szNet N E S a n c w hn
  by_cases hb : 1048576 < n
  · simp only [if_pos hb] at K
    have K := Lib.hid K
    go_enter Try.func14, Try.ntmps14
    go_wp2_with fail
    refine (K.out _).mono ?_
    rintro e wx ⟨rfl, hbx⟩
    obtain ⟨hcx, hfx⟩ := bcell hbx
    have hzx := bsize hbx
    go_wp2_with fail
    go_ret
    exact ⟨rfl, by (repeat' (first | (with_reducible exact Below.refl _ _) | (with_reducible assumption) | (with_reducible refine balloc ?_ _) | (with_reducible refine Below.drew ?_) | (with_reducible refine below_drewN ?_ _) | (with_reducible refine bset ?_ ?_ _) | (with_reducible refine bstep ?_ (by assumption)) | go_size))⟩
  simp only [if_neg hb] at K
  have K := Lib.hid K
  have HR := Lib.hid hr
  have HL := Lib.hid hl
  have hn' : n ≤ 1048576 := by omega
  obtain ⟨m, L, B, hm5, KS, KI⟩ : ∃ (m : Nat) (L : List Rz) (B : Bool), m ≤ 5 ∧ Hid (∀ (w : World) (g : Nat), ArgRow w (some ⟨g, 0, none⟩) n n 3 (wires l) → Calls Try.prog 69 #[netV N E S (some ⟨g, 0, none⟩) n n, .int .i64 p, .int .i64 q] w fun e w' => ∃ a' c', e = .returned (.tuple #[.slice a' m c', .bool B]) ∧ ArgRow w' a' m c' 2 (rats L) ∧ Below w.heap.size w w') ∧ Hid (∀ (w : World) (g : Nat), ArgRow w (some ⟨g, 0, none⟩) n n 3 (wires l) → Calls Try.prog 17 #[netV N E S (some ⟨g, 0, none⟩) n n, .int .i64 p, .int .i64 q] w fun e w' => ∃ a' c', e = .returned (.tuple #[.slice a' m c', .bool B]) ∧ w'.ownsRow w.heap.size 32 2 (.slice a' m c') m (rats L) ∧ Below w.heap.size w w') := by
    by_cases hok : PotOk N E S l p q
    · obtain ⟨M, rfl⟩ : ∃ M : Nat, N = M := ⟨N.toNat, by have := hok.net.h.n1; omega⟩
      have h5 : M ≤ 5 := by have := hok.net.h.n5; omega
      exact ⟨(potR M S l p q M).length, potR M S l p q M, true, by rw [potR_len]; exact h5, fun w g rr => (specPotentialsOf M E S _ n n l p q hok w rr hl).mono (by rintro e w' ⟨⟨g', c', rfl, h1⟩, h2⟩; exact ⟨_, c', rfl, ArgRow.own h1, h2⟩), fun w g rr => (implPotentialsOf M E S _ n n l p q hok w rr hl).mono (by rintro e w' ⟨⟨g', c', rfl, h1⟩, h2⟩; exact ⟨_, c', rfl, h1, h2⟩)⟩
    · exact ⟨0, [], false, by omega, fun w g rr => (specPotentialsOf0 N E S _ n n l p q hok w rr hl).mono (by rintro e w' ⟨rfl, h2⟩; exact ⟨none, 0, rfl, arg_nil _ _, h2⟩), fun w g rr => (implPotentialsOf0 N E S _ n n l p q hok w rr hl).mono (by rintro e w' ⟨rfl, h2⟩; exact ⟨none, 0, rfl, World.ownsRow_nil _ _ _ _, h2⟩)⟩
  clear hr hl hn hb
  go_enter Try.func14, Try.ntmps14
  go_wp2_with fail
  refine (K.out _).mono ?_
  rintro e w1 ⟨rfl, hb1⟩
  have HB1 : Hid (Below (w.heap.size + 1) (LBoxP N E S a n c w) w1) := by have := hb1; simpa [Hid] using this
  clear hb1
  obtain ⟨hB1, hz1, u1, hy1, hx1⟩ := lboxp_cells HB1.out
  go_wp2_with fail
  refine (toNet N E S a n c l _ (HR.out.below hB1) HL.out hn').mono ?_
  rintro e w2 ⟨g2, rfl, o2, hb2⟩
  have R2 := Lib.hid (ArgRow.own o2)
  have HB2 : Hid (Below (w.heap.size + 1) (LBoxP N E S a n c w) w2) := HB1.out.trans (hb2.mono (by omega))
  clear o2 hb2 hB1 hz1 u1 hy1 hx1
  obtain ⟨hB2, hz2, u2, hy2, hx2⟩ := lboxp_cells HB2.out
  go_wp2_with fail
  refine (KS.out _ g2 R2.out).mono ?_
  rintro e w3 ⟨aS, cS, rfl, gS, hb3⟩
  have GS := Lib.hid gS
  have HB3 : Hid (Below (w.heap.size + 1) (LBoxP N E S a n c w) w3) := HB2.out.trans (hb3.mono (by omega))
  clear gS hb3 hB2 hz2 u2 hy2 hx2
  obtain ⟨hB3, hz3, u3, hy3, hx3⟩ := lboxp_cells HB3.out
  go_wp2_with fail
  refine (toNet N E S a n c l _ (HR.out.below hB3) HL.out hn').mono ?_
  rintro e w4 ⟨g4, rfl, o4, hb4⟩
  have hg4 := own_base o4 _ rfl
  simp only at hg4
  have R4 := Lib.hid (ArgRow.own o4)
  have O4 := Lib.hid o4
  have HC4 := Lib.hid hb4
  have HB4 : Hid (Below (w.heap.size + 1) (LBoxP N E S a n c w) w4) := HB3.out.trans (hb4.mono (by omega))
  have hs34 := hb4.size
  clear o4 hb4 hB3 u3 hy3 hx3
  obtain ⟨hB4, hz4, u4, hy4, hx4⟩ := lboxp_cells HB4.out
  have HG4 := Lib.hid hg4
  go_wp2_with fail
  refine (KI.out _ g4 (R4.out.below (by (repeat' (first | (with_reducible exact Below.refl _ _) | (with_reducible assumption) | (with_reducible refine balloc ?_ _) | (with_reducible refine Below.drew ?_) | (with_reducible refine below_drewN ?_ _) | (with_reducible refine bset ?_ ?_ _) | (with_reducible refine bstep ?_ (by assumption)) | go_size))))).mono ?_
  rintro e w5 ⟨aI, cI, rfl, gI, hb5⟩
  have HGI := Lib.hid (own_base gI)
  have GI := Lib.hid gI
  have O5 := Lib.hid (own_below (O4.out.alloc _) hb5)
  have hs45 := hb5.size
  rw [World.size_alloc] at hs45
  have HC5 : Hid (Below w3.heap.size w3 w5) := (HC4.out.alloc hs34 _).trans (hb5.mono (by simp; omega))
  have HB5 : Hid (Below (w.heap.size + 1) (LBoxP N E S a n c w) w5) := (HB4.out.alloc (by omega) _).trans (hb5.mono (by simp; omega))
  obtain ⟨ur5, vr5, zs5, rn5, rm5⟩ := bltn hb5 (b := w4.heap.size) (by (first | omega | (simp only [World.size_alloc, World.size_setCell, World.size_drew, World.heap_drewN]; omega)))
  have R5 : Hid (ArgRow w5 (some ⟨g4, 0, none⟩) n n 3 (wires l)) := (R4.out.below (w' := w4.alloc _) (by (repeat' (first | (with_reducible exact Below.refl _ _) | (with_reducible assumption) | (with_reducible refine balloc ?_ _) | (with_reducible refine Below.drew ?_) | (with_reducible refine below_drewN ?_ _) | (with_reducible refine bset ?_ ?_ _) | (with_reducible refine bstep ?_ (by assumption)) | go_size)))).below hb5
  clear gI hb5 hB4 u4 hy4 hx4
  obtain ⟨hB5, hz5, u5, hy5, hx5⟩ := lboxp_cells HB5.out
  go_wp2_with fail
  refine (eqRats aI aS m cI cS L _ (ArgRow.own GI.out) (GS.out.below HC5.out)).mono ?_
  rintro e w6 ⟨rfl, hb6⟩
  have B6 := Lib.hid hb6
  obtain ⟨ur6, vr6, zs6, rn6, rm6⟩ := bltn hb6 (b := w4.heap.size) (by (first | omega | (simp only [World.size_alloc, World.size_setCell, World.size_drew, World.heap_drewN]; omega)))
  have HB6 : Hid (Below (w.heap.size + 1) (LBoxP N E S a n c w) w6) := HB5.out.trans (hb6.mono (by omega))
  have HC6 : Hid (Below w3.heap.size w3 w6) := HC5.out.trans (hb6.mono (by omega))
  have O6 := Lib.hid (own_below O5.out hb6)
  have G6 := Lib.hid (own_below GI.out hb6)
  have R6 := Lib.hid (R5.out.below hb6)
  clear hb6 hB5 u5 hy5 hx5
  obtain ⟨hB6, hz6, u6, hy6, hx6⟩ := lboxp_cells HB6.out
  have HB6' := Lib.hid hB6
  clear hB6
  go_upto_region 10 with fail
  go_cut [53] (fun s31 wc => s31 = .bool false ∧ Hid (Below w6.heap.size w6 wc))
  case first =>
    go_region_with (first
      | (go_at_call 45; ((with_reducible refine (toNet N E S a n c l _ (HR.out.below (by first | exact HB6'.out | exact HB6'.out.drew | exact below_drewN HB6'.out _)) HL.out hn').mono ?_); rintro e w7 ⟨g7, rfl, o7, hb7⟩); (try (replace hb7 := bdrew hb7)); have R7 := Lib.hid (ArgRow.own o7); have R67 := Lib.hid (R6.out.below hb7); clear o7; (try (have hq_ := bltn hb7 (b := w.heap.size) (by (first | omega | (simp only [World.size_alloc, World.size_setCell, World.size_drew, World.heap_drewN]; omega))); obtain ⟨uu, vv, zz, nn, mm⟩ := hq_)); (try (have hq_ := bltn hb7 (b := w4.heap.size) (by (first | omega | (simp only [World.size_alloc, World.size_setCell, World.size_drew, World.heap_drewN]; omega))); obtain ⟨uu, vv, zz, nn, mm⟩ := hq_)))
      | (go_at_call 48; ((with_reducible refine (eqNet N E S (some ⟨g4, 0, none⟩) (some ⟨g7, 0, none⟩) n n n l _ (by exact R67.out) (by exact R7.out) HL.out).mono ?_); rintro e w8 ⟨rfl, hb8⟩); (try (replace hb8 := bdrew hb8))))
    all_goals
      go_wp2_with fail
      go_meet
      exact ⟨rfl, bstep hb7 hb8⟩
  case rest =>
    obtain ⟨rfl, HQ⟩ := hcut
    have hq := HQ.out
    obtain ⟨ur9, vr9, zs9, rn9, rm9⟩ := bltn hq (b := w4.heap.size) (by (first | omega | (simp only [World.size_alloc, World.size_setCell, World.size_drew, World.heap_drewN]; omega)))
    have HB9 : Hid (Below (w.heap.size + 1) (LBoxP N E S a n c w) wc) := HB6.out.trans (hq.mono (by omega))
    have HC9 : Hid (Below w3.heap.size w3 wc) := HC6.out.trans (hq.mono (by omega))
    have O9 := Lib.hid (own_below O6.out hq)
    have G9 := Lib.hid (own_below G6.out hq)
    clear hq HQ u6 hy6 hx6
    obtain ⟨hB9, hz9, u9, hy9, hx9⟩ := lboxp_cells HB9.out
    go_wp2_with fail
    refine (markNet N E S _ (some ⟨g4, 0, none⟩) n n _ _ O9.out hn').mono ?_
    rintro e wa ⟨rfl, _, gma⟩
    have HBa : Hid (Below (w.heap.size + 1) (LBoxP N E S a n c w) wa) := HB9.out.grown gma (by omega) (fun k hk => by simp [Value.ownBlock] at hk; have := HG4.out; omega)
    have HCa : Hid (Below w3.heap.size w3 wa) := HC9.out.grown gma (by have := HC9.out.size; omega) (fun k hk => by simp [Value.ownBlock] at hk; have := HG4.out; omega)
    have Ga := Lib.hid (G9.out.kept gma (by
      cases aI with
      | none => exact .inl rfl
      | some ad => exact .inr (fun e => by have h8 := HGI.out ad rfl; rw [World.size_alloc] at h8; simp [Value.ownBlock] at e; have := HG4.out; omega)))
    clear gma hB9 u9 hy9 hx9 ur9 vr9 zs9 rn9 rm9 ur6 vr6 zs6 rn6 rm6 ur5 vr5 zs5 rn5 rm5
    obtain ⟨hBa, hza, ua, hya, hxa⟩ := lboxp_cells HBa.out
    have hk0 : ¬ (3 * (n : Int) + 1) < 0 := by omega
    go_wp2_with fail
    refine (eqRats aI aS m cI cS L _ (ArgRow.own Ga.out) (GS.out.below HCa.out)).mono ?_
    rintro e wb ⟨rfl, hbb⟩
    have HBb : Hid (Below (w.heap.size + 1) (LBoxP N E S a n c w) wb) := HBa.out.trans (hbb.mono (by omega))
    have HCb : Hid (Below w3.heap.size w3 wb) := HCa.out.trans (hbb.mono (by have := HCa.out.size; omega))
    have Gb := Lib.hid (own_below Ga.out hbb)
    clear hbb hBa ua hya hxa
    go_wp2_with fail
    refine (markRats _ aI m cI _ _ Gb.out (by omega)).mono ?_
    rintro e wd ⟨rfl, gd, gmd⟩
    have Gd := Lib.hid gd
    have hIB : ∀ k, (Value.slice aI m cI).ownBlock = some k → w4.heap.size < k := fun k hk => by
      cases aI with
      | none => cases hk
      | some ad => have h8 := HGI.out ad rfl; simp [Value.ownBlock] at hk; simp at h8; omega
    have HBd : Hid (Below (w.heap.size + 1) (LBoxP N E S a n c w) wd) := HBb.out.grown gmd (by have := HBb.out.size; simp at this; omega) (fun k hk => by have := hIB k hk; omega)
    have HCd : Hid (Below w3.heap.size w3 wd) := HCb.out.grown gmd (by have := HCb.out.size; omega) (fun k hk => by have := hIB k hk; omega)
    clear gd gmd hIB
    have KH := Lib.hid (fun (w : World) g => heldRats aI m cI w g (by omega))
    have hQ0 : ¬ (2 * (m : Int) + 1) < 0 := by omega
    generalize (2 * (m : Int) + 1) = Q at KH hQ0 ⊢
    go_wp2_with fail
    refine (KH.out _ (ArgRow.own Gd.out)).mono ?_
    rintro e we ⟨rfl, rfl⟩
    have HBe := HBd
    have HCe := HCd
    have Ge := Gd
    obtain ⟨hBe, hze, ue, hye, hxe⟩ := lboxp_cells HBe.out
    go_wp2_with fail
    refine (toNet N E S a n c l _ (HR.out.below hBe) HL.out hn').mono ?_
    rintro e wf ⟨gf, rfl, of, hbf⟩
    have Rf := Lib.hid (ArgRow.own of)
    have HBf : Hid (Below (w.heap.size + 1) (LBoxP N E S a n c w) wf) := HBe.out.trans (hbf.mono (by omega))
    have HCf : Hid (Below w3.heap.size w3 wf) := HCe.out.trans (hbf.mono (by have := HCe.out.size; omega))
    have Gf := Lib.hid (own_below Ge.out hbf)
    clear of hbf hBe hze ue hye hxe
    go_wp2_with fail
    refine (KI.out _ gf Rf.out).mono ?_
    rintro e wg ⟨aH, cH, rfl, gH, hbg⟩
    have GH := Lib.hid gH
    have HBg : Hid (Below (w.heap.size + 1) (LBoxP N E S a n c w) wg) := HBf.out.trans (hbg.mono (by have := HBf.out.size; simp at this; omega))
    have HCg : Hid (Below w3.heap.size w3 wg) := HCf.out.trans (hbg.mono (by have := HCf.out.size; omega))
    have Gg := Lib.hid (own_below Gf.out hbg)
    clear gH hbg
    go_wp2_with fail
    refine (eqRats aH aS m cH cS L _ (ArgRow.own GH.out) (GS.out.below HCg.out)).mono ?_
    rintro e wh ⟨rfl, hbh⟩
    have HBh : Hid (Below (w.heap.size + 1) (LBoxP N E S a n c w) wh) := HBg.out.trans (hbh.mono (by have := HBg.out.size; simp at this; omega))
    have Gh := Lib.hid (own_below Gg.out hbh)
    clear hbh
    go_wp2_with fail
    refine (KH.out _ (ArgRow.own Gh.out)).mono ?_
    rintro e wi ⟨rfl, rfl⟩
    obtain ⟨hBi, hzi, ui, hyi, hxi⟩ := lboxp_cells HBh.out
    clear ui
    go_wp2_with fail
    go_ret
    exact ⟨rfl, hBi⟩
end Go.Proofs.Ytjchindjoailbaa

/- For every input the program's PotentialsOf returns what the reference's PotentialsOf returns: the law FnExactPotentialsOf answers true and leaves its arguments as they were. -/
namespace Go.Proofs.Ytjchindjoailbaa
set_option linter.unusedSimpArgs false
set_option linter.unusedVariables false
open Go.ChangeShapes Go.WideShapes Go.ChangeAt Go.RowKit
open Go.ChangeMaps (open_string shut_string)
set_option linter.unusedVariables false

set_option maxRecDepth 100000 in
theorem lifted_FnExactPotentialsOf (os : Os) (started : os.Started) (H : Type) (enc : TypeId × Value → H) :
    ReturnsInHanded {} Try.checked os 14 .any (Rows.fnExactPotentialsOfSpec.pre6 enc Try.prog Try.f14 Rows.fnExactPotentialsOfRow.domain false) (Rows.fnExactPotentialsOfSpec.post enc Try.prog Try.f14 false true false false) := by
  refine returnsInHanded_of_change (C := Try.checked) own started (by kernel_rfl) Try.func14
    (ChangeSpec.witness6 (enc := enc) (C := Try.checked) false ⟨#[], #[.agg #[.int .i64 0, .int .i64 0, .int .i64 0, .slice none 0 0], .int .i64 0, .int .i64 0], []⟩ 8 (by kernel_rfl) (by kernel_rfl) (by kernel_rfl) (by kernel_rfl)) ?_
  intro W base args ds gs before hval0 hW hcnd _
  have hval : ∀ (j : Nat) t v, Try.f14.params[j]? = some t → args[j]? = some v → Value.okWide Try.prog W .any base t v := hval0
  have hW' := hW
  obtain ⟨p, q, hA0, hV, rfl, hfz, hnd⟩ := hW
  have hA : DataW.TrodAll enc Try.prog W 0 (fun _ => true) true Try.f14.params.toList args.toList ds p := hA0
  rw [Try.params14] at hA hval
  obtain ⟨v0, vs0, d0, ds0, p0, q0, hargs, rfl, rfl, h0, r0⟩ := trodAll_cons hA
  obtain ⟨v1, vs1, d1, ds1, p1, q1, rfl, rfl, rfl, h1, r1⟩ := trodAll_cons r0
  obtain ⟨v2, vs2, d2, ds2, p2, q2, rfl, rfl, rfl, h2, r2⟩ := trodAll_cons r1
  obtain ⟨rfl, rfl, rfl⟩ := trodAll_nil r2
  obtain rfl : args = #[v0, v1, v2] := by cases args; simp_all
  obtain ⟨rfl, rfl⟩ := trodVars_none hV
  have k0 := h0
  have lt0 : ∀ x ∈ p0, x.block < W.heap.size := by obtain ⟨m, hm⟩ := k0; exact DataW.trod_lt m _ _ _ hm
  obtain ⟨N0, E0, S0, a0, n0, c0, l0, e0a, w0⟩ := open_net (hval 0 60 v0 rfl rfl) h0
  subst e0a
  have k1 := h1
  have lt1 : ∀ x ∈ p1, x.block < W.heap.size := by obtain ⟨m, hm⟩ := k1; exact DataW.trod_lt m _ _ _ hm
  obtain ⟨a1, e1a, e1b, e1c, w1⟩ := open_int Try.underlying3 (hval 1 3 v1 rfl rfl) h1
  subst e1a
  have k2 := h2
  have lt2 : ∀ x ∈ p2, x.block < W.heap.size := by obtain ⟨m, hm⟩ := k2; exact DataW.trod_lt m _ _ _ hm
  obtain ⟨a2, e2a, e2b, e2c, w2⟩ := open_int Try.underlying3 (hval 2 3 v2 rfl rfl) h2
  subst e2a
  clear hA0 hval0
  refine (walk_FnExactPotentialsOf N0 E0 S0 a0 n0 c0 l0 a1 a2 W w0 w1 w2).mono fun e W' ⟨he, bel⟩ => ?_
  subst he
  exact ⟨_, rfl, _, _, _, [], _, [], hW', trodAll_mk1 (shut_bool Try.underlying4 _), (trodAll_cons_mk (Below.trod laidOut (by kernel_rfl) (of_decide_eq_true (by kernel_rfl)) k0 bel lt0) (trodAll_cons_mk (Below.trod laidOut (by kernel_rfl) (of_decide_eq_true (by kernel_rfl)) k1 bel lt1) (trodAll_cons_mk (Below.trod laidOut (by kernel_rfl) (of_decide_eq_true (by kernel_rfl)) k2 bel lt2) trodAll_mk0))), rfl, bel.frame _, fun h => by cases h⟩

set_option maxRecDepth 100000 in
set_option maxHeartbeats 8000000 in
theorem closed_FnExactPotentialsOf : joinedFacts Try.pinned.checked.prog 14 Try.f14 Rows.fnExactPotentialsOfSpec Rows.fnExactPotentialsOfRow = true := by
  unfold joinedFacts
  repeat' (with_reducible refine band ?_ ?_)
  all_goals first | (with_reducible exact mayEnter_p) | ((with_reducible refine bmake (finals_p.trans ?_)); rfl) | ((with_reducible refine beq_iff_eq.2 (make_p.trans ?_)); rfl) | (as_aux_lemma => kernel_rfl)

theorem fnExactPotentialsOf_holds : Rows.FnExactPotentialsOfSaid :=
  OpenClaim.holds_of_wide 14 Try.f14 rfl rfl rfl rfl rfl rfl rfl ⟨rfl, rfl, rfl, rfl, rfl⟩ rfl rfl rfl rfl rfl (by kernel_rfl) Try.func14 closed_FnExactPotentialsOf
    (of_decide_eq_true (by kernel_rfl)) (by unfold Func.isWrapper; first | (rw [if_pos (by decide +kernel)]; kernel_rfl) | (rw [if_neg (by decide +kernel)]; exact ⟨rfl, rfl⟩))
    (fun os started H enc _ => lifted_FnExactPotentialsOf os started H enc)

end Go.Proofs.Ytjchindjoailbaa
