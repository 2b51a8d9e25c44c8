/- PowerOf: the law's walk. -/
import Derived.Test.YtjchindjoailbaaG17
import Derived.Test.YtjchindjoailbaaG14
import Derived.WalkKit
import Derived.ProofKit
import Derived.OpenShut
import Derived.ShutString
import Derived.ChangeOld
import Derived.Below
import Derived.Lib.SmallJoins
namespace Go.Proofs.Ytjchindjoailbaa
set_option linter.unusedSimpArgs false
set_option linter.unusedVariables false
open Go.RowKit

set_option maxRecDepth 100000 in
set_option maxHeartbeats 8000000 in
theorem walk_FnExactPowerOf (N E S : Int) (a : Option Addr) (n c : Nat) (l : List Wz) (aq : Option Addr) (nq cq : Nat) (Q : List Rz) (w : World) (ha : NetArg w N E S a n c l) (hp : ArgRow w aq nq cq 2 (rats Q)) (_ : ∀ x ∈ Q, wfR x) :
    Calls Try.prog 8 #[netV N E S a n c, .slice aq nq cq] w fun e w' => e = .returned (.bool true) ∧ Below w.heap.size w w' := by
  have hr := ha.row
  have hl := ha.len
  have hN := i64_bd ha.wN
  have hE := i64_bd ha.wE
  have hS := i64_bd ha.wS
  have hn := hr.le
  have hnq := hp.le
  clear ha
  have K := fun w => szNet N E S a n c w hn
  by_cases hb : 1048576 < n
  · simp only [if_pos hb] at K
    have K := Lib.hid K
    clear hp
    go_enter Try.func8, Try.ntmps8
    go_wp2_with fail
    refine (K.out _).mono ?_
    rintro e wx ⟨rfl, hbx⟩
    obtain ⟨hcx, hfx⟩ := bcell hbx
    have hzx := bsize hbx
    go_wp2_with fail
    go_ret
    exact ⟨rfl, by (repeat' (first | (with_reducible exact Below.refl _ _) | (with_reducible assumption) | (with_reducible refine balloc ?_ _) | (with_reducible refine Below.drew ?_) | (with_reducible refine below_drewN ?_ _) | (with_reducible refine bset ?_ ?_ _) | (with_reducible refine bstep ?_ (by assumption)) | go_size))⟩
  simp only [if_neg hb] at K
  have hk9 : (1048576 : Int) - (n : Int) = ((1048576 - n : Nat) : Int) := by omega
  rw [hk9] at K
  have K := Lib.hid K
  have KQ := fun w => szRats aq nq cq (1048576 - n) w hnq (by omega)
  have HR := Lib.hid hr
  have HL := Lib.hid hl
  have HP := Lib.hid hp
  have hn' : n ≤ 1048576 := by omega
  by_cases hbq : 1048576 - n < nq
  · simp only [if_pos hbq] at KQ
    have KQ := Lib.hid KQ
    clear hr hl hn hb hp hk9
    have hz : ¬ ((1048576 - n : Nat) : Int) < 0 := by omega
    generalize 1048576 - n = m at *
    go_enter Try.func8, Try.ntmps8
    go_wp2_with fail
    refine (K.out _).mono ?_
    rintro e wx ⟨rfl, hbx⟩
    obtain ⟨hcx, hfx⟩ := bcell hbx
    have hzx := bsize hbx
    go_wp2_with fail
    refine (KQ.out _).mono ?_
    rintro e wy ⟨rfl, rfl⟩
    go_wp2_with fail
    go_ret
    exact ⟨rfl, by (repeat' (first | (with_reducible exact Below.refl _ _) | (with_reducible assumption) | (with_reducible refine balloc ?_ _) | (with_reducible refine Below.drew ?_) | (with_reducible refine below_drewN ?_ _) | (with_reducible refine bset ?_ ?_ _) | (with_reducible refine bstep ?_ (by assumption)) | go_size))⟩
  simp only [if_neg hbq] at KQ
  have hk8 : ((1048576 - n : Nat) : Int) - (nq : Int) = ((1048576 - n - nq : Nat) : Int) := by omega
  rw [hk8] at KQ
  have KQ := Lib.hid KQ
  have hnq' : nq ≤ 1048576 := by omega
  obtain ⟨X, Y, B, KS, KI⟩ : ∃ (X Y : Int) (B : Bool), Hid (∀ (w : World) (g gq : Nat), ArgRow w (some ⟨g, 0, none⟩) n n 3 (wires l) → ArgRow w (some ⟨gq, 0, none⟩) nq nq 2 (rats Q) → Calls Try.prog 44 #[netV N E S (some ⟨g, 0, none⟩) n n, .slice (some ⟨gq, 0, none⟩) nq nq] w fun e w' => e = .returned (.tuple #[ratV X Y, .bool B]) ∧ Below w.heap.size w w') ∧ Hid (∀ (w : World) (g gq : Nat), ArgRow w (some ⟨g, 0, none⟩) n n 3 (wires l) → ArgRow w (some ⟨gq, 0, none⟩) nq nq 2 (rats Q) → Calls Try.prog 26 #[netV N E S (some ⟨g, 0, none⟩) n n, .slice (some ⟨gq, 0, none⟩) nq nq] w fun e w' => e = .returned (.tuple #[ratV X Y, .bool B]) ∧ Below w.heap.size w w') := by
    obtain ⟨B, hB⟩ := bool_of (PowOk N E S l Q)
    exact ⟨_, _, B, fun w g gq rr rq => specPowerOf N E S _ n n l _ nq nq Q B hB w rr hl rq, fun w g gq rr rq => implPowerOf N E S _ n n l _ nq nq Q B hB w rr hl rq⟩
  have hz : ¬ ((1048576 - n : Nat) : Int) < 0 := by omega
  have hz2 : ¬ ((1048576 - n - nq : Nat) : Int) < 0 := by omega
  clear hr hl hn hb hbq hp hnq hk9 hk8
  generalize 1048576 - n - nq = m2 at *
  generalize 1048576 - n = m at *
  go_enter Try.func8, Try.ntmps8
  go_wp2_with fail
  refine (K.out _).mono ?_
  rintro e w1 ⟨rfl, hb1⟩
  obtain ⟨u1_0, v1_0, z1_0, n1_0, m1_0⟩ := bltn hb1 (b := w.heap.size) (by (first | omega | (simp only [World.size_alloc, World.size_setCell, World.size_drew, World.heap_drewN]; omega)))
  have B1 : Hid (Below w.heap.size w w1) := bstep (balloc (Below.refl _ _) _) hb1
  clear hb1
  go_wp2_with fail
  refine (KQ.out _).mono ?_
  rintro e wy ⟨rfl, rfl⟩
  go_wp2_with fail
  refine (toNet N E S a n c l _ (HR.out.below B1.out) HL.out hn').mono ?_
  rintro e w2 ⟨g2, rfl, o2, hb2⟩
  obtain ⟨u2_0, v2_0, z2_0, n2_0, m2_0⟩ := bltn hb2 (b := w.heap.size) (by (first | omega | (simp only [World.size_alloc, World.size_setCell, World.size_drew, World.heap_drewN]; omega)))
  have R2 := Lib.hid (ArgRow.own o2)
  have B2 : Hid (Below w.heap.size w w2) := bstep B1.out hb2
  clear o2 hb2
  go_wp2_with fail
  refine (toRats aq nq cq Q _ (HP.out.below B2.out) hnq').mono ?_
  rintro e wa ⟨ga, rfl, oa, hba⟩
  obtain ⟨ua_0, va_0, za_0, na_0, ma_0⟩ := bltn hba (b := w.heap.size) (by (first | omega | (simp only [World.size_alloc, World.size_setCell, World.size_drew, World.heap_drewN]; omega)))
  have RA := Lib.hid (ArgRow.own oa)
  have R2a := Lib.hid (R2.out.below hba)
  have BA : Hid (Below w.heap.size w wa) := bstep B2.out hba
  clear oa hba
  go_wp2_with fail
  refine (KS.out _ g2 ga R2a.out RA.out).mono ?_
  rintro e w3 ⟨rfl, hb3⟩
  obtain ⟨u3_0, v3_0, z3_0, n3_0, m3_0⟩ := bltn hb3 (b := w.heap.size) (by (first | omega | (simp only [World.size_alloc, World.size_setCell, World.size_drew, World.heap_drewN]; omega)))
  have B3 : Hid (Below w.heap.size w w3) := bstep BA.out hb3
  clear hb3
  go_wp2_with fail
  refine (toNet N E S a n c l _ (HR.out.below (balloc B3.out _)) HL.out hn').mono ?_
  rintro e w4 ⟨g4, rfl, o4, hb4⟩
  obtain ⟨u4_0, v4_0, z4_0, n4_0, m4_0⟩ := bltn hb4 (b := w.heap.size) (by (first | omega | (simp only [World.size_alloc, World.size_setCell, World.size_drew, World.heap_drewN]; omega)))
  obtain ⟨u4_1, v4_1, z4_1, n4_1, m4_1⟩ := bltn hb4 (b := w3.heap.size) (by (first | omega | (simp only [World.size_alloc, World.size_setCell, World.size_drew, World.heap_drewN]; omega)))
  have R4 := Lib.hid (ArgRow.own o4)
  have B4 : Hid (Below w.heap.size w w4) := bstep (balloc B3.out _) hb4
  clear o4 hb4
  go_wp2_with fail
  refine (toRats aq nq cq Q _ (HP.out.below (balloc B4.out _)) hnq').mono ?_
  rintro e wb ⟨gb, rfl, ob, hbb⟩
  obtain ⟨ub_0, vb_0, zb_0, nb_0, mb_0⟩ := bltn hbb (b := w.heap.size) (by (first | omega | (simp only [World.size_alloc, World.size_setCell, World.size_drew, World.heap_drewN]; omega)))
  obtain ⟨ub_1, vb_1, zb_1, nb_1, mb_1⟩ := bltn hbb (b := w3.heap.size) (by (first | omega | (simp only [World.size_alloc, World.size_setCell, World.size_drew, World.heap_drewN]; omega)))
  obtain ⟨ub_2, vb_2, zb_2, nb_2, mb_2⟩ := bltn hbb (b := w4.heap.size) (by (first | omega | (simp only [World.size_alloc, World.size_setCell, World.size_drew, World.heap_drewN]; omega)))
  have RB := Lib.hid (ArgRow.own ob)
  have R4b : Hid (ArgRow wb (some ⟨g4, 0, none⟩) n n 3 (wires l)) := (R4.out.below (w' := w4.alloc _) (by (repeat' (first | (with_reducible exact Below.refl _ _) | (with_reducible assumption) | (with_reducible refine balloc ?_ _) | (with_reducible refine Below.drew ?_) | (with_reducible refine below_drewN ?_ _) | (with_reducible refine bset ?_ ?_ _) | (with_reducible refine bstep ?_ (by assumption)) | go_size)))).below hbb
  have BB : Hid (Below w.heap.size w wb) := bstep (balloc B4.out _) hbb
  clear ob hbb
  go_wp2_with fail
  refine (KI.out _ g4 gb R4b.out RB.out).mono ?_
  rintro e w5 ⟨rfl, hb5⟩
  obtain ⟨u5_0, v5_0, z5_0, n5_0, m5_0⟩ := bltn hb5 (b := w.heap.size) (by (first | omega | (simp only [World.size_alloc, World.size_setCell, World.size_drew, World.heap_drewN]; omega)))
  obtain ⟨u5_1, v5_1, z5_1, n5_1, m5_1⟩ := bltn hb5 (b := w3.heap.size) (by (first | omega | (simp only [World.size_alloc, World.size_setCell, World.size_drew, World.heap_drewN]; omega)))
  obtain ⟨u5_2, v5_2, z5_2, n5_2, m5_2⟩ := bltn hb5 (b := w4.heap.size) (by (first | omega | (simp only [World.size_alloc, World.size_setCell, World.size_drew, World.heap_drewN]; omega)))
  have B5 : Hid (Below w.heap.size w w5) := bstep BB.out hb5
  have R5 := Lib.hid (R4b.out.below hb5)
  have RB5 := Lib.hid (RB.out.below hb5)
  clear hb5
  go_wp2_with fail
  refine (eqRatioSame X Y _).mono ?_
  rintro e wq ⟨rfl, hbq⟩
  obtain ⟨uq_0, vq_0, zq_0, nq_0, mq_0⟩ := bltn hbq (b := w.heap.size) (by (first | omega | (simp only [World.size_alloc, World.size_setCell, World.size_drew, World.heap_drewN]; omega)))
  obtain ⟨uq_1, vq_1, zq_1, nq_1, mq_1⟩ := bltn hbq (b := w4.heap.size) (by (first | omega | (simp only [World.size_alloc, World.size_setCell, World.size_drew, World.heap_drewN]; omega)))
  have BQ : Hid (Below w.heap.size w wq) := bstep (balloc B5.out _) hbq
  have RQ : Hid (ArgRow wq (some ⟨g4, 0, none⟩) n n 3 (wires l)) := (R5.out.below (w' := w5.alloc _) (by (repeat' (first | (with_reducible exact Below.refl _ _) | (with_reducible assumption) | (with_reducible refine balloc ?_ _) | (with_reducible refine Below.drew ?_) | (with_reducible refine below_drewN ?_ _) | (with_reducible refine bset ?_ ?_ _) | (with_reducible refine bstep ?_ (by assumption)) | go_size)))).below hbq
  have RBQ : Hid (ArgRow wq (some ⟨gb, 0, none⟩) nq nq 2 (rats Q)) := (RB5.out.below (w' := w5.alloc _) (by (repeat' (first | (with_reducible exact Below.refl _ _) | (with_reducible assumption) | (with_reducible refine balloc ?_ _) | (with_reducible refine Below.drew ?_) | (with_reducible refine below_drewN ?_ _) | (with_reducible refine bset ?_ ?_ _) | (with_reducible refine bstep ?_ (by assumption)) | go_size)))).below hbq
  clear hbq
  go_upto_region 14 with fail
  go_cut [53] (fun s wc => s = .bool false ∧ Hid (Below wq.heap.size wq wc))
  case first =>
    go_region_with (first
      | (go_at_call 45; ((with_reducible refine (toNet N E S a n c l _ (HR.out.below (by first | exact BQ.out | exact below_drewN BQ.out _ | exact BQ.out.drew)) HL.out hn').mono ?_); rintro e w6 ⟨g6, rfl, o6, hb6⟩); (try (replace hb6 := bdrew hb6)); have R6 := Lib.hid (ArgRow.own o6); have R56 := Lib.hid (RQ.out.below hb6); clear o6; (try (have hq_ := bltn hb6 (b := w.heap.size) (by (first | omega | (simp only [World.size_alloc, World.size_setCell, World.size_drew, World.heap_drewN]; omega))); obtain ⟨uu, vv, zz, nn, mm⟩ := hq_)); (try (have hq_ := bltn hb6 (b := w4.heap.size) (by (first | omega | (simp only [World.size_alloc, World.size_setCell, World.size_drew, World.heap_drewN]; omega))); obtain ⟨uu, vv, zz, nn, mm⟩ := hq_)))
      | (go_at_call 48; ((with_reducible refine (eqNet N E S (some ⟨g4, 0, none⟩) (some ⟨g6, 0, none⟩) n n n l _ (by exact R56.out) (by exact R6.out) HL.out).mono ?_); rintro e w7 ⟨rfl, hb7⟩); (try (replace hb7 := bdrew hb7))))
    all_goals
      go_wp2_with fail
      go_meet
      exact ⟨rfl, bstep hb6 hb7⟩
  case rest =>
    obtain ⟨rfl, HBC⟩ := hcut
    have HPC : Hid (ArgRow wc aq nq cq 2 (rats Q)) := HP.out.below (BQ.out.trans (HBC.out.mono BQ.out.size))
    go_wp2_with fail
    refine (toRats aq nq cq Q _ HPC.out hnq').mono ?_
    rintro e we ⟨ge, rfl, oe, hbe⟩
    have RE := Lib.hid (ArgRow.own oe)
    have RBE := Lib.hid ((RBQ.out.below HBC.out).below hbe)
    clear oe
    go_wp2_with fail
    refine (eqRats (some ⟨gb, 0, none⟩) (some ⟨ge, 0, none⟩) nq nq nq Q _ RBE.out RE.out).mono ?_
    rintro e wf ⟨rfl, hbf⟩
    go_wp2_with fail
    go_ret
    exact ⟨rfl, BQ.out.trans (((HBC.out.trans (hbe.mono HBC.out.size)).trans (hbf.mono (by have := HBC.out.size; have := hbe.size; omega))).mono BQ.out.size)⟩
end Go.Proofs.Ytjchindjoailbaa

/- For every input the program's PowerOf returns what the reference's PowerOf returns: the law FnExactPowerOf answers true and leaves its arguments as they were. -/
namespace Go.Proofs.Ytjchindjoailbaa
set_option linter.unusedSimpArgs false
set_option linter.unusedVariables false
open Go.ChangeShapes Go.WideShapes Go.ChangeAt Go.RowKit
open Go.ChangeMaps (open_string shut_string)
set_option linter.unusedVariables false

set_option maxRecDepth 100000 in
theorem lifted_FnExactPowerOf (os : Os) (started : os.Started) (H : Type) (enc : TypeId × Value → H) :
    ReturnsInHanded {} Try.checked os 8 .any (Rows.fnExactPowerOfSpec.pre6 enc Try.prog Try.f8 Rows.fnExactPowerOfRow.domain false) (Rows.fnExactPowerOfSpec.post enc Try.prog Try.f8 false true false false) := by
  refine returnsInHanded_of_change (C := Try.checked) own started (by kernel_rfl) Try.func8
    (ChangeSpec.witness6 (enc := enc) (C := Try.checked) false ⟨#[], #[.agg #[.int .i64 0, .int .i64 0, .int .i64 0, .slice none 0 0], .slice none 0 0], []⟩ 8 (by kernel_rfl) (by kernel_rfl) (by kernel_rfl) (by kernel_rfl)) ?_
  intro W base args ds gs before hval0 hW hcnd _
  have hval : ∀ (j : Nat) t v, Try.f8.params[j]? = some t → args[j]? = some v → Value.okWide Try.prog W .any base t v := hval0
  have hW' := hW
  obtain ⟨p, q, hA0, hV, rfl, hfz, hnd⟩ := hW
  have hA : DataW.TrodAll enc Try.prog W 0 (fun _ => true) true Try.f8.params.toList args.toList ds p := hA0
  rw [Try.params8] at hA hval
  obtain ⟨v0, vs0, d0, ds0, p0, q0, hargs, rfl, rfl, h0, r0⟩ := trodAll_cons hA
  obtain ⟨v1, vs1, d1, ds1, p1, q1, rfl, rfl, rfl, h1, r1⟩ := trodAll_cons r0
  obtain ⟨rfl, rfl, rfl⟩ := trodAll_nil r1
  obtain rfl : args = #[v0, v1] := by cases args; simp_all
  obtain ⟨rfl, rfl⟩ := trodVars_none hV
  have k0 := h0
  have lt0 : ∀ x ∈ p0, x.block < W.heap.size := by obtain ⟨m, hm⟩ := k0; exact DataW.trod_lt m _ _ _ hm
  obtain ⟨N0, E0, S0, a0, n0, c0, l0, e0a, w0⟩ := open_net (hval 0 60 v0 rfl rfl) h0
  subst e0a
  have k1 := h1
  have lt1 : ∀ x ∈ p1, x.block < W.heap.size := by obtain ⟨m, hm⟩ := k1; exact DataW.trod_lt m _ _ _ hm
  obtain ⟨b1, bn1, bc1, rfl⟩ := okWide_slice Try.underlying61 (hval 1 61 v1 rfl rfl)
  obtain ⟨fu1, hm1⟩ := h1
  obtain ⟨a1, n1, c1, l1, e1, w1, x1⟩ := open_rats1 hm1
  have e1 : [Value.slice b1 bn1 bc1] = [Value.slice a1 n1 c1] := e1
  simp only [List.cons.injEq, Value.slice.injEq, and_true] at e1
  obtain ⟨rfl, rfl, rfl⟩ := e1
  clear hA0 hval0
  refine (walk_FnExactPowerOf N0 E0 S0 a0 n0 c0 l0 _ _ _ l1 W w0 w1 x1).mono fun e W' ⟨he, bel⟩ => ?_
  subst he
  exact ⟨_, rfl, _, _, _, [], _, [], hW', trodAll_mk1 (shut_bool Try.underlying4 _), (trodAll_cons_mk (Below.trod laidOut (by kernel_rfl) (of_decide_eq_true (by kernel_rfl)) k0 bel lt0) (trodAll_cons_mk (Below.trod laidOut (by kernel_rfl) (of_decide_eq_true (by kernel_rfl)) k1 bel lt1) trodAll_mk0)), rfl, bel.frame _, fun h => by cases h⟩

set_option maxRecDepth 100000 in
set_option maxHeartbeats 8000000 in
theorem closed_FnExactPowerOf : joinedFacts Try.pinned.checked.prog 8 Try.f8 Rows.fnExactPowerOfSpec Rows.fnExactPowerOfRow = true := by
  unfold joinedFacts
  repeat' (with_reducible refine band ?_ ?_)
  all_goals first | (with_reducible exact mayEnter_p) | ((with_reducible refine bmake (finals_p.trans ?_)); rfl) | ((with_reducible refine beq_iff_eq.2 (make_p.trans ?_)); rfl) | (as_aux_lemma => kernel_rfl)

theorem fnExactPowerOf_holds : Rows.FnExactPowerOfSaid :=
  OpenClaim.holds_of_wide 8 Try.f8 rfl rfl rfl rfl rfl rfl rfl ⟨rfl, rfl, rfl, rfl, rfl⟩ rfl rfl rfl rfl rfl (by kernel_rfl) Try.func8 closed_FnExactPowerOf
    (of_decide_eq_true (by kernel_rfl)) (by unfold Func.isWrapper; first | (rw [if_pos (by decide +kernel)]; kernel_rfl) | (rw [if_neg (by decide +kernel)]; exact ⟨rfl, rfl⟩))
    (fun os started H enc _ => lifted_FnExactPowerOf os started H enc)

end Go.Proofs.Ytjchindjoailbaa
