/- CurrentOn: the law's walk. -/
import Derived.Test.YtjchindjoailbaaG19
import Derived.Test.YtjchindjoailbaaG14
import Derived.WalkKit
import Derived.ProofKit
import Derived.OpenShut
import Derived.ShutString
import Derived.ChangeOld
import Derived.Below
import Derived.Lib.SmallJoins
namespace Go.Proofs.Ytjchindjoailbaa
set_option linter.unusedSimpArgs false
set_option linter.unusedVariables false
open Go.RowKit

set_option maxRecDepth 100000 in
set_option maxHeartbeats 8000000 in
theorem walk_FnExactCurrentOn (N E S : Int) (a : Option Addr) (n c : Nat) (l : List Wz) (p : Int) (q : Int) (x : Int) (y : Int) (w : World) (ha : NetArg w N E S a n c l) (h_p : (Lit.int .i64 p).wf = true) (h_q : (Lit.int .i64 q).wf = true) (h_x : (Lit.int .i64 x).wf = true) (h_y : (Lit.int .i64 y).wf = true) :
    Calls Try.prog 12 #[netV N E S a n c, .int .i64 p, .int .i64 q, .int .i64 x, .int .i64 y] w fun e w' => e = .returned (.bool true) ∧ Below w.heap.size w w' := by
  have hr := ha.row
  have hl := ha.len
  have hwf := ha.wl
  have hN := i64_bd ha.wN
  have hE := i64_bd ha.wE
  have hS := i64_bd ha.wS
  have b_p := i64_bd h_p
  have b_q := i64_bd h_q
  have b_x := i64_bd h_x
  have b_y := i64_bd h_y
  have hn := hr.le
  clear ha
  have K := fun w => szNet N E S a n c w hn
  by_cases hb : 1048576 < n
  · simp only [if_pos hb] at K
    have K := Lib.hid K
    go_enter Try.func12, Try.ntmps12
    go_wp2_with fail
    refine (K.out _).mono ?_
    rintro e wx ⟨rfl, hbx⟩
    obtain ⟨hcx, hfx⟩ := bcell hbx
    have hzx := bsize hbx
    go_wp2_with fail
    go_ret
    exact ⟨rfl, by (repeat' (first | (with_reducible exact Below.refl _ _) | (with_reducible assumption) | (with_reducible refine balloc ?_ _) | (with_reducible refine Below.drew ?_) | (with_reducible refine below_drewN ?_ _) | (with_reducible refine bset ?_ ?_ _) | (with_reducible refine bstep ?_ (by assumption)) | go_size))⟩
  simp only [if_neg hb] at K
  have K := Lib.hid K
  have HR := Lib.hid hr
  have HL := Lib.hid hl
  have hn' : n ≤ 1048576 := by omega
  obtain ⟨X, Y, B, KS, KI⟩ : ∃ (X Y : Int) (B : Bool), Hid (∀ (w : World) (g : Nat), ArgRow w (some ⟨g, 0, none⟩) n n 3 (wires l) → Calls Try.prog 64 #[netV N E S (some ⟨g, 0, none⟩) n n, .int .i64 p, .int .i64 q, .int .i64 x, .int .i64 y] w fun e w' => e = .returned (.tuple #[ratV X Y, .bool B]) ∧ Below w.heap.size w w') ∧ Hid (∀ (w : World) (g : Nat), ArgRow w (some ⟨g, 0, none⟩) n n 3 (wires l) → Calls Try.prog 18 #[netV N E S (some ⟨g, 0, none⟩) n n, .int .i64 p, .int .i64 q, .int .i64 x, .int .i64 y] w fun e w' => e = .returned (.tuple #[ratV X Y, .bool B]) ∧ Below w.heap.size w w') := by
    by_cases hok : CurOk N E S l p q x y
    · obtain ⟨M, rfl⟩ : ∃ M : Nat, N = M := ⟨N.toNat, by have := hok.pot.net.h.n1; omega⟩
      exact ⟨_, _, _, fun w g rr => specCurrentOn M E S _ n n l p q x y hok w rr hl, fun w g rr => implCurrentOn M E S _ n n l p q x y hok w rr hl⟩
    · exact ⟨_, _, _, fun w g rr => specCurrentOn0 N E S _ n n l p q x y hok w rr hl, fun w g rr => implCurrentOn0 N E S _ n n l p q x y hok w rr hl⟩
  clear hr hl hn hb hwf
  go_enter Try.func12, Try.ntmps12
  go_wp2_with fail
  refine (K.out _).mono ?_
  rintro e w1 ⟨rfl, hb1⟩
  have zq1_0 := blt hb1 (b := w.heap.size) (by (first | omega | (simp only [World.size_alloc, World.size_setCell, World.size_drew, World.heap_drewN]; omega)))
  obtain ⟨uq1_0, vq1_0, zz1_0⟩ := zq1_0
  go_wp2_with fail
  have B1 : Hid (Below w.heap.size w w1) := (by (repeat' (first | (with_reducible exact Below.refl _ _) | (with_reducible assumption) | (with_reducible refine balloc ?_ _) | (with_reducible refine Below.drew ?_) | (with_reducible refine below_drewN ?_ _) | (with_reducible refine bset ?_ ?_ _) | (with_reducible refine bstep ?_ (by assumption)) | go_size)) : Below w.heap.size w w1)
  refine (toNet N E S a n c l _ (HR.out.below B1.out) HL.out hn').mono ?_
  rintro e w2 ⟨g2, rfl, o2, hb2⟩
  have zq2 := blt hb2 (b := w.heap.size) (by (first | omega | (simp only [World.size_alloc, World.size_setCell, World.size_drew, World.heap_drewN]; omega)))
  obtain ⟨uq2, vq2, zz2⟩ := zq2
  have R2 := Lib.hid (ArgRow.own o2)
  have B2 : Hid (Below w.heap.size w w2) := bstep B1.out hb2
  clear o2
  go_wp2_with fail
  refine (KS.out _ g2 R2.out).mono ?_
  rintro e w3 ⟨rfl, hb3⟩
  have zq3 := blt hb3 (b := w.heap.size) (by (first | omega | (simp only [World.size_alloc, World.size_setCell, World.size_drew, World.heap_drewN]; omega)))
  obtain ⟨uq3, vq3, zz3⟩ := zq3
  have B3 : Hid (Below w.heap.size w w3) := bstep B2.out hb3
  go_wp2_with fail
  refine (toNet N E S a n c l _ (HR.out.below (balloc B3.out _)) HL.out hn').mono ?_
  rintro e w4 ⟨g4, rfl, o4, hb4⟩
  obtain ⟨uq4, vq4, zz4, zn4, zm4⟩ := bltn hb4 (b := w.heap.size) (by (first | omega | (simp only [World.size_alloc, World.size_setCell, World.size_drew, World.heap_drewN]; omega)))
  obtain ⟨ut4, vt4, zt4, tn4, tm4⟩ := bltn hb4 (b := w3.heap.size) (by (first | omega | (simp only [World.size_alloc, World.size_setCell, World.size_drew, World.heap_drewN]; omega)))
  have R4 := Lib.hid (ArgRow.own o4)
  have B4 : Hid (Below w.heap.size w w4) := bstep (balloc B3.out _) hb4
  clear o4
  go_wp2_with fail
  refine (KI.out _ g4 (R4.out.below (by (repeat' (first | (with_reducible exact Below.refl _ _) | (with_reducible assumption) | (with_reducible refine balloc ?_ _) | (with_reducible refine Below.drew ?_) | (with_reducible refine below_drewN ?_ _) | (with_reducible refine bset ?_ ?_ _) | (with_reducible refine bstep ?_ (by assumption)) | go_size))))).mono ?_
  rintro e w5 ⟨rfl, hb5⟩
  obtain ⟨uq5, vq5, zz5, zn5, zm5⟩ := bltn hb5 (b := w.heap.size) (by (first | omega | (simp only [World.size_alloc, World.size_setCell, World.size_drew, World.heap_drewN]; omega)))
  obtain ⟨ut5, vt5, zt5, tn5, tm5⟩ := bltn hb5 (b := w3.heap.size) (by (first | omega | (simp only [World.size_alloc, World.size_setCell, World.size_drew, World.heap_drewN]; omega)))
  obtain ⟨ur5, vr5, zs5, rn5, rm5⟩ := bltn hb5 (b := w4.heap.size) (by (first | omega | (simp only [World.size_alloc, World.size_setCell, World.size_drew, World.heap_drewN]; omega)))
  have B5 : Hid (Below w.heap.size w w5) := bstep (balloc B4.out _) hb5
  have R5 : Hid (ArgRow w5 (some ⟨g4, 0, none⟩) n n 3 (wires l)) := (R4.out.below (w' := w4.alloc _) (by (repeat' (first | (with_reducible exact Below.refl _ _) | (with_reducible assumption) | (with_reducible refine balloc ?_ _) | (with_reducible refine Below.drew ?_) | (with_reducible refine below_drewN ?_ _) | (with_reducible refine bset ?_ ?_ _) | (with_reducible refine bstep ?_ (by assumption)) | go_size)))).below hb5
  go_wp2_with fail
  refine (eqRatioSame X Y _).mono ?_
  rintro e wq ⟨rfl, hbq⟩
  obtain ⟨uqq, vqq, zzq, znq, zmq⟩ := bltn hbq (b := w.heap.size) (by (first | omega | (simp only [World.size_alloc, World.size_setCell, World.size_drew, World.heap_drewN]; omega)))
  obtain ⟨urq, vrq, zsq, rnq, rmq⟩ := bltn hbq (b := w4.heap.size) (by (first | omega | (simp only [World.size_alloc, World.size_setCell, World.size_drew, World.heap_drewN]; omega)))
  have BQ : Hid (Below w.heap.size w wq) := bstep (balloc B5.out _) hbq
  have RQ : Hid (ArgRow wq (some ⟨g4, 0, none⟩) n n 3 (wires l)) := (R5.out.below (w' := w5.alloc _) (by (repeat' (first | (with_reducible exact Below.refl _ _) | (with_reducible assumption) | (with_reducible refine balloc ?_ _) | (with_reducible refine Below.drew ?_) | (with_reducible refine below_drewN ?_ _) | (with_reducible refine bset ?_ ?_ _) | (with_reducible refine bstep ?_ (by assumption)) | go_size)))).below hbq
  go_wp2_with fail
  go_region_with (first
    | (go_at_call 45; ((with_reducible refine (toNet N E S a n c l _ (HR.out.below (by first | exact BQ.out | exact below_drewN BQ.out _ | exact BQ.out.drew)) HL.out hn').mono ?_); rintro e w6 ⟨g6, rfl, o6, hb6⟩); (try (replace hb6 := bdrew hb6)); have R6 := Lib.hid (ArgRow.own o6); have R56 := Lib.hid (RQ.out.below hb6); clear o6; (try (have hq_ := bltn hb6 (b := w.heap.size) (by (first | omega | (simp only [World.size_alloc, World.size_setCell, World.size_drew, World.heap_drewN]; omega))); obtain ⟨uu, vv, zz, nn, mm⟩ := hq_)); (try (have hq_ := bltn hb6 (b := w4.heap.size) (by (first | omega | (simp only [World.size_alloc, World.size_setCell, World.size_drew, World.heap_drewN]; omega))); obtain ⟨uu, vv, zz, nn, mm⟩ := hq_)))
    | (go_at_call 48; ((with_reducible refine (eqNet N E S (some ⟨g4, 0, none⟩) (some ⟨g6, 0, none⟩) n n n l _ (by exact R56.out) (by exact R6.out) HL.out).mono ?_); rintro e w7 ⟨rfl, hb7⟩); (try (replace hb7 := bdrew hb7))))
  all_goals
    go_wp2_with fail
    go_ret
    exact ⟨rfl, bstep (bstep BQ.out hb6) hb7⟩
end Go.Proofs.Ytjchindjoailbaa

/- For every input the program's CurrentOn returns what the reference's CurrentOn returns: the law FnExactCurrentOn answers true and leaves its arguments as they were. -/
namespace Go.Proofs.Ytjchindjoailbaa
set_option linter.unusedSimpArgs false
set_option linter.unusedVariables false
open Go.ChangeShapes Go.WideShapes Go.ChangeAt Go.RowKit
open Go.ChangeMaps (open_string shut_string)
set_option linter.unusedVariables false

set_option maxRecDepth 100000 in
theorem lifted_FnExactCurrentOn (os : Os) (started : os.Started) (H : Type) (enc : TypeId × Value → H) :
    ReturnsInHanded {} Try.checked os 12 .any (Rows.fnExactCurrentOnSpec.pre6 enc Try.prog Try.f12 Rows.fnExactCurrentOnRow.domain false) (Rows.fnExactCurrentOnSpec.post enc Try.prog Try.f12 false true false false) := by
  refine returnsInHanded_of_change (C := Try.checked) own started (by kernel_rfl) Try.func12
    (ChangeSpec.witness6 (enc := enc) (C := Try.checked) false ⟨#[], #[.agg #[.int .i64 0, .int .i64 0, .int .i64 0, .slice none 0 0], .int .i64 0, .int .i64 0, .int .i64 0, .int .i64 0], []⟩ 8 (by kernel_rfl) (by kernel_rfl) (by kernel_rfl) (by kernel_rfl)) ?_
  intro W base args ds gs before hval0 hW hcnd _
  have hval : ∀ (j : Nat) t v, Try.f12.params[j]? = some t → args[j]? = some v → Value.okWide Try.prog W .any base t v := hval0
  have hW' := hW
  obtain ⟨p, q, hA0, hV, rfl, hfz, hnd⟩ := hW
  have hA : DataW.TrodAll enc Try.prog W 0 (fun _ => true) true Try.f12.params.toList args.toList ds p := hA0
  rw [Try.params12] at hA hval
  obtain ⟨v0, vs0, d0, ds0, p0, q0, hargs, rfl, rfl, h0, r0⟩ := trodAll_cons hA
  obtain ⟨v1, vs1, d1, ds1, p1, q1, rfl, rfl, rfl, h1, r1⟩ := trodAll_cons r0
  obtain ⟨v2, vs2, d2, ds2, p2, q2, rfl, rfl, rfl, h2, r2⟩ := trodAll_cons r1
  obtain ⟨v3, vs3, d3, ds3, p3, q3, rfl, rfl, rfl, h3, r3⟩ := trodAll_cons r2
  obtain ⟨v4, vs4, d4, ds4, p4, q4, rfl, rfl, rfl, h4, r4⟩ := trodAll_cons r3
  obtain ⟨rfl, rfl, rfl⟩ := trodAll_nil r4
  obtain rfl : args = #[v0, v1, v2, v3, v4] := by cases args; simp_all
  obtain ⟨rfl, rfl⟩ := trodVars_none hV
  have k0 := h0
  have lt0 : ∀ x ∈ p0, x.block < W.heap.size := by obtain ⟨m, hm⟩ := k0; exact DataW.trod_lt m _ _ _ hm
  obtain ⟨N0, E0, S0, a0, n0, c0, l0, e0a, w0⟩ := open_net (hval 0 60 v0 rfl rfl) h0
  subst e0a
  have k1 := h1
  have lt1 : ∀ x ∈ p1, x.block < W.heap.size := by obtain ⟨m, hm⟩ := k1; exact DataW.trod_lt m _ _ _ hm
  obtain ⟨a1, e1a, e1b, e1c, w1⟩ := open_int Try.underlying3 (hval 1 3 v1 rfl rfl) h1
  subst e1a
  have k2 := h2
  have lt2 : ∀ x ∈ p2, x.block < W.heap.size := by obtain ⟨m, hm⟩ := k2; exact DataW.trod_lt m _ _ _ hm
  obtain ⟨a2, e2a, e2b, e2c, w2⟩ := open_int Try.underlying3 (hval 2 3 v2 rfl rfl) h2
  subst e2a
  have k3 := h3
  have lt3 : ∀ x ∈ p3, x.block < W.heap.size := by obtain ⟨m, hm⟩ := k3; exact DataW.trod_lt m _ _ _ hm
  obtain ⟨a3, e3a, e3b, e3c, w3⟩ := open_int Try.underlying3 (hval 3 3 v3 rfl rfl) h3
  subst e3a
  have k4 := h4
  have lt4 : ∀ x ∈ p4, x.block < W.heap.size := by obtain ⟨m, hm⟩ := k4; exact DataW.trod_lt m _ _ _ hm
  obtain ⟨a4, e4a, e4b, e4c, w4⟩ := open_int Try.underlying3 (hval 4 3 v4 rfl rfl) h4
  subst e4a
  clear hA0 hval0
  refine (walk_FnExactCurrentOn N0 E0 S0 a0 n0 c0 l0 a1 a2 a3 a4 W w0 w1 w2 w3 w4).mono fun e W' ⟨he, bel⟩ => ?_
  subst he
  exact ⟨_, rfl, _, _, _, [], _, [], hW', trodAll_mk1 (shut_bool Try.underlying4 _), (trodAll_cons_mk (Below.trod laidOut (by kernel_rfl) (of_decide_eq_true (by kernel_rfl)) k0 bel lt0) (trodAll_cons_mk (Below.trod laidOut (by kernel_rfl) (of_decide_eq_true (by kernel_rfl)) k1 bel lt1) (trodAll_cons_mk (Below.trod laidOut (by kernel_rfl) (of_decide_eq_true (by kernel_rfl)) k2 bel lt2) (trodAll_cons_mk (Below.trod laidOut (by kernel_rfl) (of_decide_eq_true (by kernel_rfl)) k3 bel lt3) (trodAll_cons_mk (Below.trod laidOut (by kernel_rfl) (of_decide_eq_true (by kernel_rfl)) k4 bel lt4) trodAll_mk0))))), rfl, bel.frame _, fun h => by cases h⟩

set_option maxRecDepth 100000 in
set_option maxHeartbeats 8000000 in
theorem closed_FnExactCurrentOn : joinedFacts Try.pinned.checked.prog 12 Try.f12 Rows.fnExactCurrentOnSpec Rows.fnExactCurrentOnRow = true := by
  unfold joinedFacts
  repeat' (with_reducible refine band ?_ ?_)
  all_goals first | (with_reducible exact mayEnter_p) | ((with_reducible refine bmake (finals_p.trans ?_)); rfl) | ((with_reducible refine beq_iff_eq.2 (make_p.trans ?_)); rfl) | (as_aux_lemma => kernel_rfl)

theorem fnExactCurrentOn_holds : Rows.FnExactCurrentOnSaid :=
  OpenClaim.holds_of_wide 12 Try.f12 rfl rfl rfl rfl rfl rfl rfl ⟨rfl, rfl, rfl, rfl, rfl⟩ rfl rfl rfl rfl rfl (by kernel_rfl) Try.func12 closed_FnExactCurrentOn
    (of_decide_eq_true (by kernel_rfl)) (by unfold Func.isWrapper; first | (rw [if_pos (by decide +kernel)]; kernel_rfl) | (rw [if_neg (by decide +kernel)]; exact ⟨rfl, rfl⟩))
    (fun os started H enc _ => lifted_FnExactCurrentOn os started H enc)

end Go.Proofs.Ytjchindjoailbaa
