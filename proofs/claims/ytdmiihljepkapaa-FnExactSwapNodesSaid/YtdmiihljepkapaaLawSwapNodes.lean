/- SwapNodes: the law's walk. -/
import Derived.Test.YtdmiihljepkapaaSwapI
import Derived.Test.YtdmiihljepkapaaSwapS
import Derived.Test.YtdmiihljepkapaaResLaw
import Derived.Test.YtdmiihljepkapaaMarkN
import Derived.Test.YtdmiihljepkapaaResHd
namespace Go.Proofs.Ytdmiihljepkapaa
set_option linter.unusedSimpArgs false
set_option linter.unusedVariables false
open Go.RowKit

set_option maxRecDepth 100000 in
set_option maxHeartbeats 16000000 in
theorem walk_FnExactSwapNodes (N E S : Int) (a : Option Addr) (n c : Nat) (l : List Wz) (p : Int) (q : Int) (w : World) (ha : NetArg w N E S a n c l) (h_p : (Lit.int .i64 p).wf = true) (h_q : (Lit.int .i64 q).wf = true) :
    Calls Try.prog 14 #[netV N E S a n c, .int .i64 p, .int .i64 q] w fun e w' => e = .returned (.bool true) ∧ Below w.heap.size w w' := by
  have hr := ha.row
  have hl := ha.len
  have hwf := ha.wl
  have hN := i64_bd ha.wN
  have hE := i64_bd ha.wE
  have hS := i64_bd ha.wS
  have b_p := i64_bd h_p
  have b_q := i64_bd h_q
  have hn := hr.le
  clear ha
  have K := fun w => szNet N E S a n c w hn
  by_cases hb : 1048576 < n
  · simp only [if_pos hb] at K
    have K := Lib.hid K
    go_enter Try.func14, Try.ntmps14
    go_wp2_with fail
    refine (K.out _).mono ?_
    rintro e wx ⟨rfl, hbx⟩
    obtain ⟨hcx, hfx⟩ := bcell hbx
    have hzx := bsize hbx
    go_wp2_with fail
    go_ret
    exact ⟨rfl, by (repeat' (first | (with_reducible exact Below.refl _ _) | (with_reducible assumption) | (with_reducible refine balloc ?_ _) | (with_reducible refine Below.drew ?_) | (with_reducible refine below_drewN ?_ _) | (with_reducible refine bset ?_ ?_ _) | (with_reducible refine bstep ?_ (by assumption)) | go_size))⟩
  simp only [if_neg hb] at K
  have K := Lib.hid K
  have HR := Lib.hid hr
  have HL := Lib.hid hl
  have hn' : n ≤ 1048576 := by omega
  obtain ⟨N', E', S', B, L, m, hm, hLm, KS, KI⟩ : ∃ (N' E' S' : Int) (B : Bool) (L : List Wz) (m : Nat), m ≤ 1048576 ∧ L.length = m ∧ Hid (∀ (w : World) (g : Nat), ArgRow w (some ⟨g, 0, none⟩) n n 3 (wires l) → Calls Try.prog 74 #[netV N E S (some ⟨g, 0, none⟩) n n, .int .i64 p, .int .i64 q] w fun e w' => ∃ a' c', e = .returned (.tuple #[netV N' E' S' a' m c', .bool B]) ∧ ArgRow w' a' m c' 3 (wires L) ∧ Below w.heap.size w w') ∧ Hid (∀ (w : World) (g : Nat), ArgRow w (some ⟨g, 0, none⟩) n n 3 (wires l) → Calls Try.prog 75 #[netV N E S (some ⟨g, 0, none⟩) n n, .int .i64 p, .int .i64 q] w fun e w' => ∃ a' c', e = .returned (.tuple #[netV N' E' S' a' m c', .bool B]) ∧ w'.ownsRow w.heap.size 104 3 (.slice a' m c') m (wires L) ∧ Below w.heap.size w w') := by
    obtain ⟨ok, M0, E0, S0, L0, hlen, HS0, HI0⟩ : ∃ (ok : Bool) (M0 E0 S0 : Int) (L0 : List Wz), (ok = true → L0.length ≤ 1048576) ∧ (∀ (w : World) (g : Nat), ArgRow w (some ⟨g, 0, none⟩) n n 3 (wires l) → Calls Try.prog 74 #[netV N E S (some ⟨g, 0, none⟩) n n, .int .i64 p, .int .i64 q] w fun e w' => NetRes e w w' ok M0 E0 S0 L0 ∧ Below w.heap.size w w') ∧ (∀ (w : World) (g : Nat), ArgRow w (some ⟨g, 0, none⟩) n n 3 (wires l) → Calls Try.prog 75 #[netV N E S (some ⟨g, 0, none⟩) n n, .int .i64 p, .int .i64 q] w fun e w' => NetRes e w w' ok M0 E0 S0 L0 ∧ Below w.heap.size w w') := by
      by_cases hok : NetOk N E S l
      · obtain ⟨M, rfl⟩ : ∃ M : Nat, N = M := ⟨N.toNat, by have := hok.h.n1; omega⟩
        by_cases hg : (0 ≤ p ∧ p < M) ∧ (0 ≤ q ∧ q < M)
        · exact ⟨true, M, E, S, swapL p q l, fun _ => by have := (hok.swap hg.1 hg.2).few; omega, fun w g rr => specSwapNodes M E S _ n n l p q hg.1 hg.2 hok w rr hl, fun w g rr => implSwapNodes M E S _ n n l p q hg.1 hg.2 hok w rr hl⟩
        · exact ⟨false, 0, 0, 0, [], by simp, fun w g rr => (specSwapNodes1 M E S _ n n l p q hok hg w rr hl).mono (fun e w' h => ⟨NetRes.bad h.1, h.2⟩), fun w g rr => (implSwapNodes1 M E S _ n n l p q hok hg w rr hl).mono (fun e w' h => ⟨NetRes.bad h.1, h.2⟩)⟩
      · exact ⟨false, 0, 0, 0, [], by simp, fun w g rr => (specSwapNodes0 N E S _ n n l p q hok w rr hl).mono (fun e w' h => ⟨NetRes.bad h.1, h.2⟩), fun w g rr => (implSwapNodes0 N E S _ n n l p q hok w rr hl).mono (fun e w' h => ⟨NetRes.bad h.1, h.2⟩)⟩
    refine ⟨if ok = true then M0 else 0, if ok = true then E0 else 0, if ok = true then S0 else 0, ok, if ok = true then L0 else [], (if ok = true then L0 else []).length, ?_, rfl, fun w g rr => (HS0 w g rr).mono ?_, fun w g rr => (HI0 w g rr).mono ?_⟩
    · cases ok
      · simp
      · simpa using hlen rfl
    · rintro e w' ⟨h1, h2⟩
      obtain ⟨a', c', h3, h4⟩ := h1.law
      exact ⟨a', c', h3, ArgRow.own h4, h2⟩
    · rintro e w' ⟨h1, h2⟩
      obtain ⟨a', c', h3, h4⟩ := h1.law
      exact ⟨a', c', h3, h4, h2⟩
  have HLM := Lib.hid hLm
  clear hr hl hn hb hwf hLm
  have XA0 : Hid (Bx (w.alloc (.cells #[.int .i64 N, .int .i64 E, .int .i64 S, .slice a n c] 44)) w.heap.size (.int .i64 N) (.int .i64 E) (.int .i64 S) (.slice a n c)) := bx_new _ _ _ _ _ _
  go_enter Try.func14, Try.ntmps14
  go_wp2_with fail
  refine (K.out _).mono ?_
  rintro e w1 ⟨rfl, hb1⟩
  have hA1 : w.heap.size < w1.heap.size := by have := hb1.size; simp at this; omega
  have HB1 : Hid (Below w.heap.size w w1) := bstep (balloc (Below.refl _ _) _) hb1
  have XA1 := Lib.hid (XA0.out.below (by simp) hb1)
  clear hb1 XA0
  obtain ⟨xA0, xA1, xA2, xA3⟩ := XA1.out
  have nA1 : ¬ w.heap.size = w1.heap.size := by omega
  have nA2 : ¬ w1.heap.size = w.heap.size := by omega
  go_wp2_with fail
  refine (toNet N E S a n c l _ (HR.out.below HB1.out) HL.out hn').mono ?_
  rintro e w2 ⟨g2, rfl, o2, hb2⟩
  have R2 := Lib.hid (ArgRow.own o2)
  clear o2
  clear xA0 xA1 xA2 xA3 nA1 nA2
  have hc2 : Below w1.heap.size w1 w2 := hb2
  have sz2 := hc2.size
  have HB2 : Hid (Below w.heap.size w w2) := HB1.out.trans (hc2.mono (by omega))
  have XA2 := Lib.hid (XA1.out.below (by omega) hc2)
  have hA2 : w.heap.size < w2.heap.size := by omega
  clear hb2; clear hc2
  go_wp2_with fail
  refine (KS.out _ g2 R2.out).mono ?_
  rintro e w3 ⟨aS, cS, rfl, rS, hb3⟩
  have RS := Lib.hid rS
  clear rS
  have hc3 : Below w2.heap.size w2 w3 := hb3
  have sz3 := hc3.size
  have HB3 : Hid (Below w.heap.size w w3) := HB2.out.trans (hc3.mono (by omega))
  have XA3 := Lib.hid (XA2.out.below (by omega) hc3)
  have hA3 : w.heap.size < w3.heap.size := by omega
  clear hb3; clear hc3
  have HC3 : Hid (Below w3.heap.size w3 w3) := Below.refl _ _
  obtain ⟨xA0, xA1, xA2, xA3⟩ := XA3.out
  have nA1 : ¬ w.heap.size = w3.heap.size := by omega
  have nA2 : ¬ w3.heap.size = w.heap.size := by omega
  go_wp2_with fail
  refine (toNet N E S a n c l _ (HR.out.below (balloc HB3.out _)) HL.out hn').mono ?_
  rintro e w4 ⟨g4, rfl, o4, hb4⟩
  have hg4 := own_base o4 _ rfl
  simp only [World.size_alloc] at hg4
  have R4 := Lib.hid (ArgRow.own o4)
  have O4 := Lib.hid o4
  clear o4
  clear xA0 xA1 xA2 xA3 nA1 nA2
  have hc4 : Below w3.heap.size w3 w4 := bstep (balloc (Below.refl _ _) _) hb4
  have XS4 : Hid (Bx w4 w3.heap.size (.int .i64 N') (.int .i64 E') (.int .i64 S') (.slice aS m cS)) := (bx_new _ _ _ _ _ _).below (by simp) hb4
  have hS4 : w3.heap.size < w4.heap.size := by have := hb4.size; simp at this; omega
  have sz4 := hc4.size
  have HB4 : Hid (Below w.heap.size w w4) := HB3.out.trans (hc4.mono (by omega))
  have XA4 := Lib.hid (XA3.out.below (by omega) hc4)
  have hA4 : w.heap.size < w4.heap.size := by omega
  have HC4 : Hid (Below w3.heap.size w3 w4) := HC3.out.trans (hc4.mono (by omega))
  clear hb4 hc4
  go_wp2_with fail
  refine (KI.out _ g4 (R4.out.below (by (repeat' (first | (with_reducible exact Below.refl _ _) | (with_reducible assumption) | (with_reducible refine balloc ?_ _) | (with_reducible refine Below.drew ?_) | (with_reducible refine below_drewN ?_ _) | (with_reducible refine bset ?_ ?_ _) | (with_reducible refine bstep ?_ (by assumption)) | go_size))))).mono ?_
  rintro e w5 ⟨aI, cI, rfl, oI, hb5⟩
  have hgI := oI.lt
  simp only [World.size_alloc] at hgI
  have HGI := Lib.hid hgI
  have OI5 := Lib.hid oI
  have R5 := Lib.hid ((R4.out.below (w' := w4.alloc _) (by (repeat' (first | (with_reducible exact Below.refl _ _) | (with_reducible assumption) | (with_reducible refine balloc ?_ _) | (with_reducible refine Below.drew ?_) | (with_reducible refine below_drewN ?_ _) | (with_reducible refine bset ?_ ?_ _) | (with_reducible refine bstep ?_ (by assumption)) | go_size)))).below hb5)
  have O5 := Lib.hid (own_below (O4.out.alloc _) hb5)
  clear oI hgI
  have hc5 : Below w4.heap.size w4 w5 := bstep (balloc (Below.refl _ _) _) hb5
  have XX5 : Hid (Bx w5 w4.heap.size (.int .i64 N) (.int .i64 E) (.int .i64 S) (.slice (some ⟨g4, 0, none⟩) n n)) := (bx_new _ _ _ _ _ _).below (by simp) hb5
  have hX5 : w4.heap.size < w5.heap.size := by have := hb5.size; simp at this; omega
  have sz5 := hc5.size
  have HB5 : Hid (Below w.heap.size w w5) := HB4.out.trans (hc5.mono (by omega))
  have XA5 := Lib.hid (XA4.out.below (by omega) hc5)
  have hA5 : w.heap.size < w5.heap.size := by omega
  have XS5 := Lib.hid (XS4.out.below (by omega) hc5)
  have hS5 : w3.heap.size < w5.heap.size := by omega
  have HC5 : Hid (Below w3.heap.size w3 w5) := HC4.out.trans (hc5.mono (by omega))
  clear hb5 hc5
  obtain ⟨xS0, xS1, xS2, xS3⟩ := XS5.out
  have nS1 : ¬ w3.heap.size = w5.heap.size := by omega
  have nS2 : ¬ w5.heap.size = w3.heap.size := by omega
  go_wp2_with fail
  refine (eqNet N' E' S' aI aS m cI cS L _ ((ArgRow.own OI5.out).below (by (repeat' (first | (with_reducible exact Below.refl _ _) | (with_reducible assumption) | (with_reducible refine balloc ?_ _) | (with_reducible refine Below.drew ?_) | (with_reducible refine below_drewN ?_ _) | (with_reducible refine bset ?_ ?_ _) | (with_reducible refine bstep ?_ (by assumption)) | go_size)))) (RS.out.below (HC5.out.alloc (by omega) _)) HLM.out).mono ?_
  rintro e w6 ⟨rfl, hb6⟩
  clear xS0 xS1 xS2 xS3 nS1 nS2
  have OI6 := Lib.hid (own_below (OI5.out.alloc _) hb6)
  have R6 := Lib.hid ((R5.out.below (w' := w5.alloc _) (by (repeat' (first | (with_reducible exact Below.refl _ _) | (with_reducible assumption) | (with_reducible refine balloc ?_ _) | (with_reducible refine Below.drew ?_) | (with_reducible refine below_drewN ?_ _) | (with_reducible refine bset ?_ ?_ _) | (with_reducible refine bstep ?_ (by assumption)) | go_size)))).below hb6)
  have O6 := Lib.hid (own_below (O5.out.alloc _) hb6)
  have hc6 : Below w5.heap.size w5 w6 := bstep (balloc (Below.refl _ _) _) hb6
  have XG6 : Hid (Bx w6 w5.heap.size (.int .i64 N') (.int .i64 E') (.int .i64 S') (.slice aI m cI)) := (bx_new _ _ _ _ _ _).below (by simp) hb6
  have hG6 : w5.heap.size < w6.heap.size := by have := hb6.size; simp at this; omega
  have sz6 := hc6.size
  have HB6 : Hid (Below w.heap.size w w6) := HB5.out.trans (hc6.mono (by omega))
  have XA6 := Lib.hid (XA5.out.below (by omega) hc6)
  have hA6 : w.heap.size < w6.heap.size := by omega
  have XS6 := Lib.hid (XS5.out.below (by omega) hc6)
  have hS6 : w3.heap.size < w6.heap.size := by omega
  have XX6 := Lib.hid (XX5.out.below (by omega) hc6)
  have hX6 : w4.heap.size < w6.heap.size := by omega
  have HC6 : Hid (Below w3.heap.size w3 w6) := HC5.out.trans (hc6.mono (by omega))
  clear hb6 hc6
  obtain ⟨xA0, xA1, xA2, xA3⟩ := XA6.out
  have nA1 : ¬ w.heap.size = w6.heap.size := by omega
  have nA2 : ¬ w6.heap.size = w.heap.size := by omega
  obtain ⟨xX0, xX1, xX2, xX3⟩ := XX6.out
  have nX1 : ¬ w4.heap.size = w6.heap.size := by omega
  have nX2 : ¬ w6.heap.size = w4.heap.size := by omega
  go_upto_region 10 with fail
  go_cut [53] (fun s wc => s = .bool false ∧ Hid (Below w6.heap.size w6 wc))
  case first =>
    go_region_with (first
      | (go_at_call 43; ((with_reducible refine (toNet N E S a n c l _ (HR.out.below (by first | exact HB6.out | exact HB6.out.drew | exact below_drewN HB6.out _)) HL.out hn').mono ?_); rintro e w7 ⟨g7, rfl, o7, hb7⟩); (try (replace hb7 := bdrew hb7)); have R7 := Lib.hid (ArgRow.own o7); have R67 := Lib.hid (R6.out.below hb7); clear o7; (try (have hq_ := bltn hb7 (b := w.heap.size) (by (first | omega | (simp only [World.size_alloc, World.size_setCell, World.size_drew, World.heap_drewN]; omega))); obtain ⟨uu, vv, zz, nn, mm⟩ := hq_)); (try (have hq_ := bltn hb7 (b := w4.heap.size) (by (first | omega | (simp only [World.size_alloc, World.size_setCell, World.size_drew, World.heap_drewN]; omega))); obtain ⟨uu, vv, zz, nn, mm⟩ := hq_)))
      | (go_at_call 45; ((with_reducible refine (eqNet N E S (some ⟨g4, 0, none⟩) (some ⟨g7, 0, none⟩) n n n l _ (by exact R67.out) (by exact R7.out) HL.out).mono ?_); rintro e w8 ⟨rfl, hb8⟩); (try (replace hb8 := bdrew hb8))))
    all_goals
      go_wp2_with fail
      go_meet
      exact ⟨rfl, bstep hb7 hb8⟩
  case rest =>
    obtain ⟨rfl, HQ⟩ := hcut
    have hq := HQ.out
    clear HQ
    clear xA0 xA1 xA2 xA3 nA1 nA2 xX0 xX1 xX2 xX3 nX1 nX2
    have hcc : Below w6.heap.size w6 wc := hq
    have szc := hcc.size
    have HBc : Hid (Below w.heap.size w wc) := HB6.out.trans (hcc.mono (by omega))
    have XAc := Lib.hid (XA6.out.below (by omega) hcc)
    have hAc : w.heap.size < wc.heap.size := by omega
    have XSc := Lib.hid (XS6.out.below (by omega) hcc)
    have hSc : w3.heap.size < wc.heap.size := by omega
    have XXc := Lib.hid (XX6.out.below (by omega) hcc)
    have hXc : w4.heap.size < wc.heap.size := by omega
    have XGc := Lib.hid (XG6.out.below (by omega) hcc)
    have hGc : w5.heap.size < wc.heap.size := by omega
    have HCc : Hid (Below w3.heap.size w3 wc) := HC6.out.trans (hcc.mono (by omega))
    have OIc := Lib.hid (own_below OI6.out hcc)
    have Oc := Lib.hid (own_below O6.out hcc)
    clear hq; clear hcc
    obtain ⟨xX0, xX1, xX2, xX3⟩ := XXc.out
    have nX1 : ¬ w4.heap.size = wc.heap.size := by omega
    have nX2 : ¬ wc.heap.size = w4.heap.size := by omega
    go_wp2_with fail
    refine (markNet N E S _ (some ⟨g4, 0, none⟩) n n _ _ Oc.out hn').mono ?_
    rintro e wa ⟨rfl, _, gma⟩
    clear xX0 xX1 xX2 xX3 nX1 nX2
    have sza := gma.size
    have HBa : Hid (Below w.heap.size w wa) := HBc.out.grown gma (by omega) (fun k hk => by simp [Value.ownBlock] at hk; omega)
    have HCa : Hid (Below w3.heap.size w3 wa) := HCc.out.grown gma (by omega) (fun k hk => by simp [Value.ownBlock] at hk; omega)
    have XAa := Lib.hid (XAc.out.grown gma (by omega) (fun hk => by simp [Value.ownBlock] at hk; omega))
    have hAa : w.heap.size < wa.heap.size := by omega
    have XSa := Lib.hid (XSc.out.grown gma (by omega) (fun hk => by simp [Value.ownBlock] at hk; omega))
    have hSa : w3.heap.size < wa.heap.size := by omega
    have XGa := Lib.hid (XGc.out.grown gma (by omega) (fun hk => by simp [Value.ownBlock] at hk; omega))
    have hGa : w5.heap.size < wa.heap.size := by omega
    have OIa := Lib.hid (OIc.out.kept gma (.inr (fun hk => by have := HGI.out _ hk; simp [Value.ownBlock] at this; omega)))
    have hk0 : ¬ (3 * (n : Int) + 1) < 0 := by omega
    clear gma
    obtain ⟨xG0, xG1, xG2, xG3⟩ := XGa.out
    have nG1 : ¬ w5.heap.size = wa.heap.size := by omega
    have nG2 : ¬ wa.heap.size = w5.heap.size := by omega
    obtain ⟨xS0, xS1, xS2, xS3⟩ := XSa.out
    have nS1 : ¬ w3.heap.size = wa.heap.size := by omega
    have nS2 : ¬ wa.heap.size = w3.heap.size := by omega
    go_wp2_with fail
    refine (eqNet N' E' S' aI aS m cI cS L _ (ArgRow.own OIa.out) (RS.out.below HCa.out) HLM.out).mono ?_
    rintro e wb ⟨rfl, hbb⟩
    clear xG0 xG1 xG2 xG3 nG1 nG2 xS0 xS1 xS2 xS3 nS1 nS2
    have hcb : Below wa.heap.size wa wb := hbb
    have szb := hcb.size
    have HBb : Hid (Below w.heap.size w wb) := HBa.out.trans (hcb.mono (by omega))
    have XAb := Lib.hid (XAa.out.below (by omega) hcb)
    have hAb : w.heap.size < wb.heap.size := by omega
    have XSb := Lib.hid (XSa.out.below (by omega) hcb)
    have hSb : w3.heap.size < wb.heap.size := by omega
    have XGb := Lib.hid (XGa.out.below (by omega) hcb)
    have hGb : w5.heap.size < wb.heap.size := by omega
    have HCb : Hid (Below w3.heap.size w3 wb) := HCa.out.trans (hcb.mono (by omega))
    have OIb := Lib.hid (own_below OIa.out hcb)
    clear hbb; clear hcb
    obtain ⟨xG0, xG1, xG2, xG3⟩ := XGb.out
    have nG1 : ¬ w5.heap.size = wb.heap.size := by omega
    have nG2 : ¬ wb.heap.size = w5.heap.size := by omega
    go_wp2_with fail
    refine (markNet N' E' S' _ aI m cI _ _ OIb.out hm).mono ?_
    rintro e wd ⟨rfl, om, gmd⟩
    have OMd := Lib.hid om
    clear om
    clear xG0 xG1 xG2 xG3 nG1 nG2
    have szd := gmd.size
    have HBd : Hid (Below w.heap.size w wd) := HBb.out.grown gmd (by omega) (fun k hk => by have := HGI.out _ hk; omega)
    have HCd : Hid (Below w3.heap.size w3 wd) := HCb.out.grown gmd (by omega) (fun k hk => by have := HGI.out _ hk; omega)
    have XAd := Lib.hid (XAb.out.grown gmd (by omega) (fun hk => by have := HGI.out _ hk; omega))
    have hAd : w.heap.size < wd.heap.size := by omega
    have XSd := Lib.hid (XSb.out.grown gmd (by omega) (fun hk => by have := HGI.out _ hk; omega))
    have hSd : w3.heap.size < wd.heap.size := by omega
    have XGd := Lib.hid (XGb.out.grown gmd (by omega) (fun hk => by have := HGI.out _ hk; omega))
    have hGd : w5.heap.size < wd.heap.size := by omega
    clear gmd
    have hk1 : ¬ (3 * (m : Int) + 1) < 0 := by omega
    obtain ⟨xG0, xG1, xG2, xG3⟩ := XGd.out
    have nG1 : ¬ w5.heap.size = wd.heap.size := by omega
    have nG2 : ¬ wd.heap.size = w5.heap.size := by omega
    go_wp2_with fail
    refine (heldNet N' E' S' aI m cI _ (ArgRow.own OMd.out) hm).mono ?_
    rintro e we ⟨rfl, hbe⟩
    clear xG0 xG1 xG2 xG3 nG1 nG2
    have hce : Below wd.heap.size wd we := hbe
    have sze := hce.size
    have HBe : Hid (Below w.heap.size w we) := HBd.out.trans (hce.mono (by omega))
    have XAe := Lib.hid (XAd.out.below (by omega) hce)
    have hAe : w.heap.size < we.heap.size := by omega
    have XSe := Lib.hid (XSd.out.below (by omega) hce)
    have hSe : w3.heap.size < we.heap.size := by omega
    have XGe := Lib.hid (XGd.out.below (by omega) hce)
    have hGe : w5.heap.size < we.heap.size := by omega
    have HCe : Hid (Below w3.heap.size w3 we) := HCd.out.trans (hce.mono (by omega))
    have OMe := Lib.hid (own_below OMd.out hce)
    clear hbe; clear hce
    obtain ⟨xA0, xA1, xA2, xA3⟩ := XAe.out
    have nA1 : ¬ w.heap.size = we.heap.size := by omega
    have nA2 : ¬ we.heap.size = w.heap.size := by omega
    go_wp2_with fail
    refine (toNet N E S a n c l _ (HR.out.below HBe.out) HL.out hn').mono ?_
    rintro e wf ⟨gf, rfl, of, hbf⟩
    have Rf := Lib.hid (ArgRow.own of)
    clear of
    clear xA0 xA1 xA2 xA3 nA1 nA2
    have hcf : Below we.heap.size we wf := hbf
    have szf := hcf.size
    have HBf : Hid (Below w.heap.size w wf) := HBe.out.trans (hcf.mono (by omega))
    have XSf := Lib.hid (XSe.out.below (by omega) hcf)
    have hSf : w3.heap.size < wf.heap.size := by omega
    have XGf := Lib.hid (XGe.out.below (by omega) hcf)
    have hGf : w5.heap.size < wf.heap.size := by omega
    have HCf : Hid (Below w3.heap.size w3 wf) := HCe.out.trans (hcf.mono (by omega))
    have OMf := Lib.hid (own_below OMe.out hcf)
    clear hbf; clear hcf
    go_wp2_with fail
    refine (KI.out _ gf Rf.out).mono ?_
    rintro e wg ⟨aH, cH, rfl, oH, hbg⟩
    have OHg := Lib.hid oH
    clear oH
    have hcg : Below wf.heap.size wf wg := hbg
    have szg := hcg.size
    have HBg : Hid (Below w.heap.size w wg) := HBf.out.trans (hcg.mono (by omega))
    have XSg := Lib.hid (XSf.out.below (by omega) hcg)
    have hSg : w3.heap.size < wg.heap.size := by omega
    have XGg := Lib.hid (XGf.out.below (by omega) hcg)
    have hGg : w5.heap.size < wg.heap.size := by omega
    have HCg : Hid (Below w3.heap.size w3 wg) := HCf.out.trans (hcg.mono (by omega))
    have OMg := Lib.hid (own_below OMf.out hcg)
    clear hbg; clear hcg
    obtain ⟨xS0, xS1, xS2, xS3⟩ := XSg.out
    have nS1 : ¬ w3.heap.size = wg.heap.size := by omega
    have nS2 : ¬ wg.heap.size = w3.heap.size := by omega
    go_wp2_with fail
    refine (eqNet N' E' S' aH aS m cH cS L _ ((ArgRow.own OHg.out).below (by (repeat' (first | (with_reducible exact Below.refl _ _) | (with_reducible assumption) | (with_reducible refine balloc ?_ _) | (with_reducible refine Below.drew ?_) | (with_reducible refine below_drewN ?_ _) | (with_reducible refine bset ?_ ?_ _) | (with_reducible refine bstep ?_ (by assumption)) | go_size)))) (RS.out.below (HCg.out.alloc (by omega) _)) HLM.out).mono ?_
    rintro e wh ⟨rfl, hbh⟩
    clear xS0 xS1 xS2 xS3 nS1 nS2
    have OMh := Lib.hid (own_below (OMg.out.alloc _) hbh)
    have hch : Below wg.heap.size wg wh := bstep (balloc (Below.refl _ _) _) hbh
    have XHh : Hid (Bx wh wg.heap.size (.int .i64 N') (.int .i64 E') (.int .i64 S') (.slice aH m cH)) := (bx_new _ _ _ _ _ _).below (by simp) hbh
    have hHh : wg.heap.size < wh.heap.size := by have := hbh.size; simp at this; omega
    have szh := hch.size
    have HBh : Hid (Below w.heap.size w wh) := HBg.out.trans (hch.mono (by omega))
    have XGh := Lib.hid (XGg.out.below (by omega) hch)
    have hGh : w5.heap.size < wh.heap.size := by omega
    have HCh : Hid (Below w3.heap.size w3 wh) := HCg.out.trans (hch.mono (by omega))
    clear hbh hch
    obtain ⟨xG0, xG1, xG2, xG3⟩ := XGh.out
    have nG1 : ¬ w5.heap.size = wh.heap.size := by omega
    have nG2 : ¬ wh.heap.size = w5.heap.size := by omega
    go_wp2_with fail
    refine (heldNet N' E' S' aI m cI _ (ArgRow.own OMh.out) hm).mono ?_
    rintro e wi ⟨rfl, hbi⟩
    clear xG0 xG1 xG2 xG3 nG1 nG2
    have HBi : Hid (Below w.heap.size w wi) := bstep HBh.out hbi
    clear hbi
    go_wp2_with fail
    go_ret
    exact ⟨rfl, HBi.out⟩
end Go.Proofs.Ytdmiihljepkapaa
