/- MinorOf: the law's walk. -/
import Derived.Test.YtdmiihljepkapaaMinor
import Derived.Test.YtdmiihljepkapaaIntSZ
namespace Go.Proofs.Ytdmiihljepkapaa
set_option linter.unusedSimpArgs false
set_option linter.unusedVariables false
open Go.RowKit

set_option maxRecDepth 100000 in
set_option maxHeartbeats 8000000 in
theorem walk_FnExactMinorOf (am : Option Addr) (n cm : Nat) (M : List (List Int)) (ar : Option Addr) (nr cr : Nat) (rows : List Int) (ac : Option Addr) (nc cc : Nat) (cols : List Int) (w : World) (hM : IGrid w am n cm M) (h1 : ArgRow w ar nr cr 1 (ints rows)) (h2 : ArgRow w ac nc cc 1 (ints cols)) :
    Calls Try.prog 9 #[.slice am n cm, .slice ar nr cr, .slice ac nc cc] w fun e w' => e = .returned (.bool true) ∧ Below w.heap.size w w' := by
  have l1 := h1.le
  have l2 := h2.le
  have lm := hM.le
  unfold maxLen at l1 l2 lm
  by_cases e1 : 1048576 < nr
  · clear hM h1 h2
    go_enter Try.func9, Try.ntmps9
    go_wp2_with fail
    go_ret
    exact ⟨rfl, Below.refl _ _⟩
  by_cases e2 : 1048576 < nc
  · clear hM h1 h2
    go_enter Try.func9, Try.ntmps9
    go_wp2_with fail
    go_ret
    exact ⟨rfl, Below.refl _ _⟩
  have HM := Lib.hid hM
  have H1 := Lib.hid h1
  have H2 := Lib.hid h2
  have hr' : nr ≤ 1048576 := by omega
  have hc' : nc ≤ 1048576 := by omega
  obtain ⟨V, B, KS, KI⟩ : ∃ (V : Int) (B : Bool), Hid (∀ (w : World) (gm gr gc : Nat), IGrid w (some ⟨gm, 0, none⟩) n n M → ArgRow w (some ⟨gr, 0, none⟩) nr nr 1 (ints rows) → ArgRow w (some ⟨gc, 0, none⟩) nc nc 1 (ints cols) → Calls Try.prog 56 #[.slice (some ⟨gm, 0, none⟩) n n, .slice (some ⟨gr, 0, none⟩) nr nr, .slice (some ⟨gc, 0, none⟩) nc nc] w fun e w' => e = .returned (.tuple #[.int .i64 V, .bool B]) ∧ Below w.heap.size w w') ∧ Hid (∀ (w : World) (gm gr gc : Nat), IGrid w (some ⟨gm, 0, none⟩) n n M → ArgRow w (some ⟨gr, 0, none⟩) nr nr 1 (ints rows) → ArgRow w (some ⟨gc, 0, none⟩) nc nc 1 (ints cols) → Calls Try.prog 59 #[.slice (some ⟨gm, 0, none⟩) n n, .slice (some ⟨gr, 0, none⟩) nr nr, .slice (some ⟨gc, 0, none⟩) nc nc] w fun e w' => e = .returned (.tuple #[.int .i64 V, .bool B]) ∧ Below w.heap.size w w') := by
    by_cases hg : MinOk M rows cols n nr nc
    · exact ⟨_, _, fun w gm gr gc r0 r1 r2 => specMinorOf _ _ _ n n nr nr nc nc M rows cols hg w r0 r1 r2, fun w gm gr gc r0 r1 r2 => implMinorOf _ _ _ n n nr nr nc nc M rows cols hg w r0 r1 r2⟩
    · exact ⟨_, _, fun w gm gr gc r0 r1 r2 => specMinorOf0 _ _ _ n n nr nr nc nc M rows cols hg w r0 r1 r2, fun w gm gr gc r0 r1 r2 => implMinorOf0 _ _ _ n n nr nr nc nc M rows cols hg w r0 r1 r2⟩
  clear hM h1 h2
  go_enter Try.func9, Try.ntmps9
  go_wp2_with fail
  refine (szIntSS am n cm M w HM.out).mono ?_
  rintro e w9 ⟨z, rfl, hz, rfl⟩
  rcases hz with hz | ⟨hz0, _, hn', hrn⟩
  · go_wp2_with fail
    go_ret
    exact ⟨rfl, Below.refl _ _⟩
  have HRN := Lib.hid hrn
  have hz1 : ¬ z < 0 := by omega
  clear hrn
  go_wp2_with fail
  refine (toIntSS am n cm M _ HM.out hn' HRN.out).mono ?_
  rintro e wa ⟨ga, rfl, oa, hba⟩
  have RA := Lib.hid oa
  have BA : Hid (Below w.heap.size w wa) := hba
  clear oa
  go_wp2_with fail
  refine (toInts ar nr cr rows _ (H1.out.below BA.out) hr').mono ?_
  rintro e wb ⟨gb, rfl, ob, hbb⟩
  have RB := Lib.hid (ArgRow.own ob)
  have RAb := Lib.hid (RA.out.below hbb)
  have BB : Hid (Below w.heap.size w wb) := bstep BA.out hbb
  clear ob
  go_wp2_with fail
  refine (toInts ac nc cc cols _ (H2.out.below BB.out) hc').mono ?_
  rintro e wc ⟨gc, rfl, oc, hbc⟩
  have RC := Lib.hid (ArgRow.own oc)
  have RBc := Lib.hid (RB.out.below hbc)
  have RAc := Lib.hid (RAb.out.below hbc)
  have BC : Hid (Below w.heap.size w wc) := bstep BB.out hbc
  clear oc hba hbb hbc
  go_wp2_with fail
  refine (KS.out _ ga gb gc RAc.out RBc.out RC.out).mono ?_
  rintro e wd ⟨rfl, hbd⟩
  have HB : Hid (Below w.heap.size w wd) := bstep BC.out hbd
  clear hbd
  go_wp2_with fail
  refine (toIntSS am n cm M _ (HM.out.below HB.out) hn' HRN.out).mono ?_
  rintro e w1 ⟨g1, rfl, o1, hb1⟩
  have R1 := Lib.hid o1
  have B1 : Hid (Below w.heap.size w w1) := bstep HB.out hb1
  clear o1
  go_wp2_with fail
  refine (toInts ar nr cr rows _ (H1.out.below B1.out) hr').mono ?_
  rintro e w2 ⟨g2, rfl, o2, hb2⟩
  have R2 := Lib.hid (ArgRow.own o2)
  have B2 : Hid (Below w.heap.size w w2) := bstep B1.out hb2
  clear o2
  go_wp2_with fail
  refine (toInts ac nc cc cols _ (H2.out.below B2.out) hc').mono ?_
  rintro e w3 ⟨g3, rfl, o3, hb3⟩
  have R3 := Lib.hid (ArgRow.own o3)
  have B3 : Hid (Below w.heap.size w w3) := bstep B2.out hb3
  have R13 := Lib.hid ((R1.out.below hb2).below hb3)
  have R23 := Lib.hid (R2.out.below hb3)
  clear o3
  go_wp2_with fail
  refine (KI.out _ g1 g2 g3 R13.out R23.out R3.out).mono ?_
  rintro e w4 ⟨rfl, hb4⟩
  have B4 : Hid (Below w.heap.size w w4) := bstep B3.out hb4
  have R14 := Lib.hid (R13.out.below hb4)
  have R24 := Lib.hid (R23.out.below hb4)
  have R34 := Lib.hid (R3.out.below hb4)
  clear hb1 hb2 hb3 hb4
  go_wp2_with fail
  refine (toIntSS am n cm M _ (HM.out.below B4.out) hn' HRN.out).mono ?_
  rintro e w5 ⟨g5, rfl, o5, hb5⟩
  have R5 := Lib.hid o5
  have R15 := Lib.hid (R14.out.below hb5)
  have B5 : Hid (Below w.heap.size w w5) := bstep B4.out hb5
  have R25 := Lib.hid (R24.out.below hb5)
  have R35 := Lib.hid (R34.out.below hb5)
  clear o5 hb5
  go_wp2_with fail
  refine (eqIntSS (some ⟨g1, 0, none⟩) (some ⟨g5, 0, none⟩) n n n M _ R15.out R5.out).mono ?_
  rintro e w6 ⟨rfl, hb6⟩
  have B6 : Hid (Below w.heap.size w w6) := bstep B5.out hb6
  have R26 := Lib.hid (R25.out.below hb6)
  have R36 := Lib.hid (R35.out.below hb6)
  clear hb6
  go_wp2_with fail
  refine (toInts ar nr cr rows _ (H1.out.below B6.out) hr').mono ?_
  rintro e w7 ⟨g7, rfl, o7, hb7⟩
  have R7 := Lib.hid (ArgRow.own o7)
  have B7 : Hid (Below w.heap.size w w7) := bstep B6.out hb7
  have R27 := Lib.hid (R26.out.below hb7)
  have R37 := Lib.hid (R36.out.below hb7)
  clear o7 hb7
  go_wp2_with fail
  refine (eqInts (some ⟨g2, 0, none⟩) (some ⟨g7, 0, none⟩) nr nr nr rows _ R27.out R7.out).mono ?_
  rintro e w8 ⟨rfl, hb8⟩
  have B8 : Hid (Below w.heap.size w w8) := bstep B7.out hb8
  have R38 := Lib.hid (R37.out.below hb8)
  clear hb8
  go_wp2_with fail
  refine (toInts ac nc cc cols _ (H2.out.below B8.out) hc').mono ?_
  rintro e w9 ⟨g9, rfl, o9, hb9⟩
  have R9 := Lib.hid (ArgRow.own o9)
  have B9 : Hid (Below w.heap.size w w9) := bstep B8.out hb9
  have R39 := Lib.hid (R38.out.below hb9)
  clear o9 hb9
  go_wp2_with fail
  refine (eqInts (some ⟨g3, 0, none⟩) (some ⟨g9, 0, none⟩) nc nc nc cols _ R39.out R9.out).mono ?_
  rintro e w10 ⟨rfl, hb10⟩
  go_wp2_with fail
  go_ret
  exact ⟨rfl, bstep B9.out hb10⟩
end Go.Proofs.Ytdmiihljepkapaa
