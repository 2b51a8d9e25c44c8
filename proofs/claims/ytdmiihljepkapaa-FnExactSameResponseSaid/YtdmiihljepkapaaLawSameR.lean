/- SameResponse: the law's walk. -/
import Derived.Test.YtdmiihljepkapaaSameR
import Derived.Test.YtdmiihljepkapaaOpenR
namespace Go.Proofs.Ytdmiihljepkapaa
set_option linter.unusedSimpArgs false
set_option linter.unusedVariables false
open Go.RowKit

set_option maxRecDepth 100000 in
set_option maxHeartbeats 8000000 in
theorem walk_FnExactSameResponse (a1 : Option Addr) (n1 c1 : Nat) (M1 : List (List Rz)) (a2 : Option Addr) (n2 c2 : Nat) (M2 : List (List Rz)) (w : World) (h1 : RGrid w a1 n1 c1 M1) (_ : ∀ r ∈ M1, ∀ x ∈ r, wfR x) (h2 : RGrid w a2 n2 c2 M2) (_ : ∀ r ∈ M2, ∀ x ∈ r, wfR x) :
    Calls Try.prog 7 #[.slice a1 n1 c1, .slice a2 n2 c2] w fun e w' => e = .returned (.bool true) ∧ Below w.heap.size w w' := by
  have l1 := h1.le
  have l2 := h2.le
  unfold maxLen at l1 l2
  have H1 := Lib.hid h1
  have H2 := Lib.hid h2
  have KS := Lib.hid (fun (w : World) (g1 g2 : Nat) r1 r2 => specSameR (some ⟨g1, 0, none⟩) (some ⟨g2, 0, none⟩) n1 n1 n2 n2 M1 M2 w r1 r2)
  have KI := Lib.hid (fun (w : World) (g1 g2 : Nat) r1 r2 => implSameR (some ⟨g1, 0, none⟩) (some ⟨g2, 0, none⟩) n1 n1 n2 n2 M1 M2 w r1 r2)
  generalize decide (M1 = M2) = B at KS KI
  clear h1 h2
  go_enter Try.func7, Try.ntmps7
  go_wp2_with fail
  refine (szRatSS a1 n1 c1 M1 1048576 (by omega) w H1.out).mono ?_
  rintro e w9 ⟨z, rfl, hz, rfl⟩
  rcases hz with hz | ⟨hz0, hzK, hn1', hrn1⟩
  · go_wp2_with fail
    go_ret
    exact ⟨rfl, Below.refl _ _⟩
  obtain ⟨k, rfl⟩ : ∃ k : Nat, z = k := ⟨z.toNat, by omega⟩
  have HRN1 := Lib.hid hrn1
  have hz1 : ¬ (k : Int) < 0 := by omega
  clear hrn1
  go_wp2_with fail
  refine (szRatSS a2 n2 c2 M2 k (by omega) w H2.out).mono ?_
  rintro e w9 ⟨z, rfl, hz, rfl⟩
  rcases hz with hz | ⟨hz0', _, hn2', hrn2⟩
  · go_wp2_with fail
    go_ret
    exact ⟨rfl, Below.refl _ _⟩
  have HRN2 := Lib.hid hrn2
  have hz2 : ¬ z < 0 := by omega
  clear hrn2
  go_wp2_with fail
  refine (toRatSS a1 n1 c1 M1 _ H1.out hn1' HRN1.out).mono ?_
  rintro e wa ⟨ga, rfl, oa, hba⟩
  have RA := Lib.hid oa
  have BA : Hid (Below w.heap.size w wa) := hba
  clear oa
  go_wp2_with fail
  refine (toRatSS a2 n2 c2 M2 _ (H2.out.below BA.out) hn2' HRN2.out).mono ?_
  rintro e wb ⟨gb, rfl, ob, hbb⟩
  have RB := Lib.hid ob
  have RAb := Lib.hid (RA.out.below hbb)
  have BB : Hid (Below w.heap.size w wb) := bstep BA.out hbb
  clear ob hba hbb
  go_wp2_with fail
  refine (KS.out _ ga gb RAb.out RB.out).mono ?_
  rintro e wd ⟨rfl, hbd⟩
  have HB : Hid (Below w.heap.size w wd) := bstep BB.out hbd
  clear hbd
  go_wp2_with fail
  refine (toRatSS a1 n1 c1 M1 _ (H1.out.below HB.out) hn1' HRN1.out).mono ?_
  rintro e w1 ⟨g1, rfl, o1, hb1⟩
  have R1 := Lib.hid o1
  have B1 : Hid (Below w.heap.size w w1) := bstep HB.out hb1
  clear o1
  go_wp2_with fail
  refine (toRatSS a2 n2 c2 M2 _ (H2.out.below B1.out) hn2' HRN2.out).mono ?_
  rintro e w2 ⟨g2, rfl, o2, hb2⟩
  have R2 := Lib.hid o2
  have B2 : Hid (Below w.heap.size w w2) := bstep B1.out hb2
  have R12 := Lib.hid (R1.out.below hb2)
  clear o2
  go_wp2_with fail
  refine (KI.out _ g1 g2 R12.out R2.out).mono ?_
  rintro e w4 ⟨rfl, hb4⟩
  have B4 : Hid (Below w.heap.size w w4) := bstep B2.out hb4
  have R14 := Lib.hid (R12.out.below hb4)
  have R24 := Lib.hid (R2.out.below hb4)
  clear hb1 hb2 hb4
  go_wp2_with fail
  refine (toRatSS a1 n1 c1 M1 _ (H1.out.below B4.out) hn1' HRN1.out).mono ?_
  rintro e w5 ⟨g5, rfl, o5, hb5⟩
  have R5 := Lib.hid o5
  have R15 := Lib.hid (R14.out.below hb5)
  have R25 := Lib.hid (R24.out.below hb5)
  have B5 : Hid (Below w.heap.size w w5) := bstep B4.out hb5
  clear o5 hb5
  go_wp2_with fail
  refine (eqRatSS (some ⟨g1, 0, none⟩) (some ⟨g5, 0, none⟩) n1 n1 n1 M1 _ R15.out R5.out).mono ?_
  rintro e w6 ⟨rfl, hb6⟩
  have B6 : Hid (Below w.heap.size w w6) := bstep B5.out hb6
  have R26 := Lib.hid (R25.out.below hb6)
  clear hb6
  go_wp2_with fail
  refine (toRatSS a2 n2 c2 M2 _ (H2.out.below B6.out) hn2' HRN2.out).mono ?_
  rintro e w7 ⟨g7, rfl, o7, hb7⟩
  have R7 := Lib.hid o7
  have R27 := Lib.hid (R26.out.below hb7)
  have B7 : Hid (Below w.heap.size w w7) := bstep B6.out hb7
  clear o7 hb7
  go_wp2_with fail
  refine (eqRatSS (some ⟨g2, 0, none⟩) (some ⟨g7, 0, none⟩) n2 n2 n2 M2 _ R27.out R7.out).mono ?_
  rintro e w8 ⟨rfl, hb8⟩
  go_wp2_with fail
  go_ret
  exact ⟨rfl, bstep B7.out hb8⟩
end Go.Proofs.Ytdmiihljepkapaa
