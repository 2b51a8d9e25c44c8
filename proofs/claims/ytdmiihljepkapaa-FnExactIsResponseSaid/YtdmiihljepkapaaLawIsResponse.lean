/- IsResponse: the law's walk. -/
import Derived.Test.YtdmiihljepkapaaIsRI
import Derived.Test.YtdmiihljepkapaaIsRS
import Derived.Test.YtdmiihljepkapaaOpenR
namespace Go.Proofs.Ytdmiihljepkapaa
set_option linter.unusedSimpArgs false
set_option linter.unusedVariables false
open Go.RowKit

set_option maxRecDepth 100000 in
set_option maxHeartbeats 8000000 in
theorem walk_FnExactIsResponse (a1 : Option Addr) (n1 c1 : Nat) (M1 : List (List Rz)) (w : World) (h1 : RGrid w a1 n1 c1 M1) (_ : ∀ r ∈ M1, ∀ x ∈ r, wfR x) :
    Calls Try.prog 10 #[.slice a1 n1 c1] w fun e w' => e = .returned (.bool true) ∧ Below w.heap.size w w' := by
  have l1 := h1.le
  unfold maxLen at l1
  have H1 := Lib.hid h1
  obtain ⟨B, hB⟩ := bool_of (RespOk M1 n1)
  have KS := Lib.hid (fun (w : World) (g1 : Nat) r1 => specIsResponse (some ⟨g1, 0, none⟩) n1 n1 M1 B hB w r1)
  have KI := Lib.hid (fun (w : World) (g1 : Nat) r1 => implIsResponse (some ⟨g1, 0, none⟩) n1 n1 M1 B hB w r1)
  clear h1 hB
  go_enter Try.func10, Try.ntmps10
  go_wp2_with fail
  refine (szRatSS a1 n1 c1 M1 1048576 (by omega) w H1.out).mono ?_
  rintro e w9 ⟨z, rfl, hz, rfl⟩
  rcases hz with hz | ⟨hz0, hzK, hn1', hrn1⟩
  · go_wp2_with fail
    go_ret
    exact ⟨rfl, Below.refl _ _⟩
  have HRN1 := Lib.hid hrn1
  have hz1 : ¬ z < 0 := by omega
  clear hrn1
  go_wp2_with fail
  refine (toRatSS a1 n1 c1 M1 _ H1.out hn1' HRN1.out).mono ?_
  rintro e wa ⟨ga, rfl, oa, hba⟩
  have RA := Lib.hid oa
  have BA : Hid (Below w.heap.size w wa) := hba
  clear oa hba
  go_wp2_with fail
  refine (KS.out _ ga RA.out).mono ?_
  rintro e wd ⟨rfl, hbd⟩
  have HB : Hid (Below w.heap.size w wd) := bstep BA.out hbd
  clear hbd
  go_wp2_with fail
  refine (toRatSS a1 n1 c1 M1 _ (H1.out.below HB.out) hn1' HRN1.out).mono ?_
  rintro e w1 ⟨g1, rfl, o1, hb1⟩
  have R1 := Lib.hid o1
  have B1 : Hid (Below w.heap.size w w1) := bstep HB.out hb1
  clear o1 hb1
  go_wp2_with fail
  refine (KI.out _ g1 R1.out).mono ?_
  rintro e w4 ⟨rfl, hb4⟩
  have B4 : Hid (Below w.heap.size w w4) := bstep B1.out hb4
  have R14 := Lib.hid (R1.out.below hb4)
  clear hb4
  go_wp2_with fail
  refine (toRatSS a1 n1 c1 M1 _ (H1.out.below B4.out) hn1' HRN1.out).mono ?_
  rintro e w5 ⟨g5, rfl, o5, hb5⟩
  have R5 := Lib.hid o5
  have R15 := Lib.hid (R14.out.below hb5)
  have B5 : Hid (Below w.heap.size w w5) := bstep B4.out hb5
  clear o5 hb5
  go_wp2_with fail
  refine (eqRatSS (some ⟨g1, 0, none⟩) (some ⟨g5, 0, none⟩) n1 n1 n1 M1 _ R15.out R5.out).mono ?_
  rintro e w6 ⟨rfl, hb6⟩
  go_wp2_with fail
  go_ret
  exact ⟨rfl, bstep B5.out hb6⟩
end Go.Proofs.Ytdmiihljepkapaa
