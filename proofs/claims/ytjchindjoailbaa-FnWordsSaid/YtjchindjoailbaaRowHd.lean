/- Closed facts for the rows of this seat: what the form asks of the whole program, once. -/
import Derived.Test.YtjchindjoailbaaRows
import Derived.WalkKit
import Derived.ProofKit
import Derived.OpenShut
import Derived.ShutString
import Derived.ChangeOld
import Derived.Below
import Derived.Lib.SmallJoins
namespace Go.Proofs.Ytjchindjoailbaa
set_option linter.unusedSimpArgs false
set_option linter.unusedVariables false
open Go.ChangeShapes Go.WideShapes Go.ChangeAt Go.RowKit
theorem own : ownKnob Try.prog.godebug = none := by kernel_rfl
theorem laidOut : laidOutB Try.prog = true := by kernel_rfl

theorem band {a b : Bool} (ha : a = true) (hb : b = true) : (a && b) = true := by rw [ha, hb]; rfl

/-! The program's head is a string of some thousand letters. The kernel is slow at a string's letters, but quick at a list of them: so each fact on the head is asked of the list. -/
theorem headLifts_of (P : Program) (l : List Char) (h : P.initOrder = String.ofList l) (r : List String)
    (hm : (if (stripLifts liftWords (behindMainWord (wordsSigns l))).2.head? == some "cut".toList then (stripLifts liftWords (behindMainWord (wordsSigns l))).1 else []) = r) : P.headLifts = r := by
  unfold Program.headLifts
  rw [h, String.toList_ofList]
  exact hm
set_option maxRecDepth 100000 in
theorem headLifts_eq : Try.prog.headLifts = [] := headLifts_of _ _ rfl _ (by kernel_rfl)
theorem make_of (P : Program) (l : List Char) (h : P.initOrder = String.ofList l) (r : Option Make)
    (hm : (match behindMainWord (wordsSigns l) with
      | c :: rest => if c == "gc".toList || c == "spec".toList then some Make.whole else if c == "cut".toList || (c == "finals".toList && rest.head? == some "cut".toList) then some .cut else if c == "carried".toList then some .carried else if P.headLifts.isEmpty then Option.none else some (.lifted P.headLifts)
      | [] => Option.none) = r) : P.make = r := by
  unfold Program.make
  rw [h, String.toList_ofList]
  exact hm
set_option maxRecDepth 100000 in
theorem make_eq : Try.prog.make = some .cut := make_of _ _ rfl _ (by kernel_rfl)
theorem finals_of (P : Program) (l : List Char) (h : P.initOrder = String.ofList l) (hl : P.headLifts = [])
    (hm : ((behindMainWord (wordsSigns l)).head? == some "carried".toList) = false) : P.liftsFinal = false := by
  unfold Program.liftsFinal
  rw [h, String.toList_ofList, hl]
  simp only [hm, Bool.false_and, Bool.false_or]
  rfl
set_option maxRecDepth 100000 in
theorem finals_eq : Try.prog.liftsFinal = false := finals_of _ _ rfl headLifts_eq (by kernel_rfl)
theorem mayEnter_of (P : Program) (l : List Char) (h : P.initOrder = String.ofList l)
    (hm : (match behindMainWord (wordsSigns l) with
      | c :: rest =>
        ((c == "gc".toList || c == "spec".toList) && (rest.isEmpty || rest.head? == some "stop".toList)) ||
        (c == "carried".toList && rest.take 2 == ["gc".toList, "cut".toList] && !P.laysLater && !P.bearsReflect) ||
        ((stripLifts liftWords (c :: rest)).2.head? == some "cut".toList &&
          ((stripLifts liftWords (c :: rest)).1.contains "finals" || !P.laysLater) && ((stripLifts liftWords (c :: rest)).1.contains "reflectrows" || !P.bearsReflect) &&
          ((stripLifts liftWords (c :: rest)).1.contains "reflectrows" || !(stripLifts liftWords (c :: rest)).1.contains "leanrows") &&
          P.doorFits (stripLifts liftWords (c :: rest)).1)
      | [] => false) = true) : P.mayEnter = true := by
  unfold Program.mayEnter
  rw [h, String.toList_ofList]
  exact hm
set_option maxRecDepth 100000 in
theorem mayEnter_eq : Try.prog.mayEnter = true := mayEnter_of _ _ rfl (by kernel_rfl)
theorem mayEnter_p : Try.pinned.checked.prog.mayEnter = true := mayEnter_eq
theorem finals_p : Try.pinned.checked.prog.liftsFinal = false := finals_eq
theorem make_p : Try.pinned.checked.prog.make = some .cut := make_eq
theorem bmake {a : Bool} {p : Bool} (h : a = p) : (p == a) = true := by rw [h]; simp
end Go.Proofs.Ytjchindjoailbaa
