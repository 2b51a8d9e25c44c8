/-
  No cell of these rows narrows 'for every input' (looked for: loops, veiled, ifaces, maps, wideKeys, modest, calm, conditions, laid).
  DERIVED. THE GIVEN ROWS OF THIS SEAT. 24 by the template 'for every input the law returns true; each argument reads behind the call as it read before'; 0 by the template 'total and deterministic' (their statements: YticfjfdfgcfnnaaTotals.lean).
  GIVEN WITH THE SEED: the statements are not yours to turn. If you find one false, say at which input.
  Laid BY PROGRAM, IN A SANDBOX (cutbox-rows.mjs): the forced cells as the released guide's own fill.sh prints them over the translation 413c928d5f4ddb53… (all of the seat's roots in one cut). By AI agents, Wed Nov 11 2026. No macro, syntax, notation, axiom, sorry.
-/
import Derived.Test.YticfjfdfgcfnnaaChecked
import GoSem.Claim
import GoSem.ClaimJoined
import GoSem.ClaimMapViews
import Derived.JoinedTies
import Derived.KernelRfl
namespace Go.Proofs.Yticfjfdfgcfnnaa
/- THE CELL 'sum', in the pinned program and in every row, IS THE sha256 OF THE DUMP (.gsa) THAT YticfjfdfgcfnnaaProg.lean LOADS. Nothing in Lean hashes anything: it is a label: what it is worth is what the hold of that sum in a sandbox is worth. -/
noncomputable def Try.pinned : Pinned := { name := "yticfjfdfgcfnnaa", sum := "413c928d5f4ddb5306f6c110ed94be957041fa20fa0b61a456f7360f0460039a", checked := Try.checked }
namespace Rows
def none {H : Type} : Left H := { results := [], args := [] }

/-- 'laws.FnExactConstants': WHATEVER THE INPUT: true; the input reads as it did. -/
def fnExactConstantsSpec : ChangeSpec := { name := "fnExactConstants", fn := fun _ => fun
  | [] => { results := [.lit (.bool true)], args := [] }
  | _ => none }
def fnExactConstantsRow : OpenClaim := { program := "yticfjfdfgcfnnaa", sum := "413c928d5f4ddb5306f6c110ed94be957041fa20fa0b61a456f7360f0460039a", func := "loop.example/g00859/laws.FnExactConstants", spec := "fnExactConstants", apart := false }
def FnExactConstantsSaid : Prop := fnExactConstantsRow.holds Try.pinned (OpenSpec.ofChange fnExactConstantsSpec)

/-- ITS FALSE NEIGHBOUR: 'it returns false'. Refute it at one input. -/
def fnExactConstantsWrong : ChangeSpec := { name := "fnExactConstants", fn := fun _ => fun
  | [] => { results := [.lit (.bool false)], args := [] }
  | _ => none }
def FnExactConstantsWrongFalsely : Prop := fnExactConstantsRow.holds Try.pinned (OpenSpec.ofChange fnExactConstantsWrong)

/-- 'laws.FnExactIsDigits': WHATEVER THE INPUT: true; the input reads as it did. -/
def fnExactIsDigitsSpec : ChangeSpec := { name := "fnExactIsDigits", fn := fun _ => fun
  | [d] => { results := [.lit (.bool true)], args := [d] }
  | _ => none }
def fnExactIsDigitsRow : OpenClaim := { program := "yticfjfdfgcfnnaa", sum := "413c928d5f4ddb5306f6c110ed94be957041fa20fa0b61a456f7360f0460039a", func := "loop.example/g00859/laws.FnExactIsDigits", spec := "fnExactIsDigits", apart := false }
def FnExactIsDigitsSaid : Prop := fnExactIsDigitsRow.holds Try.pinned (OpenSpec.ofChange fnExactIsDigitsSpec)

/-- ITS FALSE NEIGHBOUR: 'it returns false'. Refute it at one input. -/
def fnExactIsDigitsWrong : ChangeSpec := { name := "fnExactIsDigits", fn := fun _ => fun
  | [d] => { results := [.lit (.bool false)], args := [d] }
  | _ => none }
def FnExactIsDigitsWrongFalsely : Prop := fnExactIsDigitsRow.holds Try.pinned (OpenSpec.ofChange fnExactIsDigitsWrong)

/-- 'laws.FnExactIsName': WHATEVER THE INPUT: true; the input reads as it did. -/
def fnExactIsNameSpec : ChangeSpec := { name := "fnExactIsName", fn := fun _ => fun
  | [d] => { results := [.lit (.bool true)], args := [d] }
  | _ => none }
def fnExactIsNameRow : OpenClaim := { program := "yticfjfdfgcfnnaa", sum := "413c928d5f4ddb5306f6c110ed94be957041fa20fa0b61a456f7360f0460039a", func := "loop.example/g00859/laws.FnExactIsName", spec := "fnExactIsName", apart := false }
def FnExactIsNameSaid : Prop := fnExactIsNameRow.holds Try.pinned (OpenSpec.ofChange fnExactIsNameSpec)

/-- ITS FALSE NEIGHBOUR: 'it returns false'. Refute it at one input. -/
def fnExactIsNameWrong : ChangeSpec := { name := "fnExactIsName", fn := fun _ => fun
  | [d] => { results := [.lit (.bool false)], args := [d] }
  | _ => none }
def FnExactIsNameWrongFalsely : Prop := fnExactIsNameRow.holds Try.pinned (OpenSpec.ofChange fnExactIsNameWrong)

/-- 'laws.FnExactFormatInt': WHATEVER THE INPUT: true; the input reads as it did. -/
def fnExactFormatIntSpec : ChangeSpec := { name := "fnExactFormatInt", fn := fun _ => fun
  | [d] => { results := [.lit (.bool true)], args := [d] }
  | _ => none }
def fnExactFormatIntRow : OpenClaim := { program := "yticfjfdfgcfnnaa", sum := "413c928d5f4ddb5306f6c110ed94be957041fa20fa0b61a456f7360f0460039a", func := "loop.example/g00859/laws.FnExactFormatInt", spec := "fnExactFormatInt", recurses := true, apart := false }
def FnExactFormatIntSaid : Prop := fnExactFormatIntRow.holds Try.pinned (OpenSpec.ofChange fnExactFormatIntSpec)

/-- ITS FALSE NEIGHBOUR: 'it returns false'. Refute it at one input. -/
def fnExactFormatIntWrong : ChangeSpec := { name := "fnExactFormatInt", fn := fun _ => fun
  | [d] => { results := [.lit (.bool false)], args := [d] }
  | _ => none }
def FnExactFormatIntWrongFalsely : Prop := fnExactFormatIntRow.holds Try.pinned (OpenSpec.ofChange fnExactFormatIntWrong)

/-- 'laws.FnExactGcdOf': WHATEVER THE INPUT: true; the input reads as it did. -/
def fnExactGcdOfSpec : ChangeSpec := { name := "fnExactGcdOf", fn := fun _ => fun
  | [d1, d2] => { results := [.lit (.bool true)], args := [d1, d2] }
  | _ => none }
def fnExactGcdOfRow : OpenClaim := { program := "yticfjfdfgcfnnaa", sum := "413c928d5f4ddb5306f6c110ed94be957041fa20fa0b61a456f7360f0460039a", func := "loop.example/g00859/laws.FnExactGcdOf", spec := "fnExactGcdOf", apart := false }
def FnExactGcdOfSaid : Prop := fnExactGcdOfRow.holds Try.pinned (OpenSpec.ofChange fnExactGcdOfSpec)

/-- ITS FALSE NEIGHBOUR: 'it returns false'. Refute it at one input. -/
def fnExactGcdOfWrong : ChangeSpec := { name := "fnExactGcdOf", fn := fun _ => fun
  | [d1, d2] => { results := [.lit (.bool false)], args := [d1, d2] }
  | _ => none }
def FnExactGcdOfWrongFalsely : Prop := fnExactGcdOfRow.holds Try.pinned (OpenSpec.ofChange fnExactGcdOfWrong)

/-- 'laws.FnExactRatioOk': WHATEVER THE INPUT: true; the input reads as it did. -/
def fnExactRatioOkSpec : ChangeSpec := { name := "fnExactRatioOk", fn := fun _ => fun
  | [d] => { results := [.lit (.bool true)], args := [d] }
  | _ => none }
def fnExactRatioOkRow : OpenClaim := { program := "yticfjfdfgcfnnaa", sum := "413c928d5f4ddb5306f6c110ed94be957041fa20fa0b61a456f7360f0460039a", func := "loop.example/g00859/laws.FnExactRatioOk", spec := "fnExactRatioOk", apart := false }
def FnExactRatioOkSaid : Prop := fnExactRatioOkRow.holds Try.pinned (OpenSpec.ofChange fnExactRatioOkSpec)

/-- ITS FALSE NEIGHBOUR: 'it returns false'. Refute it at one input. -/
def fnExactRatioOkWrong : ChangeSpec := { name := "fnExactRatioOk", fn := fun _ => fun
  | [d] => { results := [.lit (.bool false)], args := [d] }
  | _ => none }
def FnExactRatioOkWrongFalsely : Prop := fnExactRatioOkRow.holds Try.pinned (OpenSpec.ofChange fnExactRatioOkWrong)

/-- 'laws.FnExactSplitAny': WHATEVER THE INPUT: true; the input reads as it did. -/
def fnExactSplitAnySpec : ChangeSpec := { name := "fnExactSplitAny", fn := fun _ => fun
  | [d1, d2] => { results := [.lit (.bool true)], args := [d1, d2] }
  | _ => none }
def fnExactSplitAnyRow : OpenClaim := { program := "yticfjfdfgcfnnaa", sum := "413c928d5f4ddb5306f6c110ed94be957041fa20fa0b61a456f7360f0460039a", func := "loop.example/g00859/laws.FnExactSplitAny", spec := "fnExactSplitAny", inPlace := ["internal/bytealg.IndexByteString"], apart := false }
def FnExactSplitAnySaid : Prop := fnExactSplitAnyRow.holds Try.pinned (OpenSpec.ofChange fnExactSplitAnySpec)

/-- ITS FALSE NEIGHBOUR: 'it returns false'. Refute it at one input. -/
def fnExactSplitAnyWrong : ChangeSpec := { name := "fnExactSplitAny", fn := fun _ => fun
  | [d1, d2] => { results := [.lit (.bool false)], args := [d1, d2] }
  | _ => none }
def FnExactSplitAnyWrongFalsely : Prop := fnExactSplitAnyRow.holds Try.pinned (OpenSpec.ofChange fnExactSplitAnyWrong)

/-- 'laws.FnExactRatioCeil': WHATEVER THE INPUT: true; the input reads as it did. -/
def fnExactRatioCeilSpec : ChangeSpec := { name := "fnExactRatioCeil", fn := fun _ => fun
  | [d] => { results := [.lit (.bool true)], args := [d] }
  | _ => none }
def fnExactRatioCeilRow : OpenClaim := { program := "yticfjfdfgcfnnaa", sum := "413c928d5f4ddb5306f6c110ed94be957041fa20fa0b61a456f7360f0460039a", func := "loop.example/g00859/laws.FnExactRatioCeil", spec := "fnExactRatioCeil", apart := false }
def FnExactRatioCeilSaid : Prop := fnExactRatioCeilRow.holds Try.pinned (OpenSpec.ofChange fnExactRatioCeilSpec)

/-- ITS FALSE NEIGHBOUR: 'it returns false'. Refute it at one input. -/
def fnExactRatioCeilWrong : ChangeSpec := { name := "fnExactRatioCeil", fn := fun _ => fun
  | [d] => { results := [.lit (.bool false)], args := [d] }
  | _ => none }
def FnExactRatioCeilWrongFalsely : Prop := fnExactRatioCeilRow.holds Try.pinned (OpenSpec.ofChange fnExactRatioCeilWrong)

/-- 'laws.FnExactRatioFloor': WHATEVER THE INPUT: true; the input reads as it did. -/
def fnExactRatioFloorSpec : ChangeSpec := { name := "fnExactRatioFloor", fn := fun _ => fun
  | [d] => { results := [.lit (.bool true)], args := [d] }
  | _ => none }
def fnExactRatioFloorRow : OpenClaim := { program := "yticfjfdfgcfnnaa", sum := "413c928d5f4ddb5306f6c110ed94be957041fa20fa0b61a456f7360f0460039a", func := "loop.example/g00859/laws.FnExactRatioFloor", spec := "fnExactRatioFloor", apart := false }
def FnExactRatioFloorSaid : Prop := fnExactRatioFloorRow.holds Try.pinned (OpenSpec.ofChange fnExactRatioFloorSpec)

/-- ITS FALSE NEIGHBOUR: 'it returns false'. Refute it at one input. -/
def fnExactRatioFloorWrong : ChangeSpec := { name := "fnExactRatioFloor", fn := fun _ => fun
  | [d] => { results := [.lit (.bool false)], args := [d] }
  | _ => none }
def FnExactRatioFloorWrongFalsely : Prop := fnExactRatioFloorRow.holds Try.pinned (OpenSpec.ofChange fnExactRatioFloorWrong)

/-- 'laws.FnExactSplitLines': WHATEVER THE INPUT: true; the input reads as it did. -/
def fnExactSplitLinesSpec : ChangeSpec := { name := "fnExactSplitLines", fn := fun _ => fun
  | [d] => { results := [.lit (.bool true)], args := [d] }
  | _ => none }
def fnExactSplitLinesRow : OpenClaim := { program := "yticfjfdfgcfnnaa", sum := "413c928d5f4ddb5306f6c110ed94be957041fa20fa0b61a456f7360f0460039a", func := "loop.example/g00859/laws.FnExactSplitLines", spec := "fnExactSplitLines", inPlace := ["internal/bytealg.IndexByteString"], apart := false }
def FnExactSplitLinesSaid : Prop := fnExactSplitLinesRow.holds Try.pinned (OpenSpec.ofChange fnExactSplitLinesSpec)

/-- ITS FALSE NEIGHBOUR: 'it returns false'. Refute it at one input. -/
def fnExactSplitLinesWrong : ChangeSpec := { name := "fnExactSplitLines", fn := fun _ => fun
  | [d] => { results := [.lit (.bool false)], args := [d] }
  | _ => none }
def FnExactSplitLinesWrongFalsely : Prop := fnExactSplitLinesRow.holds Try.pinned (OpenSpec.ofChange fnExactSplitLinesWrong)

/-- 'laws.FnExactFormatRatio': WHATEVER THE INPUT: true; the input reads as it did. -/
def fnExactFormatRatioSpec : ChangeSpec := { name := "fnExactFormatRatio", fn := fun _ => fun
  | [d] => { results := [.lit (.bool true)], args := [d] }
  | _ => none }
def fnExactFormatRatioRow : OpenClaim := { program := "yticfjfdfgcfnnaa", sum := "413c928d5f4ddb5306f6c110ed94be957041fa20fa0b61a456f7360f0460039a", func := "loop.example/g00859/laws.FnExactFormatRatio", spec := "fnExactFormatRatio", recurses := true, apart := false }
def FnExactFormatRatioSaid : Prop := fnExactFormatRatioRow.holds Try.pinned (OpenSpec.ofChange fnExactFormatRatioSpec)

/-- ITS FALSE NEIGHBOUR: 'it returns false'. Refute it at one input. -/
def fnExactFormatRatioWrong : ChangeSpec := { name := "fnExactFormatRatio", fn := fun _ => fun
  | [d] => { results := [.lit (.bool false)], args := [d] }
  | _ => none }
def FnExactFormatRatioWrongFalsely : Prop := fnExactFormatRatioRow.holds Try.pinned (OpenSpec.ofChange fnExactFormatRatioWrong)

/-- 'laws.FnExactRatioInverse': WHATEVER THE INPUT: true; the input reads as it did. -/
def fnExactRatioInverseSpec : ChangeSpec := { name := "fnExactRatioInverse", fn := fun _ => fun
  | [d] => { results := [.lit (.bool true)], args := [d] }
  | _ => none }
def fnExactRatioInverseRow : OpenClaim := { program := "yticfjfdfgcfnnaa", sum := "413c928d5f4ddb5306f6c110ed94be957041fa20fa0b61a456f7360f0460039a", func := "loop.example/g00859/laws.FnExactRatioInverse", spec := "fnExactRatioInverse", apart := false }
def FnExactRatioInverseSaid : Prop := fnExactRatioInverseRow.holds Try.pinned (OpenSpec.ofChange fnExactRatioInverseSpec)

/-- ITS FALSE NEIGHBOUR: 'it returns false'. Refute it at one input. -/
def fnExactRatioInverseWrong : ChangeSpec := { name := "fnExactRatioInverse", fn := fun _ => fun
  | [d] => { results := [.lit (.bool false)], args := [d] }
  | _ => none }
def FnExactRatioInverseWrongFalsely : Prop := fnExactRatioInverseRow.holds Try.pinned (OpenSpec.ofChange fnExactRatioInverseWrong)

/-- 'laws.FnExactParseInt': WHATEVER THE INPUT: true; the input reads as it did. -/
def fnExactParseIntSpec : ChangeSpec := { name := "fnExactParseInt", fn := fun _ => fun
  | [d] => { results := [.lit (.bool true)], args := [d] }
  | _ => none }
def fnExactParseIntRow : OpenClaim := { program := "yticfjfdfgcfnnaa", sum := "413c928d5f4ddb5306f6c110ed94be957041fa20fa0b61a456f7360f0460039a", func := "loop.example/g00859/laws.FnExactParseInt", spec := "fnExactParseInt", recurses := true, apart := false }
def FnExactParseIntSaid : Prop := fnExactParseIntRow.holds Try.pinned (OpenSpec.ofChange fnExactParseIntSpec)

/-- ITS FALSE NEIGHBOUR: 'it returns false'. Refute it at one input. -/
def fnExactParseIntWrong : ChangeSpec := { name := "fnExactParseInt", fn := fun _ => fun
  | [d] => { results := [.lit (.bool false)], args := [d] }
  | _ => none }
def FnExactParseIntWrongFalsely : Prop := fnExactParseIntRow.holds Try.pinned (OpenSpec.ofChange fnExactParseIntWrong)

/-- 'laws.FnExactJoin': WHATEVER THE INPUT: true; the input reads as it did. -/
def fnExactJoinSpec : ChangeSpec := { name := "fnExactJoin", fn := fun _ => fun
  | [d1, d2] => { results := [.lit (.bool true)], args := [d1, d2] }
  | _ => none }
def fnExactJoinRow : OpenClaim := { program := "yticfjfdfgcfnnaa", sum := "413c928d5f4ddb5306f6c110ed94be957041fa20fa0b61a456f7360f0460039a", func := "loop.example/g00859/laws.FnExactJoin", spec := "fnExactJoin", inPlace := ["internal/abi.NoEscape", "internal/bytealg.MakeNoZero"], apart := false }
def FnExactJoinSaid : Prop := fnExactJoinRow.holds Try.pinned (OpenSpec.ofChange fnExactJoinSpec)

/-- ITS FALSE NEIGHBOUR: 'it returns false'. Refute it at one input. -/
def fnExactJoinWrong : ChangeSpec := { name := "fnExactJoin", fn := fun _ => fun
  | [d1, d2] => { results := [.lit (.bool false)], args := [d1, d2] }
  | _ => none }
def FnExactJoinWrongFalsely : Prop := fnExactJoinRow.holds Try.pinned (OpenSpec.ofChange fnExactJoinWrong)

/-- 'laws.FnExactRatioDiff': WHATEVER THE INPUT: true; the input reads as it did. -/
def fnExactRatioDiffSpec : ChangeSpec := { name := "fnExactRatioDiff", fn := fun _ => fun
  | [d1, d2] => { results := [.lit (.bool true)], args := [d1, d2] }
  | _ => none }
def fnExactRatioDiffRow : OpenClaim := { program := "yticfjfdfgcfnnaa", sum := "413c928d5f4ddb5306f6c110ed94be957041fa20fa0b61a456f7360f0460039a", func := "loop.example/g00859/laws.FnExactRatioDiff", spec := "fnExactRatioDiff", apart := false }
def FnExactRatioDiffSaid : Prop := fnExactRatioDiffRow.holds Try.pinned (OpenSpec.ofChange fnExactRatioDiffSpec)

/-- ITS FALSE NEIGHBOUR: 'it returns false'. Refute it at one input. -/
def fnExactRatioDiffWrong : ChangeSpec := { name := "fnExactRatioDiff", fn := fun _ => fun
  | [d1, d2] => { results := [.lit (.bool false)], args := [d1, d2] }
  | _ => none }
def FnExactRatioDiffWrongFalsely : Prop := fnExactRatioDiffRow.holds Try.pinned (OpenSpec.ofChange fnExactRatioDiffWrong)

/-- 'laws.FnExactRatioSum': WHATEVER THE INPUT: true; the input reads as it did. -/
def fnExactRatioSumSpec : ChangeSpec := { name := "fnExactRatioSum", fn := fun _ => fun
  | [d1, d2] => { results := [.lit (.bool true)], args := [d1, d2] }
  | _ => none }
def fnExactRatioSumRow : OpenClaim := { program := "yticfjfdfgcfnnaa", sum := "413c928d5f4ddb5306f6c110ed94be957041fa20fa0b61a456f7360f0460039a", func := "loop.example/g00859/laws.FnExactRatioSum", spec := "fnExactRatioSum", apart := false }
def FnExactRatioSumSaid : Prop := fnExactRatioSumRow.holds Try.pinned (OpenSpec.ofChange fnExactRatioSumSpec)

/-- ITS FALSE NEIGHBOUR: 'it returns false'. Refute it at one input. -/
def fnExactRatioSumWrong : ChangeSpec := { name := "fnExactRatioSum", fn := fun _ => fun
  | [d1, d2] => { results := [.lit (.bool false)], args := [d1, d2] }
  | _ => none }
def FnExactRatioSumWrongFalsely : Prop := fnExactRatioSumRow.holds Try.pinned (OpenSpec.ofChange fnExactRatioSumWrong)

/-- 'laws.FnExactRatioTimes': WHATEVER THE INPUT: true; the input reads as it did. -/
def fnExactRatioTimesSpec : ChangeSpec := { name := "fnExactRatioTimes", fn := fun _ => fun
  | [d1, d2] => { results := [.lit (.bool true)], args := [d1, d2] }
  | _ => none }
def fnExactRatioTimesRow : OpenClaim := { program := "yticfjfdfgcfnnaa", sum := "413c928d5f4ddb5306f6c110ed94be957041fa20fa0b61a456f7360f0460039a", func := "loop.example/g00859/laws.FnExactRatioTimes", spec := "fnExactRatioTimes", apart := false }
def FnExactRatioTimesSaid : Prop := fnExactRatioTimesRow.holds Try.pinned (OpenSpec.ofChange fnExactRatioTimesSpec)

/-- ITS FALSE NEIGHBOUR: 'it returns false'. Refute it at one input. -/
def fnExactRatioTimesWrong : ChangeSpec := { name := "fnExactRatioTimes", fn := fun _ => fun
  | [d1, d2] => { results := [.lit (.bool false)], args := [d1, d2] }
  | _ => none }
def FnExactRatioTimesWrongFalsely : Prop := fnExactRatioTimesRow.holds Try.pinned (OpenSpec.ofChange fnExactRatioTimesWrong)

/-- 'laws.FnExactRatioCmp': WHATEVER THE INPUT: true; the input reads as it did. -/
def fnExactRatioCmpSpec : ChangeSpec := { name := "fnExactRatioCmp", fn := fun _ => fun
  | [d1, d2] => { results := [.lit (.bool true)], args := [d1, d2] }
  | _ => none }
def fnExactRatioCmpRow : OpenClaim := { program := "yticfjfdfgcfnnaa", sum := "413c928d5f4ddb5306f6c110ed94be957041fa20fa0b61a456f7360f0460039a", func := "loop.example/g00859/laws.FnExactRatioCmp", spec := "fnExactRatioCmp", recurses := true, apart := false }
def FnExactRatioCmpSaid : Prop := fnExactRatioCmpRow.holds Try.pinned (OpenSpec.ofChange fnExactRatioCmpSpec)

/-- ITS FALSE NEIGHBOUR: 'it returns false'. Refute it at one input. -/
def fnExactRatioCmpWrong : ChangeSpec := { name := "fnExactRatioCmp", fn := fun _ => fun
  | [d1, d2] => { results := [.lit (.bool false)], args := [d1, d2] }
  | _ => none }
def FnExactRatioCmpWrongFalsely : Prop := fnExactRatioCmpRow.holds Try.pinned (OpenSpec.ofChange fnExactRatioCmpWrong)

/-- 'laws.FnExactRatioMax': WHATEVER THE INPUT: true; the input reads as it did. -/
def fnExactRatioMaxSpec : ChangeSpec := { name := "fnExactRatioMax", fn := fun _ => fun
  | [d1, d2] => { results := [.lit (.bool true)], args := [d1, d2] }
  | _ => none }
def fnExactRatioMaxRow : OpenClaim := { program := "yticfjfdfgcfnnaa", sum := "413c928d5f4ddb5306f6c110ed94be957041fa20fa0b61a456f7360f0460039a", func := "loop.example/g00859/laws.FnExactRatioMax", spec := "fnExactRatioMax", recurses := true, apart := false }
def FnExactRatioMaxSaid : Prop := fnExactRatioMaxRow.holds Try.pinned (OpenSpec.ofChange fnExactRatioMaxSpec)

/-- ITS FALSE NEIGHBOUR: 'it returns false'. Refute it at one input. -/
def fnExactRatioMaxWrong : ChangeSpec := { name := "fnExactRatioMax", fn := fun _ => fun
  | [d1, d2] => { results := [.lit (.bool false)], args := [d1, d2] }
  | _ => none }
def FnExactRatioMaxWrongFalsely : Prop := fnExactRatioMaxRow.holds Try.pinned (OpenSpec.ofChange fnExactRatioMaxWrong)

/-- 'laws.FnExactRatioMin': WHATEVER THE INPUT: true; the input reads as it did. -/
def fnExactRatioMinSpec : ChangeSpec := { name := "fnExactRatioMin", fn := fun _ => fun
  | [d1, d2] => { results := [.lit (.bool true)], args := [d1, d2] }
  | _ => none }
def fnExactRatioMinRow : OpenClaim := { program := "yticfjfdfgcfnnaa", sum := "413c928d5f4ddb5306f6c110ed94be957041fa20fa0b61a456f7360f0460039a", func := "loop.example/g00859/laws.FnExactRatioMin", spec := "fnExactRatioMin", recurses := true, apart := false }
def FnExactRatioMinSaid : Prop := fnExactRatioMinRow.holds Try.pinned (OpenSpec.ofChange fnExactRatioMinSpec)

/-- ITS FALSE NEIGHBOUR: 'it returns false'. Refute it at one input. -/
def fnExactRatioMinWrong : ChangeSpec := { name := "fnExactRatioMin", fn := fun _ => fun
  | [d1, d2] => { results := [.lit (.bool false)], args := [d1, d2] }
  | _ => none }
def FnExactRatioMinWrongFalsely : Prop := fnExactRatioMinRow.holds Try.pinned (OpenSpec.ofChange fnExactRatioMinWrong)

/-- 'laws.FnExactPadZeros': WHATEVER THE INPUT: true; the input reads as it did. -/
def fnExactPadZerosSpec : ChangeSpec := { name := "fnExactPadZeros", fn := fun _ => fun
  | [d1, d2] => { results := [.lit (.bool true)], args := [d1, d2] }
  | _ => none }
def fnExactPadZerosRow : OpenClaim := { program := "yticfjfdfgcfnnaa", sum := "413c928d5f4ddb5306f6c110ed94be957041fa20fa0b61a456f7360f0460039a", func := "loop.example/g00859/laws.FnExactPadZeros", spec := "fnExactPadZeros", inPlace := ["internal/abi.NoEscape", "internal/bytealg.MakeNoZero"], apart := false }
def FnExactPadZerosSaid : Prop := fnExactPadZerosRow.holds Try.pinned (OpenSpec.ofChange fnExactPadZerosSpec)

/-- ITS FALSE NEIGHBOUR: 'it returns false'. Refute it at one input. -/
def fnExactPadZerosWrong : ChangeSpec := { name := "fnExactPadZeros", fn := fun _ => fun
  | [d1, d2] => { results := [.lit (.bool false)], args := [d1, d2] }
  | _ => none }
def FnExactPadZerosWrongFalsely : Prop := fnExactPadZerosRow.holds Try.pinned (OpenSpec.ofChange fnExactPadZerosWrong)

/-- 'laws.FnRatios': WHATEVER THE INPUT: true; the input reads as it did. -/
def fnRatiosSpec : ChangeSpec := { name := "fnRatios", fn := fun _ => fun
  | [d] => { results := [.lit (.bool true)], args := [d] }
  | _ => none }
def fnRatiosRow : OpenClaim := { program := "yticfjfdfgcfnnaa", sum := "413c928d5f4ddb5306f6c110ed94be957041fa20fa0b61a456f7360f0460039a", func := "loop.example/g00859/laws.FnRatios", spec := "fnRatios", recurses := true, apart := false }
def FnRatiosSaid : Prop := fnRatiosRow.holds Try.pinned (OpenSpec.ofChange fnRatiosSpec)

/-- ITS FALSE NEIGHBOUR: 'it returns false'. Refute it at one input. -/
def fnRatiosWrong : ChangeSpec := { name := "fnRatios", fn := fun _ => fun
  | [d] => { results := [.lit (.bool false)], args := [d] }
  | _ => none }
def FnRatiosWrongFalsely : Prop := fnRatiosRow.holds Try.pinned (OpenSpec.ofChange fnRatiosWrong)

/-- 'laws.FnWords': WHATEVER THE INPUT: true; the input reads as it did. -/
def fnWordsSpec : ChangeSpec := { name := "fnWords", fn := fun _ => fun
  | [d] => { results := [.lit (.bool true)], args := [d] }
  | _ => none }
def fnWordsRow : OpenClaim := { program := "yticfjfdfgcfnnaa", sum := "413c928d5f4ddb5306f6c110ed94be957041fa20fa0b61a456f7360f0460039a", func := "loop.example/g00859/laws.FnWords", spec := "fnWords", inPlace := ["internal/bytealg.IndexByteString", "internal/abi.NoEscape", "internal/bytealg.MakeNoZero"], recurses := true, apart := false }
def FnWordsSaid : Prop := fnWordsRow.holds Try.pinned (OpenSpec.ofChange fnWordsSpec)

/-- ITS FALSE NEIGHBOUR: 'it returns false'. Refute it at one input. -/
def fnWordsWrong : ChangeSpec := { name := "fnWords", fn := fun _ => fun
  | [d] => { results := [.lit (.bool false)], args := [d] }
  | _ => none }
def FnWordsWrongFalsely : Prop := fnWordsRow.holds Try.pinned (OpenSpec.ofChange fnWordsWrong)

/-- 'laws.FnExactParseRatio': WHATEVER THE INPUT: true; the input reads as it did. -/
def fnExactParseRatioSpec : ChangeSpec := { name := "fnExactParseRatio", fn := fun _ => fun
  | [d] => { results := [.lit (.bool true)], args := [d] }
  | _ => none }
def fnExactParseRatioRow : OpenClaim := { program := "yticfjfdfgcfnnaa", sum := "413c928d5f4ddb5306f6c110ed94be957041fa20fa0b61a456f7360f0460039a", func := "loop.example/g00859/laws.FnExactParseRatio", spec := "fnExactParseRatio", inPlace := ["internal/bytealg.IndexByteString"], recurses := true, apart := false }
def FnExactParseRatioSaid : Prop := fnExactParseRatioRow.holds Try.pinned (OpenSpec.ofChange fnExactParseRatioSpec)

/-- ITS FALSE NEIGHBOUR: 'it returns false'. Refute it at one input. -/
def fnExactParseRatioWrong : ChangeSpec := { name := "fnExactParseRatio", fn := fun _ => fun
  | [d] => { results := [.lit (.bool false)], args := [d] }
  | _ => none }
def FnExactParseRatioWrongFalsely : Prop := fnExactParseRatioRow.holds Try.pinned (OpenSpec.ofChange fnExactParseRatioWrong)

/- THE SECOND FORM. 'bulk': how many values and letters a reading holds, each counted each time it is reached (what is shared counts as often as it is met; a slice's spare places count too). A statement '..UptoSaid' is the law's where the arguments, and the package variables that the reading takes, are together of bulk at most 1048576: NARROWER than '..Said'. Prove '..Said' where nothing that the law and all that it calls make is longer than what came in: it says more and counts as full. Else prove '..UptoSaid'. A law counts once. -/
mutual
def uptoBulk {H : Type} : DataW H → Nat
  | .lit (.string bytes) => bytes.length + 1
  | .lit _ => 1
  | .nil => 1
  | .ptr d => uptoBulk d + 1
  | .slice elems spare => uptoBulkAll elems + uptoBulkAll spare + 1
  | .agg parts => uptoBulkAll parts + 1
  | .iface _ d => uptoBulk d + 1
  | .map entries => uptoBulkEntries entries + 1
  | .held _ => 1
def uptoBulkAll {H : Type} : List (DataW H) → Nat
  | [] => 0
  | d :: r => uptoBulk d + uptoBulkAll r
def uptoBulkEntries {H : Type} : List (Lit × DataW H) → Nat
  | [] => 0
  | x :: r => uptoBulkEntry x + uptoBulkEntries r
def uptoBulkEntry {H : Type} : Lit × DataW H → Nat
  | (.string bytes, d) => bytes.length + uptoBulk d + 1
  | (_, d) => uptoBulk d + 1
 end
def uptoSmall : (H : Type) → List (DataW H) → Bool := fun _ ds => decide (uptoBulkAll ds ≤ 1048576)
def OpenSpec.upto (s : _root_.Go.ChangeSpec) : _root_.Go.OpenSpec := { _root_.Go.OpenSpec.ofChange s with cond := some uptoSmall }

/-- 'laws.FnExactConstants', WHERE WHAT IT READS IS OF BULK AT MOST 1048576: true; the input reads as it did. -/
def fnExactConstantsUptoRow : OpenClaim := { program := "yticfjfdfgcfnnaa", sum := "413c928d5f4ddb5306f6c110ed94be957041fa20fa0b61a456f7360f0460039a", func := "loop.example/g00859/laws.FnExactConstants", spec := "fnExactConstants", apart := false, narrowed := true }
def FnExactConstantsUptoSaid : Prop := fnExactConstantsUptoRow.holds Try.pinned (OpenSpec.upto fnExactConstantsSpec)

/-- 'laws.FnExactIsDigits', WHERE WHAT IT READS IS OF BULK AT MOST 1048576: true; the input reads as it did. -/
def fnExactIsDigitsUptoRow : OpenClaim := { program := "yticfjfdfgcfnnaa", sum := "413c928d5f4ddb5306f6c110ed94be957041fa20fa0b61a456f7360f0460039a", func := "loop.example/g00859/laws.FnExactIsDigits", spec := "fnExactIsDigits", apart := false, narrowed := true }
def FnExactIsDigitsUptoSaid : Prop := fnExactIsDigitsUptoRow.holds Try.pinned (OpenSpec.upto fnExactIsDigitsSpec)

/-- 'laws.FnExactIsName', WHERE WHAT IT READS IS OF BULK AT MOST 1048576: true; the input reads as it did. -/
def fnExactIsNameUptoRow : OpenClaim := { program := "yticfjfdfgcfnnaa", sum := "413c928d5f4ddb5306f6c110ed94be957041fa20fa0b61a456f7360f0460039a", func := "loop.example/g00859/laws.FnExactIsName", spec := "fnExactIsName", apart := false, narrowed := true }
def FnExactIsNameUptoSaid : Prop := fnExactIsNameUptoRow.holds Try.pinned (OpenSpec.upto fnExactIsNameSpec)

/-- 'laws.FnExactFormatInt', WHERE WHAT IT READS IS OF BULK AT MOST 1048576: true; the input reads as it did. -/
def fnExactFormatIntUptoRow : OpenClaim := { program := "yticfjfdfgcfnnaa", sum := "413c928d5f4ddb5306f6c110ed94be957041fa20fa0b61a456f7360f0460039a", func := "loop.example/g00859/laws.FnExactFormatInt", spec := "fnExactFormatInt", recurses := true, apart := false, narrowed := true }
def FnExactFormatIntUptoSaid : Prop := fnExactFormatIntUptoRow.holds Try.pinned (OpenSpec.upto fnExactFormatIntSpec)

/-- 'laws.FnExactGcdOf', WHERE WHAT IT READS IS OF BULK AT MOST 1048576: true; the input reads as it did. -/
def fnExactGcdOfUptoRow : OpenClaim := { program := "yticfjfdfgcfnnaa", sum := "413c928d5f4ddb5306f6c110ed94be957041fa20fa0b61a456f7360f0460039a", func := "loop.example/g00859/laws.FnExactGcdOf", spec := "fnExactGcdOf", apart := false, narrowed := true }
def FnExactGcdOfUptoSaid : Prop := fnExactGcdOfUptoRow.holds Try.pinned (OpenSpec.upto fnExactGcdOfSpec)

/-- 'laws.FnExactRatioOk', WHERE WHAT IT READS IS OF BULK AT MOST 1048576: true; the input reads as it did. -/
def fnExactRatioOkUptoRow : OpenClaim := { program := "yticfjfdfgcfnnaa", sum := "413c928d5f4ddb5306f6c110ed94be957041fa20fa0b61a456f7360f0460039a", func := "loop.example/g00859/laws.FnExactRatioOk", spec := "fnExactRatioOk", apart := false, narrowed := true }
def FnExactRatioOkUptoSaid : Prop := fnExactRatioOkUptoRow.holds Try.pinned (OpenSpec.upto fnExactRatioOkSpec)

/-- 'laws.FnExactSplitAny', WHERE WHAT IT READS IS OF BULK AT MOST 1048576: true; the input reads as it did. -/
def fnExactSplitAnyUptoRow : OpenClaim := { program := "yticfjfdfgcfnnaa", sum := "413c928d5f4ddb5306f6c110ed94be957041fa20fa0b61a456f7360f0460039a", func := "loop.example/g00859/laws.FnExactSplitAny", spec := "fnExactSplitAny", inPlace := ["internal/bytealg.IndexByteString"], apart := false, narrowed := true }
def FnExactSplitAnyUptoSaid : Prop := fnExactSplitAnyUptoRow.holds Try.pinned (OpenSpec.upto fnExactSplitAnySpec)

/-- 'laws.FnExactRatioCeil', WHERE WHAT IT READS IS OF BULK AT MOST 1048576: true; the input reads as it did. -/
def fnExactRatioCeilUptoRow : OpenClaim := { program := "yticfjfdfgcfnnaa", sum := "413c928d5f4ddb5306f6c110ed94be957041fa20fa0b61a456f7360f0460039a", func := "loop.example/g00859/laws.FnExactRatioCeil", spec := "fnExactRatioCeil", apart := false, narrowed := true }
def FnExactRatioCeilUptoSaid : Prop := fnExactRatioCeilUptoRow.holds Try.pinned (OpenSpec.upto fnExactRatioCeilSpec)

/-- 'laws.FnExactRatioFloor', WHERE WHAT IT READS IS OF BULK AT MOST 1048576: true; the input reads as it did. -/
def fnExactRatioFloorUptoRow : OpenClaim := { program := "yticfjfdfgcfnnaa", sum := "413c928d5f4ddb5306f6c110ed94be957041fa20fa0b61a456f7360f0460039a", func := "loop.example/g00859/laws.FnExactRatioFloor", spec := "fnExactRatioFloor", apart := false, narrowed := true }
def FnExactRatioFloorUptoSaid : Prop := fnExactRatioFloorUptoRow.holds Try.pinned (OpenSpec.upto fnExactRatioFloorSpec)

/-- 'laws.FnExactSplitLines', WHERE WHAT IT READS IS OF BULK AT MOST 1048576: true; the input reads as it did. -/
def fnExactSplitLinesUptoRow : OpenClaim := { program := "yticfjfdfgcfnnaa", sum := "413c928d5f4ddb5306f6c110ed94be957041fa20fa0b61a456f7360f0460039a", func := "loop.example/g00859/laws.FnExactSplitLines", spec := "fnExactSplitLines", inPlace := ["internal/bytealg.IndexByteString"], apart := false, narrowed := true }
def FnExactSplitLinesUptoSaid : Prop := fnExactSplitLinesUptoRow.holds Try.pinned (OpenSpec.upto fnExactSplitLinesSpec)

/-- 'laws.FnExactFormatRatio', WHERE WHAT IT READS IS OF BULK AT MOST 1048576: true; the input reads as it did. -/
def fnExactFormatRatioUptoRow : OpenClaim := { program := "yticfjfdfgcfnnaa", sum := "413c928d5f4ddb5306f6c110ed94be957041fa20fa0b61a456f7360f0460039a", func := "loop.example/g00859/laws.FnExactFormatRatio", spec := "fnExactFormatRatio", recurses := true, apart := false, narrowed := true }
def FnExactFormatRatioUptoSaid : Prop := fnExactFormatRatioUptoRow.holds Try.pinned (OpenSpec.upto fnExactFormatRatioSpec)

/-- 'laws.FnExactRatioInverse', WHERE WHAT IT READS IS OF BULK AT MOST 1048576: true; the input reads as it did. -/
def fnExactRatioInverseUptoRow : OpenClaim := { program := "yticfjfdfgcfnnaa", sum := "413c928d5f4ddb5306f6c110ed94be957041fa20fa0b61a456f7360f0460039a", func := "loop.example/g00859/laws.FnExactRatioInverse", spec := "fnExactRatioInverse", apart := false, narrowed := true }
def FnExactRatioInverseUptoSaid : Prop := fnExactRatioInverseUptoRow.holds Try.pinned (OpenSpec.upto fnExactRatioInverseSpec)

/-- 'laws.FnExactParseInt', WHERE WHAT IT READS IS OF BULK AT MOST 1048576: true; the input reads as it did. -/
def fnExactParseIntUptoRow : OpenClaim := { program := "yticfjfdfgcfnnaa", sum := "413c928d5f4ddb5306f6c110ed94be957041fa20fa0b61a456f7360f0460039a", func := "loop.example/g00859/laws.FnExactParseInt", spec := "fnExactParseInt", recurses := true, apart := false, narrowed := true }
def FnExactParseIntUptoSaid : Prop := fnExactParseIntUptoRow.holds Try.pinned (OpenSpec.upto fnExactParseIntSpec)

/-- 'laws.FnExactJoin', WHERE WHAT IT READS IS OF BULK AT MOST 1048576: true; the input reads as it did. -/
def fnExactJoinUptoRow : OpenClaim := { program := "yticfjfdfgcfnnaa", sum := "413c928d5f4ddb5306f6c110ed94be957041fa20fa0b61a456f7360f0460039a", func := "loop.example/g00859/laws.FnExactJoin", spec := "fnExactJoin", inPlace := ["internal/abi.NoEscape", "internal/bytealg.MakeNoZero"], apart := false, narrowed := true }
def FnExactJoinUptoSaid : Prop := fnExactJoinUptoRow.holds Try.pinned (OpenSpec.upto fnExactJoinSpec)

/-- 'laws.FnExactRatioDiff', WHERE WHAT IT READS IS OF BULK AT MOST 1048576: true; the input reads as it did. -/
def fnExactRatioDiffUptoRow : OpenClaim := { program := "yticfjfdfgcfnnaa", sum := "413c928d5f4ddb5306f6c110ed94be957041fa20fa0b61a456f7360f0460039a", func := "loop.example/g00859/laws.FnExactRatioDiff", spec := "fnExactRatioDiff", apart := false, narrowed := true }
def FnExactRatioDiffUptoSaid : Prop := fnExactRatioDiffUptoRow.holds Try.pinned (OpenSpec.upto fnExactRatioDiffSpec)

/-- 'laws.FnExactRatioSum', WHERE WHAT IT READS IS OF BULK AT MOST 1048576: true; the input reads as it did. -/
def fnExactRatioSumUptoRow : OpenClaim := { program := "yticfjfdfgcfnnaa", sum := "413c928d5f4ddb5306f6c110ed94be957041fa20fa0b61a456f7360f0460039a", func := "loop.example/g00859/laws.FnExactRatioSum", spec := "fnExactRatioSum", apart := false, narrowed := true }
def FnExactRatioSumUptoSaid : Prop := fnExactRatioSumUptoRow.holds Try.pinned (OpenSpec.upto fnExactRatioSumSpec)

/-- 'laws.FnExactRatioTimes', WHERE WHAT IT READS IS OF BULK AT MOST 1048576: true; the input reads as it did. -/
def fnExactRatioTimesUptoRow : OpenClaim := { program := "yticfjfdfgcfnnaa", sum := "413c928d5f4ddb5306f6c110ed94be957041fa20fa0b61a456f7360f0460039a", func := "loop.example/g00859/laws.FnExactRatioTimes", spec := "fnExactRatioTimes", apart := false, narrowed := true }
def FnExactRatioTimesUptoSaid : Prop := fnExactRatioTimesUptoRow.holds Try.pinned (OpenSpec.upto fnExactRatioTimesSpec)

/-- 'laws.FnExactRatioCmp', WHERE WHAT IT READS IS OF BULK AT MOST 1048576: true; the input reads as it did. -/
def fnExactRatioCmpUptoRow : OpenClaim := { program := "yticfjfdfgcfnnaa", sum := "413c928d5f4ddb5306f6c110ed94be957041fa20fa0b61a456f7360f0460039a", func := "loop.example/g00859/laws.FnExactRatioCmp", spec := "fnExactRatioCmp", recurses := true, apart := false, narrowed := true }
def FnExactRatioCmpUptoSaid : Prop := fnExactRatioCmpUptoRow.holds Try.pinned (OpenSpec.upto fnExactRatioCmpSpec)

/-- 'laws.FnExactRatioMax', WHERE WHAT IT READS IS OF BULK AT MOST 1048576: true; the input reads as it did. -/
def fnExactRatioMaxUptoRow : OpenClaim := { program := "yticfjfdfgcfnnaa", sum := "413c928d5f4ddb5306f6c110ed94be957041fa20fa0b61a456f7360f0460039a", func := "loop.example/g00859/laws.FnExactRatioMax", spec := "fnExactRatioMax", recurses := true, apart := false, narrowed := true }
def FnExactRatioMaxUptoSaid : Prop := fnExactRatioMaxUptoRow.holds Try.pinned (OpenSpec.upto fnExactRatioMaxSpec)

/-- 'laws.FnExactRatioMin', WHERE WHAT IT READS IS OF BULK AT MOST 1048576: true; the input reads as it did. -/
def fnExactRatioMinUptoRow : OpenClaim := { program := "yticfjfdfgcfnnaa", sum := "413c928d5f4ddb5306f6c110ed94be957041fa20fa0b61a456f7360f0460039a", func := "loop.example/g00859/laws.FnExactRatioMin", spec := "fnExactRatioMin", recurses := true, apart := false, narrowed := true }
def FnExactRatioMinUptoSaid : Prop := fnExactRatioMinUptoRow.holds Try.pinned (OpenSpec.upto fnExactRatioMinSpec)

/-- 'laws.FnExactPadZeros', WHERE WHAT IT READS IS OF BULK AT MOST 1048576: true; the input reads as it did. -/
def fnExactPadZerosUptoRow : OpenClaim := { program := "yticfjfdfgcfnnaa", sum := "413c928d5f4ddb5306f6c110ed94be957041fa20fa0b61a456f7360f0460039a", func := "loop.example/g00859/laws.FnExactPadZeros", spec := "fnExactPadZeros", inPlace := ["internal/abi.NoEscape", "internal/bytealg.MakeNoZero"], apart := false, narrowed := true }
def FnExactPadZerosUptoSaid : Prop := fnExactPadZerosUptoRow.holds Try.pinned (OpenSpec.upto fnExactPadZerosSpec)

/-- 'laws.FnRatios', WHERE WHAT IT READS IS OF BULK AT MOST 1048576: true; the input reads as it did. -/
def fnRatiosUptoRow : OpenClaim := { program := "yticfjfdfgcfnnaa", sum := "413c928d5f4ddb5306f6c110ed94be957041fa20fa0b61a456f7360f0460039a", func := "loop.example/g00859/laws.FnRatios", spec := "fnRatios", recurses := true, apart := false, narrowed := true }
def FnRatiosUptoSaid : Prop := fnRatiosUptoRow.holds Try.pinned (OpenSpec.upto fnRatiosSpec)

/-- 'laws.FnWords', WHERE WHAT IT READS IS OF BULK AT MOST 1048576: true; the input reads as it did. -/
def fnWordsUptoRow : OpenClaim := { program := "yticfjfdfgcfnnaa", sum := "413c928d5f4ddb5306f6c110ed94be957041fa20fa0b61a456f7360f0460039a", func := "loop.example/g00859/laws.FnWords", spec := "fnWords", inPlace := ["internal/bytealg.IndexByteString", "internal/abi.NoEscape", "internal/bytealg.MakeNoZero"], recurses := true, apart := false, narrowed := true }
def FnWordsUptoSaid : Prop := fnWordsUptoRow.holds Try.pinned (OpenSpec.upto fnWordsSpec)

/-- 'laws.FnExactParseRatio', WHERE WHAT IT READS IS OF BULK AT MOST 1048576: true; the input reads as it did. -/
def fnExactParseRatioUptoRow : OpenClaim := { program := "yticfjfdfgcfnnaa", sum := "413c928d5f4ddb5306f6c110ed94be957041fa20fa0b61a456f7360f0460039a", func := "loop.example/g00859/laws.FnExactParseRatio", spec := "fnExactParseRatio", inPlace := ["internal/bytealg.IndexByteString"], recurses := true, apart := false, narrowed := true }
def FnExactParseRatioUptoSaid : Prop := fnExactParseRatioUptoRow.holds Try.pinned (OpenSpec.upto fnExactParseRatioSpec)

end Rows
end Go.Proofs.Yticfjfdfgcfnnaa
