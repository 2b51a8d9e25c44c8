/-
  No cell of these rows narrows 'for every input' (looked for: loops, veiled, ifaces, maps, wideKeys, modest, calm, conditions, laid).
  DERIVED. THE GIVEN ROWS OF THIS SEAT. 25 by the template 'for every input the law returns true; each argument reads behind the call as it read before'; 0 by the template 'total and deterministic' (their statements: YtdmiihljepkapaaTotals.lean).
  GIVEN WITH THE SEED: the statements are not yours to turn. If you find one false, say at which input.
  Laid BY PROGRAM, IN A SANDBOX (cutbox-rows.mjs): the forced cells as the released guide's own fill.sh prints them over the translation bc62b0452294bef9… (all of the seat's roots in one cut). By AI agents, Wed Nov 11 2026. No macro, syntax, notation, axiom, sorry.
-/
import Derived.Test.YtdmiihljepkapaaChecked
import GoSem.Claim
import GoSem.ClaimJoined
import GoSem.ClaimMapViews
import Derived.JoinedTies
import Derived.KernelRfl
namespace Go.Proofs.Ytdmiihljepkapaa
/- THE CELL 'sum', in the pinned program and in every row, IS THE sha256 OF THE DUMP (.gsa) THAT YtdmiihljepkapaaProg.lean LOADS. Nothing in Lean hashes anything: it is a label: what it is worth is what the hold of that sum in a sandbox is worth. -/
noncomputable def Try.pinned : Pinned := { name := "ytdmiihljepkapaa", sum := "bc62b0452294bef9f5c1938bf9a8bff0f3905704df6d67ddc27e7c2859de7c33", checked := Try.checked }
namespace Rows
def none {H : Type} : Left H := { results := [], args := [] }

/-- 'laws.FnKirchhoff': WHATEVER THE INPUT: true; the input reads as it did. -/
def fnKirchhoffSpec : ChangeSpec := { name := "fnKirchhoff", fn := fun _ => fun
  | [d] => { results := [.lit (.bool true)], args := [d] }
  | _ => none }
def fnKirchhoffRow : OpenClaim := { program := "ytdmiihljepkapaa", sum := "bc62b0452294bef9f5c1938bf9a8bff0f3905704df6d67ddc27e7c2859de7c33", func := "loop.example/g00859/laws.FnKirchhoff", spec := "fnKirchhoff", recurses := true, apart := false }
def FnKirchhoffSaid : Prop := fnKirchhoffRow.holds Try.pinned (OpenSpec.ofChange fnKirchhoffSpec)

/-- ITS FALSE NEIGHBOUR: 'it returns false'. Refute it at one input. -/
def fnKirchhoffWrong : ChangeSpec := { name := "fnKirchhoff", fn := fun _ => fun
  | [d] => { results := [.lit (.bool false)], args := [d] }
  | _ => none }
def FnKirchhoffWrongFalsely : Prop := fnKirchhoffRow.holds Try.pinned (OpenSpec.ofChange fnKirchhoffWrong)

/-- 'laws.FnPower': WHATEVER THE INPUT: true; the input reads as it did. -/
def fnPowerSpec : ChangeSpec := { name := "fnPower", fn := fun _ => fun
  | [d] => { results := [.lit (.bool true)], args := [d] }
  | _ => none }
def fnPowerRow : OpenClaim := { program := "ytdmiihljepkapaa", sum := "bc62b0452294bef9f5c1938bf9a8bff0f3905704df6d67ddc27e7c2859de7c33", func := "loop.example/g00859/laws.FnPower", spec := "fnPower", recurses := true, apart := false }
def FnPowerSaid : Prop := fnPowerRow.holds Try.pinned (OpenSpec.ofChange fnPowerSpec)

/-- ITS FALSE NEIGHBOUR: 'it returns false'. Refute it at one input. -/
def fnPowerWrong : ChangeSpec := { name := "fnPower", fn := fun _ => fun
  | [d] => { results := [.lit (.bool false)], args := [d] }
  | _ => none }
def FnPowerWrongFalsely : Prop := fnPowerRow.holds Try.pinned (OpenSpec.ofChange fnPowerWrong)

/-- 'laws.FnExactWeightAt': WHATEVER THE INPUT: true; the input reads as it did. -/
def fnExactWeightAtSpec : ChangeSpec := { name := "fnExactWeightAt", fn := fun _ => fun
  | [d1, d2] => { results := [.lit (.bool true)], args := [d1, d2] }
  | _ => none }
def fnExactWeightAtRow : OpenClaim := { program := "ytdmiihljepkapaa", sum := "bc62b0452294bef9f5c1938bf9a8bff0f3905704df6d67ddc27e7c2859de7c33", func := "loop.example/g00859/laws.FnExactWeightAt", spec := "fnExactWeightAt", apart := false }
def FnExactWeightAtSaid : Prop := fnExactWeightAtRow.holds Try.pinned (OpenSpec.ofChange fnExactWeightAtSpec)

/-- ITS FALSE NEIGHBOUR: 'it returns false'. Refute it at one input. -/
def fnExactWeightAtWrong : ChangeSpec := { name := "fnExactWeightAt", fn := fun _ => fun
  | [d1, d2] => { results := [.lit (.bool false)], args := [d1, d2] }
  | _ => none }
def FnExactWeightAtWrongFalsely : Prop := fnExactWeightAtRow.holds Try.pinned (OpenSpec.ofChange fnExactWeightAtWrong)

/-- 'laws.FnExactSameNet': WHATEVER THE INPUT: true; the input reads as it did. -/
def fnExactSameNetSpec : ChangeSpec := { name := "fnExactSameNet", fn := fun _ => fun
  | [d1, d2] => { results := [.lit (.bool true)], args := [d1, d2] }
  | _ => none }
def fnExactSameNetRow : OpenClaim := { program := "ytdmiihljepkapaa", sum := "bc62b0452294bef9f5c1938bf9a8bff0f3905704df6d67ddc27e7c2859de7c33", func := "loop.example/g00859/laws.FnExactSameNet", spec := "fnExactSameNet", apart := false }
def FnExactSameNetSaid : Prop := fnExactSameNetRow.holds Try.pinned (OpenSpec.ofChange fnExactSameNetSpec)

/-- ITS FALSE NEIGHBOUR: 'it returns false'. Refute it at one input. -/
def fnExactSameNetWrong : ChangeSpec := { name := "fnExactSameNet", fn := fun _ => fun
  | [d1, d2] => { results := [.lit (.bool false)], args := [d1, d2] }
  | _ => none }
def FnExactSameNetWrongFalsely : Prop := fnExactSameNetRow.holds Try.pinned (OpenSpec.ofChange fnExactSameNetWrong)

/-- 'laws.FnExactSameResponse': WHATEVER THE INPUT: true; the input reads as it did. -/
def fnExactSameResponseSpec : ChangeSpec := { name := "fnExactSameResponse", fn := fun _ => fun
  | [d1, d2] => { results := [.lit (.bool true)], args := [d1, d2] }
  | _ => none }
def fnExactSameResponseRow : OpenClaim := { program := "ytdmiihljepkapaa", sum := "bc62b0452294bef9f5c1938bf9a8bff0f3905704df6d67ddc27e7c2859de7c33", func := "loop.example/g00859/laws.FnExactSameResponse", spec := "fnExactSameResponse", unfollowed := true, recurses := true, apart := false }
def FnExactSameResponseSaid : Prop := fnExactSameResponseRow.holds Try.pinned (OpenSpec.ofChange fnExactSameResponseSpec)

/-- ITS FALSE NEIGHBOUR: 'it returns false'. Refute it at one input. -/
def fnExactSameResponseWrong : ChangeSpec := { name := "fnExactSameResponse", fn := fun _ => fun
  | [d1, d2] => { results := [.lit (.bool false)], args := [d1, d2] }
  | _ => none }
def FnExactSameResponseWrongFalsely : Prop := fnExactSameResponseRow.holds Try.pinned (OpenSpec.ofChange fnExactSameResponseWrong)

/-- 'laws.FnExactNetOk': WHATEVER THE INPUT: true; the input reads as it did. -/
def fnExactNetOkSpec : ChangeSpec := { name := "fnExactNetOk", fn := fun _ => fun
  | [d] => { results := [.lit (.bool true)], args := [d] }
  | _ => none }
def fnExactNetOkRow : OpenClaim := { program := "ytdmiihljepkapaa", sum := "bc62b0452294bef9f5c1938bf9a8bff0f3905704df6d67ddc27e7c2859de7c33", func := "loop.example/g00859/laws.FnExactNetOk", spec := "fnExactNetOk", apart := false }
def FnExactNetOkSaid : Prop := fnExactNetOkRow.holds Try.pinned (OpenSpec.ofChange fnExactNetOkSpec)

/-- ITS FALSE NEIGHBOUR: 'it returns false'. Refute it at one input. -/
def fnExactNetOkWrong : ChangeSpec := { name := "fnExactNetOk", fn := fun _ => fun
  | [d] => { results := [.lit (.bool false)], args := [d] }
  | _ => none }
def FnExactNetOkWrongFalsely : Prop := fnExactNetOkRow.holds Try.pinned (OpenSpec.ofChange fnExactNetOkWrong)

/-- 'laws.FnExactMinorOf': WHATEVER THE INPUT: true; the input reads as it did. -/
def fnExactMinorOfSpec : ChangeSpec := { name := "fnExactMinorOf", fn := fun _ => fun
  | [d1, d2, d3] => { results := [.lit (.bool true)], args := [d1, d2, d3] }
  | _ => none }
def fnExactMinorOfRow : OpenClaim := { program := "ytdmiihljepkapaa", sum := "bc62b0452294bef9f5c1938bf9a8bff0f3905704df6d67ddc27e7c2859de7c33", func := "loop.example/g00859/laws.FnExactMinorOf", spec := "fnExactMinorOf", recurses := true, apart := false }
def FnExactMinorOfSaid : Prop := fnExactMinorOfRow.holds Try.pinned (OpenSpec.ofChange fnExactMinorOfSpec)

/-- ITS FALSE NEIGHBOUR: 'it returns false'. Refute it at one input. -/
def fnExactMinorOfWrong : ChangeSpec := { name := "fnExactMinorOf", fn := fun _ => fun
  | [d1, d2, d3] => { results := [.lit (.bool false)], args := [d1, d2, d3] }
  | _ => none }
def FnExactMinorOfWrongFalsely : Prop := fnExactMinorOfRow.holds Try.pinned (OpenSpec.ofChange fnExactMinorOfWrong)

/-- 'laws.FnExactIsResponse': WHATEVER THE INPUT: true; the input reads as it did. -/
def fnExactIsResponseSpec : ChangeSpec := { name := "fnExactIsResponse", fn := fun _ => fun
  | [d] => { results := [.lit (.bool true)], args := [d] }
  | _ => none }
def fnExactIsResponseRow : OpenClaim := { program := "ytdmiihljepkapaa", sum := "bc62b0452294bef9f5c1938bf9a8bff0f3905704df6d67ddc27e7c2859de7c33", func := "loop.example/g00859/laws.FnExactIsResponse", spec := "fnExactIsResponse", unfollowed := true, recurses := true, apart := false }
def FnExactIsResponseSaid : Prop := fnExactIsResponseRow.holds Try.pinned (OpenSpec.ofChange fnExactIsResponseSpec)

/-- ITS FALSE NEIGHBOUR: 'it returns false'. Refute it at one input. -/
def fnExactIsResponseWrong : ChangeSpec := { name := "fnExactIsResponse", fn := fun _ => fun
  | [d] => { results := [.lit (.bool false)], args := [d] }
  | _ => none }
def FnExactIsResponseWrongFalsely : Prop := fnExactIsResponseRow.holds Try.pinned (OpenSpec.ofChange fnExactIsResponseWrong)

/-- 'laws.FnExactCanonNet': WHATEVER THE INPUT: true; the input reads as it did. -/
def fnExactCanonNetSpec : ChangeSpec := { name := "fnExactCanonNet", fn := fun _ => fun
  | [d] => { results := [.lit (.bool true)], args := [d] }
  | _ => none }
def fnExactCanonNetRow : OpenClaim := { program := "ytdmiihljepkapaa", sum := "bc62b0452294bef9f5c1938bf9a8bff0f3905704df6d67ddc27e7c2859de7c33", func := "loop.example/g00859/laws.FnExactCanonNet", spec := "fnExactCanonNet", apart := false }
def FnExactCanonNetSaid : Prop := fnExactCanonNetRow.holds Try.pinned (OpenSpec.ofChange fnExactCanonNetSpec)

/-- ITS FALSE NEIGHBOUR: 'it returns false'. Refute it at one input. -/
def fnExactCanonNetWrong : ChangeSpec := { name := "fnExactCanonNet", fn := fun _ => fun
  | [d] => { results := [.lit (.bool false)], args := [d] }
  | _ => none }
def FnExactCanonNetWrongFalsely : Prop := fnExactCanonNetRow.holds Try.pinned (OpenSpec.ofChange fnExactCanonNetWrong)

/-- 'laws.FnExactLaplacianOf': WHATEVER THE INPUT: true; the input reads as it did. -/
def fnExactLaplacianOfSpec : ChangeSpec := { name := "fnExactLaplacianOf", fn := fun _ => fun
  | [d] => { results := [.lit (.bool true)], args := [d] }
  | _ => none }
def fnExactLaplacianOfRow : OpenClaim := { program := "ytdmiihljepkapaa", sum := "bc62b0452294bef9f5c1938bf9a8bff0f3905704df6d67ddc27e7c2859de7c33", func := "loop.example/g00859/laws.FnExactLaplacianOf", spec := "fnExactLaplacianOf", apart := false }
def FnExactLaplacianOfSaid : Prop := fnExactLaplacianOfRow.holds Try.pinned (OpenSpec.ofChange fnExactLaplacianOfSpec)

/-- ITS FALSE NEIGHBOUR: 'it returns false'. Refute it at one input. -/
def fnExactLaplacianOfWrong : ChangeSpec := { name := "fnExactLaplacianOf", fn := fun _ => fun
  | [d] => { results := [.lit (.bool false)], args := [d] }
  | _ => none }
def FnExactLaplacianOfWrongFalsely : Prop := fnExactLaplacianOfRow.holds Try.pinned (OpenSpec.ofChange fnExactLaplacianOfWrong)

/-- 'laws.FnExactPutWire': WHATEVER THE INPUT: true; the input reads as it did. -/
def fnExactPutWireSpec : ChangeSpec := { name := "fnExactPutWire", fn := fun _ => fun
  | [d1, d2, d3, d4] => { results := [.lit (.bool true)], args := [d1, d2, d3, d4] }
  | _ => none }
def fnExactPutWireRow : OpenClaim := { program := "ytdmiihljepkapaa", sum := "bc62b0452294bef9f5c1938bf9a8bff0f3905704df6d67ddc27e7c2859de7c33", func := "loop.example/g00859/laws.FnExactPutWire", spec := "fnExactPutWire", apart := false }
def FnExactPutWireSaid : Prop := fnExactPutWireRow.holds Try.pinned (OpenSpec.ofChange fnExactPutWireSpec)

/-- ITS FALSE NEIGHBOUR: 'it returns false'. Refute it at one input. -/
def fnExactPutWireWrong : ChangeSpec := { name := "fnExactPutWire", fn := fun _ => fun
  | [d1, d2, d3, d4] => { results := [.lit (.bool false)], args := [d1, d2, d3, d4] }
  | _ => none }
def FnExactPutWireWrongFalsely : Prop := fnExactPutWireRow.holds Try.pinned (OpenSpec.ofChange fnExactPutWireWrong)

/-- 'laws.FnExactSwapNodes': WHATEVER THE INPUT: true; the input reads as it did. -/
def fnExactSwapNodesSpec : ChangeSpec := { name := "fnExactSwapNodes", fn := fun _ => fun
  | [d1, d2, d3] => { results := [.lit (.bool true)], args := [d1, d2, d3] }
  | _ => none }
def fnExactSwapNodesRow : OpenClaim := { program := "ytdmiihljepkapaa", sum := "bc62b0452294bef9f5c1938bf9a8bff0f3905704df6d67ddc27e7c2859de7c33", func := "loop.example/g00859/laws.FnExactSwapNodes", spec := "fnExactSwapNodes", apart := false }
def FnExactSwapNodesSaid : Prop := fnExactSwapNodesRow.holds Try.pinned (OpenSpec.ofChange fnExactSwapNodesSpec)

/-- ITS FALSE NEIGHBOUR: 'it returns false'. Refute it at one input. -/
def fnExactSwapNodesWrong : ChangeSpec := { name := "fnExactSwapNodes", fn := fun _ => fun
  | [d1, d2, d3] => { results := [.lit (.bool false)], args := [d1, d2, d3] }
  | _ => none }
def FnExactSwapNodesWrongFalsely : Prop := fnExactSwapNodesRow.holds Try.pinned (OpenSpec.ofChange fnExactSwapNodesWrong)

/-- 'laws.FnExactCrossSum': WHATEVER THE INPUT: true; the input reads as it did. -/
def fnExactCrossSumSpec : ChangeSpec := { name := "fnExactCrossSum", fn := fun _ => fun
  | [d1, d2, d3, d4, d5] => { results := [.lit (.bool true)], args := [d1, d2, d3, d4, d5] }
  | _ => none }
def fnExactCrossSumRow : OpenClaim := { program := "ytdmiihljepkapaa", sum := "bc62b0452294bef9f5c1938bf9a8bff0f3905704df6d67ddc27e7c2859de7c33", func := "loop.example/g00859/laws.FnExactCrossSum", spec := "fnExactCrossSum", recurses := true, apart := false }
def FnExactCrossSumSaid : Prop := fnExactCrossSumRow.holds Try.pinned (OpenSpec.ofChange fnExactCrossSumSpec)

/-- ITS FALSE NEIGHBOUR: 'it returns false'. Refute it at one input. -/
def fnExactCrossSumWrong : ChangeSpec := { name := "fnExactCrossSum", fn := fun _ => fun
  | [d1, d2, d3, d4, d5] => { results := [.lit (.bool false)], args := [d1, d2, d3, d4, d5] }
  | _ => none }
def FnExactCrossSumWrongFalsely : Prop := fnExactCrossSumRow.holds Try.pinned (OpenSpec.ofChange fnExactCrossSumWrong)

/-- 'laws.FnExactTreeSum': WHATEVER THE INPUT: true; the input reads as it did. -/
def fnExactTreeSumSpec : ChangeSpec := { name := "fnExactTreeSum", fn := fun _ => fun
  | [d] => { results := [.lit (.bool true)], args := [d] }
  | _ => none }
def fnExactTreeSumRow : OpenClaim := { program := "ytdmiihljepkapaa", sum := "bc62b0452294bef9f5c1938bf9a8bff0f3905704df6d67ddc27e7c2859de7c33", func := "loop.example/g00859/laws.FnExactTreeSum", spec := "fnExactTreeSum", recurses := true, apart := false }
def FnExactTreeSumSaid : Prop := fnExactTreeSumRow.holds Try.pinned (OpenSpec.ofChange fnExactTreeSumSpec)

/-- ITS FALSE NEIGHBOUR: 'it returns false'. Refute it at one input. -/
def fnExactTreeSumWrong : ChangeSpec := { name := "fnExactTreeSum", fn := fun _ => fun
  | [d] => { results := [.lit (.bool false)], args := [d] }
  | _ => none }
def FnExactTreeSumWrongFalsely : Prop := fnExactTreeSumRow.holds Try.pinned (OpenSpec.ofChange fnExactTreeSumWrong)

/-- 'laws.FnExactForestSum': WHATEVER THE INPUT: true; the input reads as it did. -/
def fnExactForestSumSpec : ChangeSpec := { name := "fnExactForestSum", fn := fun _ => fun
  | [d1, d2, d3] => { results := [.lit (.bool true)], args := [d1, d2, d3] }
  | _ => none }
def fnExactForestSumRow : OpenClaim := { program := "ytdmiihljepkapaa", sum := "bc62b0452294bef9f5c1938bf9a8bff0f3905704df6d67ddc27e7c2859de7c33", func := "loop.example/g00859/laws.FnExactForestSum", spec := "fnExactForestSum", recurses := true, apart := false }
def FnExactForestSumSaid : Prop := fnExactForestSumRow.holds Try.pinned (OpenSpec.ofChange fnExactForestSumSpec)

/-- ITS FALSE NEIGHBOUR: 'it returns false'. Refute it at one input. -/
def fnExactForestSumWrong : ChangeSpec := { name := "fnExactForestSum", fn := fun _ => fun
  | [d1, d2, d3] => { results := [.lit (.bool false)], args := [d1, d2, d3] }
  | _ => none }
def FnExactForestSumWrongFalsely : Prop := fnExactForestSumRow.holds Try.pinned (OpenSpec.ofChange fnExactForestSumWrong)

/-- 'laws.FnExactCountTrees': WHATEVER THE INPUT: true; the input reads as it did. -/
def fnExactCountTreesSpec : ChangeSpec := { name := "fnExactCountTrees", fn := fun _ => fun
  | [d] => { results := [.lit (.bool true)], args := [d] }
  | _ => none }
def fnExactCountTreesRow : OpenClaim := { program := "ytdmiihljepkapaa", sum := "bc62b0452294bef9f5c1938bf9a8bff0f3905704df6d67ddc27e7c2859de7c33", func := "loop.example/g00859/laws.FnExactCountTrees", spec := "fnExactCountTrees", recurses := true, apart := false }
def FnExactCountTreesSaid : Prop := fnExactCountTreesRow.holds Try.pinned (OpenSpec.ofChange fnExactCountTreesSpec)

/-- ITS FALSE NEIGHBOUR: 'it returns false'. Refute it at one input. -/
def fnExactCountTreesWrong : ChangeSpec := { name := "fnExactCountTrees", fn := fun _ => fun
  | [d] => { results := [.lit (.bool false)], args := [d] }
  | _ => none }
def FnExactCountTreesWrongFalsely : Prop := fnExactCountTreesRow.holds Try.pinned (OpenSpec.ofChange fnExactCountTreesWrong)

/-- 'laws.FnExactJoinNodes': WHATEVER THE INPUT: true; the input reads as it did. -/
def fnExactJoinNodesSpec : ChangeSpec := { name := "fnExactJoinNodes", fn := fun _ => fun
  | [d1, d2, d3] => { results := [.lit (.bool true)], args := [d1, d2, d3] }
  | _ => none }
def fnExactJoinNodesRow : OpenClaim := { program := "ytdmiihljepkapaa", sum := "bc62b0452294bef9f5c1938bf9a8bff0f3905704df6d67ddc27e7c2859de7c33", func := "loop.example/g00859/laws.FnExactJoinNodes", spec := "fnExactJoinNodes", apart := false }
def FnExactJoinNodesSaid : Prop := fnExactJoinNodesRow.holds Try.pinned (OpenSpec.ofChange fnExactJoinNodesSpec)

/-- ITS FALSE NEIGHBOUR: 'it returns false'. Refute it at one input. -/
def fnExactJoinNodesWrong : ChangeSpec := { name := "fnExactJoinNodes", fn := fun _ => fun
  | [d1, d2, d3] => { results := [.lit (.bool false)], args := [d1, d2, d3] }
  | _ => none }
def FnExactJoinNodesWrongFalsely : Prop := fnExactJoinNodesRow.holds Try.pinned (OpenSpec.ofChange fnExactJoinNodesWrong)

/-- 'laws.FnExactPowerOf': WHATEVER THE INPUT: true; the input reads as it did. -/
def fnExactPowerOfSpec : ChangeSpec := { name := "fnExactPowerOf", fn := fun _ => fun
  | [d1, d2] => { results := [.lit (.bool true)], args := [d1, d2] }
  | _ => none }
def fnExactPowerOfRow : OpenClaim := { program := "ytdmiihljepkapaa", sum := "bc62b0452294bef9f5c1938bf9a8bff0f3905704df6d67ddc27e7c2859de7c33", func := "loop.example/g00859/laws.FnExactPowerOf", spec := "fnExactPowerOf", apart := false }
def FnExactPowerOfSaid : Prop := fnExactPowerOfRow.holds Try.pinned (OpenSpec.ofChange fnExactPowerOfSpec)

/-- ITS FALSE NEIGHBOUR: 'it returns false'. Refute it at one input. -/
def fnExactPowerOfWrong : ChangeSpec := { name := "fnExactPowerOf", fn := fun _ => fun
  | [d1, d2] => { results := [.lit (.bool false)], args := [d1, d2] }
  | _ => none }
def FnExactPowerOfWrongFalsely : Prop := fnExactPowerOfRow.holds Try.pinned (OpenSpec.ofChange fnExactPowerOfWrong)

/-- 'laws.FnNets': WHATEVER THE INPUT: true; the input reads as it did. -/
def fnNetsSpec : ChangeSpec := { name := "fnNets", fn := fun _ => fun
  | [d] => { results := [.lit (.bool true)], args := [d] }
  | _ => none }
def fnNetsRow : OpenClaim := { program := "ytdmiihljepkapaa", sum := "bc62b0452294bef9f5c1938bf9a8bff0f3905704df6d67ddc27e7c2859de7c33", func := "loop.example/g00859/laws.FnNets", spec := "fnNets", unfollowed := true, recurses := true, apart := false }
def FnNetsSaid : Prop := fnNetsRow.holds Try.pinned (OpenSpec.ofChange fnNetsSpec)

/-- ITS FALSE NEIGHBOUR: 'it returns false'. Refute it at one input. -/
def fnNetsWrong : ChangeSpec := { name := "fnNets", fn := fun _ => fun
  | [d] => { results := [.lit (.bool false)], args := [d] }
  | _ => none }
def FnNetsWrongFalsely : Prop := fnNetsRow.holds Try.pinned (OpenSpec.ofChange fnNetsWrong)

/-- 'laws.FnResponses': WHATEVER THE INPUT: true; the input reads as it did. -/
def fnResponsesSpec : ChangeSpec := { name := "fnResponses", fn := fun _ => fun
  | [d] => { results := [.lit (.bool true)], args := [d] }
  | _ => none }
def fnResponsesRow : OpenClaim := { program := "ytdmiihljepkapaa", sum := "bc62b0452294bef9f5c1938bf9a8bff0f3905704df6d67ddc27e7c2859de7c33", func := "loop.example/g00859/laws.FnResponses", spec := "fnResponses", unfollowed := true, recurses := true, apart := false }
def FnResponsesSaid : Prop := fnResponsesRow.holds Try.pinned (OpenSpec.ofChange fnResponsesSpec)

/-- ITS FALSE NEIGHBOUR: 'it returns false'. Refute it at one input. -/
def fnResponsesWrong : ChangeSpec := { name := "fnResponses", fn := fun _ => fun
  | [d] => { results := [.lit (.bool false)], args := [d] }
  | _ => none }
def FnResponsesWrongFalsely : Prop := fnResponsesRow.holds Try.pinned (OpenSpec.ofChange fnResponsesWrong)

/-- 'laws.FnExactResistanceOf': WHATEVER THE INPUT: true; the input reads as it did. -/
def fnExactResistanceOfSpec : ChangeSpec := { name := "fnExactResistanceOf", fn := fun _ => fun
  | [d1, d2, d3] => { results := [.lit (.bool true)], args := [d1, d2, d3] }
  | _ => none }
def fnExactResistanceOfRow : OpenClaim := { program := "ytdmiihljepkapaa", sum := "bc62b0452294bef9f5c1938bf9a8bff0f3905704df6d67ddc27e7c2859de7c33", func := "loop.example/g00859/laws.FnExactResistanceOf", spec := "fnExactResistanceOf", recurses := true, apart := false }
def FnExactResistanceOfSaid : Prop := fnExactResistanceOfRow.holds Try.pinned (OpenSpec.ofChange fnExactResistanceOfSpec)

/-- ITS FALSE NEIGHBOUR: 'it returns false'. Refute it at one input. -/
def fnExactResistanceOfWrong : ChangeSpec := { name := "fnExactResistanceOf", fn := fun _ => fun
  | [d1, d2, d3] => { results := [.lit (.bool false)], args := [d1, d2, d3] }
  | _ => none }
def FnExactResistanceOfWrongFalsely : Prop := fnExactResistanceOfRow.holds Try.pinned (OpenSpec.ofChange fnExactResistanceOfWrong)

/-- 'laws.FnExactAreAlike': WHATEVER THE INPUT: true; the input reads as it did. -/
def fnExactAreAlikeSpec : ChangeSpec := { name := "fnExactAreAlike", fn := fun _ => fun
  | [d1, d2] => { results := [.lit (.bool true)], args := [d1, d2] }
  | _ => none }
def fnExactAreAlikeRow : OpenClaim := { program := "ytdmiihljepkapaa", sum := "bc62b0452294bef9f5c1938bf9a8bff0f3905704df6d67ddc27e7c2859de7c33", func := "loop.example/g00859/laws.FnExactAreAlike", spec := "fnExactAreAlike", unfollowed := true, recurses := true, apart := false }
def FnExactAreAlikeSaid : Prop := fnExactAreAlikeRow.holds Try.pinned (OpenSpec.ofChange fnExactAreAlikeSpec)

/-- ITS FALSE NEIGHBOUR: 'it returns false'. Refute it at one input. -/
def fnExactAreAlikeWrong : ChangeSpec := { name := "fnExactAreAlike", fn := fun _ => fun
  | [d1, d2] => { results := [.lit (.bool false)], args := [d1, d2] }
  | _ => none }
def FnExactAreAlikeWrongFalsely : Prop := fnExactAreAlikeRow.holds Try.pinned (OpenSpec.ofChange fnExactAreAlikeWrong)

/-- 'laws.FnExactCurrentOn': WHATEVER THE INPUT: true; the input reads as it did. -/
def fnExactCurrentOnSpec : ChangeSpec := { name := "fnExactCurrentOn", fn := fun _ => fun
  | [d1, d2, d3, d4, d5] => { results := [.lit (.bool true)], args := [d1, d2, d3, d4, d5] }
  | _ => none }
def fnExactCurrentOnRow : OpenClaim := { program := "ytdmiihljepkapaa", sum := "bc62b0452294bef9f5c1938bf9a8bff0f3905704df6d67ddc27e7c2859de7c33", func := "loop.example/g00859/laws.FnExactCurrentOn", spec := "fnExactCurrentOn", recurses := true, apart := false }
def FnExactCurrentOnSaid : Prop := fnExactCurrentOnRow.holds Try.pinned (OpenSpec.ofChange fnExactCurrentOnSpec)

/-- ITS FALSE NEIGHBOUR: 'it returns false'. Refute it at one input. -/
def fnExactCurrentOnWrong : ChangeSpec := { name := "fnExactCurrentOn", fn := fun _ => fun
  | [d1, d2, d3, d4, d5] => { results := [.lit (.bool false)], args := [d1, d2, d3, d4, d5] }
  | _ => none }
def FnExactCurrentOnWrongFalsely : Prop := fnExactCurrentOnRow.holds Try.pinned (OpenSpec.ofChange fnExactCurrentOnWrong)

/-- 'laws.FnExactResponseNet': WHATEVER THE INPUT: true; the input reads as it did. -/
def fnExactResponseNetSpec : ChangeSpec := { name := "fnExactResponseNet", fn := fun _ => fun
  | [d] => { results := [.lit (.bool true)], args := [d] }
  | _ => none }
def fnExactResponseNetRow : OpenClaim := { program := "ytdmiihljepkapaa", sum := "bc62b0452294bef9f5c1938bf9a8bff0f3905704df6d67ddc27e7c2859de7c33", func := "loop.example/g00859/laws.FnExactResponseNet", spec := "fnExactResponseNet", recurses := true, apart := false }
def FnExactResponseNetSaid : Prop := fnExactResponseNetRow.holds Try.pinned (OpenSpec.ofChange fnExactResponseNetSpec)

/-- ITS FALSE NEIGHBOUR: 'it returns false'. Refute it at one input. -/
def fnExactResponseNetWrong : ChangeSpec := { name := "fnExactResponseNet", fn := fun _ => fun
  | [d] => { results := [.lit (.bool false)], args := [d] }
  | _ => none }
def FnExactResponseNetWrongFalsely : Prop := fnExactResponseNetRow.holds Try.pinned (OpenSpec.ofChange fnExactResponseNetWrong)

/-- 'laws.FnExactPotentialsOf': WHATEVER THE INPUT: true; the input reads as it did. -/
def fnExactPotentialsOfSpec : ChangeSpec := { name := "fnExactPotentialsOf", fn := fun _ => fun
  | [d1, d2, d3] => { results := [.lit (.bool true)], args := [d1, d2, d3] }
  | _ => none }
def fnExactPotentialsOfRow : OpenClaim := { program := "ytdmiihljepkapaa", sum := "bc62b0452294bef9f5c1938bf9a8bff0f3905704df6d67ddc27e7c2859de7c33", func := "loop.example/g00859/laws.FnExactPotentialsOf", spec := "fnExactPotentialsOf", recurses := true, apart := false }
def FnExactPotentialsOfSaid : Prop := fnExactPotentialsOfRow.holds Try.pinned (OpenSpec.ofChange fnExactPotentialsOfSpec)

/-- ITS FALSE NEIGHBOUR: 'it returns false'. Refute it at one input. -/
def fnExactPotentialsOfWrong : ChangeSpec := { name := "fnExactPotentialsOf", fn := fun _ => fun
  | [d1, d2, d3] => { results := [.lit (.bool false)], args := [d1, d2, d3] }
  | _ => none }
def FnExactPotentialsOfWrongFalsely : Prop := fnExactPotentialsOfRow.holds Try.pinned (OpenSpec.ofChange fnExactPotentialsOfWrong)

/- THE SECOND FORM. 'bulk': how many values and letters a reading holds, each counted each time it is reached (what is shared counts as often as it is met; a slice's spare places count too). A statement '..UptoSaid' is the law's where the arguments, and the package variables that the reading takes, are together of bulk at most 1048576: NARROWER than '..Said'. Prove '..Said' where nothing that the law and all that it calls make is longer than what came in: it says more and counts as full. Else prove '..UptoSaid'. A law counts once. -/
mutual
def uptoBulk {H : Type} : DataW H → Nat
  | .lit (.string bytes) => bytes.length + 1
  | .lit _ => 1
  | .nil => 1
  | .ptr d => uptoBulk d + 1
  | .slice elems spare => uptoBulkAll elems + uptoBulkAll spare + 1
  | .agg parts => uptoBulkAll parts + 1
  | .iface _ d => uptoBulk d + 1
  | .map entries => uptoBulkEntries entries + 1
  | .held _ => 1
def uptoBulkAll {H : Type} : List (DataW H) → Nat
  | [] => 0
  | d :: r => uptoBulk d + uptoBulkAll r
def uptoBulkEntries {H : Type} : List (Lit × DataW H) → Nat
  | [] => 0
  | x :: r => uptoBulkEntry x + uptoBulkEntries r
def uptoBulkEntry {H : Type} : Lit × DataW H → Nat
  | (.string bytes, d) => bytes.length + uptoBulk d + 1
  | (_, d) => uptoBulk d + 1
 end
def uptoSmall : (H : Type) → List (DataW H) → Bool := fun _ ds => decide (uptoBulkAll ds ≤ 1048576)
def OpenSpec.upto (s : _root_.Go.ChangeSpec) : _root_.Go.OpenSpec := { _root_.Go.OpenSpec.ofChange s with cond := some uptoSmall }

/-- 'laws.FnKirchhoff', WHERE WHAT IT READS IS OF BULK AT MOST 1048576: true; the input reads as it did. -/
def fnKirchhoffUptoRow : OpenClaim := { program := "ytdmiihljepkapaa", sum := "bc62b0452294bef9f5c1938bf9a8bff0f3905704df6d67ddc27e7c2859de7c33", func := "loop.example/g00859/laws.FnKirchhoff", spec := "fnKirchhoff", recurses := true, apart := false, narrowed := true }
def FnKirchhoffUptoSaid : Prop := fnKirchhoffUptoRow.holds Try.pinned (OpenSpec.upto fnKirchhoffSpec)

/-- 'laws.FnPower', WHERE WHAT IT READS IS OF BULK AT MOST 1048576: true; the input reads as it did. -/
def fnPowerUptoRow : OpenClaim := { program := "ytdmiihljepkapaa", sum := "bc62b0452294bef9f5c1938bf9a8bff0f3905704df6d67ddc27e7c2859de7c33", func := "loop.example/g00859/laws.FnPower", spec := "fnPower", recurses := true, apart := false, narrowed := true }
def FnPowerUptoSaid : Prop := fnPowerUptoRow.holds Try.pinned (OpenSpec.upto fnPowerSpec)

/-- 'laws.FnExactWeightAt', WHERE WHAT IT READS IS OF BULK AT MOST 1048576: true; the input reads as it did. -/
def fnExactWeightAtUptoRow : OpenClaim := { program := "ytdmiihljepkapaa", sum := "bc62b0452294bef9f5c1938bf9a8bff0f3905704df6d67ddc27e7c2859de7c33", func := "loop.example/g00859/laws.FnExactWeightAt", spec := "fnExactWeightAt", apart := false, narrowed := true }
def FnExactWeightAtUptoSaid : Prop := fnExactWeightAtUptoRow.holds Try.pinned (OpenSpec.upto fnExactWeightAtSpec)

/-- 'laws.FnExactSameNet', WHERE WHAT IT READS IS OF BULK AT MOST 1048576: true; the input reads as it did. -/
def fnExactSameNetUptoRow : OpenClaim := { program := "ytdmiihljepkapaa", sum := "bc62b0452294bef9f5c1938bf9a8bff0f3905704df6d67ddc27e7c2859de7c33", func := "loop.example/g00859/laws.FnExactSameNet", spec := "fnExactSameNet", apart := false, narrowed := true }
def FnExactSameNetUptoSaid : Prop := fnExactSameNetUptoRow.holds Try.pinned (OpenSpec.upto fnExactSameNetSpec)

/-- 'laws.FnExactSameResponse', WHERE WHAT IT READS IS OF BULK AT MOST 1048576: true; the input reads as it did. -/
def fnExactSameResponseUptoRow : OpenClaim := { program := "ytdmiihljepkapaa", sum := "bc62b0452294bef9f5c1938bf9a8bff0f3905704df6d67ddc27e7c2859de7c33", func := "loop.example/g00859/laws.FnExactSameResponse", spec := "fnExactSameResponse", unfollowed := true, recurses := true, apart := false, narrowed := true }
def FnExactSameResponseUptoSaid : Prop := fnExactSameResponseUptoRow.holds Try.pinned (OpenSpec.upto fnExactSameResponseSpec)

/-- 'laws.FnExactNetOk', WHERE WHAT IT READS IS OF BULK AT MOST 1048576: true; the input reads as it did. -/
def fnExactNetOkUptoRow : OpenClaim := { program := "ytdmiihljepkapaa", sum := "bc62b0452294bef9f5c1938bf9a8bff0f3905704df6d67ddc27e7c2859de7c33", func := "loop.example/g00859/laws.FnExactNetOk", spec := "fnExactNetOk", apart := false, narrowed := true }
def FnExactNetOkUptoSaid : Prop := fnExactNetOkUptoRow.holds Try.pinned (OpenSpec.upto fnExactNetOkSpec)

/-- 'laws.FnExactMinorOf', WHERE WHAT IT READS IS OF BULK AT MOST 1048576: true; the input reads as it did. -/
def fnExactMinorOfUptoRow : OpenClaim := { program := "ytdmiihljepkapaa", sum := "bc62b0452294bef9f5c1938bf9a8bff0f3905704df6d67ddc27e7c2859de7c33", func := "loop.example/g00859/laws.FnExactMinorOf", spec := "fnExactMinorOf", recurses := true, apart := false, narrowed := true }
def FnExactMinorOfUptoSaid : Prop := fnExactMinorOfUptoRow.holds Try.pinned (OpenSpec.upto fnExactMinorOfSpec)

/-- 'laws.FnExactIsResponse', WHERE WHAT IT READS IS OF BULK AT MOST 1048576: true; the input reads as it did. -/
def fnExactIsResponseUptoRow : OpenClaim := { program := "ytdmiihljepkapaa", sum := "bc62b0452294bef9f5c1938bf9a8bff0f3905704df6d67ddc27e7c2859de7c33", func := "loop.example/g00859/laws.FnExactIsResponse", spec := "fnExactIsResponse", unfollowed := true, recurses := true, apart := false, narrowed := true }
def FnExactIsResponseUptoSaid : Prop := fnExactIsResponseUptoRow.holds Try.pinned (OpenSpec.upto fnExactIsResponseSpec)

/-- 'laws.FnExactCanonNet', WHERE WHAT IT READS IS OF BULK AT MOST 1048576: true; the input reads as it did. -/
def fnExactCanonNetUptoRow : OpenClaim := { program := "ytdmiihljepkapaa", sum := "bc62b0452294bef9f5c1938bf9a8bff0f3905704df6d67ddc27e7c2859de7c33", func := "loop.example/g00859/laws.FnExactCanonNet", spec := "fnExactCanonNet", apart := false, narrowed := true }
def FnExactCanonNetUptoSaid : Prop := fnExactCanonNetUptoRow.holds Try.pinned (OpenSpec.upto fnExactCanonNetSpec)

/-- 'laws.FnExactLaplacianOf', WHERE WHAT IT READS IS OF BULK AT MOST 1048576: true; the input reads as it did. -/
def fnExactLaplacianOfUptoRow : OpenClaim := { program := "ytdmiihljepkapaa", sum := "bc62b0452294bef9f5c1938bf9a8bff0f3905704df6d67ddc27e7c2859de7c33", func := "loop.example/g00859/laws.FnExactLaplacianOf", spec := "fnExactLaplacianOf", apart := false, narrowed := true }
def FnExactLaplacianOfUptoSaid : Prop := fnExactLaplacianOfUptoRow.holds Try.pinned (OpenSpec.upto fnExactLaplacianOfSpec)

/-- 'laws.FnExactPutWire', WHERE WHAT IT READS IS OF BULK AT MOST 1048576: true; the input reads as it did. -/
def fnExactPutWireUptoRow : OpenClaim := { program := "ytdmiihljepkapaa", sum := "bc62b0452294bef9f5c1938bf9a8bff0f3905704df6d67ddc27e7c2859de7c33", func := "loop.example/g00859/laws.FnExactPutWire", spec := "fnExactPutWire", apart := false, narrowed := true }
def FnExactPutWireUptoSaid : Prop := fnExactPutWireUptoRow.holds Try.pinned (OpenSpec.upto fnExactPutWireSpec)

/-- 'laws.FnExactSwapNodes', WHERE WHAT IT READS IS OF BULK AT MOST 1048576: true; the input reads as it did. -/
def fnExactSwapNodesUptoRow : OpenClaim := { program := "ytdmiihljepkapaa", sum := "bc62b0452294bef9f5c1938bf9a8bff0f3905704df6d67ddc27e7c2859de7c33", func := "loop.example/g00859/laws.FnExactSwapNodes", spec := "fnExactSwapNodes", apart := false, narrowed := true }
def FnExactSwapNodesUptoSaid : Prop := fnExactSwapNodesUptoRow.holds Try.pinned (OpenSpec.upto fnExactSwapNodesSpec)

/-- 'laws.FnExactCrossSum', WHERE WHAT IT READS IS OF BULK AT MOST 1048576: true; the input reads as it did. -/
def fnExactCrossSumUptoRow : OpenClaim := { program := "ytdmiihljepkapaa", sum := "bc62b0452294bef9f5c1938bf9a8bff0f3905704df6d67ddc27e7c2859de7c33", func := "loop.example/g00859/laws.FnExactCrossSum", spec := "fnExactCrossSum", recurses := true, apart := false, narrowed := true }
def FnExactCrossSumUptoSaid : Prop := fnExactCrossSumUptoRow.holds Try.pinned (OpenSpec.upto fnExactCrossSumSpec)

/-- 'laws.FnExactTreeSum', WHERE WHAT IT READS IS OF BULK AT MOST 1048576: true; the input reads as it did. -/
def fnExactTreeSumUptoRow : OpenClaim := { program := "ytdmiihljepkapaa", sum := "bc62b0452294bef9f5c1938bf9a8bff0f3905704df6d67ddc27e7c2859de7c33", func := "loop.example/g00859/laws.FnExactTreeSum", spec := "fnExactTreeSum", recurses := true, apart := false, narrowed := true }
def FnExactTreeSumUptoSaid : Prop := fnExactTreeSumUptoRow.holds Try.pinned (OpenSpec.upto fnExactTreeSumSpec)

/-- 'laws.FnExactForestSum', WHERE WHAT IT READS IS OF BULK AT MOST 1048576: true; the input reads as it did. -/
def fnExactForestSumUptoRow : OpenClaim := { program := "ytdmiihljepkapaa", sum := "bc62b0452294bef9f5c1938bf9a8bff0f3905704df6d67ddc27e7c2859de7c33", func := "loop.example/g00859/laws.FnExactForestSum", spec := "fnExactForestSum", recurses := true, apart := false, narrowed := true }
def FnExactForestSumUptoSaid : Prop := fnExactForestSumUptoRow.holds Try.pinned (OpenSpec.upto fnExactForestSumSpec)

/-- 'laws.FnExactCountTrees', WHERE WHAT IT READS IS OF BULK AT MOST 1048576: true; the input reads as it did. -/
def fnExactCountTreesUptoRow : OpenClaim := { program := "ytdmiihljepkapaa", sum := "bc62b0452294bef9f5c1938bf9a8bff0f3905704df6d67ddc27e7c2859de7c33", func := "loop.example/g00859/laws.FnExactCountTrees", spec := "fnExactCountTrees", recurses := true, apart := false, narrowed := true }
def FnExactCountTreesUptoSaid : Prop := fnExactCountTreesUptoRow.holds Try.pinned (OpenSpec.upto fnExactCountTreesSpec)

/-- 'laws.FnExactJoinNodes', WHERE WHAT IT READS IS OF BULK AT MOST 1048576: true; the input reads as it did. -/
def fnExactJoinNodesUptoRow : OpenClaim := { program := "ytdmiihljepkapaa", sum := "bc62b0452294bef9f5c1938bf9a8bff0f3905704df6d67ddc27e7c2859de7c33", func := "loop.example/g00859/laws.FnExactJoinNodes", spec := "fnExactJoinNodes", apart := false, narrowed := true }
def FnExactJoinNodesUptoSaid : Prop := fnExactJoinNodesUptoRow.holds Try.pinned (OpenSpec.upto fnExactJoinNodesSpec)

/-- 'laws.FnExactPowerOf', WHERE WHAT IT READS IS OF BULK AT MOST 1048576: true; the input reads as it did. -/
def fnExactPowerOfUptoRow : OpenClaim := { program := "ytdmiihljepkapaa", sum := "bc62b0452294bef9f5c1938bf9a8bff0f3905704df6d67ddc27e7c2859de7c33", func := "loop.example/g00859/laws.FnExactPowerOf", spec := "fnExactPowerOf", apart := false, narrowed := true }
def FnExactPowerOfUptoSaid : Prop := fnExactPowerOfUptoRow.holds Try.pinned (OpenSpec.upto fnExactPowerOfSpec)

/-- 'laws.FnNets', WHERE WHAT IT READS IS OF BULK AT MOST 1048576: true; the input reads as it did. -/
def fnNetsUptoRow : OpenClaim := { program := "ytdmiihljepkapaa", sum := "bc62b0452294bef9f5c1938bf9a8bff0f3905704df6d67ddc27e7c2859de7c33", func := "loop.example/g00859/laws.FnNets", spec := "fnNets", unfollowed := true, recurses := true, apart := false, narrowed := true }
def FnNetsUptoSaid : Prop := fnNetsUptoRow.holds Try.pinned (OpenSpec.upto fnNetsSpec)

/-- 'laws.FnResponses', WHERE WHAT IT READS IS OF BULK AT MOST 1048576: true; the input reads as it did. -/
def fnResponsesUptoRow : OpenClaim := { program := "ytdmiihljepkapaa", sum := "bc62b0452294bef9f5c1938bf9a8bff0f3905704df6d67ddc27e7c2859de7c33", func := "loop.example/g00859/laws.FnResponses", spec := "fnResponses", unfollowed := true, recurses := true, apart := false, narrowed := true }
def FnResponsesUptoSaid : Prop := fnResponsesUptoRow.holds Try.pinned (OpenSpec.upto fnResponsesSpec)

/-- 'laws.FnExactResistanceOf', WHERE WHAT IT READS IS OF BULK AT MOST 1048576: true; the input reads as it did. -/
def fnExactResistanceOfUptoRow : OpenClaim := { program := "ytdmiihljepkapaa", sum := "bc62b0452294bef9f5c1938bf9a8bff0f3905704df6d67ddc27e7c2859de7c33", func := "loop.example/g00859/laws.FnExactResistanceOf", spec := "fnExactResistanceOf", recurses := true, apart := false, narrowed := true }
def FnExactResistanceOfUptoSaid : Prop := fnExactResistanceOfUptoRow.holds Try.pinned (OpenSpec.upto fnExactResistanceOfSpec)

/-- 'laws.FnExactAreAlike', WHERE WHAT IT READS IS OF BULK AT MOST 1048576: true; the input reads as it did. -/
def fnExactAreAlikeUptoRow : OpenClaim := { program := "ytdmiihljepkapaa", sum := "bc62b0452294bef9f5c1938bf9a8bff0f3905704df6d67ddc27e7c2859de7c33", func := "loop.example/g00859/laws.FnExactAreAlike", spec := "fnExactAreAlike", unfollowed := true, recurses := true, apart := false, narrowed := true }
def FnExactAreAlikeUptoSaid : Prop := fnExactAreAlikeUptoRow.holds Try.pinned (OpenSpec.upto fnExactAreAlikeSpec)

/-- 'laws.FnExactCurrentOn', WHERE WHAT IT READS IS OF BULK AT MOST 1048576: true; the input reads as it did. -/
def fnExactCurrentOnUptoRow : OpenClaim := { program := "ytdmiihljepkapaa", sum := "bc62b0452294bef9f5c1938bf9a8bff0f3905704df6d67ddc27e7c2859de7c33", func := "loop.example/g00859/laws.FnExactCurrentOn", spec := "fnExactCurrentOn", recurses := true, apart := false, narrowed := true }
def FnExactCurrentOnUptoSaid : Prop := fnExactCurrentOnUptoRow.holds Try.pinned (OpenSpec.upto fnExactCurrentOnSpec)

/-- 'laws.FnExactResponseNet', WHERE WHAT IT READS IS OF BULK AT MOST 1048576: true; the input reads as it did. -/
def fnExactResponseNetUptoRow : OpenClaim := { program := "ytdmiihljepkapaa", sum := "bc62b0452294bef9f5c1938bf9a8bff0f3905704df6d67ddc27e7c2859de7c33", func := "loop.example/g00859/laws.FnExactResponseNet", spec := "fnExactResponseNet", recurses := true, apart := false, narrowed := true }
def FnExactResponseNetUptoSaid : Prop := fnExactResponseNetUptoRow.holds Try.pinned (OpenSpec.upto fnExactResponseNetSpec)

/-- 'laws.FnExactPotentialsOf', WHERE WHAT IT READS IS OF BULK AT MOST 1048576: true; the input reads as it did. -/
def fnExactPotentialsOfUptoRow : OpenClaim := { program := "ytdmiihljepkapaa", sum := "bc62b0452294bef9f5c1938bf9a8bff0f3905704df6d67ddc27e7c2859de7c33", func := "loop.example/g00859/laws.FnExactPotentialsOf", spec := "fnExactPotentialsOf", recurses := true, apart := false, narrowed := true }
def FnExactPotentialsOfUptoSaid : Prop := fnExactPotentialsOfUptoRow.holds Try.pinned (OpenSpec.upto fnExactPotentialsOfSpec)

end Rows
end Go.Proofs.Ytdmiihljepkapaa
