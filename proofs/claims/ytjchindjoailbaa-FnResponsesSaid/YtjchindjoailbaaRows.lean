/-
  No cell of these rows narrows 'for every input' (looked for: loops, veiled, ifaces, maps, wideKeys, modest, calm, conditions, laid).
  DERIVED. THE GIVEN ROWS OF THIS SEAT. 12 by the template 'for every input the law returns true; each argument reads behind the call as it read before'; 0 by the template 'total and deterministic' (their statements: YtjchindjoailbaaTotals.lean).
  GIVEN WITH THE SEED: the statements are not yours to turn. If you find one false, say at which input.
  Laid BY PROGRAM, IN A SANDBOX (cutbox-rows.mjs): the forced cells as the released guide's own fill.sh prints them over the translation d4be73769b039a3a… (all of the seat's roots in one cut). By AI agents, Wed Nov 11 2026. No macro, syntax, notation, axiom, sorry.
-/
import Derived.Test.YtjchindjoailbaaChecked
import GoSem.Claim
import GoSem.ClaimJoined
import GoSem.ClaimMapViews
import Derived.JoinedTies
import Derived.KernelRfl
namespace Go.Proofs.Ytjchindjoailbaa
/- THE CELL 'sum', in the pinned program and in every row, IS THE sha256 OF THE DUMP (.gsa) THAT YtjchindjoailbaaProg.lean LOADS. Nothing in Lean hashes anything: it is a label: what it is worth is what the hold of that sum in a sandbox is worth. -/
noncomputable def Try.pinned : Pinned := { name := "ytjchindjoailbaa", sum := "d4be73769b039a3af904f3d7ac9bc64fc583d55eb64e546d7f44fd0f2129da79", checked := Try.checked }
namespace Rows
def none {H : Type} : Left H := { results := [], args := [] }

/-- 'laws.FnKirchhoff': WHATEVER THE INPUT: true; the input reads as it did. -/
def fnKirchhoffSpec : ChangeSpec := { name := "fnKirchhoff", fn := fun _ => fun
  | [d] => { results := [.lit (.bool true)], args := [d] }
  | _ => none }
def fnKirchhoffRow : OpenClaim := { program := "ytjchindjoailbaa", sum := "d4be73769b039a3af904f3d7ac9bc64fc583d55eb64e546d7f44fd0f2129da79", func := "loop.example/g00859/laws.FnKirchhoff", spec := "fnKirchhoff", recurses := true, apart := false }
def FnKirchhoffSaid : Prop := fnKirchhoffRow.holds Try.pinned (OpenSpec.ofChange fnKirchhoffSpec)

/-- ITS FALSE NEIGHBOUR: 'it returns false'. Refute it at one input. -/
def fnKirchhoffWrong : ChangeSpec := { name := "fnKirchhoff", fn := fun _ => fun
  | [d] => { results := [.lit (.bool false)], args := [d] }
  | _ => none }
def FnKirchhoffWrongFalsely : Prop := fnKirchhoffRow.holds Try.pinned (OpenSpec.ofChange fnKirchhoffWrong)

/-- 'laws.FnPower': WHATEVER THE INPUT: true; the input reads as it did. -/
def fnPowerSpec : ChangeSpec := { name := "fnPower", fn := fun _ => fun
  | [d] => { results := [.lit (.bool true)], args := [d] }
  | _ => none }
def fnPowerRow : OpenClaim := { program := "ytjchindjoailbaa", sum := "d4be73769b039a3af904f3d7ac9bc64fc583d55eb64e546d7f44fd0f2129da79", func := "loop.example/g00859/laws.FnPower", spec := "fnPower", recurses := true, apart := false }
def FnPowerSaid : Prop := fnPowerRow.holds Try.pinned (OpenSpec.ofChange fnPowerSpec)

/-- ITS FALSE NEIGHBOUR: 'it returns false'. Refute it at one input. -/
def fnPowerWrong : ChangeSpec := { name := "fnPower", fn := fun _ => fun
  | [d] => { results := [.lit (.bool false)], args := [d] }
  | _ => none }
def FnPowerWrongFalsely : Prop := fnPowerRow.holds Try.pinned (OpenSpec.ofChange fnPowerWrong)

/-- 'laws.FnExactJoin': WHATEVER THE INPUT: true; the input reads as it did. -/
def fnExactJoinSpec : ChangeSpec := { name := "fnExactJoin", fn := fun _ => fun
  | [d1, d2] => { results := [.lit (.bool true)], args := [d1, d2] }
  | _ => none }
def fnExactJoinRow : OpenClaim := { program := "ytjchindjoailbaa", sum := "d4be73769b039a3af904f3d7ac9bc64fc583d55eb64e546d7f44fd0f2129da79", func := "loop.example/g00859/laws.FnExactJoin", spec := "fnExactJoin", inPlace := ["internal/abi.NoEscape", "internal/bytealg.MakeNoZero"], apart := false }
def FnExactJoinSaid : Prop := fnExactJoinRow.holds Try.pinned (OpenSpec.ofChange fnExactJoinSpec)

/-- ITS FALSE NEIGHBOUR: 'it returns false'. Refute it at one input. -/
def fnExactJoinWrong : ChangeSpec := { name := "fnExactJoin", fn := fun _ => fun
  | [d1, d2] => { results := [.lit (.bool false)], args := [d1, d2] }
  | _ => none }
def FnExactJoinWrongFalsely : Prop := fnExactJoinRow.holds Try.pinned (OpenSpec.ofChange fnExactJoinWrong)

/-- 'laws.FnRatios': WHATEVER THE INPUT: true; the input reads as it did. -/
def fnRatiosSpec : ChangeSpec := { name := "fnRatios", fn := fun _ => fun
  | [d] => { results := [.lit (.bool true)], args := [d] }
  | _ => none }
def fnRatiosRow : OpenClaim := { program := "ytjchindjoailbaa", sum := "d4be73769b039a3af904f3d7ac9bc64fc583d55eb64e546d7f44fd0f2129da79", func := "loop.example/g00859/laws.FnRatios", spec := "fnRatios", recurses := true, apart := false }
def FnRatiosSaid : Prop := fnRatiosRow.holds Try.pinned (OpenSpec.ofChange fnRatiosSpec)

/-- ITS FALSE NEIGHBOUR: 'it returns false'. Refute it at one input. -/
def fnRatiosWrong : ChangeSpec := { name := "fnRatios", fn := fun _ => fun
  | [d] => { results := [.lit (.bool false)], args := [d] }
  | _ => none }
def FnRatiosWrongFalsely : Prop := fnRatiosRow.holds Try.pinned (OpenSpec.ofChange fnRatiosWrong)

/-- 'laws.FnWords': WHATEVER THE INPUT: true; the input reads as it did. -/
def fnWordsSpec : ChangeSpec := { name := "fnWords", fn := fun _ => fun
  | [d] => { results := [.lit (.bool true)], args := [d] }
  | _ => none }
def fnWordsRow : OpenClaim := { program := "ytjchindjoailbaa", sum := "d4be73769b039a3af904f3d7ac9bc64fc583d55eb64e546d7f44fd0f2129da79", func := "loop.example/g00859/laws.FnWords", spec := "fnWords", inPlace := ["internal/bytealg.IndexByteString", "internal/abi.NoEscape", "internal/bytealg.MakeNoZero"], recurses := true, apart := false }
def FnWordsSaid : Prop := fnWordsRow.holds Try.pinned (OpenSpec.ofChange fnWordsSpec)

/-- ITS FALSE NEIGHBOUR: 'it returns false'. Refute it at one input. -/
def fnWordsWrong : ChangeSpec := { name := "fnWords", fn := fun _ => fun
  | [d] => { results := [.lit (.bool false)], args := [d] }
  | _ => none }
def FnWordsWrongFalsely : Prop := fnWordsRow.holds Try.pinned (OpenSpec.ofChange fnWordsWrong)

/-- 'laws.FnExactPowerOf': WHATEVER THE INPUT: true; the input reads as it did. -/
def fnExactPowerOfSpec : ChangeSpec := { name := "fnExactPowerOf", fn := fun _ => fun
  | [d1, d2] => { results := [.lit (.bool true)], args := [d1, d2] }
  | _ => none }
def fnExactPowerOfRow : OpenClaim := { program := "ytjchindjoailbaa", sum := "d4be73769b039a3af904f3d7ac9bc64fc583d55eb64e546d7f44fd0f2129da79", func := "loop.example/g00859/laws.FnExactPowerOf", spec := "fnExactPowerOf", apart := false }
def FnExactPowerOfSaid : Prop := fnExactPowerOfRow.holds Try.pinned (OpenSpec.ofChange fnExactPowerOfSpec)

/-- ITS FALSE NEIGHBOUR: 'it returns false'. Refute it at one input. -/
def fnExactPowerOfWrong : ChangeSpec := { name := "fnExactPowerOf", fn := fun _ => fun
  | [d1, d2] => { results := [.lit (.bool false)], args := [d1, d2] }
  | _ => none }
def FnExactPowerOfWrongFalsely : Prop := fnExactPowerOfRow.holds Try.pinned (OpenSpec.ofChange fnExactPowerOfWrong)

/-- 'laws.FnNets': WHATEVER THE INPUT: true; the input reads as it did. -/
def fnNetsSpec : ChangeSpec := { name := "fnNets", fn := fun _ => fun
  | [d] => { results := [.lit (.bool true)], args := [d] }
  | _ => none }
def fnNetsRow : OpenClaim := { program := "ytjchindjoailbaa", sum := "d4be73769b039a3af904f3d7ac9bc64fc583d55eb64e546d7f44fd0f2129da79", func := "loop.example/g00859/laws.FnNets", spec := "fnNets", unfollowed := true, recurses := true, apart := false }
def FnNetsSaid : Prop := fnNetsRow.holds Try.pinned (OpenSpec.ofChange fnNetsSpec)

/-- ITS FALSE NEIGHBOUR: 'it returns false'. Refute it at one input. -/
def fnNetsWrong : ChangeSpec := { name := "fnNets", fn := fun _ => fun
  | [d] => { results := [.lit (.bool false)], args := [d] }
  | _ => none }
def FnNetsWrongFalsely : Prop := fnNetsRow.holds Try.pinned (OpenSpec.ofChange fnNetsWrong)

/-- 'laws.FnResponses': WHATEVER THE INPUT: true; the input reads as it did. -/
def fnResponsesSpec : ChangeSpec := { name := "fnResponses", fn := fun _ => fun
  | [d] => { results := [.lit (.bool true)], args := [d] }
  | _ => none }
def fnResponsesRow : OpenClaim := { program := "ytjchindjoailbaa", sum := "d4be73769b039a3af904f3d7ac9bc64fc583d55eb64e546d7f44fd0f2129da79", func := "loop.example/g00859/laws.FnResponses", spec := "fnResponses", unfollowed := true, recurses := true, apart := false }
def FnResponsesSaid : Prop := fnResponsesRow.holds Try.pinned (OpenSpec.ofChange fnResponsesSpec)

/-- ITS FALSE NEIGHBOUR: 'it returns false'. Refute it at one input. -/
def fnResponsesWrong : ChangeSpec := { name := "fnResponses", fn := fun _ => fun
  | [d] => { results := [.lit (.bool false)], args := [d] }
  | _ => none }
def FnResponsesWrongFalsely : Prop := fnResponsesRow.holds Try.pinned (OpenSpec.ofChange fnResponsesWrong)

/-- 'laws.FnExactAreAlike': WHATEVER THE INPUT: true; the input reads as it did. -/
def fnExactAreAlikeSpec : ChangeSpec := { name := "fnExactAreAlike", fn := fun _ => fun
  | [d1, d2] => { results := [.lit (.bool true)], args := [d1, d2] }
  | _ => none }
def fnExactAreAlikeRow : OpenClaim := { program := "ytjchindjoailbaa", sum := "d4be73769b039a3af904f3d7ac9bc64fc583d55eb64e546d7f44fd0f2129da79", func := "loop.example/g00859/laws.FnExactAreAlike", spec := "fnExactAreAlike", unfollowed := true, recurses := true, apart := false }
def FnExactAreAlikeSaid : Prop := fnExactAreAlikeRow.holds Try.pinned (OpenSpec.ofChange fnExactAreAlikeSpec)

/-- ITS FALSE NEIGHBOUR: 'it returns false'. Refute it at one input. -/
def fnExactAreAlikeWrong : ChangeSpec := { name := "fnExactAreAlike", fn := fun _ => fun
  | [d1, d2] => { results := [.lit (.bool false)], args := [d1, d2] }
  | _ => none }
def FnExactAreAlikeWrongFalsely : Prop := fnExactAreAlikeRow.holds Try.pinned (OpenSpec.ofChange fnExactAreAlikeWrong)

/-- 'laws.FnExactCurrentOn': WHATEVER THE INPUT: true; the input reads as it did. -/
def fnExactCurrentOnSpec : ChangeSpec := { name := "fnExactCurrentOn", fn := fun _ => fun
  | [d1, d2, d3, d4, d5] => { results := [.lit (.bool true)], args := [d1, d2, d3, d4, d5] }
  | _ => none }
def fnExactCurrentOnRow : OpenClaim := { program := "ytjchindjoailbaa", sum := "d4be73769b039a3af904f3d7ac9bc64fc583d55eb64e546d7f44fd0f2129da79", func := "loop.example/g00859/laws.FnExactCurrentOn", spec := "fnExactCurrentOn", recurses := true, apart := false }
def FnExactCurrentOnSaid : Prop := fnExactCurrentOnRow.holds Try.pinned (OpenSpec.ofChange fnExactCurrentOnSpec)

/-- ITS FALSE NEIGHBOUR: 'it returns false'. Refute it at one input. -/
def fnExactCurrentOnWrong : ChangeSpec := { name := "fnExactCurrentOn", fn := fun _ => fun
  | [d1, d2, d3, d4, d5] => { results := [.lit (.bool false)], args := [d1, d2, d3, d4, d5] }
  | _ => none }
def FnExactCurrentOnWrongFalsely : Prop := fnExactCurrentOnRow.holds Try.pinned (OpenSpec.ofChange fnExactCurrentOnWrong)

/-- 'laws.FnExactResponseNet': WHATEVER THE INPUT: true; the input reads as it did. -/
def fnExactResponseNetSpec : ChangeSpec := { name := "fnExactResponseNet", fn := fun _ => fun
  | [d] => { results := [.lit (.bool true)], args := [d] }
  | _ => none }
def fnExactResponseNetRow : OpenClaim := { program := "ytjchindjoailbaa", sum := "d4be73769b039a3af904f3d7ac9bc64fc583d55eb64e546d7f44fd0f2129da79", func := "loop.example/g00859/laws.FnExactResponseNet", spec := "fnExactResponseNet", recurses := true, apart := false }
def FnExactResponseNetSaid : Prop := fnExactResponseNetRow.holds Try.pinned (OpenSpec.ofChange fnExactResponseNetSpec)

/-- ITS FALSE NEIGHBOUR: 'it returns false'. Refute it at one input. -/
def fnExactResponseNetWrong : ChangeSpec := { name := "fnExactResponseNet", fn := fun _ => fun
  | [d] => { results := [.lit (.bool false)], args := [d] }
  | _ => none }
def FnExactResponseNetWrongFalsely : Prop := fnExactResponseNetRow.holds Try.pinned (OpenSpec.ofChange fnExactResponseNetWrong)

/-- 'laws.FnExactPotentialsOf': WHATEVER THE INPUT: true; the input reads as it did. -/
def fnExactPotentialsOfSpec : ChangeSpec := { name := "fnExactPotentialsOf", fn := fun _ => fun
  | [d1, d2, d3] => { results := [.lit (.bool true)], args := [d1, d2, d3] }
  | _ => none }
def fnExactPotentialsOfRow : OpenClaim := { program := "ytjchindjoailbaa", sum := "d4be73769b039a3af904f3d7ac9bc64fc583d55eb64e546d7f44fd0f2129da79", func := "loop.example/g00859/laws.FnExactPotentialsOf", spec := "fnExactPotentialsOf", recurses := true, apart := false }
def FnExactPotentialsOfSaid : Prop := fnExactPotentialsOfRow.holds Try.pinned (OpenSpec.ofChange fnExactPotentialsOfSpec)

/-- ITS FALSE NEIGHBOUR: 'it returns false'. Refute it at one input. -/
def fnExactPotentialsOfWrong : ChangeSpec := { name := "fnExactPotentialsOf", fn := fun _ => fun
  | [d1, d2, d3] => { results := [.lit (.bool false)], args := [d1, d2, d3] }
  | _ => none }
def FnExactPotentialsOfWrongFalsely : Prop := fnExactPotentialsOfRow.holds Try.pinned (OpenSpec.ofChange fnExactPotentialsOfWrong)

/- THE SECOND FORM. 'bulk': how many values and letters a reading holds, each counted each time it is reached (what is shared counts as often as it is met; a slice's spare places count too). A statement '..UptoSaid' is the law's where the arguments, and the package variables that the reading takes, are together of bulk at most 1048576: NARROWER than '..Said'. Prove '..Said' where nothing that the law and all that it calls make is longer than what came in: it says more and counts as full. Else prove '..UptoSaid'. A law counts once. -/
mutual
def uptoBulk {H : Type} : DataW H → Nat
  | .lit (.string bytes) => bytes.length + 1
  | .lit _ => 1
  | .nil => 1
  | .ptr d => uptoBulk d + 1
  | .slice elems spare => uptoBulkAll elems + uptoBulkAll spare + 1
  | .agg parts => uptoBulkAll parts + 1
  | .iface _ d => uptoBulk d + 1
  | .map entries => uptoBulkEntries entries + 1
  | .held _ => 1
def uptoBulkAll {H : Type} : List (DataW H) → Nat
  | [] => 0
  | d :: r => uptoBulk d + uptoBulkAll r
def uptoBulkEntries {H : Type} : List (Lit × DataW H) → Nat
  | [] => 0
  | x :: r => uptoBulkEntry x + uptoBulkEntries r
def uptoBulkEntry {H : Type} : Lit × DataW H → Nat
  | (.string bytes, d) => bytes.length + uptoBulk d + 1
  | (_, d) => uptoBulk d + 1
 end
def uptoSmall : (H : Type) → List (DataW H) → Bool := fun _ ds => decide (uptoBulkAll ds ≤ 1048576)
def OpenSpec.upto (s : _root_.Go.ChangeSpec) : _root_.Go.OpenSpec := { _root_.Go.OpenSpec.ofChange s with cond := some uptoSmall }

/-- 'laws.FnKirchhoff', WHERE WHAT IT READS IS OF BULK AT MOST 1048576: true; the input reads as it did. -/
def fnKirchhoffUptoRow : OpenClaim := { program := "ytjchindjoailbaa", sum := "d4be73769b039a3af904f3d7ac9bc64fc583d55eb64e546d7f44fd0f2129da79", func := "loop.example/g00859/laws.FnKirchhoff", spec := "fnKirchhoff", recurses := true, apart := false, narrowed := true }
def FnKirchhoffUptoSaid : Prop := fnKirchhoffUptoRow.holds Try.pinned (OpenSpec.upto fnKirchhoffSpec)

/-- 'laws.FnPower', WHERE WHAT IT READS IS OF BULK AT MOST 1048576: true; the input reads as it did. -/
def fnPowerUptoRow : OpenClaim := { program := "ytjchindjoailbaa", sum := "d4be73769b039a3af904f3d7ac9bc64fc583d55eb64e546d7f44fd0f2129da79", func := "loop.example/g00859/laws.FnPower", spec := "fnPower", recurses := true, apart := false, narrowed := true }
def FnPowerUptoSaid : Prop := fnPowerUptoRow.holds Try.pinned (OpenSpec.upto fnPowerSpec)

/-- 'laws.FnExactJoin', WHERE WHAT IT READS IS OF BULK AT MOST 1048576: true; the input reads as it did. -/
def fnExactJoinUptoRow : OpenClaim := { program := "ytjchindjoailbaa", sum := "d4be73769b039a3af904f3d7ac9bc64fc583d55eb64e546d7f44fd0f2129da79", func := "loop.example/g00859/laws.FnExactJoin", spec := "fnExactJoin", inPlace := ["internal/abi.NoEscape", "internal/bytealg.MakeNoZero"], apart := false, narrowed := true }
def FnExactJoinUptoSaid : Prop := fnExactJoinUptoRow.holds Try.pinned (OpenSpec.upto fnExactJoinSpec)

/-- 'laws.FnRatios', WHERE WHAT IT READS IS OF BULK AT MOST 1048576: true; the input reads as it did. -/
def fnRatiosUptoRow : OpenClaim := { program := "ytjchindjoailbaa", sum := "d4be73769b039a3af904f3d7ac9bc64fc583d55eb64e546d7f44fd0f2129da79", func := "loop.example/g00859/laws.FnRatios", spec := "fnRatios", recurses := true, apart := false, narrowed := true }
def FnRatiosUptoSaid : Prop := fnRatiosUptoRow.holds Try.pinned (OpenSpec.upto fnRatiosSpec)

/-- 'laws.FnWords', WHERE WHAT IT READS IS OF BULK AT MOST 1048576: true; the input reads as it did. -/
def fnWordsUptoRow : OpenClaim := { program := "ytjchindjoailbaa", sum := "d4be73769b039a3af904f3d7ac9bc64fc583d55eb64e546d7f44fd0f2129da79", func := "loop.example/g00859/laws.FnWords", spec := "fnWords", inPlace := ["internal/bytealg.IndexByteString", "internal/abi.NoEscape", "internal/bytealg.MakeNoZero"], recurses := true, apart := false, narrowed := true }
def FnWordsUptoSaid : Prop := fnWordsUptoRow.holds Try.pinned (OpenSpec.upto fnWordsSpec)

/-- 'laws.FnExactPowerOf', WHERE WHAT IT READS IS OF BULK AT MOST 1048576: true; the input reads as it did. -/
def fnExactPowerOfUptoRow : OpenClaim := { program := "ytjchindjoailbaa", sum := "d4be73769b039a3af904f3d7ac9bc64fc583d55eb64e546d7f44fd0f2129da79", func := "loop.example/g00859/laws.FnExactPowerOf", spec := "fnExactPowerOf", apart := false, narrowed := true }
def FnExactPowerOfUptoSaid : Prop := fnExactPowerOfUptoRow.holds Try.pinned (OpenSpec.upto fnExactPowerOfSpec)

/-- 'laws.FnNets', WHERE WHAT IT READS IS OF BULK AT MOST 1048576: true; the input reads as it did. -/
def fnNetsUptoRow : OpenClaim := { program := "ytjchindjoailbaa", sum := "d4be73769b039a3af904f3d7ac9bc64fc583d55eb64e546d7f44fd0f2129da79", func := "loop.example/g00859/laws.FnNets", spec := "fnNets", unfollowed := true, recurses := true, apart := false, narrowed := true }
def FnNetsUptoSaid : Prop := fnNetsUptoRow.holds Try.pinned (OpenSpec.upto fnNetsSpec)

/-- 'laws.FnResponses', WHERE WHAT IT READS IS OF BULK AT MOST 1048576: true; the input reads as it did. -/
def fnResponsesUptoRow : OpenClaim := { program := "ytjchindjoailbaa", sum := "d4be73769b039a3af904f3d7ac9bc64fc583d55eb64e546d7f44fd0f2129da79", func := "loop.example/g00859/laws.FnResponses", spec := "fnResponses", unfollowed := true, recurses := true, apart := false, narrowed := true }
def FnResponsesUptoSaid : Prop := fnResponsesUptoRow.holds Try.pinned (OpenSpec.upto fnResponsesSpec)

/-- 'laws.FnExactAreAlike', WHERE WHAT IT READS IS OF BULK AT MOST 1048576: true; the input reads as it did. -/
def fnExactAreAlikeUptoRow : OpenClaim := { program := "ytjchindjoailbaa", sum := "d4be73769b039a3af904f3d7ac9bc64fc583d55eb64e546d7f44fd0f2129da79", func := "loop.example/g00859/laws.FnExactAreAlike", spec := "fnExactAreAlike", unfollowed := true, recurses := true, apart := false, narrowed := true }
def FnExactAreAlikeUptoSaid : Prop := fnExactAreAlikeUptoRow.holds Try.pinned (OpenSpec.upto fnExactAreAlikeSpec)

/-- 'laws.FnExactCurrentOn', WHERE WHAT IT READS IS OF BULK AT MOST 1048576: true; the input reads as it did. -/
def fnExactCurrentOnUptoRow : OpenClaim := { program := "ytjchindjoailbaa", sum := "d4be73769b039a3af904f3d7ac9bc64fc583d55eb64e546d7f44fd0f2129da79", func := "loop.example/g00859/laws.FnExactCurrentOn", spec := "fnExactCurrentOn", recurses := true, apart := false, narrowed := true }
def FnExactCurrentOnUptoSaid : Prop := fnExactCurrentOnUptoRow.holds Try.pinned (OpenSpec.upto fnExactCurrentOnSpec)

/-- 'laws.FnExactResponseNet', WHERE WHAT IT READS IS OF BULK AT MOST 1048576: true; the input reads as it did. -/
def fnExactResponseNetUptoRow : OpenClaim := { program := "ytjchindjoailbaa", sum := "d4be73769b039a3af904f3d7ac9bc64fc583d55eb64e546d7f44fd0f2129da79", func := "loop.example/g00859/laws.FnExactResponseNet", spec := "fnExactResponseNet", recurses := true, apart := false, narrowed := true }
def FnExactResponseNetUptoSaid : Prop := fnExactResponseNetUptoRow.holds Try.pinned (OpenSpec.upto fnExactResponseNetSpec)

/-- 'laws.FnExactPotentialsOf', WHERE WHAT IT READS IS OF BULK AT MOST 1048576: true; the input reads as it did. -/
def fnExactPotentialsOfUptoRow : OpenClaim := { program := "ytjchindjoailbaa", sum := "d4be73769b039a3af904f3d7ac9bc64fc583d55eb64e546d7f44fd0f2129da79", func := "loop.example/g00859/laws.FnExactPotentialsOf", spec := "fnExactPotentialsOf", recurses := true, apart := false, narrowed := true }
def FnExactPotentialsOfUptoSaid : Prop := fnExactPotentialsOfUptoRow.holds Try.pinned (OpenSpec.upto fnExactPotentialsOfSpec)

end Rows
end Go.Proofs.Ytjchindjoailbaa
