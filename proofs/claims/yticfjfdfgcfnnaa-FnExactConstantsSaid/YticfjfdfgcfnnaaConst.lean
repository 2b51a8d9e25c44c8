/- Every exported constant has the value that the document gives. -/
import Derived.Test.YticfjfdfgcfnnaaBase
namespace Go.Proofs.Yticfjfdfgcfnnaa
open Go.RowKit

set_option maxHeartbeats 400000 in
theorem walk_FnExactConstants (w : World) :
    Calls Try.prog 3 #[] w fun e w' => e = .returned (.bool true) ∧ Below w.heap.size w w' := by
  go_enter Try.func3, Try.ntmps3
  go_wp2_with fail
  go_ret
  exact ⟨rfl, Below.refl _ _⟩

end Go.Proofs.Yticfjfdfgcfnnaa
