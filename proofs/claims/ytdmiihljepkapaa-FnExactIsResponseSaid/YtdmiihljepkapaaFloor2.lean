/- RatioFloor and RatioCeil of the program and of the reference round alike. -/
import Derived.Test.YtdmiihljepkapaaFloor
namespace Go.Proofs.Ytdmiihljepkapaa
set_option linter.unusedSimpArgs false
set_option linter.unusedVariables false
open Go.RowKit

theorem okZ_bd {n d : Int} (h : okZ n d) : 0 < d ∧ d ≤ 1000000000000000 ∧ -1000000000000000000 ≤ n ∧ n ≤ 1000000000000000000 := by unfold okZ at h; omega



end Go.Proofs.Ytdmiihljepkapaa