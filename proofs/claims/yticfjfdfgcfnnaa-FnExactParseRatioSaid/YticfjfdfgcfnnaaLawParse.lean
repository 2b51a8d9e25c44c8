/- ParseRatio: the law's walk. -/
import Derived.Test.YticfjfdfgcfnnaaParseRatio2
namespace Go.Proofs.Yticfjfdfgcfnnaa
set_option linter.unusedSimpArgs false
set_option linter.unusedVariables false
open Go.RowKit

set_option maxHeartbeats 1000000 in
theorem walk_FnExactParseRatio (s : ByteArray) (w : World) (hs : s.size ≤ maxLen) :
    Calls Try.prog 26 #[.string s] w fun e w' => e = .returned (.bool true) ∧ Below w.heap.size w w' := by
  have hs' : s.size ≤ 9223372036854775807 := by unfold maxLen at hs; omega
  by_cases hb : 1048576 < s.size
  · go_enter Try.func26, Try.ntmps26
    go_wp2_with fail
    go_ret
    exact ⟨rfl, Below.refl _ _⟩
  obtain ⟨n, d, ok, hP⟩ := parsedR_ex s
  have K1 := Lib.hid (fun w => specParseRatio s w (by omega) n d ok hP)
  have K2 := Lib.hid (fun w => implParseRatio s w (by omega) n d ok hP)
  clear hP
  go_enter Try.func26, Try.ntmps26
  go_wp2_with fail
  refine (K1.out _).mono ?_
  rintro e w1 ⟨rfl, hb1⟩
  go_wp2_with fail
  refine (K2.out _).mono ?_
  rintro e w2 ⟨rfl, hb2⟩
  have zq2_0 := blt hb2 (b := w1.heap.size) (by (first | omega | (simp only [World.size_alloc, World.size_setCell, World.size_drew, World.heap_drewN]; omega)))
  obtain ⟨uq2_0, vq2_0, zz2_0⟩ := zq2_0
  go_wp2_with fail
  have ne1 : ¬ w1.heap.size = w2.heap.size := by omega
  have ne2 : ¬ w2.heap.size = w1.heap.size := by omega
  refine (eqRatio n d _).mono ?_
  rintro e w3 ⟨rfl, hb3⟩
  go_wp2_with fail
  go_ret
  exact ⟨rfl, by (repeat' (first | (with_reducible exact Below.refl _ _) | (with_reducible assumption) | (with_reducible refine balloc ?_ _) | (with_reducible refine Below.drew ?_) | (with_reducible refine below_drewN ?_ _) | (with_reducible refine bset ?_ ?_ _) | (with_reducible refine bstep ?_ (by assumption)) | go_size))⟩

end Go.Proofs.Yticfjfdfgcfnnaa
