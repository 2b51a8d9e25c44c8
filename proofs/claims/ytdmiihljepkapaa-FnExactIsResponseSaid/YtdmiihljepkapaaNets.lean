/- Networks compared. -/
import Derived.Test.YtdmiihljepkapaaWires
namespace Go.Proofs.Ytdmiihljepkapaa
set_option linter.unusedSimpArgs false
set_option linter.unusedVariables false
open Go.RowKit

set_option maxHeartbeats 1000000 in
theorem eqWire (p q r : Int) (w : World) :
    Calls Try.prog 169 #[.agg #[.int .i64 p, .int .i64 q, .int .i64 r], .agg #[.int .i64 p, .int .i64 q, .int .i64 r]] w fun e w' => e = .returned (.bool true) ∧ Below w.heap.size w w' := by
  go_enter Try.func169, Try.ntmps169
  go_wp2_with fail
  go_ret
  exact ⟨rfl, by (repeat' (first | (with_reducible exact Below.refl _ _) | (with_reducible assumption) | (with_reducible refine balloc ?_ _) | (with_reducible refine Below.drew ?_) | (with_reducible refine below_drewN ?_ _) | (with_reducible refine bset ?_ ?_ _) | (with_reducible refine bstep ?_ (by assumption)) | go_size))⟩

set_option maxHeartbeats 2000000 in
theorem eqWires (a1 a2 : Option Addr) (n c1 c2 : Nat) (l : List Wz) (w : World) (r1 : ArgRow w a1 n c1 3 (wires l)) (r2 : ArgRow w a2 n c2 3 (wires l)) (hl : l.length = n) :
    Calls Try.prog 118 #[.slice a1 n c1, .slice a2 n c2] w fun e w' => e = .returned (.bool true) ∧ Below w.heap.size w w' := by
  have hn := r1.le
  unfold maxLen at hn
  by_cases h0 : n = 0
  · subst h0
    clear r1 r2
    go_enter Try.func118, Try.ntmps118
    go_wp2_with fail
    go_rounds 1
    go_ret
    exact ⟨rfl, Below.refl _ _⟩
  · obtain ⟨b1, o1, rfl, hb1, _⟩ := r1.form (by omega)
    obtain ⟨b2, o2, rfl, hb2, _⟩ := r2.form (by omega)
    have R1 := Lib.hid r1
    have R2 := Lib.hid r2
    have HL := Lib.hid hl
    clear r1 r2 hl
    go_enter Try.func118, Try.ntmps118
    go_wp2_with fail
    go_loopw [5] (fun v wr => ∃ k : Nat, k ≤ n ∧ v = .int .i64 k ∧ Hid (Below w.heap.size w wr)) (fun v _ => n - (intOf v).toNat)
    case atStart => exact ⟨0, by omega, rfl, Below.refl _ _⟩
    case round =>
      obtain ⟨k, hk, rfl, HB⟩ := hrel
      by_cases hlt : k < n
      · have hli : k < l.length := by rw [HL.out]; exact hlt
        obtain ⟨p0, p1, p2⟩ := wire_cells R1.out k hli
        obtain ⟨q0, q1, q2⟩ := wire_cells R2.out k hli
        rw [← HB.out.cell (p := ⟨b1, _, none⟩) hb1] at p0 p1 p2
        rw [← HB.out.cell (p := ⟨b2, _, none⟩) hb2] at q0 q1 q2
        generalize l[k] = x at p0 p1 p2 q0 q1 q2
        obtain ⟨x0, x1, x2⟩ := x
        clear hli
        go_wp2_with fail
        go_region_with (go_at_call 169; ((with_reducible refine (eqWire _ _ _ _).mono ?_); rintro e w2 ⟨rfl, hb3⟩))
        all_goals
          have HB3 : Hid (Below w.heap.size w w2) := bstep (by first | exact HB.out | exact below_drewN HB.out _ | exact HB.out.drew) hb3
          clear hb3
          go_wp2_with fail
          go_roundw
          case rel => exact ⟨k + 1, by omega, by go_num, by first | exact HB3.out | exact below_drewN HB3.out _ | exact HB3.out.drew⟩
          case measure => simp [intOf]; omega
      · go_wp2_with fail
        go_ret
        exact ⟨rfl, HB.out⟩
end Go.Proofs.Ytdmiihljepkapaa
