/- Rows of numbers in the laws: copied, compared. -/
import Derived.Test.YtdmiihljepkapaaDet
import Derived.Test.YtdmiihljepkapaaLawWeight
namespace Go.Proofs.Ytdmiihljepkapaa
set_option linter.unusedSimpArgs false
set_option linter.unusedVariables false
open Go.RowKit

theorem ints_take (l : List Int) (zs : List Value) (i : Nat) (h : i < l.length) (hz : zs.length = l.length) :
    (ints (l.take i) ++ zs.drop i).set i (.int .i64 l[i]) = ints (l.take (i + 1)) ++ zs.drop (i + 1) := by
  have hl : (ints (l.take i)).length = i := by rw [ints_len, List.length_take]; omega
  rw [List.set_append_right _ _ (by omega), hl, Nat.sub_self, List.drop_eq_getElem_cons (by omega), List.set_cons_zero, List.take_succ_eq_append_getElem h, ints_append, List.append_assoc]
  rfl

set_option maxHeartbeats 2000000 in
theorem toInts (a : Option Addr) (n c : Nat) (l : List Int) (w : World) (hr : ArgRow w a n c 1 (ints l)) (hn : n ≤ 1048576) :
    Calls Try.prog 58 #[.slice a n c] w fun e w' => ∃ g, e = .returned (.slice (some ⟨g, 0, none⟩) n n) ∧ w'.ownsRow w.heap.size 3 1 (.slice (some ⟨g, 0, none⟩) n n) n (ints l) ∧ Below w.heap.size w w' := by
  have hl := hr.ints_len
  have hmk := run_make_rows (P := Try.prog) 60 3 (.int .i64 0) 1 8 Try.underlying60 (by kernel_rfl) .i64 .i64 n (by omega) (by omega)
  have HZ : Hid ((w.alloc (.cells (madeCells #[Value.int .i64 0] (n * 1)) 3)).ownsRow w.heap.size 3 1 (.slice (some ⟨w.heap.size, 0, none⟩) n n) n (madeCells #[Value.int .i64 0] (n * 1)).toList) :=
    World.ownsRow_lit w _ n (Nat.le_refl _) (by unfold maxLen; omega) (size_madeCells _ _)
  have hzl : (madeCells #[Value.int .i64 0] (n * 1)).toList.length = l.length := by rw [Array.length_toList, size_madeCells]; omega
  obtain ⟨zs, hzs⟩ : ∃ zs, madeCells #[Value.int .i64 0] (n * 1) = zs := ⟨_, rfl⟩
  have hmk' : ∀ (w : World), Sem.run Try.prog (Instr.makeSlice 60 (Value.int IntKind.i64 ↑n) (Value.int IntKind.i64 ↑n)) w = Result.ok (Value.slice (some { block := w.heap.size, off := 0 }) n n) (w.alloc (Obj.cells zs 3)) := by
    intro w; rw [← hzs]; exact hmk w
  rw [hzs] at HZ hzl
  clear hmk hzs
  have HR := Lib.hid hr
  have HL := Lib.hid hl
  have HZL := Lib.hid hzl
  clear hr hl hzl
  go_enter Try.func58, Try.ntmps58
  go_wp2_with fail
  go_loopw [4] (fun u wr => ∃ i : Nat, i ≤ n ∧ u = .int .i64 i ∧ Hid (wr.ownsRow w.heap.size 3 1 (.slice (some ⟨w.heap.size, 0, none⟩) n n) n (ints (l.take i) ++ zs.toList.drop i)) ∧ Hid (Below w.heap.size w wr)) (fun u _ => n - (intOf u).toNat)
  case atStart => exact ⟨0, by omega, rfl, by simpa [Hid, ints] using HZ.out, balloc (Below.refl _ _) _⟩
  case round =>
    obtain ⟨i, hi, rfl, H, HB⟩ := hrel
    by_cases hlt : i < n
    · have hli : i < l.length := by rw [HL.out]; exact hlt
      obtain ⟨b, o, rfl, hb, hcell⟩ := HR.out.form (by omega)
      have hbl : b < wr.heap.size := Nat.lt_of_lt_of_le hb HB.out.size
      have hgl : w.heap.size < wr.heap.size := (own_base H.out _ rfl).2
      have c0 := int_cell HR.out i hli
      rw [← HB.out.cell (p := ⟨b, _, none⟩) hb] at c0
      have hst := H.out.stored i (.int .i64 l[i])
      rw [ints_take l zs.toList i hli HZL.out] at hst
      have e0 := H.out.cellAt i (by omega)
      have f0 := H.out.frozenAt i
      obtain ⟨t0, ht0⟩ : ∃ t0, wr.cell? ⟨w.heap.size, i, none⟩ = some t0 := ⟨_, e0.trans (List.getElem?_eq_getElem (by rw [H.out.1]; omega))⟩
      generalize l[i] = x at c0 hst
      have H2 := Lib.hid hst.1
      have H3 : Hid (Below w.heap.size w (wr.setCell ⟨w.heap.size, i, none⟩ (.int .i64 x))) := HB.out.setCell (Nat.le_refl _) _
      clear hcell hst e0
      go_wp2_with fail
      go_roundw
      case rel => exact ⟨i + 1, by omega, by go_num, H2.out, H3.out⟩
      case measure => simp [intOf]; omega
    · obtain rfl : i = n := by omega
      go_wp2_with fail
      go_ret
      refine ⟨_, rfl, ?_, HB.out⟩
      have := H.out
      rw [List.take_of_length_le (by rw [HL.out]; omega), List.drop_eq_nil_of_le (by rw [HZL.out, HL.out]; omega), List.append_nil] at this
      exact this

set_option maxHeartbeats 2000000 in
theorem eqInts (a1 a2 : Option Addr) (n c1 c2 : Nat) (l : List Int) (w : World) (r1 : ArgRow w a1 n c1 1 (ints l)) (r2 : ArgRow w a2 n c2 1 (ints l)) :
    Calls Try.prog 61 #[.slice a1 n c1, .slice a2 n c2] w fun e w' => e = .returned (.bool true) ∧ Below w.heap.size w w' := by
  have hl := r1.ints_len
  have hn := r1.le
  unfold maxLen at hn
  by_cases h0 : n = 0
  · subst h0
    clear r1 r2
    go_enter Try.func61, Try.ntmps61
    go_wp2_with fail
    go_rounds 1
    go_ret
    exact ⟨rfl, Below.refl _ _⟩
  · obtain ⟨b1, o1, rfl, hb1, _⟩ := r1.form (by omega)
    obtain ⟨b2, o2, rfl, hb2, _⟩ := r2.form (by omega)
    have R1 := Lib.hid r1
    have R2 := Lib.hid r2
    have HL := Lib.hid hl
    clear r1 r2 hl
    go_enter Try.func61, Try.ntmps61
    go_wp2_with fail
    go_loopw [5] (fun v wr => ∃ k : Nat, k ≤ n ∧ v = .int .i64 k ∧ ∃ m, wr = w.drewN m) (fun v _ => n - (intOf v).toNat)
    case atStart => exact ⟨0, by omega, rfl, 0, rfl⟩
    case round =>
      obtain ⟨k, hk, rfl, m, rfl⟩ := hrel
      by_cases hlt : k < n
      · have hli : k < l.length := by rw [HL.out]; exact hlt
        have p0 := int_cell R1.out k hli
        have q0 := int_cell R2.out k hli
        generalize l[k] = x at p0 q0
        clear hli
        go_wp2_with fail
        go_quiet (fail)
        go_wp2_with fail
        go_roundw
        case rel => exact ⟨k + 1, by omega, by go_num, _, rfl⟩
        case measure => simp [intOf]; omega
      · go_wp2_with fail
        go_ret
        exact ⟨rfl, below_drewN (Below.refl _ _) _⟩
end Go.Proofs.Ytdmiihljepkapaa
