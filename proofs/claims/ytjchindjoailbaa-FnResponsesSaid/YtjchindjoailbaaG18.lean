/- Networks of a call's own, marked and read again by the laws. -/
import Derived.Test.YtjchindjoailbaaG01
import Derived.Test.YtjchindjoailbaaG17b
import Derived.Test.YtjchindjoailbaaG02
namespace Go.Proofs.Ytjchindjoailbaa
set_option linter.unusedSimpArgs false
set_option linter.unusedVariables false
open Go.RowKit

/-- the marks 1, 2, .. of n wires -/
def marks (n : Nat) : List Wz := (List.range n).map fun (i : Nat) => ((3 * i + 1 : Int), (3 * i + 2 : Int), (3 * i + 3 : Int))
theorem marks_len (n : Nat) : (marks n).length = n := by simp [marks]
theorem marks_get (n i : Nat) (h : i < (marks n).length) : (marks n)[i] = ((3 * i + 1 : Int), (3 * i + 2 : Int), (3 * i + 3 : Int)) := by simp [marks]

set_option maxHeartbeats 2000000 in
theorem markWires (base : Nat) (a : Option Addr) (n c : Nat) (xs : List Value) (w : World) (h : w.ownsRow base 102 3 (.slice a n c) n xs) (hn : n ≤ 1048576) :
    Calls Try.prog 120 #[.slice a n c, .int .i64 1] w fun e w' => e = .returned (.int .i64 (3 * n + 1 : Int)) ∧ w'.ownsRow base 102 3 (.slice a n c) n (wires (marks n)) ∧ w.grownBy w' (Value.slice a n c).ownBlock := by
  have hxl := h.1
  by_cases h0 : n = 0
  · subst h0
    obtain rfl : xs = [] := List.length_eq_zero_iff.1 (by omega)
    have H := Lib.hid h
    clear h
    go_enter Try.func120, Try.ntmps120
    go_wp2_with fail
    go_rounds 1
    go_ret
    exact ⟨by simp, H.out, grown_refl _ _⟩
  · obtain ⟨g, c', e⟩ := own_slice h
    have hg := h.2
    rcases hg with ⟨hg, _⟩ | ⟨g, c2, cur, hg, _⟩
    · cases hg; omega
    cases hg
    have hgl := own_base h _ rfl
    simp only at hgl
    have HX := Lib.hid hxl
    have H0 : Hid (w.ownsRow base 102 3 (.slice (some ⟨g, 0, none⟩) n c) n (wires ((marks n).take 0) ++ xs.drop (0 * 3))) := by simpa [Hid, wires] using h
    have HM := Lib.hid (marks_len n)
    clear h hxl e
    go_enter Try.func120, Try.ntmps120
    go_wp2_with fail
    go_loopw [1, 5] (fun v u wr => ∃ (i : Nat) (q : Int), i ≤ n ∧ u = .int .i64 i ∧ v = .int .i64 q ∧ Hid (q = 3 * i + 1) ∧ Hid (wr.ownsRow base 102 3 (.slice (some ⟨g, 0, none⟩) n c) n (wires ((marks n).take i) ++ xs.drop (i * 3))) ∧ Hid (w.grownBy wr (some g))) (fun _ u _ => n - (intOf u).toNat)
    case atStart => exact ⟨0, 1, by omega, rfl, rfl, rfl, H0.out, grown_refl _ _⟩
    case round =>
      clear H0
      obtain ⟨i, q, hi, rfl, rfl, HQ, H, HB⟩ := hrel
      by_cases hlt : i < n
      · have hli : i < (marks n).length := by rw [HM.out]; exact hlt
        have hq := HQ.out
        have e1 : IntKind.i64.wrap (q + 1) = q + 1 := IntWalk.i64_in _ (by omega)
        have e2 : IntKind.i64.wrap (q + 1 + 1) = q + 1 + 1 := IntWalk.i64_in _ (by omega)
        have e3 : IntKind.i64.wrap (q + 1 + 1 + 1) = q + 1 + 1 + 1 := IntWalk.i64_in _ (by omega)
        have hgs := (own_base H.out _ rfl).2
        simp only at hgs
        obtain ⟨t0, t1, t2, d0, d1, d2, f0, f1, f2, h2⟩ := own_store3 H.out i hlt (.int .i64 q) (.int .i64 (q + 1)) (.int .i64 (q + 1 + 1))
        have H2 : Hid ((((wr.setCell ⟨g, i * 3, none⟩ (.int .i64 q)).setCell ⟨g, i * 3 + 1, none⟩ (.int .i64 (q + 1))).setCell ⟨g, i * 3 + 2, none⟩ (.int .i64 (q + 1 + 1))).ownsRow base 102 3 (.slice (some ⟨g, 0, none⟩) n c) n (wires ((marks n).take (i + 1)) ++ xs.drop ((i + 1) * 3))) := by
          have e := wires_take (marks n) xs i hli (by rw [HX.out, HM.out])
          rw [marks_get n i hli] at e
          simp only at e
          show World.ownsRow _ _ _ _ _ _ _
          rw [← e]
          have : (3 * (i : Int) + 1) = q := hq.symm
          rw [this, show (3 * (i : Int) + 2) = q + 1 from by omega, show (3 * (i : Int) + 3) = q + 1 + 1 from by omega]
          exact h2
        have H3 : Hid (w.grownBy (((wr.setCell ⟨g, i * 3, none⟩ (.int .i64 q)).setCell ⟨g, i * 3 + 1, none⟩ (.int .i64 (q + 1))).setCell ⟨g, i * 3 + 2, none⟩ (.int .i64 (q + 1 + 1))) (some g)) :=
          grown_trans (grown_trans (grown_trans HB.out (grown_set _ ⟨g, i * 3, none⟩ _)) (grown_set _ ⟨g, i * 3 + 1, none⟩ _)) (grown_set _ ⟨g, i * 3 + 2, none⟩ _)
        have HQ2 : Hid (q + 1 + 1 + 1 = 3 * ((i + 1 : Nat) : Int) + 1) := by show _ = _; omega
        clear h2 hq
        go_wp2_with fail
        go_roundw
        case rel => exact ⟨i + 1, q + 1 + 1 + 1, by omega, by go_num, by go_num, HQ2.out, H2.out, H3.out⟩
        case measure => simp [intOf]; omega
      · obtain rfl : i = n := by omega
        have hq := HQ.out
        go_wp2_with fail
        go_ret
        refine ⟨by rw [hq]; rfl, ?_, HB.out⟩
        have := H.out
        rw [List.take_of_length_le (by rw [HM.out]; omega), List.drop_eq_nil_of_le (by rw [HX.out]; omega), List.append_nil] at this
        exact this

set_option maxHeartbeats 2000000 in
theorem heldWires (a : Option Addr) (n c : Nat) (w : World) (h : ArgRow w a n c 3 (wires (marks n))) (hn : n ≤ 1048576) :
    Calls Try.prog 121 #[.slice a n c, .int .i64 1] w fun e w' => e = .returned (.int .i64 (3 * n + 1 : Int)) ∧ Below w.heap.size w w' := by
  by_cases h0 : n = 0
  · subst h0
    clear h
    go_enter Try.func121, Try.ntmps121
    go_wp2_with fail
    go_rounds 1
    go_ret
    exact ⟨by simp, Below.refl _ _⟩
  · obtain ⟨b1, o1, rfl, hb1, _⟩ := h.form (by omega)
    have H := Lib.hid h
    have HM := Lib.hid (marks_len n)
    clear h
    go_enter Try.func121, Try.ntmps121
    go_wp2_with fail
    go_loopw [1, 5] (fun v u wr => ∃ (i : Nat) (q : Int), i ≤ n ∧ u = .int .i64 i ∧ v = .int .i64 q ∧ Hid (q = 3 * i + 1) ∧ wr = w) (fun _ u _ => n - (intOf u).toNat)
    case atStart => exact ⟨0, 1, by omega, rfl, rfl, rfl, rfl⟩
    case round =>
      obtain ⟨i, q, hi, rfl, rfl, HQ, rfl⟩ := hrel
      by_cases hlt : i < n
      · have hli : i < (marks n).length := by rw [HM.out]; exact hlt
        have hq := HQ.out
        have e1 : IntKind.i64.wrap (q + 1) = q + 1 := IntWalk.i64_in _ (by omega)
        have e2 : IntKind.i64.wrap (q + 1 + 1) = q + 1 + 1 := IntWalk.i64_in _ (by omega)
        have e3 : IntKind.i64.wrap (q + 1 + 1 + 1) = q + 1 + 1 + 1 := IntWalk.i64_in _ (by omega)
        obtain ⟨c0, c1, c2⟩ := wire_cells H.out i hli
        rw [marks_get n i hli] at c0 c1 c2
        simp only at c0 c1 c2
        rw [show (3 * (i : Int) + 1) = q from hq.symm] at c0
        rw [show (3 * (i : Int) + 2) = q + 1 from by omega] at c1
        rw [show (3 * (i : Int) + 3) = q + 1 + 1 from by omega] at c2
        have HQ2 : Hid (q + 1 + 1 + 1 = 3 * ((i + 1 : Nat) : Int) + 1) := by show _ = _; omega
        clear hq hli
        go_wp2_with fail
        go_roundw
        case rel => exact ⟨i + 1, q + 1 + 1 + 1, by omega, by go_num, by go_num, HQ2.out, by trivial⟩
        case measure => simp [intOf]; omega
      · obtain rfl : i = n := by omega
        have hq := HQ.out
        go_wp2_with fail
        go_ret
        exact ⟨by rw [hq]; rfl, Below.refl _ _⟩

set_option maxHeartbeats 2000000 in
theorem markNet (N E S : Int) (base : Nat) (a : Option Addr) (n c : Nat) (xs : List Value) (w : World) (h : w.ownsRow base 102 3 (.slice a n c) n xs) (hn : n ≤ 1048576) :
    Calls Try.prog 67 #[netV N E S a n c, .int .i64 1] w fun e w' => e = .returned (.int .i64 (3 * n + 1 : Int)) ∧ w'.ownsRow base 102 3 (.slice a n c) n (wires (marks n)) ∧ w.grownBy w' (Value.slice a n c).ownBlock := by
  have H := Lib.hid h
  clear h
  go_enter Try.func67, Try.ntmps67
  go_wp2_with fail
  refine (markWires base a n c xs _ (H.out.alloc _) hn).mono ?_
  rintro e w1 ⟨rfl, h1, g1⟩
  have H1 := Lib.hid h1
  have G1 := Lib.hid g1
  clear h1 g1
  go_wp2_with fail
  go_ret
  exact ⟨rfl, H1.out, grown_trans (World.grownBy_alloc _ _ _) G1.out⟩

set_option maxHeartbeats 2000000 in
theorem heldNet (N E S : Int) (a : Option Addr) (n c : Nat) (w : World) (h : ArgRow w a n c 3 (wires (marks n))) (hn : n ≤ 1048576) :
    Calls Try.prog 68 #[netV N E S a n c, .int .i64 1] w fun e w' => e = .returned (.int .i64 (3 * n + 1 : Int)) ∧ Below w.heap.size w w' := by
  have H := Lib.hid h
  clear h
  go_enter Try.func68, Try.ntmps68
  go_wp2_with fail
  refine (heldWires a n c _ (H.out.below (by (repeat' (first | (with_reducible exact Below.refl _ _) | (with_reducible assumption) | (with_reducible refine balloc ?_ _) | (with_reducible refine Below.drew ?_) | (with_reducible refine below_drewN ?_ _) | (with_reducible refine bset ?_ ?_ _) | (with_reducible refine bstep ?_ (by assumption)) | go_size)))) hn).mono ?_
  rintro e w1 ⟨rfl, hb1⟩
  go_wp2_with fail
  go_ret
  exact ⟨rfl, bstep (by (repeat' (first | (with_reducible exact Below.refl _ _) | (with_reducible assumption) | (with_reducible refine balloc ?_ _) | (with_reducible refine Below.drew ?_) | (with_reducible refine below_drewN ?_ _) | (with_reducible refine bset ?_ ?_ _) | (with_reducible refine bstep ?_ (by assumption)) | go_size))) hb1⟩
end Go.Proofs.Ytjchindjoailbaa

/- Rows of fractions of a call's own, marked and read again by the laws. -/
namespace Go.Proofs.Ytjchindjoailbaa
set_option linter.unusedSimpArgs false
set_option linter.unusedVariables false
open Go.RowKit

/-- the marks 1, 2, .. of n fractions -/
def markR (n : Nat) : List Rz := (List.range n).map fun (i : Nat) => ((2 * i + 1 : Int), (2 * i + 2 : Int))
theorem markR_len (n : Nat) : (markR n).length = n := by simp [markR]
theorem markR_get (n i : Nat) (h : i < (markR n).length) : (markR n)[i] = ((2 * i + 1 : Int), (2 * i + 2 : Int)) := by simp [markR]

set_option maxHeartbeats 2000000 in
theorem markRats (base : Nat) (a : Option Addr) (n c : Nat) (xs : List Value) (w : World) (h : w.ownsRow base 32 2 (.slice a n c) n xs) (hn : n ≤ 1048576) :
    Calls Try.prog 70 #[.slice a n c, .int .i64 1] w fun e w' => e = .returned (.int .i64 (2 * n + 1 : Int)) ∧ w'.ownsRow base 32 2 (.slice a n c) n (rats (markR n)) ∧ w.grownBy w' (Value.slice a n c).ownBlock := by
  have hxl := h.1
  by_cases h0 : n = 0
  · subst h0
    obtain rfl : xs = [] := List.length_eq_zero_iff.1 (by omega)
    have H := Lib.hid h
    clear h
    go_enter Try.func70, Try.ntmps70
    go_wp2_with fail
    go_rounds 1
    go_ret
    exact ⟨by simp, H.out, grown_refl _ _⟩
  · obtain ⟨g, c', e⟩ := own_slice h
    have hg := h.2
    rcases hg with ⟨hg, _⟩ | ⟨g, c2, cur, hg, _⟩
    · cases hg; omega
    cases hg
    have hgl := own_base h _ rfl
    simp only at hgl
    have HX := Lib.hid hxl
    have H0 : Hid (w.ownsRow base 32 2 (.slice (some ⟨g, 0, none⟩) n c) n (rats ((markR n).take 0) ++ xs.drop (0 * 2))) := by simpa [Hid, rats] using h
    have HM := Lib.hid (markR_len n)
    clear h hxl e
    go_enter Try.func70, Try.ntmps70
    go_wp2_with fail
    go_loopw [1, 5] (fun v u wr => ∃ (i : Nat) (q : Int), i ≤ n ∧ u = .int .i64 i ∧ v = .int .i64 q ∧ Hid (q = 2 * i + 1) ∧ Hid (wr.ownsRow base 32 2 (.slice (some ⟨g, 0, none⟩) n c) n (rats ((markR n).take i) ++ xs.drop (i * 2))) ∧ Hid (w.grownBy wr (some g))) (fun _ u _ => n - (intOf u).toNat)
    case atStart => exact ⟨0, 1, by omega, rfl, rfl, rfl, H0.out, grown_refl _ _⟩
    case round =>
      clear H0
      obtain ⟨i, q, hi, rfl, rfl, HQ, H, HB⟩ := hrel
      by_cases hlt : i < n
      · have hli : i < (markR n).length := by rw [HM.out]; exact hlt
        have hq := HQ.out
        have e1 : IntKind.i64.wrap (q + 1) = q + 1 := IntWalk.i64_in _ (by omega)
        have e2 : IntKind.i64.wrap (q + 1 + 1) = q + 1 + 1 := IntWalk.i64_in _ (by omega)
        have hgs := (own_base H.out _ rfl).2
        simp only at hgs
        obtain ⟨t0, t1, d0, d1, f0, f1, h2⟩ := own_store2 H.out i hlt (.int .i64 q) (.int .i64 (q + 1))
        have H2 : Hid (((wr.setCell ⟨g, i * 2, none⟩ (.int .i64 q)).setCell ⟨g, i * 2 + 1, none⟩ (.int .i64 (q + 1))).ownsRow base 32 2 (.slice (some ⟨g, 0, none⟩) n c) n (rats ((markR n).take (i + 1)) ++ xs.drop ((i + 1) * 2))) := by
          have e := rats_take (markR n) xs i hli (by rw [HX.out, HM.out])
          rw [markR_get n i hli] at e
          simp only at e
          show World.ownsRow _ _ _ _ _ _ _
          rw [← e]
          have : (2 * (i : Int) + 1) = q := hq.symm
          rw [this, show (2 * (i : Int) + 2) = q + 1 from by omega]
          exact h2
        have H3 : Hid (w.grownBy ((wr.setCell ⟨g, i * 2, none⟩ (.int .i64 q)).setCell ⟨g, i * 2 + 1, none⟩ (.int .i64 (q + 1))) (some g)) :=
          grown_trans (grown_trans HB.out (grown_set _ ⟨g, i * 2, none⟩ _)) (grown_set _ ⟨g, i * 2 + 1, none⟩ _)
        have HQ2 : Hid (q + 1 + 1 = 2 * ((i + 1 : Nat) : Int) + 1) := by show _ = _; omega
        clear h2 hq
        go_wp2_with fail
        go_roundw
        case rel => exact ⟨i + 1, q + 1 + 1, by omega, by go_num, by go_num, HQ2.out, H2.out, H3.out⟩
        case measure => simp [intOf]; omega
      · obtain rfl : i = n := by omega
        have hq := HQ.out
        go_wp2_with fail
        go_ret
        refine ⟨by rw [hq]; rfl, ?_, HB.out⟩
        have := H.out
        rw [List.take_of_length_le (by rw [HM.out]; omega), List.drop_eq_nil_of_le (by rw [HX.out]; omega), List.append_nil] at this
        exact this

set_option maxHeartbeats 2000000 in
theorem heldRats (a : Option Addr) (n c : Nat) (w : World) (h : ArgRow w a n c 2 (rats (markR n))) (hn : n ≤ 1048576) :
    Calls Try.prog 71 #[.slice a n c, .int .i64 1] w fun e w' => e = .returned (.int .i64 (2 * n + 1 : Int)) ∧ w = w' := by
  by_cases h0 : n = 0
  · subst h0
    clear h
    go_enter Try.func71, Try.ntmps71
    go_wp2_with fail
    go_rounds 1
    go_ret
    exact ⟨by simp, rfl⟩
  · obtain ⟨b1, o1, rfl, hb1, _⟩ := h.form (by omega)
    have H := Lib.hid h
    have HM := Lib.hid (markR_len n)
    clear h
    go_enter Try.func71, Try.ntmps71
    go_wp2_with fail
    go_loopw [1, 5] (fun v u wr => ∃ (i : Nat) (q : Int), i ≤ n ∧ u = .int .i64 i ∧ v = .int .i64 q ∧ Hid (q = 2 * i + 1) ∧ wr = w) (fun _ u _ => n - (intOf u).toNat)
    case atStart => exact ⟨0, 1, by omega, rfl, rfl, rfl, rfl⟩
    case round =>
      obtain ⟨i, q, hi, rfl, rfl, HQ, rfl⟩ := hrel
      by_cases hlt : i < n
      · have hli : i < (markR n).length := by rw [HM.out]; exact hlt
        have hq := HQ.out
        have e1 : IntKind.i64.wrap (q + 1) = q + 1 := IntWalk.i64_in _ (by omega)
        have e2 : IntKind.i64.wrap (q + 1 + 1) = q + 1 + 1 := IntWalk.i64_in _ (by omega)
        obtain ⟨c0, c1⟩ := rat_cells H.out i hli
        rw [markR_get n i hli] at c0 c1
        simp only at c0 c1
        rw [show (2 * (i : Int) + 1) = q from hq.symm] at c0
        rw [show (2 * (i : Int) + 2) = q + 1 from by omega] at c1
        have HQ2 : Hid (q + 1 + 1 = 2 * ((i + 1 : Nat) : Int) + 1) := by show _ = _; omega
        clear hq hli
        go_wp2_with fail
        go_roundw
        case rel => exact ⟨i + 1, q + 1 + 1, by omega, by go_num, by go_num, HQ2.out, by trivial⟩
        case measure => simp [intOf]; omega
      · obtain rfl : i = n := by omega
        have hq := HQ.out
        go_wp2_with fail
        go_ret
        exact ⟨by rw [hq]; rfl, rfl⟩
end Go.Proofs.Ytjchindjoailbaa
