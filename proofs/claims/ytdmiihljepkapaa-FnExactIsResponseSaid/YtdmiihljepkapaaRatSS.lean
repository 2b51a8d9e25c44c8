/- Rows of rows of fractions in the laws: copied, compared, weighed. -/
import Derived.Test.YtdmiihljepkapaaRatS
import Derived.Test.YtdmiihljepkapaaIntSS
namespace Go.Proofs.Ytdmiihljepkapaa
set_option linter.unusedSimpArgs false
set_option linter.unusedVariables false
open Go.RowKit

abbrev RGrid := Grid ratC 2

set_option maxHeartbeats 2000000 in
theorem eqRatSS (a1 a2 : Option Addr) (n c1 c2 : Nat) (M : List (List Rz)) (w : World) (r1 : RGrid w a1 n c1 M) (r2 : RGrid w a2 n c2 M) :
    Calls Try.prog 52 #[.slice a1 n c1, .slice a2 n c2] w fun e w' => e = .returned (.bool true) ∧ Below w.heap.size w w' := by
  have hl := r1.len
  have hn := r1.le
  unfold maxLen at hn
  have R1 := Lib.hid r1
  have R2 := Lib.hid r2
  have HL := Lib.hid hl
  clear r1 r2 hl
  go_enter Try.func52, Try.ntmps52
  go_wp2_with fail
  go_loopw [5] (fun v wr => ∃ k : Nat, k ≤ n ∧ v = .int .i64 k ∧ Hid (Below w.heap.size w wr)) (fun v _ => n - (intOf v).toNat)
  case atStart => exact ⟨0, by omega, rfl, Below.refl _ _⟩
  case round =>
    obtain ⟨k, hk, rfl, HB⟩ := hrel
    by_cases hlt : k < n
    · have G1 := R1.out.below HB.out
      have G2 := R2.out.below HB.out
      obtain ⟨b1, o1, rfl, _⟩ := G1.form (by omega)
      obtain ⟨b2, o2, rfl, _⟩ := G2.form (by omega)
      have hli : k < M.length := by rw [HL.out]; exact hlt
      obtain ⟨d1, e1, p1, q1⟩ := G1.row k hli
      obtain ⟨d2, e2, p2, q2⟩ := G2.row k hli
      have KE := Lib.hid (fun (w' : World) (hb : Below wr.heap.size wr w') => eqRats d1 d2 M[k].length e1 e2 M[k] w' (ArgRow.below q1 hb) (ArgRow.below q2 hb))
      have hrl := ArgRow.le q1
      unfold maxLen at hrl
      generalize M[k].length = m at p1 p2 KE hrl
      clear G1 G2 q1 q2 hli
      go_wp2_with fail
      go_region_with (go_at_call 90; ((with_reducible refine (KE.out _ (by (repeat' (first | (with_reducible exact Below.refl _ _) | (with_reducible assumption) | (with_reducible refine balloc ?_ _) | (with_reducible refine Below.drew ?_) | (with_reducible refine below_drewN ?_ _) | (with_reducible refine bset ?_ ?_ _) | (with_reducible refine bstep ?_ (by assumption)) | go_size)))).mono ?_); rintro e w2 ⟨rfl, hb2⟩); (try (replace hb2 := bdrew hb2)))
      all_goals
        go_wp2_with fail
        go_roundw
        case rel => exact ⟨k + 1, by omega, by go_num, bstep HB.out hb2⟩
        case measure => simp [intOf]; omega
    · go_wp2_with fail
      go_ret
      exact ⟨rfl, HB.out⟩

set_option maxHeartbeats 4000000 in
theorem toRatSS (a : Option Addr) (n c : Nat) (M : List (List Rz)) (w : World) (hM : RGrid w a n c M) (hn : n ≤ 1048576) (hrn : ∀ r ∈ M, r.length ≤ 1048576) :
    Calls Try.prog 50 #[.slice a n c] w fun e w' => ∃ g, e = .returned (.slice (some ⟨g, 0, none⟩) n n) ∧ RGrid w' (some ⟨g, 0, none⟩) n n M ∧ Below w.heap.size w w' := by
  have hl := hM.len
  have hmk := run_make_row' (P := Try.prog) 54 28 (.slice none 0 0) 24 Try.underlying54 (by kernel_rfl) rfl .i64 .i64 n (by omega) (by omega)
  have HZ : Hid ((w.alloc (.cells (madeCells #[Value.slice none 0 0] n) 28)).ownsRow w.heap.size 28 1 (.slice (some ⟨w.heap.size, 0, none⟩) n n) n (madeCells #[Value.slice none 0 0] n).toList) :=
    World.ownsRow_lit w _ n (Nat.le_refl _) (by unfold maxLen; omega) (by first | (rw [size_madeCells]; done) | (rw [size_madeCells]; simp) | simp)
  have hzl : (madeCells #[Value.slice none 0 0] n).toList.length = n := by first | (rw [Array.length_toList, size_madeCells]; done) | (rw [Array.length_toList, size_madeCells]; simp)
  obtain ⟨zs, hzs⟩ : ∃ zs, madeCells #[Value.slice none 0 0] n = zs := ⟨_, rfl⟩
  simp only [hzs] at hmk HZ hzl
  clear hzs
  have HM := Lib.hid hM
  have HL := Lib.hid hl
  have HRN := Lib.hid hrn
  have HZL := Lib.hid hzl
  clear hM hl hrn hzl
  go_enter Try.func50, Try.ntmps50
  go_wp2_with fail
  go_loopw [4] (fun u wr => ∃ (i : Nat) (rs : List (Option Addr × Nat × List Rz)), i ≤ n ∧ u = .int .i64 i ∧ Hid (rs.length = i) ∧ Hid (rs.map (fun x => x.2.2) = M.take i) ∧ Hid (wr.ownsRow w.heap.size 28 1 (.slice (some ⟨w.heap.size, 0, none⟩) n n) n (rs.map slV ++ zs.toList.drop i)) ∧ Hid (∀ x ∈ rs, ∃ b, x.1 = some ⟨b, 0, none⟩ ∧ w.heap.size < b ∧ ArgRow wr (some ⟨b, 0, none⟩) x.2.2.length x.2.1 2 (rats x.2.2)) ∧ Hid (Below w.heap.size w wr)) (fun u _ => n - (intOf u).toNat)
  case atStart => exact ⟨0, [], by omega, rfl, rfl, rfl, by simpa [Hid] using HZ.out, fun x hx => by simp at hx, balloc (Below.refl _ _) _⟩
  case round =>
    obtain ⟨i, rs, hi, rfl, HI, HE, H, HW, HB⟩ := hrel
    by_cases hlt : i < n
    · have G1 := HM.out.below HB.out
      obtain ⟨b1, o1, rfl, _⟩ := G1.form (by omega)
      have hli : i < M.length := by rw [HL.out]; exact hlt
      obtain ⟨d1, e1, p1, q1⟩ := G1.row i hli
      have hrl := HRN.out M[i] (List.getElem_mem _)
      have KE := Lib.hid (toRats d1 M[i].length e1 M[i] wr q1 hrl)
      have HTK : Hid (M.take (i + 1) = M.take i ++ [M[i]]) := List.take_succ_eq_append_getElem hli
      have hgl := (own_base H.out _ rfl).2
      simp only at hgl
      generalize M[i] = r at p1 KE HTK hrl
      clear G1 q1 hli
      go_wp2_with fail
      refine KE.out.mono ?_
      rintro e w2 ⟨g2, rfl, o2, hb2⟩
      have hg2 := (own_base o2 _ rfl)
      simp only at hg2
      have H2 := own_below H.out hb2
      have hst := H2.stored i (.slice (some ⟨g2, 0, none⟩) r.length r.length)
      obtain ⟨old, hold⟩ : ∃ old, w2.cell? ⟨w.heap.size, i, none⟩ = some old := ⟨_, (H2.cellAt i (by omega)).trans (List.getElem?_eq_getElem (by have := H2.1; omega))⟩
      have hfr := H2.frozenAt i
      have hwl : w.heap.size < w2.heap.size := by have := hb2.size; omega
      have H3 : Hid ((w2.setCell ⟨w.heap.size, i, none⟩ (.slice (some ⟨g2, 0, none⟩) r.length r.length)).ownsRow w.heap.size 28 1 (.slice (some ⟨w.heap.size, 0, none⟩) n n) n ((rs ++ [((some ⟨g2, 0, none⟩, r.length, r) : Option Addr × Nat × List Rz)]).map slV ++ zs.toList.drop (i + 1))) := by
        have e : (rs.map slV ++ zs.toList.drop i).set i (.slice (some ⟨g2, 0, none⟩) r.length r.length) = (rs ++ [((some ⟨g2, 0, none⟩, r.length, r) : Option Addr × Nat × List Rz)]).map slV ++ zs.toList.drop (i + 1) := by
          rw [List.set_append_right _ _ (by rw [List.length_map, HI.out]; omega), List.length_map, HI.out, Nat.sub_self, List.drop_eq_getElem_cons (by rw [HZL.out]; exact hlt), List.set_cons_zero, List.map_append, List.append_assoc]
          rfl
        show World.ownsRow _ _ _ _ _ _ _
        rw [← e]; exact hst.1
      have HW3 : Hid (∀ x ∈ rs ++ [((some ⟨g2, 0, none⟩, r.length, r) : Option Addr × Nat × List Rz)], ∃ b, x.1 = some ⟨b, 0, none⟩ ∧ w.heap.size < b ∧ ArgRow (w2.setCell ⟨w.heap.size, i, none⟩ (.slice (some ⟨g2, 0, none⟩) r.length r.length)) (some ⟨b, 0, none⟩) x.2.2.length x.2.1 2 (rats x.2.2)) := by
        intro x hx
        rcases List.mem_append.1 hx with hx | hx
        · obtain ⟨b, f1, f2, f3⟩ := HW.out x hx
          exact ⟨b, f1, f2, (f3.below hb2).setOther (by show w.heap.size ≠ b; omega) _⟩
        · simp at hx; subst hx
          exact ⟨g2, rfl, by omega, (ArgRow.own o2).setOther (by show w.heap.size ≠ g2; omega) _⟩
      have HE3 : Hid ((rs ++ [((some ⟨g2, 0, none⟩, r.length, r) : Option Addr × Nat × List Rz)]).map (fun x => x.2.2) = M.take (i + 1)) := by
        show _ = _; rw [List.map_append, HE.out, HTK.out]; rfl
      have HI3 : Hid ((rs ++ [((some ⟨g2, 0, none⟩, r.length, r) : Option Addr × Nat × List Rz)]).length = i + 1) := by show _ = _; rw [List.length_append, HI.out]; rfl
      have HB3 : Hid (Below w.heap.size w (w2.setCell ⟨w.heap.size, i, none⟩ (.slice (some ⟨g2, 0, none⟩) r.length r.length))) := bset (bstep HB.out hb2) (Nat.le_refl _) _
      clear hst H2 o2 hb2
      go_wp2_with fail
      go_roundw
      case rel => exact ⟨i + 1, _, by omega, by go_num, HI3.out, HE3.out, H3.out, HW3.out, HB3.out⟩
      case measure => simp [intOf]; omega
    · obtain rfl : i = n := by omega
      go_wp2_with fail
      go_ret
      have hrow := ArgRow.own H.out
      rw [List.drop_eq_nil_of_le (by rw [HZL.out]; omega), List.append_nil] at hrow
      refine ⟨_, rfl, ⟨rs, by first | (rw [HE.out, List.take_of_length_le (by rw [HL.out]; omega)]) | (rw [HE.out]; exact List.take_of_length_le (by rw [HL.out]; omega)), hrow, fun x hx => ?_⟩, HB.out⟩
      obtain ⟨b, f1, _, f3⟩ := HW.out x hx
      rw [f1]; exact f3

set_option maxHeartbeats 2000000 in
theorem szRatSS (a : Option Addr) (n c : Nat) (M : List (List Rz)) (K : Nat) (hK : K ≤ 1048576) (w : World) (hM : RGrid w a n c M) :
    Calls Try.prog 48 #[.slice a n c, .int .i64 K] w fun e w' => ∃ r : Int, e = .returned (.int .i64 r) ∧ (r < 0 ∨ (0 ≤ r ∧ r ≤ 1048576 ∧ n ≤ 1048576 ∧ ∀ x ∈ M, x.length ≤ 1048576)) ∧ w = w' := by
  have hl := hM.len
  have hn := hM.le
  unfold maxLen at hn
  have HM := Lib.hid hM
  have HL := Lib.hid hl
  clear hM hl
  by_cases hb : K < n
  · go_enter Try.func48, Try.ntmps48
    go_wp2_with fail
    go_ret
    exact ⟨-1, rfl, .inl (by omega), rfl⟩
  go_enter Try.func48, Try.ntmps48
  go_wp2_with fail
  go_loopw [1, 5] (fun s v wr => ∃ k q : Nat, k ≤ n ∧ q ≤ 1048576 ∧ v = .int .i64 k ∧ s = .int .i64 q ∧ Hid (∀ x ∈ M.take k, x.length ≤ 1048576) ∧ wr = w) (fun _ v _ => n - (intOf v).toNat)
  case atStart => exact ⟨0, K - n, by omega, by omega, rfl, by go_num, by simp [Hid], rfl⟩
  case round =>
    obtain ⟨k, q, hk, hq, rfl, rfl, HT, rfl⟩ := hrel
    by_cases hlt : k < n
    · obtain ⟨b1, o1, rfl, _⟩ := HM.out.form (by omega)
      have hli : k < M.length := by rw [HL.out]; exact hlt
      obtain ⟨d1, e1, p1, q1⟩ := HM.out.row k hli
      have hml := ArgRow.le q1
      have KS := Lib.hid (fun w => szRats d1 M[k].length e1 q w hml hq)
      have HST : Hid (M[k].length ≤ 1048576 → ∀ x ∈ M.take (k + 1), x.length ≤ 1048576) := by
        intro h x hx
        rw [List.take_succ_eq_append_getElem hli] at hx
        rcases List.mem_append.1 hx with hx | hx
        · exact HT.out x hx
        · simp at hx; subst hx; exact h
      generalize M[k].length = m at p1 KS HST hml
      clear hli q1
      by_cases hqm : q < m
      · simp only [if_pos hqm] at KS
        go_wp2_with fail
        refine (KS.out _).mono ?_
        rintro e w9 ⟨rfl, rfl⟩
        go_wp2_with fail
        go_ret
        exact ⟨-1, rfl, .inl (by omega), rfl⟩
      · simp only [if_neg hqm] at KS
        have HT2 := Lib.hid (HST.out (by omega))
        obtain ⟨q2, hq2⟩ : ∃ q2 : Nat, (q : Int) - m = q2 := ⟨q - m, by omega⟩
        simp only [hq2] at KS
        go_wp2_with fail
        refine (KS.out _).mono ?_
        rintro e w9 ⟨rfl, rfl⟩
        go_wp2_with fail
        go_roundw
        case rel => exact ⟨k + 1, q2, by omega, by omega, by go_num, rfl, HT2.out, by trivial⟩
        case measure => simp [intOf]; omega
    · obtain rfl : k = n := by omega
      go_wp2_with fail
      go_ret
      exact ⟨q, rfl, .inr ⟨by omega, by omega, by omega, by have := HT.out; rw [List.take_of_length_le (by rw [HL.out]; omega)] at this; exact this⟩, rfl⟩
end Go.Proofs.Ytdmiihljepkapaa
