/- Tables of numbers in the laws: compared, weighed. -/
import Derived.Test.YtdmiihljepkapaaIntS
import Derived.Test.YtdmiihljepkapaaHeld
namespace Go.Proofs.Ytdmiihljepkapaa
set_option linter.unusedSimpArgs false
set_option linter.unusedVariables false
open Go.RowKit

set_option maxHeartbeats 2000000 in
theorem eqIntSS (a1 a2 : Option Addr) (n c1 c2 : Nat) (M : List (List Int)) (w : World) (r1 : IGrid w a1 n c1 M) (r2 : IGrid w a2 n c2 M) :
    Calls Try.prog 60 #[.slice a1 n c1, .slice a2 n c2] w fun e w' => e = .returned (.bool true) ∧ Below w.heap.size w w' := by
  have hl := r1.len
  have hn := r1.le
  unfold maxLen at hn
  have R1 := Lib.hid r1
  have R2 := Lib.hid r2
  have HL := Lib.hid hl
  clear r1 r2 hl
  go_enter Try.func60, Try.ntmps60
  go_wp2_with fail
  go_loopw [5] (fun v wr => ∃ k : Nat, k ≤ n ∧ v = .int .i64 k ∧ Hid (Below w.heap.size w wr)) (fun v _ => n - (intOf v).toNat)
  case atStart => exact ⟨0, by omega, rfl, Below.refl _ _⟩
  case round =>
    obtain ⟨k, hk, rfl, HB⟩ := hrel
    by_cases hlt : k < n
    · have G1 := R1.out.below HB.out
      have G2 := R2.out.below HB.out
      obtain ⟨b1, o1, rfl, _⟩ := G1.form (by omega)
      obtain ⟨b2, o2, rfl, _⟩ := G2.form (by omega)
      have hli : k < M.length := by rw [HL.out]; exact hlt
      obtain ⟨d1, e1, p1, q1⟩ := G1.row k hli
      obtain ⟨d2, e2, p2, q2⟩ := G2.row k hli
      have KE := Lib.hid (fun (w' : World) (hb : Below wr.heap.size wr w') => eqInts d1 d2 M[k].length e1 e2 M[k] w' (ArgRow.below q1 hb) (ArgRow.below q2 hb))
      have hrl := ArgRow.le q1
      unfold maxLen at hrl
      generalize M[k].length = m at p1 p2 KE hrl
      clear G1 G2 q1 q2 hli
      go_wp2_with fail
      go_region_with (go_at_call 61; ((with_reducible refine (KE.out _ (by (repeat' (first | (with_reducible exact Below.refl _ _) | (with_reducible assumption) | (with_reducible refine balloc ?_ _) | (with_reducible refine Below.drew ?_) | (with_reducible refine below_drewN ?_ _) | (with_reducible refine bset ?_ ?_ _) | (with_reducible refine bstep ?_ (by assumption)) | go_size)))).mono ?_); rintro e w2 ⟨rfl, hb2⟩); (try (replace hb2 := bdrew hb2)))
      all_goals
        go_wp2_with fail
        go_roundw
        case rel => exact ⟨k + 1, by omega, by go_num, bstep HB.out hb2⟩
        case measure => simp [intOf]; omega
    · go_wp2_with fail
      go_ret
      exact ⟨rfl, HB.out⟩

set_option maxHeartbeats 1000000 in
theorem szInts (a : Option Addr) (n c : Nat) (k : Nat) (w : World) (hn : n ≤ maxLen) (hk : k ≤ 1048576) :
    Calls Try.prog 127 #[.slice a n c, .int .i64 k] w fun e w' => (e = .returned (.int .i64 (if k < n then -1 else (k : Int) - n))) ∧ w = w' := by
  unfold maxLen at hn
  by_cases h : k < n
  · rw [if_pos h]
    go_enter Try.func127, Try.ntmps127
    go_wp2_with fail
    go_ret
    exact ⟨rfl, rfl⟩
  · rw [if_neg h]
    go_enter Try.func127, Try.ntmps127
    go_wp2_with fail
    go_ret
    exact ⟨rfl, rfl⟩
theorem ArgRow.setOther {w : World} {b n c sz : Nat} {xs : List Value} (h : ArgRow w (some ⟨b, 0, none⟩) n c sz xs) {p : Addr} (hp : p.block ≠ b) (v : Value) : ArgRow (w.setCell p v) (some ⟨b, 0, none⟩) n c sz xs := by
  obtain ⟨h1, h2, h3, h4⟩ := h
  refine ⟨h1, h2, h3, ?_⟩
  rcases h4 with h4 | ⟨b', o', e, hb, hc⟩
  · exact .inl h4
  · cases e
    refine .inr ⟨b, 0, rfl, by simpa using hb, fun j hj => ?_⟩
    rw [World.cell?_of_block (a := ⟨b, 0 + j, none⟩) (Go.Deep.blk_setCell_other _ _ _ _ (fun e => hp e.symm))]
    exact hc j hj
set_option maxHeartbeats 4000000 in
theorem toIntSS (a : Option Addr) (n c : Nat) (M : List (List Int)) (w : World) (hM : IGrid w a n c M) (hn : n ≤ 1048576) (hrn : ∀ r ∈ M, r.length ≤ 1048576) :
    Calls Try.prog 57 #[.slice a n c] w fun e w' => ∃ g, e = .returned (.slice (some ⟨g, 0, none⟩) n n) ∧ IGrid w' (some ⟨g, 0, none⟩) n n M ∧ Below w.heap.size w w' := by
  have hl := hM.len
  have hmk := run_make_row' (P := Try.prog) 59 60 (.slice none 0 0) 24 Try.underlying59 (by kernel_rfl) rfl .i64 .i64 n (by omega) (by omega)
  have HZ : Hid ((w.alloc (.cells (madeCells #[Value.slice none 0 0] n) 60)).ownsRow w.heap.size 60 1 (.slice (some ⟨w.heap.size, 0, none⟩) n n) n (madeCells #[Value.slice none 0 0] n).toList) :=
    World.ownsRow_lit w _ n (Nat.le_refl _) (by unfold maxLen; omega) (by first | (rw [size_madeCells]; done) | (rw [size_madeCells]; simp) | simp)
  have hzl : (madeCells #[Value.slice none 0 0] n).toList.length = n := by first | (rw [Array.length_toList, size_madeCells]; done) | (rw [Array.length_toList, size_madeCells]; simp)
  obtain ⟨zs, hzs⟩ : ∃ zs, madeCells #[Value.slice none 0 0] n = zs := ⟨_, rfl⟩
  simp only [hzs] at hmk HZ hzl
  clear hzs
  have HM := Lib.hid hM
  have HL := Lib.hid hl
  have HRN := Lib.hid hrn
  have HZL := Lib.hid hzl
  clear hM hl hrn hzl
  go_enter Try.func57, Try.ntmps57
  go_wp2_with fail
  go_loopw [4] (fun u wr => ∃ (i : Nat) (rs : List (Option Addr × Nat × List Int)), i ≤ n ∧ u = .int .i64 i ∧ Hid (rs.length = i) ∧ Hid (rs.map (fun x => x.2.2) = M.take i) ∧ Hid (wr.ownsRow w.heap.size 60 1 (.slice (some ⟨w.heap.size, 0, none⟩) n n) n (rs.map slV ++ zs.toList.drop i)) ∧ Hid (∀ x ∈ rs, ∃ b, x.1 = some ⟨b, 0, none⟩ ∧ w.heap.size < b ∧ ArgRow wr (some ⟨b, 0, none⟩) x.2.2.length x.2.1 1 (ints x.2.2)) ∧ Hid (Below w.heap.size w wr)) (fun u _ => n - (intOf u).toNat)
  case atStart => exact ⟨0, [], by omega, rfl, rfl, rfl, by simpa [Hid] using HZ.out, fun x hx => by simp at hx, balloc (Below.refl _ _) _⟩
  case round =>
    obtain ⟨i, rs, hi, rfl, HI, HE, H, HW, HB⟩ := hrel
    by_cases hlt : i < n
    · have G1 := HM.out.below HB.out
      obtain ⟨b1, o1, rfl, _⟩ := G1.form (by omega)
      have hli : i < M.length := by rw [HL.out]; exact hlt
      obtain ⟨d1, e1, p1, q1⟩ := G1.row i hli
      have hrl := HRN.out M[i] (List.getElem_mem _)
      have KE := Lib.hid (toInts d1 M[i].length e1 M[i] wr q1 hrl)
      have HTK : Hid (M.take (i + 1) = M.take i ++ [M[i]]) := List.take_succ_eq_append_getElem hli
      have hgl := (own_base H.out _ rfl).2
      simp only at hgl
      generalize M[i] = r at p1 KE HTK hrl
      clear G1 q1 hli
      go_wp2_with fail
      refine KE.out.mono ?_
      rintro e w2 ⟨g2, rfl, o2, hb2⟩
      have hg2 := (own_base o2 _ rfl)
      simp only at hg2
      have H2 := own_below H.out hb2
      have hst := H2.stored i (.slice (some ⟨g2, 0, none⟩) r.length r.length)
      obtain ⟨old, hold⟩ : ∃ old, w2.cell? ⟨w.heap.size, i, none⟩ = some old := ⟨_, (H2.cellAt i (by omega)).trans (List.getElem?_eq_getElem (by have := H2.1; omega))⟩
      have hfr := H2.frozenAt i
      have hwl : w.heap.size < w2.heap.size := by have := hb2.size; omega
      have H3 : Hid ((w2.setCell ⟨w.heap.size, i, none⟩ (.slice (some ⟨g2, 0, none⟩) r.length r.length)).ownsRow w.heap.size 60 1 (.slice (some ⟨w.heap.size, 0, none⟩) n n) n ((rs ++ [((some ⟨g2, 0, none⟩, r.length, r) : Option Addr × Nat × List Int)]).map slV ++ zs.toList.drop (i + 1))) := by
        have e : (rs.map slV ++ zs.toList.drop i).set i (.slice (some ⟨g2, 0, none⟩) r.length r.length) = (rs ++ [((some ⟨g2, 0, none⟩, r.length, r) : Option Addr × Nat × List Int)]).map slV ++ zs.toList.drop (i + 1) := by
          rw [List.set_append_right _ _ (by rw [List.length_map, HI.out]; omega), List.length_map, HI.out, Nat.sub_self, List.drop_eq_getElem_cons (by rw [HZL.out]; exact hlt), List.set_cons_zero, List.map_append, List.append_assoc]
          rfl
        show World.ownsRow _ _ _ _ _ _ _
        rw [← e]; exact hst.1
      have HW3 : Hid (∀ x ∈ rs ++ [((some ⟨g2, 0, none⟩, r.length, r) : Option Addr × Nat × List Int)], ∃ b, x.1 = some ⟨b, 0, none⟩ ∧ w.heap.size < b ∧ ArgRow (w2.setCell ⟨w.heap.size, i, none⟩ (.slice (some ⟨g2, 0, none⟩) r.length r.length)) (some ⟨b, 0, none⟩) x.2.2.length x.2.1 1 (ints x.2.2)) := by
        intro x hx
        rcases List.mem_append.1 hx with hx | hx
        · obtain ⟨b, f1, f2, f3⟩ := HW.out x hx
          exact ⟨b, f1, f2, (f3.below hb2).setOther (by show w.heap.size ≠ b; omega) _⟩
        · simp at hx; subst hx
          exact ⟨g2, rfl, by omega, (ArgRow.own o2).setOther (by show w.heap.size ≠ g2; omega) _⟩
      have HE3 : Hid ((rs ++ [((some ⟨g2, 0, none⟩, r.length, r) : Option Addr × Nat × List Int)]).map (fun x => x.2.2) = M.take (i + 1)) := by
        show _ = _; rw [List.map_append, HE.out, HTK.out]; rfl
      have HI3 : Hid ((rs ++ [((some ⟨g2, 0, none⟩, r.length, r) : Option Addr × Nat × List Int)]).length = i + 1) := by show _ = _; rw [List.length_append, HI.out]; rfl
      have HB3 : Hid (Below w.heap.size w (w2.setCell ⟨w.heap.size, i, none⟩ (.slice (some ⟨g2, 0, none⟩) r.length r.length))) := bset (bstep HB.out hb2) (Nat.le_refl _) _
      clear hst H2 o2 hb2
      go_wp2_with fail
      go_roundw
      case rel => exact ⟨i + 1, _, by omega, by go_num, HI3.out, HE3.out, H3.out, HW3.out, HB3.out⟩
      case measure => simp [intOf]; omega
    · obtain rfl : i = n := by omega
      go_wp2_with fail
      go_ret
      have hrow := ArgRow.own H.out
      rw [List.drop_eq_nil_of_le (by rw [HZL.out]; omega), List.append_nil] at hrow
      refine ⟨_, rfl, ⟨rs, by first | (rw [HE.out, List.take_of_length_le (by rw [HL.out]; omega)]) | (rw [HE.out]; exact List.take_of_length_le (by rw [HL.out]; omega)), hrow, fun x hx => ?_⟩, HB.out⟩
      obtain ⟨b, f1, _, f3⟩ := HW.out x hx
      rw [f1]; exact f3
end Go.Proofs.Ytdmiihljepkapaa
