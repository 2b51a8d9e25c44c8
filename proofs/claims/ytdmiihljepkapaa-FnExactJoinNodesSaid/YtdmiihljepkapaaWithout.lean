/- A table without a row and a column: the program's. -/
import Derived.Test.YtdmiihljepkapaaLeft
import Derived.Test.YtdmiihljepkapaaPut3
import Derived.Deep.AppendLies
namespace Go.Proofs.Ytdmiihljepkapaa
set_option linter.unusedSimpArgs false
set_option linter.unusedVariables false
open Go.RowKit

theorem ArgRow.grown {w w' : World} {b n c sz : Nat} {xs : List Value} {r : Option Nat} (h : ArgRow w (some ⟨b, 0, none⟩) n c sz xs) (hg : w.grownBy w' r) (hb : b < w.heap.size) (hr : r ≠ some b) : ArgRow w' (some ⟨b, 0, none⟩) n c sz xs := by
  obtain ⟨h1, h2, h3, h4⟩ := h
  refine ⟨h1, h2, h3, ?_⟩
  rcases h4 with h4 | ⟨b', o', e, hb', hc⟩
  · exact .inl h4
  · cases e
    refine .inr ⟨b, 0, rfl, Nat.lt_of_lt_of_le hb hg.size, fun j hj => ?_⟩
    rw [World.cell?_of_block (a := ⟨b, 0 + j, none⟩) (hg.block b hb (fun e => hr e.symm))]
    exact hc j hj
theorem ArgRow.underB {w w' : World} {B b n c sz : Nat} {xs : List Value} (h : ArgRow w (some ⟨b, 0, none⟩) n c sz xs) (hb : Below B w w') (hB : b < B) : ArgRow w' (some ⟨b, 0, none⟩) n c sz xs := by
  obtain ⟨h1, h2, h3, h4⟩ := h
  refine ⟨h1, h2, h3, ?_⟩
  rcases h4 with h4 | ⟨b', o', e, hb', hc⟩
  · exact .inl h4
  · cases e
    exact .inr ⟨b, 0, rfl, Nat.lt_of_lt_of_le hb' hb.size, fun j hj => by rw [hb.cell (p := ⟨b, 0 + j, none⟩) hB]; exact hc j hj⟩
/-- rows i below k but v, each without column v -/
def woRows (M : Nat) (f : Int → Int → Int) (v : Nat) : Nat → List (List Int)
  | 0 => []
  | k + 1 => if k = v then woRows M f v k else woRows M f v k ++ [((upto M).map fun j => f k j).eraseIdx v]
theorem woRows_len (M : Nat) (f : Int → Int → Int) (v : Nat) : ∀ k, (woRows M f v k).length ≤ k
  | 0 => by simp [woRows]
  | k + 1 => by
    have := woRows_len M f v k
    rw [woRows]; split
    · omega
    · simp; omega
theorem erase_skip (M : Nat) (f : Int → Int) (v : Nat) (hv : v < M + 1) : ((upto (M + 1)).map f).eraseIdx v = (upto M).map fun j => f (skip v j) := by
  apply List.ext_getElem?
  intro i
  rw [List.getElem?_eraseIdx]
  simp only [List.getElem?_map, upto, List.map_map]
  by_cases h : i < v
  · rw [if_pos h]
    have e1 : (List.range (M + 1))[i]? = some i := by rw [List.getElem?_eq_getElem (by simp; omega)]; simp
    have e2 : (List.range M)[i]? = some i := by rw [List.getElem?_eq_getElem (by simp; omega)]; simp
    simp only [e1, e2, Option.map_some, Function.comp]
    unfold skip; rw [if_pos (by omega)]
  · rw [if_neg h]
    by_cases h2 : i < M
    · have e1 : (List.range (M + 1))[i + 1]? = some (i + 1) := by rw [List.getElem?_eq_getElem (by simp; omega)]; simp
      have e2 : (List.range M)[i]? = some i := by rw [List.getElem?_eq_getElem (by simp; omega)]; simp
      simp only [e1, e2, Option.map_some, Function.comp]
      unfold skip; rw [if_neg (by omega)]; simp
    · rw [List.getElem?_eq_none (by simp; omega), List.getElem?_eq_none (by simp; omega)]
      rfl
theorem woRows_tab (M : Nat) (f : Int → Int → Int) (v : Nat) (hv : v < M + 1) : woRows (M + 1) f v (M + 1) = tab M (fun i j => f (skip v i) (skip v j)) := by
  have key : ∀ k, k ≤ M + 1 → woRows (M + 1) f v k = (upto (if v < k then k - 1 else k)).map fun i => (upto M).map fun j => f (skip v i) (skip v j) := by
    intro k
    induction k with
    | zero => intro _; simp [woRows, upto]
    | succ k ih =>
      intro hk
      rw [woRows, ih (by omega)]
      by_cases e : k = v
      · rw [if_pos e, if_neg (by omega), if_pos (by omega)]; simp [e]
      · rw [if_neg e, erase_skip M _ v hv]
        by_cases h : v < k
        · rw [if_pos h, if_pos (by omega)]
          obtain ⟨k', rfl⟩ : ∃ k', k = k' + 1 := ⟨k - 1, by omega⟩
          simp only [Nat.add_sub_cancel]
          rw [upto_succ, List.map_append]
          congr 1
          simp only [List.map_cons, List.map_nil]
          have : skip (v : Int) (k' : Int) = ((k' + 1 : Nat) : Int) := by unfold skip; rw [if_neg (by omega)]; simp
          rw [this]
        · rw [if_neg h, if_neg (by omega), upto_succ, List.map_append]
          congr 1
          simp only [List.map_cons, List.map_nil]
          have : skip (v : Int) (k : Int) = (k : Int) := by unfold skip; rw [if_pos (by omega)]
          rw [this]
  rw [key (M + 1) (Nat.le_refl _), if_pos hv]
  rfl

set_option maxRecDepth 100000 in
set_option maxHeartbeats 8000000 in
theorem implWithout (M v : Nat) (f : Int → Int → Int) (at' : Option Addr) (c : Nat) (hv : v < M) (hM : M ≤ 5) (w : World) (hr : IGrid w at' M c (tab M f)) :
    Calls Try.prog 153 #[.slice at' M c, .int .i64 v] w fun e w' => ∃ g m c', e = .returned (.slice (some ⟨g, 0, none⟩) m c') ∧ IGrid w' (some ⟨g, 0, none⟩) m c' (woRows M f v M) ∧ Below w.heap.size w w' := by
  obtain ⟨j0, ji, jz0, jz1, jz2⟩ := info_parts infoSl
  have HJ := Lib.hid (And.intro ji (And.intro jz0 (And.intro jz1 jz2)))
  clear ji jz0 jz1 jz2
  have HR := Lib.hid hr
  obtain ⟨bt, ot, e, hbt⟩ := hr.form (by omega)
  subst e
  have HWL := Lib.hid (woRows_len M f v)
  clear hr
  go_enter Try.func153, Try.ntmps153
  go_wp2_with fail
  go_loopw [5, 11] (fun ov u wr => ∃ (i m g cg : Nat) (rs : List (Option Addr × Nat × List Int)), i ≤ M ∧ m ≤ i ∧ u = .int .i64 i ∧ ov = .slice (some ⟨g, 0, none⟩) m cg ∧ Hid (rs.length = m ∧ rs.map (fun x => x.2.2) = woRows M f v i) ∧ Hid (wr.ownsRow w.heap.size 60 1 (.slice (some ⟨g, 0, none⟩) m cg) m (rs.map slV)) ∧ Hid (∀ x ∈ rs, ∃ b, x.1 = some ⟨b, 0, none⟩ ∧ b < wr.heap.size ∧ ¬ b = g ∧ ArgRow wr (some ⟨b, 0, none⟩) x.2.2.length x.2.1 1 (ints x.2.2)) ∧ Hid (Below w.heap.size w wr)) (fun _ u _ => M - (intOf u).toNat)
  case atStart => exact ⟨0, 0, w.heap.size, 0, [], by omega, by omega, rfl, rfl, ⟨rfl, rfl⟩, World.ownsRow_lit (base := w.heap.size) (size := 1) w #[] 0 (Nat.le_refl _) (by simp) rfl, fun x hx => by simp at hx, balloc (Below.refl _ _) _⟩
  case round =>
    obtain ⟨i, m, g, cg, rs, hi, hm, rfl, rfl, HE, HO, HW, HB⟩ := hrel
    by_cases hlt : i < M
    · have G1 := HR.out.below HB.out
      have hli : i < (tab M f).length := by rw [tab_len]; exact hlt
      obtain ⟨d1, e1, p1, q1⟩ := G1.row i hli
      have hrl : (tab M f)[i].length = M := tab_sq M _ _ (List.getElem_mem _)
      have hrow : (tab M f)[i] = (upto M).map fun j => f i j := tab_row M f i hli
      rw [hrl] at p1 q1
      rw [hrow] at q1
      obtain ⟨b2, o2, rfl, hb2, hcc⟩ := q1.form (by omega)
      have hbt' : bt < wr.heap.size := Nat.lt_of_lt_of_le hbt HB.out.size
      by_cases hiv : i = v
      · have HE2 : Hid (rs.length = m ∧ rs.map (fun x => x.2.2) = woRows M f v (i + 1)) := ⟨HE.out.1, by rw [woRows, if_pos hiv]; exact HE.out.2⟩
        subst hiv
        clear hcc G1 hli hrl hrow q1
        go_wp2_with fail
        go_roundw
        case rel => exact ⟨i + 1, m, g, cg, rs, by omega, by omega, by go_num, rfl, HE2.out, HO.out, HW.out, HB.out⟩
        case measure => simp [intOf]; omega
      · have hq1 : ((i : Int) == (v : Int)) = false := by simp; omega
        have hq2 : (i == v) = false := by simp; omega
        have hq3 : ((i : Int) != (v : Int)) = true := by simp; omega
        have hq4 : (i != v) = true := by simp; omega
        have KC := Lib.hid (cloneInts b2 o2 M e1 ((upto M).map fun j => f i j) wr q1 (by omega) (by omega))
        have HY : Hid (woRows M f v (i + 1) = woRows M f v i ++ [((upto M).map fun j => f i j).eraseIdx v]) := by show _ = _; rw [woRows, if_neg hiv]
        have hel : Hid ((((upto M).map fun j => f i j).eraseIdx v).length = M - 1) := by
          show _ = _
          rw [List.length_eraseIdx, if_pos (by rw [List.length_map, upto_len]; exact hv), List.length_map, upto_len]
        have hw1 : IntKind.i64.wrap ((v : Int) + 1) = (v : Int) + 1 := IntWalk.i64_in _ ⟨by omega, by omega⟩
        have hw1' : wrap64 ((v : Int) + 1) = (v : Int) + 1 := by unfold wrap64; omega
        generalize ((upto M).map fun j => f i j) = R at KC HY hel q1
        have hgl := (own_base HO.out _ rfl).2
        simp only at hgl
        have hsz := HB.out.size
        clear hcc G1 hli hrl hrow q1 hiv
        go_wp2_with fail
        refine KC.out.mono ?_
        rintro e w1 ⟨g1, c1, rfl, o1, hb1⟩
        have hg1 := own_base o1 _ rfl
        simp only at hg1
        have hs1 := hb1.size
        have O1 := Lib.hid (own_below HO.out hb1)
        have B1 : Hid (Below w.heap.size w w1) := bstep HB.out hb1
        have W1 : Hid (∀ x ∈ rs, ∃ b, x.1 = some ⟨b, 0, none⟩ ∧ b < wr.heap.size ∧ ¬ b = g ∧ ArgRow w1 (some ⟨b, 0, none⟩) x.2.2.length x.2.1 1 (ints x.2.2)) := fun x hx => by
          obtain ⟨b, f1, f2, f3, f4⟩ := HW.out x hx
          exact ⟨b, f1, f2, f3, f4.below hb1⟩
        have KD := Lib.hid (delInts wr.heap.size g1 M c1 v R w1 o1 hv)
        clear o1 hb1
        go_wp2_with fail
        refine KD.out.mono ?_
        rintro e w2 ⟨rfl, r2, hb2'⟩
        have hs2 := hb2'.size
        have R2 := Lib.hid r2
        have O2 := Lib.hid (own_under O1.out hb2' (fun ad ha => by cases ha; exact hgl))
        have B2 : Hid (Below w.heap.size w w2) := B1.out.trans (hb2'.mono hsz)
        have W2 : Hid (∀ x ∈ rs, ∃ b, x.1 = some ⟨b, 0, none⟩ ∧ b < wr.heap.size ∧ ¬ b = g ∧ ArgRow w2 (some ⟨b, 0, none⟩) x.2.2.length x.2.1 1 (ints x.2.2)) := fun x hx => by
          obtain ⟨b, f1, f2, f3, f4⟩ := W1.out x hx
          exact ⟨b, f1, f2, f3, f4.underB hb2' f2⟩
        clear hb2' r2
        have hown := O2.out.alloc (.cells #[.slice (some ⟨g1, 0, none⟩) (M - 1) c1] 60)
        go_wp2_with (at_builtin; refine wpList_append_lies _ rfl _ _ 59 rfl w.heap.size 60 j0 (.slice none 0 0) 1 24 Try.underlying59 HJ.out.1 HJ.out.2.1 HJ.out.2.2.1 HJ.out.2.2.2 rfl (by decide) _ _ _ rfl hown ⟨w2.heap.size, 0, none⟩ 1 1 [.slice (some ⟨g1, 0, none⟩) (M - 1) c1] rfl rfl ?c1 ?c2 (by omega) ?c3 ?c4 ?c5 _ rfl ?_)
        case c1 => first | (exact fun j u hu => hu) | exact cell_one_new _ _ _
        case c2 => intro v hv; simp at hv; subst hv; rfl
        case c3 => unfold maxLen; omega
        case c4 => omega
        case c5 => first | omega | (simp only [World.size_alloc]; omega)
        intro g3 c3 w7 hown' hgrow hlies hlt7
        have hs7 := hgrow.size
        simp only [World.size_alloc] at hs7
        have H7 : Hid (w7.ownsRow w.heap.size 60 1 (.slice (some ⟨g3, 0, none⟩) (m + 1) c3) (m + 1) ((rs ++ [((some ⟨g1, 0, none⟩, c1, R.eraseIdx v) : Option Addr × Nat × List Int)]).map slV)) := by
          show World.ownsRow _ _ _ _ _ _ _
          rw [List.map_append]
          simpa [slV, hel.out] using hown'
        have HB7 : Hid (Below w.heap.size w w7) := (balloc B2.out _).grown hgrow (by simp only [World.size_alloc]; omega) (fun q hq => (hown.lt q hq).1)
        have hg3 : g3 = g ∨ w2.heap.size < g3 := by
          simp only [Value.ownBlock, World.size_alloc, Option.some.injEq] at hlies; omega
        have HW7 : Hid (∀ x ∈ rs ++ [((some ⟨g1, 0, none⟩, c1, R.eraseIdx v) : Option Addr × Nat × List Int)], ∃ b, x.1 = some ⟨b, 0, none⟩ ∧ b < w7.heap.size ∧ ¬ b = g3 ∧ ArgRow w7 (some ⟨b, 0, none⟩) x.2.2.length x.2.1 1 (ints x.2.2)) := by
          intro x hx
          rcases List.mem_append.1 hx with hx | hx
          · obtain ⟨b, f1, f2, f3, f4⟩ := W2.out x hx
            exact ⟨b, f1, by omega, by omega, (f4.below (w' := w2.alloc _) (balloc (Below.refl _ _) _)).grown hgrow (by simp only [World.size_alloc]; omega) (by simp [Value.ownBlock]; omega)⟩
          · simp at hx; subst hx
            refine ⟨g1, rfl, by omega, by omega, ?_⟩
            have := R2.out
            rw [← hel.out] at this
            exact (this.below (w' := w2.alloc _) (balloc (Below.refl _ _) _)).grown hgrow (by simp only [World.size_alloc]; omega) (by simp [Value.ownBlock]; omega)
        have HE7 : Hid ((rs ++ [((some ⟨g1, 0, none⟩, c1, R.eraseIdx v) : Option Addr × Nat × List Int)]).length = m + 1 ∧ (rs ++ [((some ⟨g1, 0, none⟩, c1, R.eraseIdx v) : Option Addr × Nat × List Int)]).map (fun x => x.2.2) = woRows M f v (i + 1)) := ⟨by simp [HE.out.1], by rw [HY.out, List.map_append, HE.out.2]; rfl⟩
        clear hown hown' hgrow hlies
        go_wp2_with fail
        go_roundw
        case rel => exact ⟨i + 1, m + 1, g3, c3, _, by omega, by omega, by go_num, rfl, HE7.out, H7.out, HW7.out, HB7.out⟩
        case measure => simp [intOf]; omega
    · obtain rfl : i = M := by omega
      have hrow := ArgRow.own' HO.out
      have HE9 := HE.out
      have HW9 := HW.out
      have HBX := HB.out
      have HROW := Lib.hid hrow
      clear hrow
      go_wp2_with fail
      go_ret
      exact ⟨g, m, cg, rfl, ⟨rs, HE.out.2, HROW.out, fun x hx => by obtain ⟨b, f1, _, _, f4⟩ := HW.out x hx; rw [f1]; exact f4⟩, HB.out⟩
end Go.Proofs.Ytdmiihljepkapaa
