/- A table's network: the program's netOf. -/
import Derived.Test.YtdmiihljepkapaaPutS
import Derived.Test.YtdmiihljepkapaaPut3
import Derived.Test.YtdmiihljepkapaaNetOk
import Derived.Test.YtdmiihljepkapaaGcd
namespace Go.Proofs.Ytdmiihljepkapaa
set_option linter.unusedSimpArgs false
set_option linter.unusedVariables false
open Go.RowKit

theorem rowL_zero (f : Int → Int → Int) (i : Nat) : rowL f (i + 1) i = [] := by
  unfold rowL
  rw [List.filter_eq_nil_iff.2]
  · rfl
  · intro j hj
    rw [List.mem_range] at hj
    simp; omega
theorem rowL_no {f : Int → Int → Int} {i j : Nat} (h : f i j = 0) : rowL f (j + 1) i = rowL f j i := by
  unfold rowL
  rw [List.range_succ, List.filter_append]
  simp [h]
theorem rowL_yes {f : Int → Int → Int} {i j : Nat} (hij : i < j) (h : ¬ f i j = 0) : rowL f (j + 1) i = rowL f j i ++ [((i : Int), (j : Int), f i j)] := by
  unfold rowL
  rw [List.range_succ, List.filter_append, List.map_append]
  simp [h, hij]
theorem rowL_len (f : Int → Int → Int) (N i : Nat) : (rowL f N i).length ≤ N := by
  unfold rowL
  rw [List.length_map]
  exact Nat.le_trans (List.length_filter_le _ _) (by simp)
theorem tabL_len (f : Int → Int → Int) (N : Nat) : ∀ k, (tabL f N k).length ≤ k * N
  | 0 => by simp [tabL]
  | k + 1 => by
    rw [tabL, List.length_append, Nat.succ_mul]
    have := tabL_len f N k; have := rowL_len f N k; omega
/-- a network's box, by its cells -/
def netAt (x0 x1 x2 x3 : Value) (i : Nat) : Value := if i = 0 then x0 else if i = 1 then x1 else if i = 2 then x2 else x3
theorem netAt_new (w : World) (x0 x1 x2 x3 : Value) (t : TypeId) : (w.alloc (.cells #[x0, x1, x2, x3] t)).rowIs w.heap.size t 4 (netAt x0 x1 x2 x3) :=
  World.rowIs_alloc w _ t _ (fun i hi => by
    have : i = 0 ∨ i = 1 ∨ i = 2 ∨ i = 3 := by simp at hi; omega
    rcases this with rfl | rfl | rfl | rfl <;> rfl)
theorem netAt_cells {w : World} {b : Nat} {t : TypeId} {x0 x1 x2 x3 : Value} (h : w.rowIs b t 4 (netAt x0 x1 x2 x3)) : w.cell? ⟨b, 0, none⟩ = some x0 ∧ w.cell? ⟨b, 1, none⟩ = some x1 ∧ w.cell? ⟨b, 2, none⟩ = some x2 ∧ w.cell? ⟨b, 3, none⟩ = some x3 :=
  ⟨h.cell (i := 0) (by omega), h.cell (i := 1) (by omega), h.cell (i := 2) (by omega), h.cell (i := 3) (by omega)⟩
theorem netAt_set3 {w : World} {b : Nat} {t : TypeId} {x0 x1 x2 x3 : Value} (h : w.rowIs b t 4 (netAt x0 x1 x2 x3)) (v : Value) : (w.setCell ⟨b, 3, none⟩ v).rowIs b t 4 (netAt x0 x1 x2 v) :=
  (h.set 3 v).congr (fun i hi => by
    have : i = 0 ∨ i = 1 ∨ i = 2 ∨ i = 3 := by omega
    rcases this with rfl | rfl | rfl | rfl <;> rfl)
theorem netAt_set2 {w : World} {b : Nat} {t : TypeId} {x0 x1 x2 x3 : Value} (h : w.rowIs b t 4 (netAt x0 x1 x2 x3)) (v : Value) : (w.setCell ⟨b, 2, none⟩ v).rowIs b t 4 (netAt x0 x1 v x3) :=
  (h.set 2 v).congr (fun i hi => by
    have : i = 0 ∨ i = 1 ∨ i = 2 ∨ i = 3 := by omega
    rcases this with rfl | rfl | rfl | rfl <;> rfl)
/-- what netOf gives -/
def NetRes (e : Ending) (w w' : World) (ok : Bool) (M E S : Int) (L : List Wz) : Prop :=
  if ok = true then ∃ a' c', e = .returned (.tuple #[netV M E S a' L.length c', .bool true]) ∧ w'.ownsRow w.heap.size 104 3 (.slice a' L.length c') L.length (wires L)
  else e = .returned (.tuple #[netV 0 0 0 none 0 0, .bool false])
theorem wrap_small' {x : Int} (h : -9223372036854775808 ≤ x ∧ x ≤ 9223372036854775807) : wrap64 x = x := by unfold wrap64; omega
theorem grown_set' (w : World) (p : Addr) (v : Value) : w.grownBy (w.setCell p v) (some p.block) :=
  ⟨rfl, rfl, rfl, by simp [World.setCell], fun k _ hk => Below.heap_setCell _ _ _ _ (fun e => hk (by rw [e]))⟩
theorem gcd_step_z {s : Nat} {L : List Wz} {x : Int} (hs : 0 < s) (hs2 : s ≤ 1000000000000000000) (hx : -1000000000000000000 ≤ x ∧ x ≤ 1000000000000000000) (i j : Int) : gcdZ (gL s L) x = ((gL s (L ++ [(i, j, x)]) : Nat) : Int) := by
  have h1 := gL_pos hs L
  have h2 := gL_le hs L
  unfold gcdZ
  rw [if_neg (by omega), gL_snoc]
  simp
theorem divL_step (g : Nat) (l : List Wz) (i : Nat) (h : i < l.length) : (wires (divL g (l.take i) ++ l.drop i)).set (i * 3 + 2) (.int .i64 (Int.tdiv l[i].2.2 g)) = wires (divL g (l.take (i + 1)) ++ l.drop (i + 1)) := by
  have hl : (wires (divL g (l.take i))).length = i * 3 := by rw [wires_len, divL_len, List.length_take]; omega
  have e1 : wires (divL g (l.take i) ++ l.drop i) = wires (divL g (l.take i)) ++ (wireV l[i] ++ wires (l.drop (i + 1))) := by
    have hd := List.drop_eq_getElem_cons h
    simp only [wires, List.flatMap_append]
    rw [hd, List.flatMap_cons]
  have e2 : wires (divL g (l.take (i + 1)) ++ l.drop (i + 1)) = wires (divL g (l.take i)) ++ (wireV (l[i].1, l[i].2.1, Int.tdiv l[i].2.2 g) ++ wires (l.drop (i + 1))) := by
    rw [List.take_succ_eq_append_getElem h]
    simp only [divL, List.map_append, wires, List.flatMap_append, List.map_cons, List.map_nil, List.flatMap_cons, List.flatMap_nil, List.append_nil, List.append_assoc]
  rw [e1, e2, List.set_append_right _ _ (by omega), hl, show i * 3 + 2 - i * 3 = 2 from by omega]
  rfl

set_option maxRecDepth 100000 in
set_option maxHeartbeats 16000000 in
theorem implNetOf (M : Nat) (E : Int) (s : Nat) (f : Int → Int → Int) (at' : Option Addr) (c : Nat) (cut ok : Bool) (hM : 1 ≤ M ∧ M ≤ 5) (hs : 0 < s) (hs2 : s ≤ 1000000000000000000) (hf : ∀ i j, -1000000000000000000 ≤ f i j ∧ f i j ≤ 1000000000000000000)
    (hok : ok = true ↔ NetOk M E (if cut = true then Int.tdiv s (gL s (tabL f M M)) else s) (if cut = true then divL (gL s (tabL f M M)) (tabL f M M) else tabL f M M)) (w : World) (hr : IGrid w at' M c (tab M f)) :
    Calls Try.prog 139 #[.int .i64 E, .int .i64 s, .slice at' M c, .bool cut] w fun e w' => NetRes e w w' ok M E (if cut = true then Int.tdiv s (gL s (tabL f M M)) else s) (if cut = true then divL (gL s (tabL f M M)) (tabL f M M) else tabL f M M) ∧ Below w.heap.size w w' := by
  obtain ⟨i0, hi, hz0, hz1, hz2⟩ := info_parts infoWire
  have HI := Lib.hid (And.intro hi (And.intro hz0 (And.intro hz1 hz2)))
  clear hi hz0 hz1 hz2
  generalize hSS : (if cut = true then Int.tdiv (s : Int) (gL s (tabL f M M)) else (s : Int)) = SS at hok ⊢
  generalize hLL : (if cut = true then divL (gL s (tabL f M M)) (tabL f M M) else tabL f M M) = LL at hok ⊢
  have HSS := Lib.hid hSS
  have HLL := Lib.hid hLL
  clear hSS hLL
  have HR := Lib.hid hr
  have HF := Lib.hid hf
  have HOK := Lib.hid hok
  obtain ⟨bt, ot, e, hbt⟩ := hr.form (by omega)
  subst e
  have HTL := Lib.hid (tabL_len f M)
  have HRL := Lib.hid (rowL_len f)
  have HG0 := Lib.hid (fun L => gL_pos hs L)
  have HG1 := Lib.hid (fun L => gL_le hs L)
  have HGC := Lib.hid (fun (L : List Wz) (x : Int) (hx : -1000000000000000000 ≤ x ∧ x ≤ 1000000000000000000) (i j : Int) => gcd_step_z (L := L) hs hs2 hx i j)
  have A0 : Hid (((w.alloc (.cells #[.int .i64 0, .int .i64 0, .int .i64 0, .slice none 0 0] 25)).alloc (.cells #[.int .i64 M, .int .i64 E, .int .i64 s, .slice none 0 0] 25)).rowIs w.heap.size 25 4 (netAt (.int .i64 0) (.int .i64 0) (.int .i64 0) (.slice none 0 0))) := (netAt_new _ _ _ _ _ _).alloc _
  have A1 : Hid (((w.alloc (.cells #[.int .i64 0, .int .i64 0, .int .i64 0, .slice none 0 0] 25)).alloc (.cells #[.int .i64 M, .int .i64 E, .int .i64 s, .slice none 0 0] 25)).rowIs (w.heap.size + 1) 25 4 (netAt (.int .i64 M) (.int .i64 E) (.int .i64 s) (.slice none 0 0))) := by
    have := netAt_new (w.alloc (.cells #[.int .i64 0, .int .i64 0, .int .i64 0, .slice none 0 0] 25)) (.int .i64 M) (.int .i64 E) (.int .i64 s) (.slice none 0 0) 25
    simpa [Hid] using this
  have hM1 := hM.1
  have hM5 := hM.2
  clear hr hf hok hM
  go_enter Try.func139, Try.ntmps139
  go_wp2_with fail
  go_loopw [11, 24] (fun gv u wr => ∃ (i m cg : Nat) (a : Option Addr) (q : Nat) (L : List Wz), i ≤ M ∧ m ≤ 25 ∧ u = .int .i64 i ∧ gv = .int .i64 q ∧ w.heap.size + 1 < wr.heap.size ∧ Hid (L = tabL f M i ∧ L.length = m ∧ q = gL s L) ∧ Hid (wr.ownsRow (w.heap.size + 1 + 1) 104 3 (.slice a m cg) m (wires L)) ∧ Hid (wr.rowIs w.heap.size 25 4 (netAt (.int .i64 0) (.int .i64 0) (.int .i64 0) (.slice none 0 0))) ∧ Hid (wr.rowIs (w.heap.size + 1) 25 4 (netAt (.int .i64 M) (.int .i64 E) (.int .i64 s) (.slice a m cg))) ∧ Hid (Below w.heap.size w wr)) (fun _ u _ => M - (intOf u).toNat)
  case atStart => exact ⟨0, 0, 0, none, s, [], by omega, by omega, rfl, rfl, by simp, ⟨rfl, rfl, rfl⟩, World.ownsRow_nil _ _ _ _, A0.out, A1.out, balloc (balloc (Below.refl _ _) _) _⟩
  case round =>
    clear A0 A1
    obtain ⟨i, m, cg, a, q, L, hi, hm, rfl, rfl, hsz, HE, HO, HA, HN, HB⟩ := hrel
    by_cases hlt : i < M
    · have HE2 : Hid (L = tabL f M i ++ rowL f (i + 1) i ∧ L.length = m ∧ q = gL s L) := ⟨by rw [rowL_zero, List.append_nil]; exact HE.out.1, HE.out.2.1, HE.out.2.2⟩
      clear HE
      go_wp2_with fail
      go_loopw [11, 13] (fun gv u wr => ∃ (j m cg : Nat) (a : Option Addr) (q : Nat) (L : List Wz), i < j ∧ j ≤ M ∧ m ≤ 25 ∧ u = .int .i64 j ∧ gv = .int .i64 q ∧ w.heap.size + 1 < wr.heap.size ∧ Hid (L = tabL f M i ++ rowL f j i ∧ L.length = m ∧ q = gL s L) ∧ Hid (wr.ownsRow (w.heap.size + 1 + 1) 104 3 (.slice a m cg) m (wires L)) ∧ Hid (wr.rowIs w.heap.size 25 4 (netAt (.int .i64 0) (.int .i64 0) (.int .i64 0) (.slice none 0 0))) ∧ Hid (wr.rowIs (w.heap.size + 1) 25 4 (netAt (.int .i64 M) (.int .i64 E) (.int .i64 s) (.slice a m cg))) ∧ Hid (Below w.heap.size w wr)) (fun _ u _ => M - (intOf u).toNat)
      case atStart => exact ⟨i + 1, m, cg, a, q, L, by omega, by omega, hm, by go_num, rfl, hsz, HE2.out, HO.out, HA.out, HN.out, HB.out⟩
      case round =>
        clear HE2 HO HA HN HB hsz hm
        obtain ⟨j, m, cg, a, q, L, hij, hj, hm, rfl, rfl, hsz, HE, HO, HA, HN, HB⟩ := hrel
        by_cases hlj : j < M
        · have G1 := HR.out.below HB.out
          have hli : i < (tab M f).length := by rw [tab_len]; exact hlt
          obtain ⟨d1, e1, p1, q1⟩ := G1.row i hli
          have hrl : (tab M f)[i].length = M := tab_sq M _ _ (List.getElem_mem _)
          rw [hrl] at p1 q1
          obtain ⟨b2, o2, rfl, hb2, hcc⟩ := q1.form (by omega)
          have hlj' : j < (tab M f)[i].length := by rw [hrl]; exact hlj
          have p2 := int_cell q1 j hlj'
          have hv : (tab M f)[i][j] = f i j := by simp only [tab_row, List.getElem_map, upto_at]
          rw [hv] at p2
          have hfb := HF.out i j
          have hbt' : bt < wr.heap.size := Nat.lt_of_lt_of_le hbt HB.out.size
          obtain ⟨q2, hq2⟩ : ∃ q2 : Nat, q2 = gL s (L ++ [((i : Int), (j : Int), f i j)]) := ⟨_, rfl⟩
          have HY : ¬ f i j = 0 → Hid (L ++ [((i : Int), (j : Int), f i j)] = tabL f M i ++ rowL f (j + 1) i ∧ (L ++ [((i : Int), (j : Int), f i j)]).length = m + 1 ∧ q2 = gL s (L ++ [((i : Int), (j : Int), f i j)])) := fun h => ⟨by rw [rowL_yes hij h, ← List.append_assoc, ← HE.out.1], by simp [HE.out.2.1], hq2⟩
          have HNo : f i j = 0 → Hid (L = tabL f M i ++ rowL f (j + 1) i ∧ L.length = m ∧ q = gL s L) := fun h => ⟨by rw [rowL_no h]; exact HE.out.1, HE.out.2⟩
          have hmm : m + 1 ≤ 25 := by
            have h1 := HTL.out i
            have h2 := HRL.out j i
            have h3 := HE.out.2.1
            rw [HE.out.1, List.length_append] at h3
            have h4 : i * M ≤ 3 * 5 := Nat.mul_le_mul (by omega) hM5
            omega
          have HGQ : Hid (gcdZ (gL s L) (f i j) = (q2 : Int)) := by rw [hq2]; exact HGC.out L (f i j) hfb i j
          clear hq2
          have hgq : 0 < q ∧ q ≤ 1000000000000000000 := by
            rw [HE.out.2.2]; exact ⟨HG0.out L, Nat.le_trans (HG1.out L) hs2⟩
          have HQE := Lib.hid HE.out.2.2
          generalize f i j = x at p2 hfb HY HNo HGQ
          clear hcc G1 hli q1 hrl hlj' hv HE
          obtain ⟨n0, n1, n2, n3⟩ := netAt_cells HN.out
          have nf := HN.out.frozen 3
          by_cases hx : x = 0
          · have HN2 := HNo hx
            subst hx
            clear HY HNo
            go_wp2_with fail
            go_roundw
            case rel => exact ⟨j + 1, m, cg, a, q, L, by omega, by omega, by omega, by go_num, rfl, hsz, HN2.out, HO.out, HA.out, HN.out, HB.out⟩
            case measure => simp [intOf]; omega
          · have HY2 := HY hx
            have hx1 : (x == 0) = false := by simp [hx]
            have hx2 : (x != 0) = true := by simp [hx]
            clear HY HNo
            have hown := HO.out.alloc (.cells #[.int .i64 i, .int .i64 j, .int .i64 x] 104)
            go_wp2_with (at_builtin; refine wpList_append_lies _ rfl _ _ 23 rfl (w.heap.size + 1 + 1) 104 i0 (.agg #[.int .i64 0, .int .i64 0, .int .i64 0]) 3 24 Try.underlying23 HI.out.1 HI.out.2.1 HI.out.2.2.1 HI.out.2.2.2 rfl (by decide) _ _ _ rfl hown ⟨wr.heap.size, 0, none⟩ 1 1 (wireV ((i : Int), (j : Int), x)) rfl rfl ?c1 ?c2 (by omega) ?c3 ?c4 ?c5 _ rfl ?_)
            case c1 => first | (exact fun j u hu => hu) | exact cell_wire_new wr ((i : Int), (j : Int), x) 104
            case c2 => exact wireV_one _
            case c3 => unfold maxLen; omega
            case c4 => omega
            case c5 => first | omega | (simp only [World.size_alloc]; omega) | (simp; omega)
            intro g3 c3 w7 hown' hgrow hlies hlt7
            have hs7 := hgrow.size
            simp only [World.size_alloc] at hs7
            have H7 : w7.ownsRow (w.heap.size + 1 + 1) 104 3 (.slice (some ⟨g3, 0, none⟩) (m + 1) c3) (m + 1) (wires (L ++ [((i : Int), (j : Int), x)])) := by rw [← wires_snoc]; exact hown'
            have hnb : ∀ b, b < w.heap.size + 1 + 1 → some b ≠ (Value.slice a m cg).ownBlock := fun b hb e => by have := (hown.lt _ e.symm).1; omega
            have HA7 : w7.rowIs w.heap.size 25 4 (netAt (.int .i64 0) (.int .i64 0) (.int .i64 0) (.slice none 0 0)) := (HA.out.alloc _).of_block (hgrow.block _ (by simp only [World.size_alloc]; omega) (hnb _ (by omega)))
            have HN7 : w7.rowIs (w.heap.size + 1) 25 4 (netAt (.int .i64 M) (.int .i64 E) (.int .i64 s) (.slice a m cg)) := (HN.out.alloc _).of_block (hgrow.block _ (by simp only [World.size_alloc]; omega) (hnb _ (by omega)))
            have HB7 : Below w.heap.size w w7 := (balloc HB.out _).grown hgrow (by simp only [World.size_alloc]; omega) (fun q hq => by have := (hown.lt q hq).1; omega)
            have hg3 := (own_base H7 _ rfl).1
            simp only at hg3
            have H8 : Hid ((w7.setCell ⟨w.heap.size + 1, 3, none⟩ (.slice (some ⟨g3, 0, none⟩) (m + 1) c3)).ownsRow (w.heap.size + 1 + 1) 104 3 (.slice (some ⟨g3, 0, none⟩) (m + 1) c3) (m + 1) (wires (L ++ [((i : Int), (j : Int), x)]))) := H7.kept (grown_set' _ ⟨w.heap.size + 1, 3, none⟩ _) (.inr (by simp [Value.ownBlock]; omega))
            have HA8 : Hid ((w7.setCell ⟨w.heap.size + 1, 3, none⟩ (.slice (some ⟨g3, 0, none⟩) (m + 1) c3)).rowIs w.heap.size 25 4 (netAt (.int .i64 0) (.int .i64 0) (.int .i64 0) (.slice none 0 0))) := HA7.setOther (by show w.heap.size ≠ w.heap.size + 1; omega) _
            have HN8 := Lib.hid (netAt_set3 HN7 (.slice (some ⟨g3, 0, none⟩) (m + 1) c3))
            have HB8 : Hid (Below w.heap.size w (w7.setCell ⟨w.heap.size + 1, 3, none⟩ (.slice (some ⟨g3, 0, none⟩) (m + 1) c3))) := bset HB7 (by show _ ≤ w.heap.size + 1; omega) _
            have hs8 : w.heap.size + 1 < w7.heap.size := by omega
            have k0 := (netAt_cells HN7).2.2.2
            have k1 := HN7.frozen 3
            have hgv : gcdZ (q : Int) x = (q2 : Int) := by rw [HQE.out]; exact HGQ.out
            have KG := Lib.hid (fun w => implGcd (q : Int) x w (by omega) (by omega) (by omega) (by omega))
            rw [hgv] at KG
            clear hown hown' hgrow hlies H7 HA7 HN7 HB7 hgv hnb n0 n1 n2 n3 nf
            go_wp2_with fail
            refine (KG.out _).mono ?_
            rintro e w9 ⟨rfl, nn, rfl⟩
            go_wp2_with fail
            go_roundw
            case rel => exact ⟨j + 1, m + 1, c3, some ⟨g3, 0, none⟩, q2, L ++ [((i : Int), (j : Int), x)], by omega, by omega, hmm, by go_num, rfl, by simpa using hs8, HY2.out, H8.out, HA8.out, HN8.out, below_drewN HB8.out _⟩
            case measure => simp [intOf]; omega
        · obtain rfl : j = M := by omega
          go_wp2_with fail
          go_roundw
          case rel => exact ⟨i + 1, m, cg, a, q, L, by omega, hm, by go_num, rfl, hsz, HE.out, HO.out, HA.out, HN.out, HB.out⟩
          case measure => simp [intOf]; omega
    · obtain rfl : i = M := by omega
      have hgq : 0 < q ∧ q ≤ 1000000000000000000 := by
        rw [HE.out.2.2]; exact ⟨HG0.out L, Nat.le_trans (HG1.out L) hs2⟩
      have hqL : q = gL s (tabL f i i) := by rw [HE.out.2.2, ← HE.out.1]
      have hLT : L = tabL f i i := HE.out.1
      have hLm := HE.out.2.1
      obtain ⟨n0, n1, n2, n3⟩ := netAt_cells HN.out
      have nf0 := HN.out.frozen 2
      cases cut
      · have HV : Hid (LL = L ∧ SS = s) := ⟨by have := HLL.out; simp only [Bool.false_eq_true, if_false] at this; rw [← this, hLT], by have := HSS.out; simp only [Bool.false_eq_true, if_false] at this; exact this.symm⟩
        have HOK2 : Hid (ok = true ↔ NetOk i E s L) := by have := HOK.out; rw [HV.out.1, HV.out.2] at this; exact this
        have KN := Lib.hid (fun (w : World) rr => implNetOk i E s a m cg L ok HOK2.out w rr hLm)
        have HLM := Lib.hid hLm
        clear hLT hLm hqL HE
        have HRW := Lib.hid (ArgRow.own HO.out)
        go_wp2_with fail
        refine (KN.out _ HRW.out).mono ?_
        rintro e w9 ⟨rfl, hb9⟩
        have HB9 : Hid (Below w.heap.size w w9) := bstep HB.out hb9
        have HO9' := Lib.hid (own_below HO.out hb9)
        have HA9 := HA.out.of_block (hb9.block _ HA.out.lt)
        have HN9 := HN.out.of_block (hb9.block _ HN.out.lt)
        obtain ⟨r0, r1, r2, r3⟩ := netAt_cells HA9
        obtain ⟨t0, t1, t2, t3⟩ := netAt_cells HN9
        have f0 := HA9.frozen 0
        have f1 := HA9.frozen 1
        have f2 := HA9.frozen 2
        have f3 := HA9.frozen 3
        have hs9 : w.heap.size < w9.heap.size := HA9.lt
        have hs9' : w.heap.size + 1 < w9.heap.size := HN9.lt
        clear hb9 HA9 HN9 n0 n1 n2 n3
        cases ok
        · go_wp2_with fail
          have rs0 : (w9.cell? { block := w.heap.size, off := 0 }).isSome = true := by simp [go_sem, *]
          have rs1 : (w9.cell? { block := w.heap.size, off := 1 }).isSome = true := by simp [go_sem, *]
          have rs2 : (w9.cell? { block := w.heap.size, off := 2 }).isSome = true := by simp [go_sem, *]
          have rs3 : (w9.cell? { block := w.heap.size, off := 3 }).isSome = true := by simp [go_sem, *]
          refine bodyPost_ret (v := (.tuple #[netV 0 0 0 none 0 0, .bool false])) (by simp [results, Try.results139, go_sem, rs0, rs1, rs2, rs3]; try rfl) rfl ?_
          exact ⟨by unfold NetRes; rw [if_neg (by simp)], by have := HB9.out; (repeat' (first | (with_reducible exact Below.refl _ _) | (with_reducible assumption) | (with_reducible refine balloc ?_ _) | (with_reducible refine Below.drew ?_) | (with_reducible refine below_drewN ?_ _) | (with_reducible refine bset ?_ ?_ _) | (with_reducible refine bstep ?_ (by assumption)) | go_size))⟩
        · go_wp2_with fail
          have rs0 : (w9.cell? { block := w.heap.size, off := 0 }).isSome = true := by simp [go_sem, *]
          have rs1 : (w9.cell? { block := w.heap.size, off := 1 }).isSome = true := by simp [go_sem, *]
          have rs2 : (w9.cell? { block := w.heap.size, off := 2 }).isSome = true := by simp [go_sem, *]
          have rs3 : (w9.cell? { block := w.heap.size, off := 3 }).isSome = true := by simp [go_sem, *]
          refine bodyPost_ret (v := (.tuple #[netV i E s a m cg, .bool true])) (by simp [results, Try.results139, go_sem, rs0, rs1, rs2, rs3]; try rfl) rfl ?_
          refine ⟨?_, by have := HB9.out; (repeat' (first | (with_reducible exact Below.refl _ _) | (with_reducible assumption) | (with_reducible refine balloc ?_ _) | (with_reducible refine Below.drew ?_) | (with_reducible refine below_drewN ?_ _) | (with_reducible refine bset ?_ ?_ _) | (with_reducible refine bstep ?_ (by assumption)) | go_size))⟩
          unfold NetRes
          rw [if_pos rfl]
          rw [HV.out.1, HV.out.2, HLM.out]
          refine ⟨a, cg, rfl, ?_⟩
          refine World.ownsRow.mono (base := w.heap.size + 1 + 1) ?_ (by omega)
          have o9 := HO9'.out
          repeat' (first | with_reducible exact o9 | (with_reducible refine ownsRow_setCell_below ?_ ?_ _) | (dsimp only; omega) | omega)
      · obtain ⟨y, hy⟩ : ∃ y : Nat, s / q = y := ⟨_, rfl⟩
        have hyb : y ≤ s := by rw [← hy]; exact Nat.div_le_self s q
        have hyt : Int.tdiv (s : Int) q = y := by rw [← hy, Int.ofNat_tdiv]
        have hyd : (s : Int) / (q : Int) = (y : Int) := by rw [← hy]; exact (Int.natCast_ediv s q).symm
        clear hy
        have hyi : IntKind.i64.wrap (y : Int) = y := IntWalk.i64_in _ ⟨by omega, by omega⟩
        have hyw : wrap64 (y : Int) = y := wrap_small' ⟨by omega, by omega⟩
        have e1 : IntKind.i64.wrap (Int.tdiv (s : Int) q) = y := by rw [hyt]; exact hyi
        have e1' : wrap64 ((s : Int) / (q : Int)) = y := by rw [hyd]; exact hyw
        have e1'' : IntKind.i64.wrap ((s : Int) / (q : Int)) = y := by rw [hyd]; exact hyi
        have hq0 : ((q : Int) == 0) = false := by simp; omega
        have hq1 : ¬ (q : Int) = 0 := by omega
        have hq2 : ¬ q = 0 := by omega
        have HV : Hid (LL = divL q L ∧ SS = (y : Int)) := ⟨by have := HLL.out; simp only [if_true] at this; rw [← this, ← hLT, hqL, ← hLT], by have := HSS.out; simp only [if_true] at this; rw [← this, ← hqL]; exact hyt⟩
        have HOK2 : Hid (ok = true ↔ NetOk i E (y : Int) (divL q L)) := by have := HOK.out; rw [HV.out.1, HV.out.2] at this; exact this
        have HLM := Lib.hid hLm
        have HWF : Hid (∀ k (h : k < L.length), -1000000000000000000 ≤ L[k].2.2 ∧ L[k].2.2 ≤ 1000000000000000000) := by
          intro k h
          have hm9 := List.getElem_mem h
          have h9 : L[k] ∈ tabL f i i := by rw [← hLT]; exact hm9
          have h8 := (tabL_mem.1 h9).2.2.2.2.1
          have := HF.out (L[k].1) (L[k].2.1)
          omega
        have H0 : Hid ((wr.setCell ⟨w.heap.size + 1, 2, none⟩ (.int .i64 (y : Int))).ownsRow (w.heap.size + 1 + 1) 104 3 (.slice a m cg) m (wires (divL q (L.take 0) ++ L.drop 0))) := by
          have h9 := HO.out.kept (grown_set' _ ⟨w.heap.size + 1, 2, none⟩ (.int .i64 (y : Int))) (by
            cases hb : (Value.slice a m cg).ownBlock with
            | none => exact .inl rfl
            | some k => right; intro e; have := (HO.out.lt k hb).1; simp at e; omega)
          simpa [Hid, divL] using h9
        have H1 : Hid ((wr.setCell ⟨w.heap.size + 1, 2, none⟩ (.int .i64 (y : Int))).rowIs w.heap.size 25 4 (netAt (.int .i64 0) (.int .i64 0) (.int .i64 0) (.slice none 0 0))) := HA.out.setOther (by show w.heap.size ≠ w.heap.size + 1; omega) _
        have H2 := Lib.hid (netAt_set2 HN.out (.int .i64 (y : Int)))
        have H3 : Hid (Below w.heap.size w (wr.setCell ⟨w.heap.size + 1, 2, none⟩ (.int .i64 (y : Int)))) := bset HB.out (by show _ ≤ w.heap.size + 1; omega) _
        clear hLT hLm hqL HE HO HA HN HB hyt hyd hyi hyw
        go_wp2_with fail
        go_loopw [66] (fun u wr => ∃ k : Nat, k ≤ m ∧ u = .int .i64 k ∧ w.heap.size + 1 < wr.heap.size ∧ Hid (wr.ownsRow (w.heap.size + 1 + 1) 104 3 (.slice a m cg) m (wires (divL q (L.take k) ++ L.drop k))) ∧ Hid (wr.rowIs w.heap.size 25 4 (netAt (.int .i64 0) (.int .i64 0) (.int .i64 0) (.slice none 0 0))) ∧ Hid (wr.rowIs (w.heap.size + 1) 25 4 (netAt (.int .i64 i) (.int .i64 E) (.int .i64 (y : Int)) (.slice a m cg))) ∧ Hid (Below w.heap.size w wr)) (fun u _ => m - (intOf u).toNat)
        case atStart => exact ⟨0, by omega, rfl, by simpa using hsz, H0.out, H1.out, H2.out, H3.out⟩
        case round =>
          clear H0 H1 H2 H3 n0 n1 n2 n3 nf0 hsz
          obtain ⟨k, hk, rfl, hsz, HO, HA, HN, HB⟩ := hrel
          obtain ⟨n0, n1, n2, n3⟩ := netAt_cells HN.out
          by_cases hlk : k < m
          · obtain ⟨g, c', e⟩ := own_some HO.out (by omega)
            cases e
            have hkl : k < L.length := by rw [HLM.out]; exact hlk
            have hg := own_base HO.out _ rfl
            simp only at hg
            have hgn : ¬ g = w.heap.size + 1 := by omega
            have hst := (HO.out.stored (k * 3 + 2) (.int .i64 (Int.tdiv L[k].2.2 q))).1
            rw [divL_step q L k hkl] at hst
            have hold : wr.cell? ⟨g, k * 3 + 2, none⟩ = some (.int .i64 L[k].2.2) := by
              rw [HO.out.cellAt (k * 3 + 2) (by omega)]
              have h9 := (wires_get (divL q (L.take k) ++ L.drop k) k (by simp [divL_len]; omega)).2.2
              rw [h9, List.getElem_append_right (by rw [divL_len, List.length_take]; omega)]
              simp [divL_len, Nat.min_eq_left (Nat.le_of_lt hkl)]
            have hf := HO.out.frozenAt (k * 3 + 2)
            have hwb := HWF.out k hkl
            have e2 : IntKind.i64.wrap (Int.tdiv L[k].2.2 q) = Int.tdiv L[k].2.2 q := by
              have h1 := Int.natAbs_tdiv_le_natAbs L[k].2.2 q
              exact IntWalk.i64_in _ (by omega)
            generalize hxx : Int.tdiv L[k].2.2 q = y at hst e2
            have HXX := Lib.hid hxx
            generalize L[k].2.2 = x at hold hxx e2 hwb
            have hxy : Int.tdiv x q = y := hxx
            have HS := Lib.hid hst
            have HA2 := Lib.hid (HA.out.setOther (a := ⟨g, k * 3 + 2, none⟩) (by show w.heap.size ≠ g; omega) (.int .i64 y))
            have HN2 := Lib.hid (HN.out.setOther (a := ⟨g, k * 3 + 2, none⟩) (by show w.heap.size + 1 ≠ g; omega) (.int .i64 y))
            have HB2 : Hid (Below w.heap.size w (wr.setCell ⟨g, k * 3 + 2, none⟩ (.int .i64 y))) := bset HB.out (by show _ ≤ g; omega) _
            clear hst HXX hxx
            go_wp2_with fail
            go_roundw
            case rel => exact ⟨k + 1, by omega, by go_num, by simpa using hsz, HS.out, HA2.out, HN2.out, HB2.out⟩
            case measure => simp [intOf]; omega
          · obtain rfl : k = m := by omega
            have hfull : divL q (L.take k) ++ L.drop k = divL q L := by rw [List.take_of_length_le (by rw [HLM.out]; omega), List.drop_eq_nil_of_le (by rw [HLM.out]; omega), List.append_nil]
            have HO9 : Hid (wr.ownsRow (w.heap.size + 1 + 1) 104 3 (.slice a k cg) k (wires (divL q L))) := by show World.ownsRow _ _ _ _ _ _ _; rw [← hfull]; exact HO.out
            have HDM : Hid ((divL q L).length = k) := (divL_len q L).trans HLM.out
            have KN := Lib.hid (fun (w : World) rr => implNetOk i E (y : Int) a k cg (divL q L) ok HOK2.out w rr HDM.out)
            clear hfull HO
            have HRW := Lib.hid (ArgRow.own HO9.out)
            go_wp2_with fail
            refine (KN.out _ HRW.out).mono ?_
            rintro e w9 ⟨rfl, hb9⟩
            have HB9 : Hid (Below w.heap.size w w9) := bstep HB.out hb9
            have HO9' := Lib.hid (own_below HO9.out hb9)
            have HA9 := HA.out.of_block (hb9.block _ HA.out.lt)
            have HN9 := HN.out.of_block (hb9.block _ HN.out.lt)
            obtain ⟨r0, r1, r2, r3⟩ := netAt_cells HA9
            obtain ⟨t0, t1, t2, t3⟩ := netAt_cells HN9
            have f0 := HA9.frozen 0
            have f1 := HA9.frozen 1
            have f2 := HA9.frozen 2
            have f3 := HA9.frozen 3
            have hs9 : w.heap.size < w9.heap.size := HA9.lt
            have hs9' : w.heap.size + 1 < w9.heap.size := HN9.lt
            clear hb9 HA9 HN9 n0 n1 n2 n3
            cases ok
            · go_wp2_with fail
              have rs0 : (w9.cell? { block := w.heap.size, off := 0 }).isSome = true := by simp [go_sem, *]
              have rs1 : (w9.cell? { block := w.heap.size, off := 1 }).isSome = true := by simp [go_sem, *]
              have rs2 : (w9.cell? { block := w.heap.size, off := 2 }).isSome = true := by simp [go_sem, *]
              have rs3 : (w9.cell? { block := w.heap.size, off := 3 }).isSome = true := by simp [go_sem, *]
              refine bodyPost_ret (v := (.tuple #[netV 0 0 0 none 0 0, .bool false])) (by simp [results, Try.results139, go_sem, rs0, rs1, rs2, rs3]; try rfl) rfl ?_
              exact ⟨by unfold NetRes; rw [if_neg (by simp)], by have := HB9.out; (repeat' (first | (with_reducible exact Below.refl _ _) | (with_reducible assumption) | (with_reducible refine balloc ?_ _) | (with_reducible refine Below.drew ?_) | (with_reducible refine below_drewN ?_ _) | (with_reducible refine bset ?_ ?_ _) | (with_reducible refine bstep ?_ (by assumption)) | go_size))⟩
            · go_wp2_with fail
              have rs0 : (w9.cell? { block := w.heap.size, off := 0 }).isSome = true := by simp [go_sem, *]
              have rs1 : (w9.cell? { block := w.heap.size, off := 1 }).isSome = true := by simp [go_sem, *]
              have rs2 : (w9.cell? { block := w.heap.size, off := 2 }).isSome = true := by simp [go_sem, *]
              have rs3 : (w9.cell? { block := w.heap.size, off := 3 }).isSome = true := by simp [go_sem, *]
              refine bodyPost_ret (v := (.tuple #[netV i E (y : Int) a k cg, .bool true])) (by simp [results, Try.results139, go_sem, rs0, rs1, rs2, rs3]; try rfl) rfl ?_
              refine ⟨?_, by have := HB9.out; (repeat' (first | (with_reducible exact Below.refl _ _) | (with_reducible assumption) | (with_reducible refine balloc ?_ _) | (with_reducible refine Below.drew ?_) | (with_reducible refine below_drewN ?_ _) | (with_reducible refine bset ?_ ?_ _) | (with_reducible refine bstep ?_ (by assumption)) | go_size))⟩
              unfold NetRes
              rw [if_pos rfl]
              rw [HV.out.1, HV.out.2, HDM.out]
              refine ⟨a, cg, rfl, ?_⟩
              refine World.ownsRow.mono (base := w.heap.size + 1 + 1) ?_ (by omega)
              have o9 := HO9'.out
              repeat' (first | with_reducible exact o9 | (with_reducible refine ownsRow_setCell_below ?_ ?_ _) | (dsimp only; omega) | omega)
end Go.Proofs.Ytdmiihljepkapaa
