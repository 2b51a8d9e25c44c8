/- Wires put by the reference. -/
import Derived.Test.YtdmiihljepkapaaPutS
import Derived.Test.YtdmiihljepkapaaMarkN
namespace Go.Proofs.Ytdmiihljepkapaa
set_option linter.unusedSimpArgs false
set_option linter.unusedVariables false
open Go.RowKit

theorem ints_of_put (p q wX : Int) : wireAt (p, q, wX) 0 = .int .i64 p ∧ wireAt (p, q, wX) 1 = .int .i64 q ∧ wireAt (p, q, wX) 2 = .int .i64 wX := ⟨rfl, rfl, rfl⟩
/-- the wires as far as they have been looked at, x put in or not yet -/
def Ins (x : Wz) (M L : List Wz) (D : Bool) : Prop := (D = true ∧ L = insL x M ∧ ∃ e ∈ M, lexlt x e) ∨ (D = false ∧ L = M ∧ ∀ e ∈ M, ¬ lexlt x e)
theorem Ins.more {x e : Wz} {M L : List Wz} (h : Ins x M L true) : Ins x (M ++ [e]) (L ++ [e]) true := by
  rcases h with ⟨_, rfl, h⟩ | ⟨h, _⟩
  · obtain ⟨y, hy, hl⟩ := h
    exact .inl ⟨rfl, (insL_more ⟨y, hy, hl⟩).symm, y, by simp [hy], hl⟩
  · cases h
theorem Ins.new {x e : Wz} {M L : List Wz} (h : Ins x M L false) (he : lexlt x e) : Ins x (M ++ [e]) (L ++ [x] ++ [e]) true := by
  rcases h with ⟨h, _⟩ | ⟨_, rfl, h⟩
  · cases h
  · exact .inl ⟨rfl, (insL_new h he).symm, e, by simp, he⟩
theorem Ins.not {x e : Wz} {M L : List Wz} (h : Ins x M L false) (he : ¬ lexlt x e) : Ins x (M ++ [e]) (L ++ [e]) false := by
  rcases h with ⟨h, _⟩ | ⟨_, rfl, h⟩
  · cases h
  · refine .inr ⟨rfl, rfl, fun y hy => ?_⟩
    rcases List.mem_append.1 hy with hy | hy
    · exact h y hy
    · simp at hy; subst hy; exact he
theorem Ins.done {x : Wz} {M L : List Wz} (h : Ins x M L true) : L = insL x M := by
  rcases h with ⟨_, h, _⟩ | ⟨h, _⟩
  · exact h
  · cases h
theorem Ins.last {x : Wz} {M L : List Wz} (h : Ins x M L false) : L ++ [x] = insL x M := by
  rcases h with ⟨h, _⟩ | ⟨_, rfl, h⟩
  · cases h
  · exact (insL_none h).symm

set_option maxRecDepth 100000 in
set_option maxHeartbeats 16000000 in
theorem specPut (ar : Option Addr) (n c : Nat) (l : List Wz) (p q wt x y : Int) (add : Bool) (hpq : (p = x ∧ q = y ∧ p < q) ∨ (p = y ∧ q = x ∧ p < q)) (hw : 0 ≤ wt ∧ wt ≤ 1000000) (hb : ∀ x ∈ l, 0 ≤ x.2.2 ∧ x.2.2 ≤ 1000000) (hn : n ≤ 1000) (w : World) (hr : ArgRow w ar n c 3 (wires l)) (hl : l.length = n) :
    Calls Try.prog 147 #[.slice ar n c, .int .i64 x, .int .i64 y, .int .i64 wt, .bool add] w fun e w' => ∃ g c', e = .returned (.slice (some ⟨g, 0, none⟩) (putL l p q wt add).length c') ∧ w'.ownsRow w.heap.size 104 3 (.slice (some ⟨g, 0, none⟩) (putL l p q wt add).length c') (putL l p q wt add).length (wires (putL l p q wt add)) ∧ Below w.heap.size w w' := by
  obtain ⟨i0, hi, hz0, hz1, hz2⟩ := info_parts infoWire
  have HI := Lib.hid (And.intro hi (And.intro hz0 (And.intro hz1 hz2)))
  clear hi hz0 hz1 hz2
  have HR := Lib.hid hr
  have HL := Lib.hid hl
  have HBD := Lib.hid hb
  have HS : Hid (∀ k, 0 ≤ addS (l.take k) p q ∧ addS (l.take k) p q ≤ 1000000000) := by
    intro k
    have h1 := addS_bd (l := l.take k) (B := 1000000) (by omega) (fun x hx => hb x (List.mem_of_mem_take hx)) p q
    have h2 : (l.take k).length ≤ 1000 := by rw [List.length_take]; omega
    refine ⟨h1.1, Int.le_trans h1.2 ?_⟩
    omega
  have H0 : Hid ((w.alloc (.cells #[] 104)).ownsRow w.heap.size 104 3 (.slice (some ⟨w.heap.size, 0, none⟩) 0 0) 0 (wires [])) := World.ownsRow_lit (base := w.heap.size) (size := 3) w #[] 0 (by omega) (by simp) rfl
  have H1 : Hid (((w.alloc (.cells #[] 104)).alloc (.cells #[.int .i64 p, .int .i64 q, .int .i64 wt] 104)).rowIs (w.heap.size + 1) 104 3 (wireAt (p, q, wt))) := by
    have := wireAt_new (w.alloc (.cells #[] 104)) (p, q, wt) 104
    simpa [Hid] using this
  clear hr hl hb
  rcases hpq with ⟨rfl, rfl, hpq⟩ | ⟨rfl, rfl, hpq⟩
  all_goals
    have hqp : ¬ q < p := by omega
    have hmn1 : min p q = p := by omega
    have hmn2 : min q p = p := by omega
    have hmx1 : max p q = q := by omega
    have hmx2 : max q p = q := by omega
    go_enter Try.func147, Try.ntmps147
    go_wp2_with fail
    go_loopw [11, 29] (fun v u wr => ∃ (k m g cg : Nat) (L : List Wz) (wX : Int), k ≤ n ∧ m ≤ k ∧ u = .int .i64 k ∧ v = .slice (some ⟨g, 0, none⟩) m cg ∧ (¬ g = w.heap.size + 1) ∧ w.heap.size + 1 < wr.heap.size ∧ Hid (L = rest (l.take k) p q ∧ L.length = m) ∧ Hid (wX = if add = true then wt + addS (l.take k) p q else wt) ∧ Hid (wr.ownsRow w.heap.size 104 3 (.slice (some ⟨g, 0, none⟩) m cg) m (wires L)) ∧ Hid (wr.rowIs (w.heap.size + 1) 104 3 (wireAt (p, q, wX))) ∧ Hid (Below w.heap.size w wr)) (fun _ u _ => n - (intOf u).toNat)
    case atStart => exact ⟨0, 0, w.heap.size, 0, [], wt, by omega, by omega, rfl, rfl, by omega, by simp, ⟨rfl, rfl⟩, by simp [Hid, addS], H0.out.alloc _, H1.out, balloc (balloc (Below.refl _ _) _) _⟩
    case round =>
      clear H0 H1
      obtain ⟨k, m, g, cg, L, wX, hk, hm, rfl, rfl, hgx, hbx, HE, HX, HO, HQ, HB⟩ := hrel
      have q0 := HQ.out.cell (i := 0) (by omega)
      have q1 := HQ.out.cell (i := 1) (by omega)
      have q2 := HQ.out.cell (i := 2) (by omega)
      rw [(ints_of_put p q wX).1] at q0
      rw [(ints_of_put p q wX).2.1] at q1
      rw [(ints_of_put p q wX).2.2] at q2
      have f2 := HQ.out.frozen 2
      have hgl := (own_base HO.out _ rfl).2
      simp only at hgl
      have hsz := HB.out.size
      have hxb : 0 ≤ wX ∧ wX ≤ 1001000000 := by
        have h1 := HX.out
        have h2 := HS.out k
        split at h1 <;> omega
      by_cases hlt : k < n
      · have hli : k < l.length := by rw [HL.out]; exact hlt
        obtain ⟨b, o, rfl, hb, _⟩ := HR.out.form (by omega)
        obtain ⟨p0, p1, p2⟩ := wire_cells HR.out k hli
        have hbl : b < wr.heap.size := Nat.lt_of_lt_of_le hb HB.out.size
        rw [← HB.out.cell (p := ⟨b, _, none⟩) hb] at p0 p1 p2
        have hxk := HBD.out l[k] (List.getElem_mem _)
        by_cases hx : l[k].1 = p ∧ l[k].2.1 = q
        · have HE2 : Hid (L = rest (l.take (k + 1)) p q ∧ L.length = m) := ⟨by rw [rest_yes hli hx]; exact HE.out.1, HE.out.2⟩
          have HX2 : Hid ((if add = true then wX + l[k].2.2 else wX) = if add = true then wt + addS (l.take (k + 1)) p q else wt) := by
            show _ = _
            rw [addS_yes hli hx]
            have := HX.out
            cases add
            · simpa using this
            · simp only [if_true] at this ⊢; omega
          generalize l[k] = e at p0 p1 p2 hx hxk HX2
          obtain ⟨x0, x1, x2⟩ := e
          simp only at hx hxk HX2
          obtain ⟨rfl, rfl⟩ := hx
          clear hli
          cases add
          · have HX3 : Hid (wX = if false = true then wt + addS (l.take (k + 1)) x0 x1 else wt) := by have := HX2.out; simpa [Hid] using this
            go_wp2_with fail
            go_roundw
            case rel => exact ⟨k + 1, m, g, cg, L, wX, by omega, by omega, by go_num, rfl, hgx, by simp; omega, HE2.out, HX3.out, HO.out.alloc _, HQ.out.alloc _, balloc HB.out _⟩
            case measure => simp [intOf]; omega
          · have HX3 : Hid (wX + x2 = if true = true then wt + addS (l.take (k + 1)) x0 x1 else wt) := by have := HX2.out; simpa [Hid] using this
            have e1 : IntKind.i64.wrap (wX + x2) = wX + x2 := IntWalk.i64_in _ (by omega)
            have HO2 : Hid (((wr.setCell ⟨w.heap.size + 1, 2, none⟩ (.int .i64 (wX + x2))).alloc (.cells #[.int .i64 x0, .int .i64 x1, .int .i64 x2] 104)).ownsRow w.heap.size 104 3 (.slice (some ⟨g, 0, none⟩) m cg) m (wires L)) :=
              (HO.out.kept (grown_set _ ⟨w.heap.size + 1, 2, none⟩ _) (.inr (by simp [Value.ownBlock]; omega))).alloc _
            have HQ2 : Hid (((wr.setCell ⟨w.heap.size + 1, 2, none⟩ (.int .i64 (wX + x2))).alloc (.cells #[.int .i64 x0, .int .i64 x1, .int .i64 x2] 104)).rowIs (w.heap.size + 1) 104 3 (wireAt (x0, x1, wX + x2))) :=
              ((HQ.out.set 2 _).congr (fun i hi => by
                have : i = 0 ∨ i = 1 ∨ i = 2 := by omega
                rcases this with rfl | rfl | rfl <;> rfl)).alloc _
            have HB2 : Hid (Below w.heap.size w ((wr.setCell ⟨w.heap.size + 1, 2, none⟩ (.int .i64 (wX + x2))).alloc (.cells #[.int .i64 x0, .int .i64 x1, .int .i64 x2] 104))) := balloc (bset HB.out (by show _ ≤ w.heap.size + 1; omega) _) _
            go_wp2_with fail
            go_roundw
            case rel => exact ⟨k + 1, m, g, cg, L, wX + x2, by omega, by omega, by go_num, rfl, hgx, by simp; omega, HE2.out, HX3.out, HO2.out, HQ2.out, HB2.out⟩
            case measure => simp [intOf]; omega
        · have HE2 : Hid (L ++ [l[k]] = rest (l.take (k + 1)) p q ∧ (L ++ [l[k]]).length = m + 1) := ⟨by rw [rest_no hli hx, HE.out.1], by simp [HE.out.2]⟩
          have HX2 : Hid (wX = if add = true then wt + addS (l.take (k + 1)) p q else wt) := by
            show _ = _
            rw [addS_no hli hx]; exact HX.out
          generalize l[k] = e at p0 p1 p2 hx hxk HE2
          obtain ⟨x0, x1, x2⟩ := e
          simp only at hx hxk
          clear hli
          have hc : ((x0 == p) = false) ∨ (x0 = p ∧ (x1 == q) = false) := by
            by_cases e0 : x0 = p
            · refine .inr ⟨e0, ?_⟩
              simp; intro e1; exact hx ⟨e0, e1⟩
            · exact .inl (by simp [e0])
          clear hx
          have hown := (HO.out.alloc (.cells #[.int .i64 x0, .int .i64 x1, .int .i64 x2] 104)).alloc (.cells #[.int .i64 x0, .int .i64 x1, .int .i64 x2] 104)
          rcases hc with hc | ⟨rfl, hc⟩
          all_goals
            go_wp2_with (at_builtin; refine wpList_append_lies _ rfl _ _ 23 rfl w.heap.size 104 i0 (.agg #[.int .i64 0, .int .i64 0, .int .i64 0]) 3 24 Try.underlying23 HI.out.1 HI.out.2.1 HI.out.2.2.1 HI.out.2.2.2 rfl (by decide) _ _ _ rfl hown ⟨wr.heap.size + 1, 0, none⟩ 1 1 (wireV (x0, x1, x2)) rfl rfl ?c1a ?c2a (by omega) ?c3a ?c4a ?c5a _ rfl ?_)
            case c1a => first | (exact fun j u hu => hu) | (have := cell_wire_new (wr.alloc (.cells #[.int .i64 x0, .int .i64 x1, .int .i64 x2] 104)) (x0, x1, x2) 104; simp only [World.size_alloc] at this; exact this)
            case c2a => exact wireV_one _
            case c3a => unfold maxLen; omega
            case c4a => omega
            case c5a => first | omega | (simp only [World.size_alloc]; omega) | (simp; omega)
            intro g3 c3 w7 hown' hgrow hlies hlt7
            have H7 : Hid (w7.ownsRow w.heap.size 104 3 (.slice (some ⟨g3, 0, none⟩) (m + 1) c3) (m + 1) (wires (L ++ [(x0, x1, x2)]))) := by
              show World.ownsRow _ _ _ _ _ _ _
              rw [← wires_snoc]; exact hown'
            have HB7 : Hid (Below w.heap.size w w7) := (balloc (balloc HB.out _) _).grown hgrow (by simp; omega) (fun q hq => (hown.lt q hq).1)
            have HQ7 := Lib.hid (((HQ.out.alloc (.cells #[.int .i64 x0, .int .i64 x1, .int .i64 x2] 104)).alloc (.cells #[.int .i64 x0, .int .i64 x1, .int .i64 x2] 104)).of_block (hgrow.block _ (by simp; omega) (by simp [Value.ownBlock]; omega)))
            have hg3 : ¬ g3 = w.heap.size + 1 := by
              simp [Value.ownBlock] at hlies; omega
            have hs7 : w.heap.size + 1 < w7.heap.size := by have := hgrow.size; simp at this; omega
            clear hown' hgrow hlies
            go_wp2_with fail
            go_roundw
            case rel => exact ⟨k + 1, m + 1, g3, c3, L ++ [(x0, x1, x2)], wX, by omega, by omega, by go_num, rfl, hg3, hs7, HE2.out, HX2.out, H7.out, HQ7.out, HB7.out⟩
            case measure => simp [intOf]; omega
      · obtain rfl : k = n := by omega
        have hE : L = rest l p q ∧ L.length = m := by
          have := HE.out
          rw [List.take_of_length_le (by rw [HL.out]; omega)] at this; exact this
        have HV : Hid (putL l p q wt add = insL (p, q, wX) L) := by
          have := HX.out
          rw [List.take_of_length_le (by rw [HL.out]; omega)] at this
          show _ = _
          rw [putL, ← this, hE.1]
        have HLL := Lib.hid hE.2
        have HRL := Lib.hid (ArgRow.own HO.out)
        obtain ⟨w1, rfl⟩ : ∃ w1 : World, w1 = wr := ⟨_, rfl⟩
        have HK0 : Hid ((w1.alloc (.cells #[] 104)).ownsRow w1.heap.size 104 3 (.slice (some ⟨w1.heap.size, 0, none⟩) 0 0) 0 (wires [])) := World.ownsRow_lit (base := w1.heap.size) (size := 3) w1 #[] 0 (by omega) (by simp) rfl
        clear HE hE HX HO HQ f2
        go_wp2_with fail
        go_loopw [11, 13, 61] (fun v d u wr => ∃ (k' m' g' cg' : Nat) (D : Bool) (L' : List Wz), k' ≤ m ∧ m' ≤ 2 * k' ∧ u = .int .i64 k' ∧ d = .bool D ∧ v = .slice (some ⟨g', 0, none⟩) m' cg' ∧ Hid (Ins (p, q, wX) (L.take k') L' D ∧ L'.length = m') ∧ Hid (wr.ownsRow w1.heap.size 104 3 (.slice (some ⟨g', 0, none⟩) m' cg') m' (wires L')) ∧ Hid (Below w1.heap.size w1 wr)) (fun _ _ u _ => m - (intOf u).toNat)
        case atStart => exact ⟨0, 0, w1.heap.size, 0, false, [], by omega, by omega, rfl, rfl, rfl, ⟨.inr ⟨rfl, rfl, by simp⟩, rfl⟩, HK0.out, balloc (Below.refl _ _) _⟩
        case round =>
          clear HK0
          obtain ⟨k', m', g', cg', D, L', hk', hm', rfl, rfl, rfl, HE, HO, HC⟩ := hrel
          have hcs := HC.out.size
          have hgl' := (own_base HO.out _ rfl).2
          simp only at hgl'
          rw [← HC.out.cell (p := ⟨w.heap.size + 1, _, none⟩) hbx] at q0 q1 q2
          by_cases hlt' : k' < m
          · have hli : k' < L.length := by rw [HLL.out]; exact hlt'
            obtain ⟨p0, p1, p2⟩ := wire_cells HRL.out k' hli
            rw [Nat.zero_add] at p0 p1 p2
            rw [← HC.out.cell (p := ⟨g, _, none⟩) hgl] at p0 p1 p2
            have hgw : g < wr.heap.size := by omega
            have hbw : w.heap.size + 1 < wr.heap.size := by omega
            have hbn1 : ¬ w.heap.size + 1 = wr.heap.size := by omega
            have hbn2 : ¬ wr.heap.size = w.heap.size + 1 := by omega
            have HTK : Hid (L.take (k' + 1) = L.take k' ++ [L[k']]) := List.take_succ_eq_append_getElem hli
            generalize L[k'] = e at p0 p1 p2 HTK
            obtain ⟨x0, x1, x2⟩ := e
            clear hli
            have hown := (HO.out.alloc (.cells #[.int .i64 x0, .int .i64 x1, .int .i64 x2] 104)).alloc (.cells #[.int .i64 x0, .int .i64 x1, .int .i64 x2] 104)
            have hmore : ∀ (D2 : Bool), (Ins (p, q, wX) (L.take k' ++ [(x0, x1, x2)]) (L' ++ [(x0, x1, x2)]) D2) → Hid (Ins (p, q, wX) (L.take (k' + 1)) (L' ++ [(x0, x1, x2)]) D2 ∧ (L' ++ [(x0, x1, x2)]).length = m' + 1) := fun D2 h => ⟨by rw [HTK.out]; exact h, by simp [HE.out.2]⟩
            have hnew : lexlt (p, q, wX) (x0, x1, x2) → D = false → Hid (Ins (p, q, wX) (L.take (k' + 1)) (L' ++ [(p, q, wX)] ++ [(x0, x1, x2)]) true ∧ (L' ++ [(p, q, wX)] ++ [(x0, x1, x2)]).length = m' + 1 + 1) := fun h1 h2 => ⟨by rw [HTK.out]; exact (h2 ▸ HE.out.1).new h1, by simp [HE.out.2]⟩
            cases D
            · have hc : ((p < x0 ∧ lexlt (p, q, wX) (x0, x1, x2)) ∨ (¬ p < x0 ∧ (x0 == p) = true ∧ q < x1 ∧ lexlt (p, q, wX) (x0, x1, x2))) ∨ ((¬ p < x0 ∧ (x0 == p) = false ∧ ¬ lexlt (p, q, wX) (x0, x1, x2)) ∨ (¬ p < x0 ∧ (x0 == p) = true ∧ ¬ q < x1 ∧ ¬ lexlt (p, q, wX) (x0, x1, x2))) := by
                unfold lexlt
                simp only [beq_iff_eq, beq_eq_false_iff_ne, ne_eq]
                omega
              rcases hc with hc | hc
              · have hN : Hid (Ins (p, q, wX) (L.take (k' + 1)) (L' ++ [(p, q, wX)] ++ [(x0, x1, x2)]) true ∧ (L' ++ [(p, q, wX)] ++ [(x0, x1, x2)]).length = m' + 1 + 1) := hnew (by rcases hc with ⟨_, h⟩ | ⟨_, _, _, h⟩ <;> exact h) rfl
                have hownP := (HO.out.alloc (.cells #[.int .i64 x0, .int .i64 x1, .int .i64 x2] 104)).alloc (.cells #[.int .i64 p, .int .i64 q, .int .i64 wX] 104)
                have hc' : p < x0 ∨ (¬ p < x0 ∧ (x0 == p) = true ∧ q < x1) := by rcases hc with ⟨h, _⟩ | ⟨h1, h2, h3, _⟩; exact .inl h; exact .inr ⟨h1, h2, h3⟩
                clear hc hmore hnew hown
                rcases hc' with hc1 | ⟨hc1, hc2, hc3⟩
                all_goals
                  go_wp2_with (at_builtin; refine wpList_append_lies _ rfl _ _ 23 rfl w1.heap.size 104 i0 (.agg #[.int .i64 0, .int .i64 0, .int .i64 0]) 3 24 Try.underlying23 HI.out.1 HI.out.2.1 HI.out.2.2.1 HI.out.2.2.2 rfl (by decide) _ _ _ rfl hownP ⟨wr.heap.size + 1, 0, none⟩ 1 1 (wireV (p, q, wX)) rfl rfl ?c1b ?c2b (by omega) ?c3b ?c4b ?c5b _ rfl ?_)
                  case c1b => first | (exact fun j u hu => hu) | (have := cell_wire_new (wr.alloc (.cells #[.int .i64 x0, .int .i64 x1, .int .i64 x2] 104)) (p, q, wX) 104; simp only [World.size_alloc] at this; exact this)
                  case c2b => exact wireV_one _
                  case c3b => unfold maxLen; omega
                  case c4b => omega
                  case c5b => first | omega | (simp only [World.size_alloc]; omega) | (simp; omega)
                  intro g3 c3 w7 hown' hgrow hlies hlt7
                  have H7 : Hid (w7.ownsRow w1.heap.size 104 3 (.slice (some ⟨g3, 0, none⟩) (m' + 1) c3) (m' + 1) (wires (L' ++ [(p, q, wX)]))) := by
                    show World.ownsRow _ _ _ _ _ _ _
                    rw [← wires_snoc]; exact hown'
                  have HB7 : Hid (Below w1.heap.size w1 w7) := ((HC.out.alloc (by omega) _).alloc (by simp; omega) _).grown hgrow (by simp; omega) (fun q hq => (hownP.lt q hq).1)
                  -- the wire's own box is as it was
                  have hbe : w7.heap[wr.heap.size]? = some (.cells #[.int .i64 x0, .int .i64 x1, .int .i64 x2] 104) := by
                    rw [hgrow.block _ (by simp only [World.size_alloc]; omega) (by simp [Value.ownBlock]; omega), Below.heap_alloc _ _ _ (by simp only [World.size_alloc]; omega)]
                    exact heap_alloc_new _ _
                  have hr7 : w7.rowIs wr.heap.size 104 3 (wireAt (x0, x1, x2)) := (wireAt_new wr (x0, x1, x2) 104).of_block (hbe.trans (heap_alloc_new _ _).symm)
                  have d0 := hr7.cell (i := 0) (by omega)
                  have d1 := hr7.cell (i := 1) (by omega)
                  have d2 := hr7.cell (i := 2) (by omega)
                  rw [(ints_of_put x0 x1 x2).1] at d0
                  rw [(ints_of_put x0 x1 x2).2.1] at d1
                  rw [(ints_of_put x0 x1 x2).2.2] at d2
                  have hs7 : wr.heap.size + 1 + 1 ≤ w7.heap.size := by have := hgrow.size; simp only [World.size_alloc] at this; exact this
                  have hownE := H7.out.alloc (.cells #[.int .i64 x0, .int .i64 x1, .int .i64 x2] 104)
                  clear hown' hgrow hlies hbe hr7
                  go_wp2_with (at_builtin; refine wpList_append_lies _ rfl _ _ 23 rfl w1.heap.size 104 i0 (.agg #[.int .i64 0, .int .i64 0, .int .i64 0]) 3 24 Try.underlying23 HI.out.1 HI.out.2.1 HI.out.2.2.1 HI.out.2.2.2 rfl (by decide) _ _ _ rfl hownE ⟨w7.heap.size, 0, none⟩ 1 1 (wireV (x0, x1, x2)) rfl rfl ?c1c ?c2c (by omega) ?c3c ?c4c ?c5c _ rfl ?_)
                  case c1c => first | (exact fun j u hu => hu) | (have := cell_wire_new w7 (x0, x1, x2) 104; simp only [World.size_alloc] at this; exact this)
                  case c2c => exact wireV_one _
                  case c3c => unfold maxLen; omega
                  case c4c => omega
                  case c5c => simp; have := HB7.out.size; omega
                  intro g4 c4 w8 hown8 hgrow8 hlies8 hlt8
                  have H8 : Hid (w8.ownsRow w1.heap.size 104 3 (.slice (some ⟨g4, 0, none⟩) (m' + 1 + 1) c4) (m' + 1 + 1) (wires (L' ++ [(p, q, wX)] ++ [(x0, x1, x2)]))) := by
                    show World.ownsRow _ _ _ _ _ _ _
                    rw [← wires_snoc]; exact hown8
                  have HB8 : Hid (Below w1.heap.size w1 w8) := (HB7.out.alloc HB7.out.size _).grown hgrow8 (by simp; have := HB7.out.size; omega) (fun q hq => (hownE.lt q hq).1)
                  clear hown8 hgrow8 hlies8
                  go_wp2_with fail
                  go_roundw
                  case rel => exact ⟨k' + 1, m' + 1 + 1, g4, c4, true, _, by omega, by omega, by go_num, rfl, rfl, hN.out, H8.out, HB8.out⟩
                  case measure => simp [intOf]; omega
              · have hN : Hid (Ins (p, q, wX) (L.take (k' + 1)) (L' ++ [(x0, x1, x2)]) false ∧ (L' ++ [(x0, x1, x2)]).length = m' + 1) := hmore false (HE.out.1.not (by rcases hc with ⟨_, _, h⟩ | ⟨_, _, _, h⟩ <;> exact h))
                have hc' : (¬ p < x0 ∧ (x0 == p) = false) ∨ (¬ p < x0 ∧ (x0 == p) = true ∧ ¬ q < x1) := by rcases hc with ⟨h1, h2, _⟩ | ⟨h1, h2, h3, _⟩; exact .inl ⟨h1, h2⟩; exact .inr ⟨h1, h2, h3⟩
                clear hc hmore hnew
                rcases hc' with ⟨hc1, hc2⟩ | ⟨hc1, hc2, hc3⟩
                all_goals
                  go_wp2_with (at_builtin; refine wpList_append_lies _ rfl _ _ 23 rfl w1.heap.size 104 i0 (.agg #[.int .i64 0, .int .i64 0, .int .i64 0]) 3 24 Try.underlying23 HI.out.1 HI.out.2.1 HI.out.2.2.1 HI.out.2.2.2 rfl (by decide) _ _ _ rfl hown ⟨wr.heap.size + 1, 0, none⟩ 1 1 (wireV (x0, x1, x2)) rfl rfl ?c1d ?c2d (by omega) ?c3d ?c4d ?c5d _ rfl ?_)
                  case c1d => first | (exact fun j u hu => hu) | (have := cell_wire_new (wr.alloc (.cells #[.int .i64 x0, .int .i64 x1, .int .i64 x2] 104)) (x0, x1, x2) 104; simp only [World.size_alloc] at this; exact this)
                  case c2d => exact wireV_one _
                  case c3d => unfold maxLen; omega
                  case c4d => omega
                  case c5d => first | omega | (simp only [World.size_alloc]; omega) | (simp; omega)
                  intro g3 c3 w7 hown' hgrow hlies hlt7
                  have H7 : Hid (w7.ownsRow w1.heap.size 104 3 (.slice (some ⟨g3, 0, none⟩) (m' + 1) c3) (m' + 1) (wires (L' ++ [(x0, x1, x2)]))) := by
                    show World.ownsRow _ _ _ _ _ _ _
                    rw [← wires_snoc]; exact hown'
                  have HB7 : Hid (Below w1.heap.size w1 w7) := ((HC.out.alloc (by omega) _).alloc (by simp; omega) _).grown hgrow (by simp; omega) (fun q hq => (hown.lt q hq).1)
                  clear hown' hgrow hlies
                  go_wp2_with fail
                  go_roundw
                  case rel => exact ⟨k' + 1, m' + 1, g3, c3, false, _, by omega, by omega, by go_num, rfl, rfl, hN.out, H7.out, HB7.out⟩
                  case measure => simp [intOf]; omega
            · have hN : Hid (Ins (p, q, wX) (L.take (k' + 1)) (L' ++ [(x0, x1, x2)]) true ∧ (L' ++ [(x0, x1, x2)]).length = m' + 1) := hmore true HE.out.1.more
              clear hmore hnew
              go_wp2_with (at_builtin; refine wpList_append_lies _ rfl _ _ 23 rfl w1.heap.size 104 i0 (.agg #[.int .i64 0, .int .i64 0, .int .i64 0]) 3 24 Try.underlying23 HI.out.1 HI.out.2.1 HI.out.2.2.1 HI.out.2.2.2 rfl (by decide) _ _ _ rfl hown ⟨wr.heap.size + 1, 0, none⟩ 1 1 (wireV (x0, x1, x2)) rfl rfl ?c1e ?c2e (by omega) ?c3e ?c4e ?c5e _ rfl ?_)
              case c1e => first | (exact fun j u hu => hu) | (have := cell_wire_new (wr.alloc (.cells #[.int .i64 x0, .int .i64 x1, .int .i64 x2] 104)) (x0, x1, x2) 104; simp only [World.size_alloc] at this; exact this)
              case c2e => exact wireV_one _
              case c3e => unfold maxLen; omega
              case c4e => omega
              case c5e => first | omega | (simp only [World.size_alloc]; omega) | (simp; omega)
              intro g3 c3 w7 hown' hgrow hlies hlt7
              have H7 : Hid (w7.ownsRow w1.heap.size 104 3 (.slice (some ⟨g3, 0, none⟩) (m' + 1) c3) (m' + 1) (wires (L' ++ [(x0, x1, x2)]))) := by
                show World.ownsRow _ _ _ _ _ _ _
                rw [← wires_snoc]; exact hown'
              have HB7 : Hid (Below w1.heap.size w1 w7) := ((HC.out.alloc (by omega) _).alloc (by simp; omega) _).grown hgrow (by simp; omega) (fun q hq => (hown.lt q hq).1)
              clear hown' hgrow hlies
              go_wp2_with fail
              go_roundw
              case rel => exact ⟨k' + 1, m' + 1, g3, c3, true, _, by omega, by omega, by go_num, rfl, rfl, hN.out, H7.out, HB7.out⟩
              case measure => simp [intOf]; omega
          · obtain rfl : k' = m := by omega
            have hT : L.take k' = L := List.take_of_length_le (by rw [HLL.out]; omega)
            cases D
            · have hN : Hid (putL l p q wt add = L' ++ [(p, q, wX)] ∧ L'.length = m') := ⟨by rw [HV.out]; have := HE.out.1; rw [hT] at this; exact this.last.symm, HE.out.2⟩
              have hownP := HO.out.alloc (.cells #[.int .i64 p, .int .i64 q, .int .i64 wX] 104)
              clear hT
              go_wp2_with (at_builtin; refine wpList_append_lies _ rfl _ _ 23 rfl w1.heap.size 104 i0 (.agg #[.int .i64 0, .int .i64 0, .int .i64 0]) 3 24 Try.underlying23 HI.out.1 HI.out.2.1 HI.out.2.2.1 HI.out.2.2.2 rfl (by decide) _ _ _ rfl hownP ⟨wr.heap.size, 0, none⟩ 1 1 (wireV (p, q, wX)) rfl rfl ?c1f ?c2f (by omega) ?c3f ?c4f ?c5f _ rfl ?_)
              case c1f => first | (exact fun j u hu => hu) | (have := cell_wire_new wr (p, q, wX) 104; simp only [World.size_alloc] at this; exact this)
              case c2f => exact wireV_one _
              case c3f => unfold maxLen; omega
              case c4f => omega
              case c5f => first | omega | (simp only [World.size_alloc]; omega) | (simp; omega)
              intro g3 c3 w7 hown' hgrow hlies hlt7
              have H7 : Hid (w7.ownsRow w1.heap.size 104 3 (.slice (some ⟨g3, 0, none⟩) (m' + 1) c3) (m' + 1) (wires (L' ++ [(p, q, wX)]))) := by
                show World.ownsRow _ _ _ _ _ _ _
                rw [← wires_snoc]; exact hown'
              have HB7 : Hid (Below w1.heap.size w1 w7) := (HC.out.alloc hcs _).grown hgrow (by simp; omega) (fun q hq => (hownP.lt q hq).1)
              clear hown' hgrow hlies hownP
              go_wp2_with fail
              go_ret
              have e1 : (putL l p q wt add).length = m' + 1 := by rw [hN.out.1]; simp [hN.out.2]
              refine ⟨g3, c3, by rw [e1]; rfl, ?_, HB.out.trans (HB7.out.mono hsz)⟩
              rw [e1, hN.out.1]; exact H7.out.mono hsz
            · have hN : Hid (putL l p q wt add = L' ∧ L'.length = m') := ⟨by rw [HV.out]; have := HE.out.1; rw [hT] at this; exact this.done.symm, HE.out.2⟩
              clear hT
              go_wp2_with fail
              go_ret
              have e1 : (putL l p q wt add).length = m' := by rw [hN.out.1]; exact hN.out.2
              refine ⟨g', cg', by rw [e1]; rfl, ?_, HB.out.trans (HC.out.mono hsz)⟩
              rw [e1, hN.out.1]; exact HO.out.mono hsz
end Go.Proofs.Ytdmiihljepkapaa
