/- Wires put by the reference. -/
import Derived.Test.YtjchindjoailbaaG13
import Derived.Test.YtjchindjoailbaaG18
import Derived.Test.YtjchindjoailbaaG20
namespace Go.Proofs.Ytjchindjoailbaa
set_option linter.unusedSimpArgs false
set_option linter.unusedVariables false
open Go.RowKit

theorem ints_of_put (p q wX : Int) : wireAt (p, q, wX) 0 = .int .i64 p ∧ wireAt (p, q, wX) 1 = .int .i64 q ∧ wireAt (p, q, wX) 2 = .int .i64 wX := ⟨rfl, rfl, rfl⟩
/-- the wires as far as they have been looked at, x put in or not yet -/
def Ins (x : Wz) (M L : List Wz) (D : Bool) : Prop := (D = true ∧ L = insL x M ∧ ∃ e ∈ M, lexlt x e) ∨ (D = false ∧ L = M ∧ ∀ e ∈ M, ¬ lexlt x e)
theorem Ins.more {x e : Wz} {M L : List Wz} (h : Ins x M L true) : Ins x (M ++ [e]) (L ++ [e]) true := by
  rcases h with ⟨_, rfl, h⟩ | ⟨h, _⟩
  · obtain ⟨y, hy, hl⟩ := h
    exact .inl ⟨rfl, (insL_more ⟨y, hy, hl⟩).symm, y, by simp [hy], hl⟩
  · cases h
theorem Ins.new {x e : Wz} {M L : List Wz} (h : Ins x M L false) (he : lexlt x e) : Ins x (M ++ [e]) (L ++ [x] ++ [e]) true := by
  rcases h with ⟨h, _⟩ | ⟨_, rfl, h⟩
  · cases h
  · exact .inl ⟨rfl, (insL_new h he).symm, e, by simp, he⟩
theorem Ins.not {x e : Wz} {M L : List Wz} (h : Ins x M L false) (he : ¬ lexlt x e) : Ins x (M ++ [e]) (L ++ [e]) false := by
  rcases h with ⟨h, _⟩ | ⟨_, rfl, h⟩
  · cases h
  · refine .inr ⟨rfl, rfl, fun y hy => ?_⟩
    rcases List.mem_append.1 hy with hy | hy
    · exact h y hy
    · simp at hy; subst hy; exact he
theorem Ins.done {x : Wz} {M L : List Wz} (h : Ins x M L true) : L = insL x M := by
  rcases h with ⟨_, h, _⟩ | ⟨h, _⟩
  · exact h
  · cases h
theorem Ins.last {x : Wz} {M L : List Wz} (h : Ins x M L false) : L ++ [x] = insL x M := by
  rcases h with ⟨h, _⟩ | ⟨_, rfl, h⟩
  · cases h
  · exact (insL_none h).symm

set_option maxRecDepth 100000 in
set_option maxHeartbeats 16000000 in
theorem specPut (ar : Option Addr) (n c : Nat) (l : List Wz) (p q wt x y : Int) (add : Bool) (hpq : (p = x ∧ q = y ∧ p < q) ∨ (p = y ∧ q = x ∧ p < q)) (hw : 0 ≤ wt ∧ wt ≤ 1000000) (hb : ∀ x ∈ l, 0 ≤ x.2.2 ∧ x.2.2 ≤ 1000000) (hn : n ≤ 1000) (w : World) (hr : ArgRow w ar n c 3 (wires l)) (hl : l.length = n) :
    Calls Try.prog 123 #[.slice ar n c, .int .i64 x, .int .i64 y, .int .i64 wt, .bool add] w fun e w' => ∃ g c', e = .returned (.slice (some ⟨g, 0, none⟩) (putL l p q wt add).length c') ∧ w'.ownsRow w.heap.size 102 3 (.slice (some ⟨g, 0, none⟩) (putL l p q wt add).length c') (putL l p q wt add).length (wires (putL l p q wt add)) ∧ Below w.heap.size w w' := by
  obtain ⟨i0, hi, hz0, hz1, hz2⟩ := info_parts infoWire
  have HI := Lib.hid (And.intro hi (And.intro hz0 (And.intro hz1 hz2)))
  clear hi hz0 hz1 hz2
  have HR := Lib.hid hr
  have HL := Lib.hid hl
  have HBD := Lib.hid hb
  have HS : Hid (∀ k, 0 ≤ addS (l.take k) p q ∧ addS (l.take k) p q ≤ 1000000000) := by
    intro k
    have h1 := addS_bd (l := l.take k) (B := 1000000) (by omega) (fun x hx => hb x (List.mem_of_mem_take hx)) p q
    have h2 : (l.take k).length ≤ 1000 := by rw [List.length_take]; omega
    refine ⟨h1.1, Int.le_trans h1.2 ?_⟩
    omega
  have H0 : Hid ((w.alloc (.cells #[] 102)).ownsRow w.heap.size 102 3 (.slice (some ⟨w.heap.size, 0, none⟩) 0 0) 0 (wires [])) := World.ownsRow_lit (base := w.heap.size) (size := 3) w #[] 0 (by omega) (by simp) rfl
  have H1 : Hid (((w.alloc (.cells #[] 102)).alloc (.cells #[.int .i64 p, .int .i64 q, .int .i64 wt] 102)).rowIs (w.heap.size + 1) 102 3 (wireAt (p, q, wt))) := by
    have := wireAt_new (w.alloc (.cells #[] 102)) (p, q, wt) 102
    simpa [Hid] using this
  clear hr hl hb
  rcases hpq with ⟨rfl, rfl, hpq⟩ | ⟨rfl, rfl, hpq⟩
  all_goals
    have hqp : ¬ q < p := by omega
    have hmn1 : min p q = p := by omega
    have hmn2 : min q p = p := by omega
    have hmx1 : max p q = q := by omega
    have hmx2 : max q p = q := by omega
    go_enter Try.func123, Try.ntmps123
    go_wp2_with fail
    go_loopw [11, 29] (fun v u wr => ∃ (k m g cg : Nat) (L : List Wz) (wX : Int), k ≤ n ∧ m ≤ k ∧ u = .int .i64 k ∧ v = .slice (some ⟨g, 0, none⟩) m cg ∧ (¬ g = w.heap.size + 1) ∧ w.heap.size + 1 < wr.heap.size ∧ Hid (L = rest (l.take k) p q ∧ L.length = m) ∧ Hid (wX = if add = true then wt + addS (l.take k) p q else wt) ∧ Hid (wr.ownsRow w.heap.size 102 3 (.slice (some ⟨g, 0, none⟩) m cg) m (wires L)) ∧ Hid (wr.rowIs (w.heap.size + 1) 102 3 (wireAt (p, q, wX))) ∧ Hid (Below w.heap.size w wr)) (fun _ u _ => n - (intOf u).toNat)
    case atStart => exact ⟨0, 0, w.heap.size, 0, [], wt, by omega, by omega, rfl, rfl, by omega, by simp, ⟨rfl, rfl⟩, by simp [Hid, addS], H0.out.alloc _, H1.out, balloc (balloc (Below.refl _ _) _) _⟩
    case round =>
      clear H0 H1
      obtain ⟨k, m, g, cg, L, wX, hk, hm, rfl, rfl, hgx, hbx, HE, HX, HO, HQ, HB⟩ := hrel
      have q0 := HQ.out.cell (i := 0) (by omega)
      have q1 := HQ.out.cell (i := 1) (by omega)
      have q2 := HQ.out.cell (i := 2) (by omega)
      rw [(ints_of_put p q wX).1] at q0
      rw [(ints_of_put p q wX).2.1] at q1
      rw [(ints_of_put p q wX).2.2] at q2
      have f2 := HQ.out.frozen 2
      have hgl := (own_base HO.out _ rfl).2
      simp only at hgl
      have hsz := HB.out.size
      have hxb : 0 ≤ wX ∧ wX ≤ 1001000000 := by
        have h1 := HX.out
        have h2 := HS.out k
        split at h1 <;> omega
      by_cases hlt : k < n
      · have hli : k < l.length := by rw [HL.out]; exact hlt
        obtain ⟨b, o, rfl, hb, _⟩ := HR.out.form (by omega)
        obtain ⟨p0, p1, p2⟩ := wire_cells HR.out k hli
        have hbl : b < wr.heap.size := Nat.lt_of_lt_of_le hb HB.out.size
        rw [← HB.out.cell (p := ⟨b, _, none⟩) hb] at p0 p1 p2
        have hxk := HBD.out l[k] (List.getElem_mem _)
        by_cases hx : l[k].1 = p ∧ l[k].2.1 = q
        · have HE2 : Hid (L = rest (l.take (k + 1)) p q ∧ L.length = m) := ⟨by rw [rest_yes hli hx]; exact HE.out.1, HE.out.2⟩
          have HX2 : Hid ((if add = true then wX + l[k].2.2 else wX) = if add = true then wt + addS (l.take (k + 1)) p q else wt) := by
            show _ = _
            rw [addS_yes hli hx]
            have := HX.out
            cases add
            · simpa using this
            · simp only [if_true] at this ⊢; omega
          generalize l[k] = e at p0 p1 p2 hx hxk HX2
          obtain ⟨x0, x1, x2⟩ := e
          simp only at hx hxk HX2
          obtain ⟨rfl, rfl⟩ := hx
          clear hli
          cases add
          · have HX3 : Hid (wX = if false = true then wt + addS (l.take (k + 1)) x0 x1 else wt) := by have := HX2.out; simpa [Hid] using this
            go_wp2_with fail
            go_roundw
            case rel => exact ⟨k + 1, m, g, cg, L, wX, by omega, by omega, by go_num, rfl, hgx, by simp; omega, HE2.out, HX3.out, HO.out.alloc _, HQ.out.alloc _, balloc HB.out _⟩
            case measure => simp [intOf]; omega
          · have HX3 : Hid (wX + x2 = if true = true then wt + addS (l.take (k + 1)) x0 x1 else wt) := by have := HX2.out; simpa [Hid] using this
            have e1 : IntKind.i64.wrap (wX + x2) = wX + x2 := IntWalk.i64_in _ (by omega)
            have HO2 : Hid (((wr.setCell ⟨w.heap.size + 1, 2, none⟩ (.int .i64 (wX + x2))).alloc (.cells #[.int .i64 x0, .int .i64 x1, .int .i64 x2] 102)).ownsRow w.heap.size 102 3 (.slice (some ⟨g, 0, none⟩) m cg) m (wires L)) :=
              (HO.out.kept (grown_set _ ⟨w.heap.size + 1, 2, none⟩ _) (.inr (by simp [Value.ownBlock]; omega))).alloc _
            have HQ2 : Hid (((wr.setCell ⟨w.heap.size + 1, 2, none⟩ (.int .i64 (wX + x2))).alloc (.cells #[.int .i64 x0, .int .i64 x1, .int .i64 x2] 102)).rowIs (w.heap.size + 1) 102 3 (wireAt (x0, x1, wX + x2))) :=
              ((HQ.out.set 2 _).congr (fun i hi => by
                have : i = 0 ∨ i = 1 ∨ i = 2 := by omega
                rcases this with rfl | rfl | rfl <;> rfl)).alloc _
            have HB2 : Hid (Below w.heap.size w ((wr.setCell ⟨w.heap.size + 1, 2, none⟩ (.int .i64 (wX + x2))).alloc (.cells #[.int .i64 x0, .int .i64 x1, .int .i64 x2] 102))) := balloc (bset HB.out (by show _ ≤ w.heap.size + 1; omega) _) _
            go_wp2_with fail
            go_roundw
            case rel => exact ⟨k + 1, m, g, cg, L, wX + x2, by omega, by omega, by go_num, rfl, hgx, by simp; omega, HE2.out, HX3.out, HO2.out, HQ2.out, HB2.out⟩
            case measure => simp [intOf]; omega
        · have HE2 : Hid (L ++ [l[k]] = rest (l.take (k + 1)) p q ∧ (L ++ [l[k]]).length = m + 1) := ⟨by rw [rest_no hli hx, HE.out.1], by simp [HE.out.2]⟩
          have HX2 : Hid (wX = if add = true then wt + addS (l.take (k + 1)) p q else wt) := by
            show _ = _
            rw [addS_no hli hx]; exact HX.out
          generalize l[k] = e at p0 p1 p2 hx hxk HE2
          obtain ⟨x0, x1, x2⟩ := e
          simp only at hx hxk
          clear hli
          have hc : ((x0 == p) = false) ∨ (x0 = p ∧ (x1 == q) = false) := by
            by_cases e0 : x0 = p
            · refine .inr ⟨e0, ?_⟩
              simp; intro e1; exact hx ⟨e0, e1⟩
            · exact .inl (by simp [e0])
          clear hx
          have hown := (HO.out.alloc (.cells #[.int .i64 x0, .int .i64 x1, .int .i64 x2] 102)).alloc (.cells #[.int .i64 x0, .int .i64 x1, .int .i64 x2] 102)
          rcases hc with hc | ⟨rfl, hc⟩
          all_goals
            go_wp2_with (at_builtin; refine wpList_append_lies _ rfl _ _ 23 rfl w.heap.size 102 i0 (.agg #[.int .i64 0, .int .i64 0, .int .i64 0]) 3 24 Try.underlying23 HI.out.1 HI.out.2.1 HI.out.2.2.1 HI.out.2.2.2 rfl (by decide) _ _ _ rfl hown ⟨wr.heap.size + 1, 0, none⟩ 1 1 (wireV (x0, x1, x2)) rfl rfl ?c1a ?c2a (by omega) ?c3a ?c4a ?c5a _ rfl ?_)
            case c1a => first | (exact fun j u hu => hu) | (have := cell_wire_new (wr.alloc (.cells #[.int .i64 x0, .int .i64 x1, .int .i64 x2] 102)) (x0, x1, x2) 102; simp only [World.size_alloc] at this; exact this)
            case c2a => exact wireV_one _
            case c3a => unfold maxLen; omega
            case c4a => omega
            case c5a => first | omega | (simp only [World.size_alloc]; omega) | (simp; omega)
            intro g3 c3 w7 hown' hgrow hlies hlt7
            have H7 : Hid (w7.ownsRow w.heap.size 102 3 (.slice (some ⟨g3, 0, none⟩) (m + 1) c3) (m + 1) (wires (L ++ [(x0, x1, x2)]))) := by
              show World.ownsRow _ _ _ _ _ _ _
              rw [← wires_snoc]; exact hown'
            have HB7 : Hid (Below w.heap.size w w7) := (balloc (balloc HB.out _) _).grown hgrow (by simp; omega) (fun q hq => (hown.lt q hq).1)
            have HQ7 := Lib.hid (((HQ.out.alloc (.cells #[.int .i64 x0, .int .i64 x1, .int .i64 x2] 102)).alloc (.cells #[.int .i64 x0, .int .i64 x1, .int .i64 x2] 102)).of_block (hgrow.block _ (by simp; omega) (by simp [Value.ownBlock]; omega)))
            have hg3 : ¬ g3 = w.heap.size + 1 := by
              simp [Value.ownBlock] at hlies; omega
            have hs7 : w.heap.size + 1 < w7.heap.size := by have := hgrow.size; simp at this; omega
            clear hown' hgrow hlies
            go_wp2_with fail
            go_roundw
            case rel => exact ⟨k + 1, m + 1, g3, c3, L ++ [(x0, x1, x2)], wX, by omega, by omega, by go_num, rfl, hg3, hs7, HE2.out, HX2.out, H7.out, HQ7.out, HB7.out⟩
            case measure => simp [intOf]; omega
      · obtain rfl : k = n := by omega
        have hE : L = rest l p q ∧ L.length = m := by
          have := HE.out
          rw [List.take_of_length_le (by rw [HL.out]; omega)] at this; exact this
        have HV : Hid (putL l p q wt add = insL (p, q, wX) L) := by
          have := HX.out
          rw [List.take_of_length_le (by rw [HL.out]; omega)] at this
          show _ = _
          rw [putL, ← this, hE.1]
        have HLL := Lib.hid hE.2
        have HRL := Lib.hid (ArgRow.own HO.out)
        obtain ⟨w1, rfl⟩ : ∃ w1 : World, w1 = wr := ⟨_, rfl⟩
        have HK0 : Hid ((w1.alloc (.cells #[] 102)).ownsRow w1.heap.size 102 3 (.slice (some ⟨w1.heap.size, 0, none⟩) 0 0) 0 (wires [])) := World.ownsRow_lit (base := w1.heap.size) (size := 3) w1 #[] 0 (by omega) (by simp) rfl
        clear HE hE HX HO HQ f2
        go_wp2_with fail
        go_loopw [11, 13, 61] (fun v d u wr => ∃ (k' m' g' cg' : Nat) (D : Bool) (L' : List Wz), k' ≤ m ∧ m' ≤ 2 * k' ∧ u = .int .i64 k' ∧ d = .bool D ∧ v = .slice (some ⟨g', 0, none⟩) m' cg' ∧ Hid (Ins (p, q, wX) (L.take k') L' D ∧ L'.length = m') ∧ Hid (wr.ownsRow w1.heap.size 102 3 (.slice (some ⟨g', 0, none⟩) m' cg') m' (wires L')) ∧ Hid (Below w1.heap.size w1 wr)) (fun _ _ u _ => m - (intOf u).toNat)
        case atStart => exact ⟨0, 0, w1.heap.size, 0, false, [], by omega, by omega, rfl, rfl, rfl, ⟨.inr ⟨rfl, rfl, by simp⟩, rfl⟩, HK0.out, balloc (Below.refl _ _) _⟩
        case round =>
          clear HK0
          obtain ⟨k', m', g', cg', D, L', hk', hm', rfl, rfl, rfl, HE, HO, HC⟩ := hrel
          have hcs := HC.out.size
          have hgl' := (own_base HO.out _ rfl).2
          simp only at hgl'
          rw [← HC.out.cell (p := ⟨w.heap.size + 1, _, none⟩) hbx] at q0 q1 q2
          by_cases hlt' : k' < m
          · have hli : k' < L.length := by rw [HLL.out]; exact hlt'
            obtain ⟨p0, p1, p2⟩ := wire_cells HRL.out k' hli
            rw [Nat.zero_add] at p0 p1 p2
            rw [← HC.out.cell (p := ⟨g, _, none⟩) hgl] at p0 p1 p2
            have hgw : g < wr.heap.size := by omega
            have hbw : w.heap.size + 1 < wr.heap.size := by omega
            have hbn1 : ¬ w.heap.size + 1 = wr.heap.size := by omega
            have hbn2 : ¬ wr.heap.size = w.heap.size + 1 := by omega
            have HTK : Hid (L.take (k' + 1) = L.take k' ++ [L[k']]) := List.take_succ_eq_append_getElem hli
            generalize L[k'] = e at p0 p1 p2 HTK
            obtain ⟨x0, x1, x2⟩ := e
            clear hli
            have hown := (HO.out.alloc (.cells #[.int .i64 x0, .int .i64 x1, .int .i64 x2] 102)).alloc (.cells #[.int .i64 x0, .int .i64 x1, .int .i64 x2] 102)
            have hmore : ∀ (D2 : Bool), (Ins (p, q, wX) (L.take k' ++ [(x0, x1, x2)]) (L' ++ [(x0, x1, x2)]) D2) → Hid (Ins (p, q, wX) (L.take (k' + 1)) (L' ++ [(x0, x1, x2)]) D2 ∧ (L' ++ [(x0, x1, x2)]).length = m' + 1) := fun D2 h => ⟨by rw [HTK.out]; exact h, by simp [HE.out.2]⟩
            have hnew : lexlt (p, q, wX) (x0, x1, x2) → D = false → Hid (Ins (p, q, wX) (L.take (k' + 1)) (L' ++ [(p, q, wX)] ++ [(x0, x1, x2)]) true ∧ (L' ++ [(p, q, wX)] ++ [(x0, x1, x2)]).length = m' + 1 + 1) := fun h1 h2 => ⟨by rw [HTK.out]; exact (h2 ▸ HE.out.1).new h1, by simp [HE.out.2]⟩
            cases D
            · have hc : ((p < x0 ∧ lexlt (p, q, wX) (x0, x1, x2)) ∨ (¬ p < x0 ∧ (x0 == p) = true ∧ q < x1 ∧ lexlt (p, q, wX) (x0, x1, x2))) ∨ ((¬ p < x0 ∧ (x0 == p) = false ∧ ¬ lexlt (p, q, wX) (x0, x1, x2)) ∨ (¬ p < x0 ∧ (x0 == p) = true ∧ ¬ q < x1 ∧ ¬ lexlt (p, q, wX) (x0, x1, x2))) := by
                unfold lexlt
                simp only [beq_iff_eq, beq_eq_false_iff_ne, ne_eq]
                omega
              rcases hc with hc | hc
              · have hN : Hid (Ins (p, q, wX) (L.take (k' + 1)) (L' ++ [(p, q, wX)] ++ [(x0, x1, x2)]) true ∧ (L' ++ [(p, q, wX)] ++ [(x0, x1, x2)]).length = m' + 1 + 1) := hnew (by rcases hc with ⟨_, h⟩ | ⟨_, _, _, h⟩ <;> exact h) rfl
                have hownP := (HO.out.alloc (.cells #[.int .i64 x0, .int .i64 x1, .int .i64 x2] 102)).alloc (.cells #[.int .i64 p, .int .i64 q, .int .i64 wX] 102)
                have hc' : p < x0 ∨ (¬ p < x0 ∧ (x0 == p) = true ∧ q < x1) := by rcases hc with ⟨h, _⟩ | ⟨h1, h2, h3, _⟩; exact .inl h; exact .inr ⟨h1, h2, h3⟩
                clear hc hmore hnew hown
                rcases hc' with hc1 | ⟨hc1, hc2, hc3⟩
                all_goals
                  go_wp2_with (at_builtin; refine wpList_append_lies _ rfl _ _ 23 rfl w1.heap.size 102 i0 (.agg #[.int .i64 0, .int .i64 0, .int .i64 0]) 3 24 Try.underlying23 HI.out.1 HI.out.2.1 HI.out.2.2.1 HI.out.2.2.2 rfl (by decide) _ _ _ rfl hownP ⟨wr.heap.size + 1, 0, none⟩ 1 1 (wireV (p, q, wX)) rfl rfl ?c1b ?c2b (by omega) ?c3b ?c4b ?c5b _ rfl ?_)
                  case c1b => first | (exact fun j u hu => hu) | (have := cell_wire_new (wr.alloc (.cells #[.int .i64 x0, .int .i64 x1, .int .i64 x2] 102)) (p, q, wX) 102; simp only [World.size_alloc] at this; exact this)
                  case c2b => exact wireV_one _
                  case c3b => unfold maxLen; omega
                  case c4b => omega
                  case c5b => first | omega | (simp only [World.size_alloc]; omega) | (simp; omega)
                  intro g3 c3 w7 hown' hgrow hlies hlt7
                  have H7 : Hid (w7.ownsRow w1.heap.size 102 3 (.slice (some ⟨g3, 0, none⟩) (m' + 1) c3) (m' + 1) (wires (L' ++ [(p, q, wX)]))) := by
                    show World.ownsRow _ _ _ _ _ _ _
                    rw [← wires_snoc]; exact hown'
                  have HB7 : Hid (Below w1.heap.size w1 w7) := ((HC.out.alloc (by omega) _).alloc (by simp; omega) _).grown hgrow (by simp; omega) (fun q hq => (hownP.lt q hq).1)
                  -- the wire's own box is as it was
                  have hbe : w7.heap[wr.heap.size]? = some (.cells #[.int .i64 x0, .int .i64 x1, .int .i64 x2] 102) := by
                    rw [hgrow.block _ (by simp only [World.size_alloc]; omega) (by simp [Value.ownBlock]; omega), Below.heap_alloc _ _ _ (by simp only [World.size_alloc]; omega)]
                    exact heap_alloc_new _ _
                  have hr7 : w7.rowIs wr.heap.size 102 3 (wireAt (x0, x1, x2)) := (wireAt_new wr (x0, x1, x2) 102).of_block (hbe.trans (heap_alloc_new _ _).symm)
                  have d0 := hr7.cell (i := 0) (by omega)
                  have d1 := hr7.cell (i := 1) (by omega)
                  have d2 := hr7.cell (i := 2) (by omega)
                  rw [(ints_of_put x0 x1 x2).1] at d0
                  rw [(ints_of_put x0 x1 x2).2.1] at d1
                  rw [(ints_of_put x0 x1 x2).2.2] at d2
                  have hs7 : wr.heap.size + 1 + 1 ≤ w7.heap.size := by have := hgrow.size; simp only [World.size_alloc] at this; exact this
                  have hownE := H7.out.alloc (.cells #[.int .i64 x0, .int .i64 x1, .int .i64 x2] 102)
                  clear hown' hgrow hlies hbe hr7
                  go_wp2_with (at_builtin; refine wpList_append_lies _ rfl _ _ 23 rfl w1.heap.size 102 i0 (.agg #[.int .i64 0, .int .i64 0, .int .i64 0]) 3 24 Try.underlying23 HI.out.1 HI.out.2.1 HI.out.2.2.1 HI.out.2.2.2 rfl (by decide) _ _ _ rfl hownE ⟨w7.heap.size, 0, none⟩ 1 1 (wireV (x0, x1, x2)) rfl rfl ?c1c ?c2c (by omega) ?c3c ?c4c ?c5c _ rfl ?_)
                  case c1c => first | (exact fun j u hu => hu) | (have := cell_wire_new w7 (x0, x1, x2) 102; simp only [World.size_alloc] at this; exact this)
                  case c2c => exact wireV_one _
                  case c3c => unfold maxLen; omega
                  case c4c => omega
                  case c5c => simp; have := HB7.out.size; omega
                  intro g4 c4 w8 hown8 hgrow8 hlies8 hlt8
                  have H8 : Hid (w8.ownsRow w1.heap.size 102 3 (.slice (some ⟨g4, 0, none⟩) (m' + 1 + 1) c4) (m' + 1 + 1) (wires (L' ++ [(p, q, wX)] ++ [(x0, x1, x2)]))) := by
                    show World.ownsRow _ _ _ _ _ _ _
                    rw [← wires_snoc]; exact hown8
                  have HB8 : Hid (Below w1.heap.size w1 w8) := (HB7.out.alloc HB7.out.size _).grown hgrow8 (by simp; have := HB7.out.size; omega) (fun q hq => (hownE.lt q hq).1)
                  clear hown8 hgrow8 hlies8
                  go_wp2_with fail
                  go_roundw
                  case rel => exact ⟨k' + 1, m' + 1 + 1, g4, c4, true, _, by omega, by omega, by go_num, rfl, rfl, hN.out, H8.out, HB8.out⟩
                  case measure => simp [intOf]; omega
              · have hN : Hid (Ins (p, q, wX) (L.take (k' + 1)) (L' ++ [(x0, x1, x2)]) false ∧ (L' ++ [(x0, x1, x2)]).length = m' + 1) := hmore false (HE.out.1.not (by rcases hc with ⟨_, _, h⟩ | ⟨_, _, _, h⟩ <;> exact h))
                have hc' : (¬ p < x0 ∧ (x0 == p) = false) ∨ (¬ p < x0 ∧ (x0 == p) = true ∧ ¬ q < x1) := by rcases hc with ⟨h1, h2, _⟩ | ⟨h1, h2, h3, _⟩; exact .inl ⟨h1, h2⟩; exact .inr ⟨h1, h2, h3⟩
                clear hc hmore hnew
                rcases hc' with ⟨hc1, hc2⟩ | ⟨hc1, hc2, hc3⟩
                all_goals
                  go_wp2_with (at_builtin; refine wpList_append_lies _ rfl _ _ 23 rfl w1.heap.size 102 i0 (.agg #[.int .i64 0, .int .i64 0, .int .i64 0]) 3 24 Try.underlying23 HI.out.1 HI.out.2.1 HI.out.2.2.1 HI.out.2.2.2 rfl (by decide) _ _ _ rfl hown ⟨wr.heap.size + 1, 0, none⟩ 1 1 (wireV (x0, x1, x2)) rfl rfl ?c1d ?c2d (by omega) ?c3d ?c4d ?c5d _ rfl ?_)
                  case c1d => first | (exact fun j u hu => hu) | (have := cell_wire_new (wr.alloc (.cells #[.int .i64 x0, .int .i64 x1, .int .i64 x2] 102)) (x0, x1, x2) 102; simp only [World.size_alloc] at this; exact this)
                  case c2d => exact wireV_one _
                  case c3d => unfold maxLen; omega
                  case c4d => omega
                  case c5d => first | omega | (simp only [World.size_alloc]; omega) | (simp; omega)
                  intro g3 c3 w7 hown' hgrow hlies hlt7
                  have H7 : Hid (w7.ownsRow w1.heap.size 102 3 (.slice (some ⟨g3, 0, none⟩) (m' + 1) c3) (m' + 1) (wires (L' ++ [(x0, x1, x2)]))) := by
                    show World.ownsRow _ _ _ _ _ _ _
                    rw [← wires_snoc]; exact hown'
                  have HB7 : Hid (Below w1.heap.size w1 w7) := ((HC.out.alloc (by omega) _).alloc (by simp; omega) _).grown hgrow (by simp; omega) (fun q hq => (hown.lt q hq).1)
                  clear hown' hgrow hlies
                  go_wp2_with fail
                  go_roundw
                  case rel => exact ⟨k' + 1, m' + 1, g3, c3, false, _, by omega, by omega, by go_num, rfl, rfl, hN.out, H7.out, HB7.out⟩
                  case measure => simp [intOf]; omega
            · have hN : Hid (Ins (p, q, wX) (L.take (k' + 1)) (L' ++ [(x0, x1, x2)]) true ∧ (L' ++ [(x0, x1, x2)]).length = m' + 1) := hmore true HE.out.1.more
              clear hmore hnew
              go_wp2_with (at_builtin; refine wpList_append_lies _ rfl _ _ 23 rfl w1.heap.size 102 i0 (.agg #[.int .i64 0, .int .i64 0, .int .i64 0]) 3 24 Try.underlying23 HI.out.1 HI.out.2.1 HI.out.2.2.1 HI.out.2.2.2 rfl (by decide) _ _ _ rfl hown ⟨wr.heap.size + 1, 0, none⟩ 1 1 (wireV (x0, x1, x2)) rfl rfl ?c1e ?c2e (by omega) ?c3e ?c4e ?c5e _ rfl ?_)
              case c1e => first | (exact fun j u hu => hu) | (have := cell_wire_new (wr.alloc (.cells #[.int .i64 x0, .int .i64 x1, .int .i64 x2] 102)) (x0, x1, x2) 102; simp only [World.size_alloc] at this; exact this)
              case c2e => exact wireV_one _
              case c3e => unfold maxLen; omega
              case c4e => omega
              case c5e => first | omega | (simp only [World.size_alloc]; omega) | (simp; omega)
              intro g3 c3 w7 hown' hgrow hlies hlt7
              have H7 : Hid (w7.ownsRow w1.heap.size 102 3 (.slice (some ⟨g3, 0, none⟩) (m' + 1) c3) (m' + 1) (wires (L' ++ [(x0, x1, x2)]))) := by
                show World.ownsRow _ _ _ _ _ _ _
                rw [← wires_snoc]; exact hown'
              have HB7 : Hid (Below w1.heap.size w1 w7) := ((HC.out.alloc (by omega) _).alloc (by simp; omega) _).grown hgrow (by simp; omega) (fun q hq => (hown.lt q hq).1)
              clear hown' hgrow hlies
              go_wp2_with fail
              go_roundw
              case rel => exact ⟨k' + 1, m' + 1, g3, c3, true, _, by omega, by omega, by go_num, rfl, rfl, hN.out, H7.out, HB7.out⟩
              case measure => simp [intOf]; omega
          · obtain rfl : k' = m := by omega
            have hT : L.take k' = L := List.take_of_length_le (by rw [HLL.out]; omega)
            cases D
            · have hN : Hid (putL l p q wt add = L' ++ [(p, q, wX)] ∧ L'.length = m') := ⟨by rw [HV.out]; have := HE.out.1; rw [hT] at this; exact this.last.symm, HE.out.2⟩
              have hownP := HO.out.alloc (.cells #[.int .i64 p, .int .i64 q, .int .i64 wX] 102)
              clear hT
              go_wp2_with (at_builtin; refine wpList_append_lies _ rfl _ _ 23 rfl w1.heap.size 102 i0 (.agg #[.int .i64 0, .int .i64 0, .int .i64 0]) 3 24 Try.underlying23 HI.out.1 HI.out.2.1 HI.out.2.2.1 HI.out.2.2.2 rfl (by decide) _ _ _ rfl hownP ⟨wr.heap.size, 0, none⟩ 1 1 (wireV (p, q, wX)) rfl rfl ?c1f ?c2f (by omega) ?c3f ?c4f ?c5f _ rfl ?_)
              case c1f => first | (exact fun j u hu => hu) | (have := cell_wire_new wr (p, q, wX) 102; simp only [World.size_alloc] at this; exact this)
              case c2f => exact wireV_one _
              case c3f => unfold maxLen; omega
              case c4f => omega
              case c5f => first | omega | (simp only [World.size_alloc]; omega) | (simp; omega)
              intro g3 c3 w7 hown' hgrow hlies hlt7
              have H7 : Hid (w7.ownsRow w1.heap.size 102 3 (.slice (some ⟨g3, 0, none⟩) (m' + 1) c3) (m' + 1) (wires (L' ++ [(p, q, wX)]))) := by
                show World.ownsRow _ _ _ _ _ _ _
                rw [← wires_snoc]; exact hown'
              have HB7 : Hid (Below w1.heap.size w1 w7) := (HC.out.alloc hcs _).grown hgrow (by simp; omega) (fun q hq => (hownP.lt q hq).1)
              clear hown' hgrow hlies hownP
              go_wp2_with fail
              go_ret
              have e1 : (putL l p q wt add).length = m' + 1 := by rw [hN.out.1]; simp [hN.out.2]
              refine ⟨g3, c3, by rw [e1]; rfl, ?_, HB.out.trans (HB7.out.mono hsz)⟩
              rw [e1, hN.out.1]; exact H7.out.mono hsz
            · have hN : Hid (putL l p q wt add = L' ∧ L'.length = m') := ⟨by rw [HV.out]; have := HE.out.1; rw [hT] at this; exact this.done.symm, HE.out.2⟩
              clear hT
              go_wp2_with fail
              go_ret
              have e1 : (putL l p q wt add).length = m' := by rw [hN.out.1]; exact hN.out.2
              refine ⟨g', cg', by rw [e1]; rfl, ?_, HB.out.trans (HC.out.mono hsz)⟩
              rw [e1, hN.out.1]; exact HO.out.mono hsz
end Go.Proofs.Ytjchindjoailbaa

/- A network that a code draws. -/
namespace Go.Proofs.Ytjchindjoailbaa
set_option linter.unusedSimpArgs false
set_option linter.unusedVariables false
open Go.RowKit

/-- wires drawn so far: nodes below v are bound -/
structure Part (v M : Nat) (l : List Wz) : Prop where
  srt : Srt l
  gd : ∀ x ∈ l, 0 ≤ x.1 ∧ x.1 < x.2.1 ∧ x.2.1 < M ∧ 1 ≤ x.2.2 ∧ x.2.2 ≤ 6
  rc : ∀ u : Nat, u < v → Rch l u
theorem Rch.put {l : List Wz} {x p q w : Int} (h : Rch l x) : Rch (putL l p q w false) x := by
  have key : ∀ y ∈ l, ∃ z ∈ putL l p q w false, z.1 = y.1 ∧ z.2.1 = y.2.1 := fun y hy => by
    by_cases e : y.1 = p ∧ y.2.1 = q
    · exact ⟨(p, q, w), putL_mem.2 (.inl rfl), e.1.symm, e.2.symm⟩
    · exact ⟨y, putL_mem.2 (.inr ⟨hy, e⟩), rfl, rfl⟩
  induction h with
  | zero => exact .zero
  | fwd hx _ ih => obtain ⟨z, hz, e1, e2⟩ := key _ hx; rw [← e2]; exact .fwd hz (by rw [e1]; exact ih)
  | bwd hx _ ih => obtain ⟨z, hz, e1, e2⟩ := key _ hx; rw [← e1]; exact .bwd hz (by rw [e2]; exact ih)
theorem Part.put {v M : Nat} {l : List Wz} (h : Part v M l) {p q w : Int} (hp : 0 ≤ p) (hpq : p < q) (hq : q < M) (hw : 1 ≤ w ∧ w ≤ 6) : Part v M (putL l p q w false) := by
  refine ⟨putL_srt h.srt _ _ _ _, fun x hx => ?_, fun u hu => (h.rc u hu).put⟩
  rcases putL_mem.1 hx with rfl | ⟨hx, _⟩
  · exact ⟨hp, hpq, hq, hw.1, hw.2⟩
  · exact h.gd x hx
theorem Part.next {v M : Nat} {l : List Wz} (h : Part v M l) {p w : Int} (hp : 0 ≤ p) (hpq : p < v) (hq : v < M) (hw : 1 ≤ w ∧ w ≤ 6) : Part (v + 1) M (putL l p v w false) := by
  obtain ⟨h1, h2, h3⟩ := h.put (q := (v : Int)) hp hpq (by omega) hw
  refine ⟨h1, h2, fun u hu => ?_⟩
  by_cases e : u = v
  · subst e
    have hr := h3 p.toNat (by omega)
    rw [show ((p.toNat : Nat) : Int) = p by omega] at hr
    exact .fwd (x := (p, (u : Int), w)) (putL_mem.2 (.inl rfl)) hr
  · exact h3 u (by omega)
theorem insL_len (x : Wz) : ∀ l : List Wz, (insL x l).length = l.length + 1
  | [] => rfl
  | e :: t => by
    rw [insL]; split
    · rfl
    · rw [List.length_cons, insL_len x t]; rfl
theorem putL_len (l : List Wz) (p q w : Int) (b : Bool) : (putL l p q w b).length ≤ l.length + 1 := by
  rw [putL, insL_len]
  have : (rest l p q).length ≤ l.length := List.length_filter_le _ _
  omega
/-- what is drawn -/
structure Drawn (most M E S : Int) (l : List Wz) : Prop where
  ok : NetOk M E S l
  n2 : 2 ≤ M
  nm : M ≤ most
  e2 : 2 ≤ E
  s3 : S ≤ 3
  w6 : ∀ x ∈ l, x.2.2 ≤ 6
theorem Part.net {M : Nat} {E S most : Int} {l : List Wz} (h : Part M M l) (h2 : 2 ≤ M) (hm : (M : Int) ≤ most) (h5 : most ≤ 5) (he : 2 ≤ E ∧ E ≤ M) (hs : 1 ≤ S ∧ S ≤ 3) : Drawn most M E S l := by
  refine ⟨⟨⟨by omega, by omega, by omega, he.2, hs.1, by omega⟩, fun k hk => ?_, fun k hk => ?_, fun v hv => h.rc v (by omega)⟩, by omega, hm, he.1, hs.2, fun x hx => (h.gd x hx).2.2.2.2⟩
  · obtain ⟨a, b, c, d, e⟩ := h.gd _ (List.getElem_mem hk)
    exact ⟨a, b, c, d, by omega⟩
  · exact List.pairwise_iff_getElem.1 h.srt k (k + 1) (by omega) hk (by omega)
/-- of one block below that a growth does not touch -/
theorem gltn {W w1 : World} {g : Nat} (hg : W.grownBy w1 (some g)) {b : Nat} (h : b < W.heap.size) (hn : b ≠ g) :
    (∀ o, w1.cell? ⟨b, o, none⟩ = W.cell? ⟨b, o, none⟩) ∧ (∀ o, w1.frozen? ⟨b, o, none⟩ = W.frozen? ⟨b, o, none⟩) ∧ b < w1.heap.size ∧ ¬ b = w1.heap.size ∧ ¬ w1.heap.size = b := by
  have hb := hg.block b h (by simpa using hn)
  have h1 := Nat.lt_of_lt_of_le h hg.size
  exact ⟨fun o => World.cell?_of_block (a := ⟨b, o, none⟩) hb, fun o => World.frozen?_of_block (a := ⟨b, o, none⟩) hb, h1, Nat.ne_of_lt h1, Nat.ne_of_gt h1⟩

theorem netAt_set1 {w : World} {b : Nat} {t : TypeId} {x0 x1 x2 x3 : Value} (h : w.rowIs b t 4 (netAt x0 x1 x2 x3)) (v : Value) : (w.setCell ⟨b, 1, none⟩ v).rowIs b t 4 (netAt x0 v x2 x3) :=
  (h.set 1 v).congr (fun i hi => by
    have : i = 0 ∨ i = 1 ∨ i = 2 ∨ i = 3 := by omega
    rcases this with rfl | rfl | rfl | rfl <;> rfl)
theorem grown_fresh {w w1 : World} {r : Option Nat} (h : w.grownBy w1 r) {p : Addr} (hp : w.heap.size ≤ p.block) (v : Value) : w.grownBy (w1.setCell p v) r :=
  ⟨h.os, h.tape, h.output, by have := h.size; simpa [World.setCell] using this, fun i hi hr => by
    rw [← h.block i hi hr]
    exact Below.heap_setCell _ _ _ _ (fun e => by omega)⟩
set_option maxRecDepth 100000 in
set_option maxHeartbeats 16000000 in
theorem specDrawNet (most : Nat) (hm : most = 4 ∨ most = 5) (g : Nat) (a : Option Addr) (n c : Nat) (zs : List Int) (w : World) (hc : Curs w g a n c zs) :
    Calls Try.prog 72 #[.pointer (some ⟨g, 0, none⟩), .int .i64 most] w fun e w' => ∃ (M : Nat) (E S : Int) (l : List Wz) (a' : Option Addr) (c' : Nat), e = .returned (netV M E S a' l.length c') ∧ Drawn most M E S l ∧ w'.ownsRow w.heap.size 102 3 (.slice a' l.length c') l.length (wires l) ∧ Curs w' g a n c zs ∧ w.grownBy w' (some g) := by
  have hgl := hc.lt
  have HBK : Hid (∀ ad, a = some ad → 0 < n → ad.block < w.heap.size) := fun ad e h0 => by
    obtain ⟨_, _, _, _, hq, _⟩ := hc
    obtain ⟨b, o, e2, hb, _⟩ := hq.form h0
    rw [e] at e2; cases e2; exact hb
  have C0 : Hid (Curs (w.alloc (.cells #[.int .i64 0, .int .i64 0, .int .i64 0, .slice none 0 0] 25)) g a n c zs) := hc.below (balloc (Below.refl _ _) _)
  have R0 : Hid ((w.alloc (.cells #[.int .i64 0, .int .i64 0, .int .i64 0, .slice none 0 0] 25)).rowIs w.heap.size 25 4 (netAt (.int .i64 0) (.int .i64 0) (.int .i64 0) (.slice none 0 0))) := netAt_new _ _ _ _ _ _
  clear hc
  go_enter Try.func72, Try.ntmps72
  go_wp2_with fail
  refine (specDraw ((most : Int) - 1) (by omega) g a n c zs _ C0.out).mono ?_
  rintro e w1 ⟨x, rfl, hx, hc1, hg1⟩
  have C1 := Lib.hid hc1
  have R1 := Lib.hid (R0.out.of_block (hg1.block _ R0.out.lt (by simp; omega)))
  have G1 : Hid (w.grownBy w1 (some g)) := grown_trans (World.grownBy_alloc _ _ _) hg1
  have hz1 : w.heap.size < w1.heap.size := R1.out.lt
  clear hc1 hg1 C0 R0
  go_wp2_with fail
  refine (specDraw 3 (by omega) g a n c zs _ C1.out).mono ?_
  rintro e w2 ⟨y, rfl, hy, hc2, hg2⟩
  have C2 := Lib.hid hc2
  have R2 := Lib.hid (R1.out.of_block (hg2.block _ R1.out.lt (by simp; omega)))
  have G2 : Hid (w.grownBy w2 (some g)) := grown_trans G1.out hg2
  have hz2 : w.heap.size < w2.heap.size := R2.out.lt
  have hgl2 := C2.out.lt
  obtain ⟨M, hM⟩ : ∃ M : Nat, (M : Int) = 2 + x := ⟨(2 + x).toNat, by omega⟩
  clear hc2 hg2 C1 R1 G1
  rw [← hM]
  go_upto_if 22 with fail
  rw [← hM]
  have RB : Hid ((w2.alloc (.cells #[.int .i64 M, .int .i64 2, .int .i64 (1 + y), .slice none 0 0] 25)).rowIs w2.heap.size 25 4 (netAt (.int .i64 M) (.int .i64 2) (.int .i64 (1 + y)) (.slice none 0 0))) := netAt_new _ _ _ _ _ _
  have RA := Lib.hid (R2.out.alloc (.cells #[.int .i64 M, .int .i64 2, .int .i64 (1 + y), .slice none 0 0] 25))
  have CA := Lib.hid (C2.out.below (balloc (Below.refl w2.heap.size w2) (.cells #[.int .i64 M, .int .i64 2, .int .i64 (1 + y), .slice none 0 0] 25)))
  have GA : Hid (w.grownBy (w2.alloc (.cells #[.int .i64 M, .int .i64 2, .int .i64 (1 + y), .slice none 0 0] 25)) (some g)) := grown_trans G2.out (World.grownBy_alloc _ _ _)
  clear R2 C2 G2
  have hyb : 0 ≤ y ∧ y < 3 := hy
  have hMb : 2 ≤ M ∧ M ≤ 5 ∧ (M : Int) ≤ most := by omega
  clear hM hx hy
  go_cut [5] (fun s5 wx => s5 = .pointer (some ⟨w2.heap.size, 0, none⟩) ∧ ∃ E : Int, 2 ≤ E ∧ E ≤ M ∧ Hid (wx.rowIs w2.heap.size 25 4 (netAt (.int .i64 M) (.int .i64 E) (.int .i64 (1 + y)) (.slice none 0 0))) ∧ Hid (wx.rowIs w.heap.size 25 4 (netAt (.int .i64 0) (.int .i64 0) (.int .i64 0) (.slice none 0 0))) ∧ Hid (Curs wx g a n c zs) ∧ Hid (w.grownBy wx (some g)))
  case first =>
    by_cases h2 : 2 < M
    · have h3 : (2 : Int) < M := by omega
      obtain ⟨m0, m1, m2, m3⟩ := netAt_cells RB.out
      go_wp2_with fail
      refine (specDraw ((M : Int) - 1) (by omega) g a n c zs _ CA.out).mono ?_
      rintro e w3 ⟨z, rfl, hz, hc3, hg3⟩
      have RB3 := RB.out.of_block (hg3.block _ RB.out.lt (by simp; omega))
      have RA3 := Lib.hid (RA.out.of_block (hg3.block _ RA.out.lt (by simp; omega)))
      obtain ⟨k0, k1, k2, k3⟩ := netAt_cells RB3
      have f1 := RB3.frozen 1
      have hl3 := RB3.lt
      have RBH := Lib.hid RB3
      have G3 : Hid (w.grownBy w3 (some g)) := grown_trans GA.out hg3
      have C3 := Lib.hid hc3
      clear hc3 hg3 m0 m1 m2 m3 RB3
      go_wp2_with fail
      go_meet
      refine ⟨rfl, 2 + z, by omega, by omega, netAt_set1 RBH.out _, RA3.out.setOther (by simp; omega) _, C3.out.grown (r := some w2.heap.size) (grown_set _ _ _) (by simp; omega) (fun ad e h0 e2 => ?_), grown_fresh G3.out (by show w.heap.size ≤ w2.heap.size; omega) _⟩
      have := HBK.out ad e h0
      simp at e2; omega
    · have h3 : ¬ (2 : Int) < M := by omega
      go_wp2_with fail
      go_meet
      exact ⟨rfl, 2, by omega, by omega, RB.out, RA.out, CA.out, GA.out⟩
  case rest =>
    obtain ⟨rfl, E, hE1, hE2, RBc, RAc, CAc, GAc⟩ := hcut
    clear RB RA CA GA
    obtain ⟨bn, hbn⟩ : ∃ bn, w2.heap.size = bn := ⟨_, rfl⟩
    rw [hbn] at RBc hz2 hgl2 ⊢
    clear hbn
    have HP0 : Hid (Part 1 M []) := ⟨List.Pairwise.nil, by simp, fun u hu => by obtain rfl : u = 0 := by omega
                                                                                exact .zero⟩
    go_wp2_with fail
    go_loopw [6] (fun u wr => ∃ (v : Nat) (l : List Wz) (a' : Option Addr) (c' : Nat), 1 ≤ v ∧ v ≤ M ∧ l.length ≤ v ∧ u = .int .i64 v ∧ Hid (Part v M l) ∧ Hid (wr.ownsRow (bn + 1) 102 3 (.slice a' l.length c') l.length (wires l)) ∧ Hid (wr.rowIs bn 25 4 (netAt (.int .i64 M) (.int .i64 E) (.int .i64 (1 + y)) (.slice a' l.length c'))) ∧ Hid (wr.rowIs w.heap.size 25 4 (netAt (.int .i64 0) (.int .i64 0) (.int .i64 0) (.slice none 0 0))) ∧ Hid (Curs wr g a n c zs) ∧ Hid (w.grownBy wr (some g))) (fun u _ => M - (intOf u).toNat)
    case atStart => exact ⟨1, [], none, 0, by omega, by omega, by simp, rfl, HP0.out, World.ownsRow_nil _ _ _ _, RBc.out, RAc.out, CAc.out, GAc.out⟩
    case round =>
      clear RBc RAc CAc GAc HP0
      obtain ⟨v, l, a', c', hv1, hvM, hll, rfl, HP, O, RB, RA, C, G⟩ := hrel
      obtain ⟨m0, m1, m2, m3⟩ := netAt_cells RB.out
      have hlb := RB.out.lt
      by_cases hlt : v < M
      · have KX := Lib.hid (fun (w : World) hc => specDraw (v : Int) (by omega) g a n c zs w hc)
        have KY := Lib.hid (fun (w : World) hc => specDraw 6 (by omega) g a n c zs w hc)
        have HBD : Hid (∀ x ∈ l, 0 ≤ x.2.2 ∧ x.2.2 ≤ 1000000) := fun x hx => by have := HP.out.gd x hx; omega
        have HNG : Hid (∀ ad, a' = some ad → 0 < l.length → some ad.block ≠ some g) := fun ad e h0 e2 => by
          subst e
          have := (own_base O.out _ rfl).1
          simp at e2; omega
        have hf3 := RB.out.frozen 3
        have CD : Hid (Curs wr.drew g a n c zs) := C.out
        have OD : Hid (wr.drew.ownsRow (bn + 1) 102 3 (.slice a' l.length c') l.length (wires l)) := O.out
        go_wp2_with fail
        clear m0 m1 m2
        go_region_with (first
          | (go_at_call 83; first
          | ((with_reducible refine (KX.out _ CD.out).mono ?_); rintro e wX ⟨x1, rfl, hx1, hcX, hgX⟩; obtain ⟨uX, vX, zX, nX, mX⟩ := gltn hgX (b := bn) (by (first | omega | (simp only [World.size_alloc, World.size_setCell, World.size_drew, World.heap_drewN]; omega))) (by omega))
          | ((with_reducible refine (KY.out _ hcX).mono ?_); rintro e wY ⟨y1, rfl, hy1, hcY, hgY⟩; have wY9 : IntKind.i64.wrap (1 + y1) = 1 + y1 := IntWalk.i64_in _ (by omega); obtain ⟨uY, vY, zY, nY, mY⟩ := gltn hgY (b := bn) (by (first | omega | (simp only [World.size_alloc, World.size_setCell, World.size_drew, World.heap_drewN]; omega))) (by omega)))
          | (go_at_call 123; ((with_reducible refine (specPut a' l.length c' l x1 v (1 + y1) x1 v false (.inl ⟨rfl, rfl, by omega⟩) (by omega) HBD.out (by omega) _ (by exact ((ArgRow.own OD.out).grown hgX HNG.out).grown hgY HNG.out) rfl).mono ?_); rintro e wP ⟨gP, cP, rfl, oP, hbP⟩); obtain ⟨uP, vP, zP, nP, mP⟩ := bltn hbP (b := bn) (by (first | omega | (simp only [World.size_alloc, World.size_setCell, World.size_drew, World.heap_drewN]; omega)))))
        all_goals
          clear wY9
          go_wp2_with fail
          have hpt := HP.out.next (p := x1) (w := 1 + y1) (by omega) (by omega) hlt (by omega)
          have hpl := putL_len l x1 v (1 + y1) false
          have HPT := Lib.hid hpt
          clear hpt
          have hsz9 : bn + 1 ≤ wY.heap.size := by
            have h8 := RB.out.lt
            omega
          have OP := Lib.hid (ownsRow_setCell_below (oP.mono hsz9) (a := ⟨bn, 3, none⟩) (by show bn < bn + 1; omega) (.slice (some ⟨gP, 0, none⟩) (putL l x1 v (1 + y1) false).length cP))
          have RP := Lib.hid (netAt_set3 (((RB.out.of_block (hgX.block _ RB.out.lt (by simp; omega))).of_block (hgY.block _ (Nat.lt_of_lt_of_le RB.out.lt hgX.size) (by simp; omega))).of_block (hbP.block _ (Nat.lt_of_lt_of_le (Nat.lt_of_lt_of_le RB.out.lt hgX.size) hgY.size))) (.slice (some ⟨gP, 0, none⟩) (putL l x1 v (1 + y1) false).length cP))
          have RQ := Lib.hid ((((RA.out.of_block (hgX.block _ RA.out.lt (by simp; omega))).of_block (hgY.block _ (Nat.lt_of_lt_of_le RA.out.lt hgX.size) (by simp; omega))).of_block (hbP.block _ (Nat.lt_of_lt_of_le (Nat.lt_of_lt_of_le RA.out.lt hgX.size) hgY.size))).setOther (a := ⟨bn, 3, none⟩) (by show w.heap.size ≠ bn; omega) (.slice (some ⟨gP, 0, none⟩) (putL l x1 v (1 + y1) false).length cP))
          have CP := Lib.hid ((hcY.below hbP).grown (r := some bn) (grown_set wP ⟨bn, 3, none⟩ (.slice (some ⟨gP, 0, none⟩) (putL l x1 v (1 + y1) false).length cP)) (by simp; omega) (fun ad e h0 e2 => by have := HBK.out ad e h0; simp at e2; omega))
          have GP := Lib.hid (grown_fresh (grown_trans (grown_trans (grown_trans G.out (grown_trans (grown_drewN wr 1 _) hgX)) hgY) (grown_below hbP)) (p := ⟨bn, 3, none⟩) (by show w.heap.size ≤ bn; omega) (.slice (some ⟨gP, 0, none⟩) (putL l x1 v (1 + y1) false).length cP))
          clear oP hbP hgX hgY hcX hcY
          go_roundw
          case rel => exact ⟨v + 1, _, _, _, by omega, by omega, by omega, by go_num, HPT.out, OP.out, RP.out, RQ.out, CP.out, GP.out⟩
          case measure => simp [intOf]; omega
      · obtain rfl : v = M := by omega
        obtain ⟨O0, RB0, RA0, C0, G0⟩ := And.intro O (And.intro RB (And.intro RA (And.intro C G)))
        clear O RB RA C G
        have HNB : Hid ((Value.slice a' l.length c').ownBlock = none ∨ (Value.slice a' l.length c').ownBlock ≠ some g) := by
          cases a' with
          | none => exact .inl rfl
          | some ad => exact .inr (fun e => by have := (own_base O0.out _ rfl).1; simp [Value.ownBlock] at e; omega)
        clear m0 m1 m2 m3 hlb
        obtain ⟨m0, m1, m2, m3⟩ := netAt_cells RB0.out
        go_wp2_with fail
        clear m0 m1 m2 m3
        refine (specDraw 4 (by omega) g a n c zs _ C0.out).mono ?_
        rintro e wd ⟨k1, rfl, hk1, hc1, hg1⟩
        have C1 := Lib.hid hc1
        have RB1 := Lib.hid (RB0.out.of_block (hg1.block _ RB0.out.lt (by simp; omega)))
        have RA1 := Lib.hid (RA0.out.of_block (hg1.block _ RA0.out.lt (by simp; omega)))
        have O1 := Lib.hid (O0.out.kept hg1 HNB.out)
        have G1 : Hid (w.grownBy wd (some g)) := grown_trans G0.out hg1
        clear hc1 hg1 C0 RB0 RA0 O0 G0
        obtain ⟨k0, rfl⟩ : ∃ k : Nat, k1 = k := ⟨k1.toNat, by omega⟩
        go_wp2_with fail
        go_loopw [7] (fun u wr => ∃ (k : Nat) (l : List Wz) (a' : Option Addr) (c' : Nat), k ≤ 3 ∧ l.length + k ≤ 8 ∧ u = .int .i64 k ∧ Hid (Part v v l) ∧ Hid (wr.ownsRow (bn + 1) 102 3 (.slice a' l.length c') l.length (wires l)) ∧ Hid (wr.rowIs bn 25 4 (netAt (.int .i64 v) (.int .i64 E) (.int .i64 (1 + y)) (.slice a' l.length c'))) ∧ Hid (wr.rowIs w.heap.size 25 4 (netAt (.int .i64 0) (.int .i64 0) (.int .i64 0) (.slice none 0 0))) ∧ Hid (Curs wr g a n c zs) ∧ Hid (w.grownBy wr (some g))) (fun u _ => (intOf u).toNat)
        case atStart => exact ⟨k0, l, a', c', by omega, by omega, rfl, HP.out, O1.out, RB1.out, RA1.out, C1.out, G1.out⟩
        case round =>
          clear O1 RB1 RA1 C1 G1 HNB HP hll
          clear l a' c'
          obtain ⟨k, l, a', c', hk, hll, rfl, HP, O0, RB0, RA0, C0, G0⟩ := hrel
          have HNB : Hid ((Value.slice a' l.length c').ownBlock = none ∨ (Value.slice a' l.length c').ownBlock ≠ some g) := by
            cases a' with
            | none => exact .inl rfl
            | some ad => exact .inr (fun e => by have := (own_base O0.out _ rfl).1; simp [Value.ownBlock] at e; omega)
          by_cases hk0 : 0 < k
          · have HBD : Hid (∀ x ∈ l, 0 ≤ x.2.2 ∧ x.2.2 ≤ 1000000) := fun x hx => by have := HP.out.gd x hx; omega
            obtain ⟨m0, m1, m2, m3⟩ := netAt_cells RB0.out
            go_wp2_with fail
            clear m0 m1 m2 m3
            refine (specDraw (v : Int) (by omega) g a n c zs _ C0.out).mono ?_
            rintro e wr1 ⟨p1, rfl, hp1, hc1, hg1⟩
            have C1 := Lib.hid hc1
            have RB1 := Lib.hid (RB0.out.of_block (hg1.block _ RB0.out.lt (by simp; omega)))
            have RA1 := Lib.hid (RA0.out.of_block (hg1.block _ RA0.out.lt (by simp; omega)))
            have O1 := Lib.hid (O0.out.kept hg1 HNB.out)
            have G1 : Hid (w.grownBy wr1 (some g)) := grown_trans G0.out hg1
            clear hc1 hg1 C0 RB0 RA0 O0 G0
            obtain ⟨m0, m1, m2, m3⟩ := netAt_cells RB1.out
            go_wp2_with fail
            clear m0 m1 m2 m3
            refine (specDraw (v : Int) (by omega) g a n c zs _ C1.out).mono ?_
            rintro e wr2 ⟨q1, rfl, hq1, hc2, hg2⟩
            have C2 := Lib.hid hc2
            have RB2 := Lib.hid (RB1.out.of_block (hg2.block _ RB1.out.lt (by simp; omega)))
            have RA2 := Lib.hid (RA1.out.of_block (hg2.block _ RA1.out.lt (by simp; omega)))
            have O2 := Lib.hid (O1.out.kept hg2 HNB.out)
            have G2 : Hid (w.grownBy wr2 (some g)) := grown_trans G1.out hg2
            clear hc2 hg2 C1 RB1 RA1 O1 G1
            by_cases he : p1 = q1
            · subst he
              go_wp2_with fail
              go_roundw
              case rel => exact ⟨k - 1, l, a', c', by omega, by omega, (by rw [show ((k - 1 : Nat) : Int) = (k : Int) - 1 by omega]), HP.out, O2.out, RB2.out, RA2.out, C2.out, G2.out⟩
              case measure => simp [intOf]; omega
            · by_cases hlt2 : p1 < q1
              · clear he
                have hpq : p1 < q1 := by omega
                have KY := Lib.hid (fun (w : World) hc => specDraw 6 (by omega) g a n c zs w hc)
                have CD : Hid (Curs wr2.drew g a n c zs) := C2.out
                have OD : Hid (wr2.drew.ownsRow (bn + 1) 102 3 (.slice a' l.length c') l.length (wires l)) := O2.out
                have HNG : Hid (∀ ad, a' = some ad → 0 < l.length → some ad.block ≠ some g) := fun ad e h0 e2 => by
                  subst e
                  have := (own_base O2.out _ rfl).1
                  simp at e2; omega
                have hq1 : (p1 != q1) = true := by simp; omega
                obtain ⟨m0, m1, m2, m3⟩ := netAt_cells RB2.out
                have hf3 := RB2.out.frozen 3
                have hlb := RB2.out.lt
                go_wp2_with fail
                clear m0 m1 m2 hq1
                go_region_with (first
                  | (go_at_call 83; ((with_reducible refine (KY.out _ CD.out).mono ?_); rintro e wY ⟨y1, rfl, hy1, hcY, hgY⟩; have wY9 : IntKind.i64.wrap (1 + y1) = 1 + y1 := IntWalk.i64_in _ (by omega); obtain ⟨uY, vY, zY, nY, mY⟩ := gltn hgY (b := bn) (by (first | omega | (simp only [World.size_alloc, World.size_setCell, World.size_drew, World.heap_drewN]; omega))) (by omega)))
                  | (go_at_call 123; ((with_reducible refine (specPut a' l.length c' l p1 q1 (1 + y1) p1 q1 false (.inl ⟨rfl, rfl, by omega⟩) (by omega) HBD.out (by omega) _ (by exact (ArgRow.own OD.out).grown hgY HNG.out) rfl).mono ?_); rintro e wP ⟨gP, cP, rfl, oP, hbP⟩); obtain ⟨uP, vP, zP, nP, mP⟩ := bltn hbP (b := bn) (by (first | omega | (simp only [World.size_alloc, World.size_setCell, World.size_drew, World.heap_drewN]; omega)))))
                all_goals
                  clear wY9
                  go_wp2_with fail
                  have hpt := HP.out.put (p := p1) (q := q1) (w := 1 + y1) (by omega) hpq (by omega) (by omega)
                  have hpl := putL_len l p1 q1 (1 + y1) false
                  have HPT := Lib.hid hpt
                  clear hpt
                  have hsz9 : bn + 1 ≤ wY.heap.size := by
                    have h8 := RB2.out.lt
                    omega
                  have OP := Lib.hid (ownsRow_setCell_below (oP.mono hsz9) (a := ⟨bn, 3, none⟩) (by show bn < bn + 1; omega) (.slice (some ⟨gP, 0, none⟩) (putL l p1 q1 (1 + y1) false).length cP))
                  have RP := Lib.hid (netAt_set3 ((RB2.out.of_block (hgY.block _ RB2.out.lt (by simp; omega))).of_block (hbP.block _ (Nat.lt_of_lt_of_le RB2.out.lt hgY.size))) (.slice (some ⟨gP, 0, none⟩) (putL l p1 q1 (1 + y1) false).length cP))
                  have RQ := Lib.hid (((RA2.out.of_block (hgY.block _ RA2.out.lt (by simp; omega))).of_block (hbP.block _ (Nat.lt_of_lt_of_le RA2.out.lt hgY.size))).setOther (a := ⟨bn, 3, none⟩) (by show w.heap.size ≠ bn; omega) (.slice (some ⟨gP, 0, none⟩) (putL l p1 q1 (1 + y1) false).length cP))
                  have CP := Lib.hid ((hcY.below hbP).grown (r := some bn) (grown_set wP ⟨bn, 3, none⟩ (.slice (some ⟨gP, 0, none⟩) (putL l p1 q1 (1 + y1) false).length cP)) (by simp; omega) (fun ad e h0 e2 => by have := HBK.out ad e h0; simp at e2; omega))
                  have GP := Lib.hid (grown_fresh (grown_trans (grown_trans G2.out (grown_trans (grown_drewN wr2 1 _) hgY)) (grown_below hbP)) (p := ⟨bn, 3, none⟩) (by show w.heap.size ≤ bn; omega) (.slice (some ⟨gP, 0, none⟩) (putL l p1 q1 (1 + y1) false).length cP))
                  clear oP hbP hgY hcY
                  go_roundw
                  case rel => exact ⟨k - 1, _, _, _, by omega, by omega, (by rw [show ((k - 1 : Nat) : Int) = (k : Int) - 1 by omega]), HPT.out, OP.out, RP.out, RQ.out, CP.out, GP.out⟩
                  case measure => simp [intOf]; omega
              · have hgt : q1 < p1 := by omega
                clear he hlt2
                have hpq : q1 < p1 := by omega
                have KY := Lib.hid (fun (w : World) hc => specDraw 6 (by omega) g a n c zs w hc)
                have CD : Hid (Curs wr2.drew g a n c zs) := C2.out
                have OD : Hid (wr2.drew.ownsRow (bn + 1) 102 3 (.slice a' l.length c') l.length (wires l)) := O2.out
                have HNG : Hid (∀ ad, a' = some ad → 0 < l.length → some ad.block ≠ some g) := fun ad e h0 e2 => by
                  subst e
                  have := (own_base O2.out _ rfl).1
                  simp at e2; omega
                have hq1 : (p1 != q1) = true := by simp; omega
                obtain ⟨m0, m1, m2, m3⟩ := netAt_cells RB2.out
                have hf3 := RB2.out.frozen 3
                have hlb := RB2.out.lt
                go_wp2_with fail
                clear m0 m1 m2 hq1
                go_region_with (first
                  | (go_at_call 83; ((with_reducible refine (KY.out _ CD.out).mono ?_); rintro e wY ⟨y1, rfl, hy1, hcY, hgY⟩; have wY9 : IntKind.i64.wrap (1 + y1) = 1 + y1 := IntWalk.i64_in _ (by omega); obtain ⟨uY, vY, zY, nY, mY⟩ := gltn hgY (b := bn) (by (first | omega | (simp only [World.size_alloc, World.size_setCell, World.size_drew, World.heap_drewN]; omega))) (by omega)))
                  | (go_at_call 123; ((with_reducible refine (specPut a' l.length c' l q1 p1 (1 + y1) p1 q1 false (.inr ⟨rfl, rfl, by omega⟩) (by omega) HBD.out (by omega) _ (by exact (ArgRow.own OD.out).grown hgY HNG.out) rfl).mono ?_); rintro e wP ⟨gP, cP, rfl, oP, hbP⟩); obtain ⟨uP, vP, zP, nP, mP⟩ := bltn hbP (b := bn) (by (first | omega | (simp only [World.size_alloc, World.size_setCell, World.size_drew, World.heap_drewN]; omega)))))
                all_goals
                  clear wY9
                  go_wp2_with fail
                  have hpt := HP.out.put (p := q1) (q := p1) (w := 1 + y1) (by omega) hpq (by omega) (by omega)
                  have hpl := putL_len l q1 p1 (1 + y1) false
                  have HPT := Lib.hid hpt
                  clear hpt
                  have hsz9 : bn + 1 ≤ wY.heap.size := by
                    have h8 := RB2.out.lt
                    omega
                  have OP := Lib.hid (ownsRow_setCell_below (oP.mono hsz9) (a := ⟨bn, 3, none⟩) (by show bn < bn + 1; omega) (.slice (some ⟨gP, 0, none⟩) (putL l q1 p1 (1 + y1) false).length cP))
                  have RP := Lib.hid (netAt_set3 ((RB2.out.of_block (hgY.block _ RB2.out.lt (by simp; omega))).of_block (hbP.block _ (Nat.lt_of_lt_of_le RB2.out.lt hgY.size))) (.slice (some ⟨gP, 0, none⟩) (putL l q1 p1 (1 + y1) false).length cP))
                  have RQ := Lib.hid (((RA2.out.of_block (hgY.block _ RA2.out.lt (by simp; omega))).of_block (hbP.block _ (Nat.lt_of_lt_of_le RA2.out.lt hgY.size))).setOther (a := ⟨bn, 3, none⟩) (by show w.heap.size ≠ bn; omega) (.slice (some ⟨gP, 0, none⟩) (putL l q1 p1 (1 + y1) false).length cP))
                  have CP := Lib.hid ((hcY.below hbP).grown (r := some bn) (grown_set wP ⟨bn, 3, none⟩ (.slice (some ⟨gP, 0, none⟩) (putL l q1 p1 (1 + y1) false).length cP)) (by simp; omega) (fun ad e h0 e2 => by have := HBK.out ad e h0; simp at e2; omega))
                  have GP := Lib.hid (grown_fresh (grown_trans (grown_trans G2.out (grown_trans (grown_drewN wr2 1 _) hgY)) (grown_below hbP)) (p := ⟨bn, 3, none⟩) (by show w.heap.size ≤ bn; omega) (.slice (some ⟨gP, 0, none⟩) (putL l q1 p1 (1 + y1) false).length cP))
                  clear oP hbP hgY hcY
                  go_roundw
                  case rel => exact ⟨k - 1, _, _, _, by omega, by omega, (by rw [show ((k - 1 : Nat) : Int) = (k : Int) - 1 by omega]), HPT.out, OP.out, RP.out, RQ.out, CP.out, GP.out⟩
                  case measure => simp [intOf]; omega
          · obtain rfl : k = 0 := by omega
            obtain ⟨m0, m1, m2, m3⟩ := netAt_cells RB0.out
            obtain ⟨r0, r1, r2, r3⟩ := netAt_cells RA0.out
            have rf0 := RA0.out.frozen 0
            have rf1 := RA0.out.frozen 1
            have rf2 := RA0.out.frozen 2
            have rf3 := RA0.out.frozen 3
            have hl0 := RA0.out.lt
            go_wp2_with fail
            have rs0 : (wr.cell? { block := w.heap.size, off := 0 }).isSome = true := by simp [go_sem, *]
            have rs1 : (wr.cell? { block := w.heap.size, off := 1 }).isSome = true := by simp [go_sem, *]
            have rs2 : (wr.cell? { block := w.heap.size, off := 2 }).isSome = true := by simp [go_sem, *]
            have rs3 : (wr.cell? { block := w.heap.size, off := 3 }).isSome = true := by simp [go_sem, *]
            refine bodyPost_ret (v := (netV v E (1 + y) a' l.length c')) (by simp [results, Try.results72, go_sem, rs0, rs1, rs2, rs3]; try rfl) rfl ?_
            have hX : ∀ (W : World) (k : Nat) (v : Value), (W.ownsRow (bn + 1) 102 3 (.slice a' l.length c') l.length (wires l) ∧ Curs W g a n c zs ∧ w.grownBy W (some g)) → ((W.setCell ⟨w.heap.size, k, none⟩ v).ownsRow (bn + 1) 102 3 (.slice a' l.length c') l.length (wires l) ∧ Curs (W.setCell ⟨w.heap.size, k, none⟩ v) g a n c zs ∧ w.grownBy (W.setCell ⟨w.heap.size, k, none⟩ v) (some g)) := fun W k v h =>
              ⟨ownsRow_setCell_below h.1 (a := ⟨w.heap.size, k, none⟩) (by show w.heap.size < bn + 1; omega) v, h.2.1.grown (r := some w.heap.size) (grown_set W ⟨w.heap.size, k, none⟩ v) (by simp; omega) (fun ad e h0 e2 => by have := HBK.out ad e h0; simp at e2; omega), grown_fresh h.2.2 (p := ⟨w.heap.size, k, none⟩) (Nat.le_refl _) v⟩
            have hY := hX _ 3 (.slice a' l.length c') (hX _ 2 (.int .i64 (1 + y)) (hX _ 1 (.int .i64 E) (hX _ 0 (.int .i64 v) ⟨O0.out, C0.out, G0.out⟩)))
            exact ⟨v, E, 1 + y, l, a', c', rfl, HP.out.net hMb.1 hMb.2.2 (by omega) ⟨hE1, hE2⟩ ⟨by omega, by omega⟩, hY.1.mono (by omega), hY.2.1, hY.2.2⟩
end Go.Proofs.Ytjchindjoailbaa

/- MakeNet: a network that a code draws. -/
namespace Go.Proofs.Ytjchindjoailbaa
set_option linter.unusedSimpArgs false
set_option linter.unusedVariables false
open Go.RowKit

set_option maxRecDepth 100000 in
set_option maxHeartbeats 8000000 in
theorem specMakeNet (a : Option Addr) (n c : Nat) (zs : List Int) (w : World) (hr : ArgRow w a n c 1 (u8s zs)) (hn : n ≤ 1048576) :
    Calls Try.prog 15 #[.slice a n c] w fun e w' => ∃ (M : Nat) (E S : Int) (l : List Wz) (a' : Option Addr) (c' : Nat), e = .returned (netV M E S a' l.length c') ∧ Drawn 5 M E S l ∧ w'.ownsRow w.heap.size 102 3 (.slice a' l.length c') l.length (wires l) ∧ Below w.heap.size w w' := by
  have HR := Lib.hid hr
  have R0 : Hid ((w.alloc (.cells #[.int .i64 0, .int .i64 0, .int .i64 0, .slice none 0 0] 25)).rowIs w.heap.size 25 4 (netAt (.int .i64 0) (.int .i64 0) (.int .i64 0) (.slice none 0 0))) := netAt_new _ _ _ _ _ _
  clear hr
  go_enter Try.func15, Try.ntmps15
  go_wp2_with fail
  refine (specNew a n c zs _ (HR.out.below (balloc (Below.refl _ _) _)) hn).mono ?_
  rintro e w1 ⟨g, rfl, hg, hc1, hb1⟩
  have hgw : w.heap.size < g := by simp at hg; omega
  have C1 := Lib.hid hc1
  have R1 := Lib.hid (R0.out.of_block (hb1.block _ R0.out.lt))
  have B1 : Hid (Below w.heap.size w w1) := bstep (balloc (Below.refl _ _) _) hb1
  clear hc1 hb1 R0 hg
  go_wp2_with fail
  refine (specDrawNet 5 (.inr rfl) g a n c zs _ C1.out).mono ?_
  rintro e w2 ⟨M, E, S, l, a', c', rfl, hD, hO, hC2, hG2⟩
  have HD := Lib.hid hD
  have O2 := Lib.hid hO
  have hl1 := R1.out.lt
  have R2 := R1.out.of_block (hG2.block _ R1.out.lt (by simp; omega))
  have B2 := Lib.hid (below_grown B1.out B1.out.size hG2 (by omega))
  obtain ⟨r0, r1, r2, r3⟩ := netAt_cells R2
  have rf0 := R2.frozen 0
  have rf1 := R2.frozen 1
  have rf2 := R2.frozen 2
  have rf3 := R2.frozen 3
  have hl0 := R2.lt
  clear hD hO hC2 hG2 R2 R1 C1
  go_wp2_with fail
  have rs0 : (w2.cell? { block := w.heap.size, off := 0 }).isSome = true := by simp [go_sem, *]
  have rs1 : (w2.cell? { block := w.heap.size, off := 1 }).isSome = true := by simp [go_sem, *]
  have rs2 : (w2.cell? { block := w.heap.size, off := 2 }).isSome = true := by simp [go_sem, *]
  have rs3 : (w2.cell? { block := w.heap.size, off := 3 }).isSome = true := by simp [go_sem, *]
  refine bodyPost_ret (v := (netV M E S a' l.length c')) (by simp [results, Try.results15, go_sem, rs0, rs1, rs2, rs3]; try rfl) rfl ?_
  have hX : ∀ (W : World) (k : Nat) (v : Value), (W.ownsRow w1.heap.size 102 3 (.slice a' l.length c') l.length (wires l) ∧ Below w.heap.size w W) → ((W.setCell ⟨w.heap.size, k, none⟩ v).ownsRow w1.heap.size 102 3 (.slice a' l.length c') l.length (wires l) ∧ Below w.heap.size w (W.setCell ⟨w.heap.size, k, none⟩ v)) := fun W k v h =>
    ⟨ownsRow_setCell_below h.1 (a := ⟨w.heap.size, k, none⟩) (by show w.heap.size < w1.heap.size; omega) v, bset h.2 (p := ⟨w.heap.size, k, none⟩) (Nat.le_refl _) v⟩
  have hY := hX _ 3 (.slice a' l.length c') (hX _ 2 (.int .i64 S) (hX _ 1 (.int .i64 E) (hX _ 0 (.int .i64 M) ⟨O2.out, B2.out⟩)))
  exact ⟨M, E, S, l, a', c', rfl, HD.out, hY.1.mono (by omega), hY.2⟩
end Go.Proofs.Ytjchindjoailbaa
