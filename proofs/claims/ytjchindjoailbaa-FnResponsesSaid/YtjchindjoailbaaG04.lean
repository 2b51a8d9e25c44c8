/- NetOk of the reference. -/
import Derived.Test.YtjchindjoailbaaG03
import Derived.Test.YtjchindjoailbaaG02
import Derived.WalkKit
namespace Go.Proofs.Ytjchindjoailbaa
set_option linter.unusedSimpArgs false
set_option linter.unusedVariables false
open Go.RowKit

theorem specIn (x lo hi : Int) (b : Bool) (hb : b = true ↔ lo ≤ x ∧ x ≤ hi) (w : World) :
    Calls Try.prog 113 #[.int .i64 x, .int .i64 lo, .int .i64 hi] w fun e w' => e = .returned (.bool b) ∧ w = w' := by
  by_cases h1 : lo ≤ x
  · by_cases h2 : x ≤ hi
    · have : b = true := hb.2 ⟨h1, h2⟩
      subst this
      clear hb
      go_enter Try.func113, Try.ntmps113
      go_wp2_with fail
      go_ret
      exact ⟨rfl, rfl⟩
    · have : b = false := bfalse hb (fun h => h2 h.2)
      subst this
      clear hb
      go_enter Try.func113, Try.ntmps113
      go_wp2_with fail
      go_ret
      exact ⟨rfl, rfl⟩
  · have : b = false := bfalse hb (fun h => h1 h.1)
    subst this
    clear hb
    go_enter Try.func113, Try.ntmps113
    go_wp2_with fail
    go_ret
    exact ⟨rfl, rfl⟩

set_option maxHeartbeats 1000000 in
theorem specHas (a : Option Addr) (n c : Nat) (l : List Int) (x : Int) (b : Bool) (hb : b = true ↔ x ∈ l) (w : World) (hr : ArgRow w a n c 1 (ints l)) :
    Calls Try.prog 161 #[.slice a n c, .int .i64 x] w fun e w' => e = .returned (.bool b) ∧ w = w' := by
  have hl := hr.ints_len
  have hn := hr.le
  unfold maxLen at hn
  have R := Lib.hid hr
  have HL := Lib.hid hl
  have HO := Lib.hid hb
  clear hr hl hb
  go_enter Try.func161, Try.ntmps161
  go_wp2_with fail
  go_loopw [9] (fun v wr => ∃ k : Nat, k ≤ n ∧ v = .int .i64 k ∧ Hid (¬ x ∈ l.take k) ∧ wr = w) (fun v _ => n - (intOf v).toNat)
  case atStart => exact ⟨0, by omega, rfl, by simp [Hid], rfl⟩
  case round =>
    obtain ⟨k, hk, rfl, HT, rfl⟩ := hrel
    by_cases hlt : k < n
    · obtain ⟨b1, o1, rfl, _, _⟩ := R.out.form (by omega)
      have hli : k < l.length := by rw [HL.out]; exact hlt
      have p0 := int_cell R.out k hli
      have HM : Hid (l[k] ∈ l) := List.getElem_mem _
      have HS : Hid (l.take (k + 1) = l.take k ++ [l[k]]) := List.take_succ_eq_append_getElem hli
      generalize l[k] = y at p0 HM HS
      clear hli
      by_cases he : y = x
      · subst he
        have : b = true := HO.out.2 HM.out
        subst this
        go_wp2_with fail
        go_ret
        exact ⟨rfl, rfl⟩
      · have HT2 : Hid (¬ x ∈ l.take (k + 1)) := by
          show ¬ _
          rw [HS.out]
          have := HT.out
          simp only [List.mem_append, List.mem_singleton, not_or]
          exact ⟨this, fun e => he e.symm⟩
        have hq : (y == x) = false := by simp [he]
        clear he
        go_wp2_with fail
        go_roundw
        case rel => exact ⟨k + 1, by omega, by go_num, HT2.out, by trivial⟩
        case measure => simp [intOf]; omega
    · have : b = false := bfalse HO.out (fun h => by
        have h2 := HT.out
        rw [List.take_of_length_le (by rw [HL.out]; omega)] at h2
        exact h2 h)
      subst this
      go_wp2_with fail
      go_ret
      exact ⟨rfl, rfl⟩

theorem infoInt : (Try.prog.info? 3).map (fun i => (i.zero, i.size, i.bytes)) = some (some (.int .i64 0), 1, 8) := by kernel_rfl
/-- a number put behind an owned row -/
theorem ints_snoc (l : List Int) (x : Int) : ints l ++ [.int .i64 x] = ints (l ++ [x]) := by rw [ints_append]; rfl

theorem own_some {w : World} {base : Nat} {e : TypeId} {size : Nat} {v : Value} {n : Nat} {xs : List Value} (h : w.ownsRow base e size v n xs) (hn : 0 < n) : ∃ g c, v = .slice (some ⟨g, 0, none⟩) n c := by
  obtain ⟨_, h⟩ := h
  rcases h with ⟨h, h0⟩ | ⟨g, c, cur, h, _⟩
  · omega
  · exact ⟨_, _, h⟩

/-- within a round at place p of the queue: k wires are done -/
structure QI (M : Int) (l : List Wz) (q : List Int) (p k : Nat) : Prop where
  qq : Queue M l q
  lt : p < q.length
  dn : ∀ (i : Nat) (y : Int), i < p → q[i]? = some y → Done l q y
  pt : ∀ y, q[p]? = some y → Done (l.take k) q y
structure QO (M : Int) (l : List Wz) (q : List Int) (p : Nat) : Prop where
  qq : Queue M l q
  le : p ≤ q.length
  dn : ∀ (i : Nat) (y : Int), i < p → q[i]? = some y → Done l q y
theorem QO.enter {M : Int} {l : List Wz} {q : List Int} {p : Nat} (h : QO M l q p) (hp : p < q.length) : QI M l q p 0 := ⟨h.qq, hp, h.dn, fun y _ x hx => by simp at hx⟩
theorem QI.leave {M : Int} {l : List Wz} {q : List Int} {p : Nat} (h : QI M l q p l.length) : QO M l q (p + 1) := by
  refine ⟨h.qq, h.lt, fun i y hi hy => ?_⟩
  by_cases e : i = p
  · subst e; have := h.pt y hy; rwa [List.take_of_length_le (Nat.le_refl _)] at this
  · exact h.dn i y (by omega) hy
theorem QO.done {M : Int} {l : List Wz} {q : List Int} (h : QO M l q q.length) : ∀ u ∈ q, Done l q u := by
  intro u hu
  obtain ⟨i, hi, rfl⟩ := List.getElem_of_mem hu
  exact h.dn i _ hi (List.getElem?_eq_getElem hi)
theorem QI.skip {M : Int} {l : List Wz} {q : List Int} {p k : Nat} (h : QI M l q p k) (hk : k < l.length) {u : Int} (hu : q[p]? = some u) (h1 : l[k].1 = u → l[k].2.1 ∈ q) (h2 : l[k].2.1 = u → l[k].1 ∈ q) : QI M l q p (k + 1) := by
  refine ⟨h.qq, h.lt, h.dn, fun y hy x hx => ?_⟩
  rw [hu] at hy; cases hy
  rcases take_mem hk hx with hx | rfl
  · exact h.pt u hu x hx
  · exact ⟨h1, h2⟩
theorem QI.add {M : Int} {l : List Wz} {q : List Int} {p k : Nat} (h : QI M l q p k) {z : Int} (hz : ¬ z ∈ q) (hr : 0 ≤ z ∧ z < M) (hc : Rch l z) : QI M l (q ++ [z]) p k := by
  have hp := h.lt
  refine ⟨h.qq.add hz hr hc, by simp; omega, fun i y hi hy => ?_, fun y hy => ?_⟩
  · rw [List.getElem?_append_left (by omega)] at hy; exact (h.dn i y hi hy).more
  · rw [List.getElem?_append_left (by omega)] at hy; exact (h.pt y hy).more

set_option maxRecDepth 100000 in
set_option maxHeartbeats 8000000 in
theorem specReach (M : Nat) (a : Option Addr) (n c : Nat) (l : List Wz) (hM : 1 ≤ M) (hM5 : M ≤ 5) (hg : ∀ x ∈ l, good M x) (w : World) (hr : ArgRow w a n c 3 (wires l)) (hl : l.length = n) :
    Calls Try.prog 134 #[.slice a n c, .int .i64 0] w fun e w' => ∃ a' c' q, e = .returned (.slice a' (q : List Int).length c') ∧ Queue M l q ∧ (∀ u ∈ q, Done l q u) ∧ Below w.heap.size w w' := by
  obtain ⟨i0, hi, hz0, hz1, hz2⟩ := info_parts infoInt
  have HI := Lib.hid (And.intro hi (And.intro hz0 (And.intro hz1 hz2)))
  clear hi hz0 hz1 hz2
  have hn := hr.le
  unfold maxLen at hn
  have HR := Lib.hid hr
  have HL := Lib.hid hl
  have HG := Lib.hid hg
  clear hr hl hg
  go_enter Try.func134, Try.ntmps134
  go_wp2_with fail
  go_loopw [5, 6] (fun v u wr => ∃ (p : Nat) (q : List Int) (g cq : Nat), p ≤ 5 ∧ q.length ≤ 5 ∧ p ≤ q.length ∧ v = .slice (some ⟨g, 0, none⟩) q.length cq ∧ u = .int .i64 p ∧ Hid (QO M l q p) ∧ Hid (wr.ownsRow w.heap.size 3 1 (.slice (some ⟨g, 0, none⟩) q.length cq) q.length (ints q)) ∧ Hid (Below w.heap.size w wr)) (fun _ u _ => 5 - (intOf u).toNat)
  case atStart => exact ⟨0, [0], w.heap.size, 1, by omega, by simp, by simp, rfl, rfl, ⟨.start (by omega), by simp, fun i y h => absurd h (by omega)⟩, World.ownsRow_lit (base := w.heap.size) (size := 1) w #[.int .i64 0] 1 (Nat.le_refl _) (by unfold maxLen; omega) rfl, balloc (Below.refl _ _) _⟩
  case round =>
    obtain ⟨p, q, g, cq, hp5, hq5, hpq, rfl, rfl, HQ, H, HB⟩ := hrel
    by_cases hlt : p < q.length
    · have HQI := Lib.hid (HQ.out.enter hlt)
      obtain ⟨u, hu⟩ : ∃ u, q[p]? = some u := ⟨_, List.getElem?_eq_getElem hlt⟩
      clear HQ
      go_wp2_with fail
      obtain ⟨wo, rfl⟩ : ∃ wo : World, wo = wr := ⟨_, rfl⟩
      go_loopw [5, 19] (fun v z wr => ∃ (k : Nat) (q : List Int) (g cq : Nat), k ≤ n ∧ q.length ≤ 5 ∧ p < q.length ∧ v = .slice (some ⟨g, 0, none⟩) q.length cq ∧ z = .int .i64 k ∧ Hid (q[p]? = some u) ∧ Hid (QI M l q p k) ∧ Hid (wr.ownsRow w.heap.size 3 1 (.slice (some ⟨g, 0, none⟩) q.length cq) q.length (ints q)) ∧ Hid (Below w.heap.size w wr)) (fun _ z _ => n - (intOf z).toNat)
      case atStart => exact ⟨0, q, g, cq, by omega, hq5, hlt, rfl, rfl, hu, HQI.out, H.out, HB.out⟩
      case round =>
        clear hu HQI H HB hlt hq5 hpq
        obtain ⟨k, q2, g2, cq2, hk, hq5, hpq, rfl, rfl, HU, HQ2, H2, HB2⟩ := hrel
        by_cases hkn : k < n
        · obtain ⟨b, o, rfl, hb, _⟩ := HR.out.form (by omega)
          have hli : k < l.length := by rw [HL.out]; exact hkn
          obtain ⟨p0, p1, p2⟩ := wire_cells HR.out k hli
          rw [← HB2.out.cell (p := ⟨b, _, none⟩) hb] at p0 p1 p2
          have hbl : b < wr.heap.size := Nat.lt_of_lt_of_le hb HB2.out.size
          have hbn : ¬ b = wr.heap.size := by omega
          have hbn' : ¬ wr.heap.size = b := by omega
          have hgl : g2 < wr.heap.size := (own_base H2.out _ rfl).2
          have hgn : ¬ g2 = wr.heap.size := by omega
          have hgn' : ¬ wr.heap.size = g2 := by omega
          have R2 := Lib.hid (ArgRow.own H2.out)
          have hup : q2[p] = u := by have := HU.out; rw [List.getElem?_eq_getElem hpq] at this; simpa using this
          have qc := int_cell R2.out p hpq
          rw [hup, Nat.zero_add] at qc
          have hgd := HG.out l[k] (List.getElem_mem _)
          have HM : Hid (l[k] ∈ l) := List.getElem_mem _
          have HSK : Hid (∀ q', QI M l q' p k → q'[p]? = some u → (l[k].1 = u → l[k].2.1 ∈ q') → (l[k].2.1 = u → l[k].1 ∈ q') → QI M l q' p (k + 1)) := fun q' h hu h1 h2 => h.skip hli hu h1 h2
          have hub : Rch l u := by
            have := HQ2.out.qq.rc u (by rw [← hup]; exact List.getElem_mem _)
            exact this
          generalize l[k] = x at p0 p1 p2 hgd HM HSK
          obtain ⟨x0, x1, x2⟩ := x
          obtain ⟨h1, h2, h3, h4, h5⟩ := hgd
          simp only at h1 h2 h3 h4 h5
          have HUB := Lib.hid hub
          clear hli hup hub
          by_cases e0 : x0 = u
          · subst e0
            have e1 : (x1 == x0) = false := by simp; omega
            by_cases hin : x1 ∈ q2
            · have KH := Lib.hid (fun (w : World) r => specHas (some ⟨g2, 0, none⟩) q2.length cq2 q2 x1 true ⟨fun _ => hin, fun _ => rfl⟩ w r)
              have HS2 : Hid (QI M l q2 p (k + 1)) := HSK.out q2 HQ2.out HU.out (fun _ => hin) (fun e => by simp at e; omega)
              clear hin
              go_wp2_with fail
              go_region_with (go_at_call 161; (with_reducible refine (KH.out _ (R2.out.below (by (repeat' (first | (with_reducible exact Below.refl _ _) | (with_reducible assumption) | (with_reducible refine balloc ?_ _) | (with_reducible refine Below.drew ?_) | (with_reducible refine below_drewN ?_ _) | (with_reducible refine bset ?_ ?_ _) | (with_reducible refine bstep ?_ (by assumption)) | go_size))))).mono ?_); rintro e w2 ⟨rfl, rfl⟩)
              all_goals
                go_wp2_with fail
                go_quiet (fail)
                go_wp2_with fail
                go_roundw
                case rel => exact ⟨k + 1, q2, g2, cq2, by omega, hq5, hpq, rfl, by go_num, HU.out, HS2.out, (own_drewN (H2.out.alloc _)), below_drewN (balloc HB2.out _) _⟩
                case measure => simp [intOf]; omega
            · have KH := Lib.hid (fun (w : World) r => specHas (some ⟨g2, 0, none⟩) q2.length cq2 q2 x1 false ⟨(fun h => by cases h), fun h => absurd h hin⟩ w r)
              go_wp2_with fail
              go_region_with (go_at_call 161; (with_reducible refine (KH.out _ (R2.out.below (by (repeat' (first | (with_reducible exact Below.refl _ _) | (with_reducible assumption) | (with_reducible refine balloc ?_ _) | (with_reducible refine Below.drew ?_) | (with_reducible refine below_drewN ?_ _) | (with_reducible refine bset ?_ ?_ _) | (with_reducible refine bstep ?_ (by assumption)) | go_size))))).mono ?_); rintro e w2 ⟨rfl, rfl⟩)
              all_goals
                obtain ⟨u_, hu_⟩ : ∃ u_, u_ = x0 := ⟨_, rfl⟩
                rw [← hu_] at HU
                have HA := Lib.hid (HQ2.out.add hin (by omega) (.fwd HM.out HUB.out))
                have hlen := HA.out.qq.le
                simp only [List.length_append, List.length_cons, List.length_nil] at hlen
                have hown := H2.out
                go_wp2_with (at_builtin; refine wpList_append_own _ rfl _ _ 79 rfl w.heap.size 3 i0 (.int .i64 0) 1 8 Try.underlying79 HI.out.1 HI.out.2.1 HI.out.2.2.1 HI.out.2.2.2 rfl (by decide) _ _ _ rfl (World.ownsRow.alloc (own_drewN (hown.alloc _)) _) ⟨wr.heap.size + 1, 0, none⟩ 1 1 [.int .i64 x1] rfl rfl ?c1 ?c2 ?c3 ?c4 ?c5 ?_)
                case c1 =>
                  intro j v hj
                  match j, hj with
                  | 0, hj => simp at hj; subst hj; simp [go_sem]
                  | j + 1, hj => simp at hj
                case c2 => intro v hv; simp at hv; subst hv; rfl
                case c3 => unfold maxLen; omega
                case c4 => omega
                case c5 => have := HB2.out.size; simp; omega
                intro v' w1 hown' hgrow _
                obtain ⟨g3, c3, rfl⟩ := own_some hown' (by omega)
                have e3 : (q2 ++ [x1]).length = q2.length + 1 := by simp
                have H3 : Hid (w1.ownsRow w.heap.size 3 1 (.slice (some ⟨g3, 0, none⟩) (q2 ++ [x1]).length c3) (q2 ++ [x1]).length (ints (q2 ++ [x1]))) := by
                  show World.ownsRow _ _ _ _ _ _ _
                  rw [← ints_snoc, e3]; exact hown'
                have hgr : wr.heap.size + 1 + 1 ≤ w1.heap.size := by have := hgrow.size; simpa using this
                have HB3' : Hid (Below w.heap.size w w1) := (balloc (below_drewN (balloc HB2.out _) _) _).grown hgrow (by have := HB2.out.size; simp; omega) (fun k hk => (hown.lt k hk).1)
                have ub (o : Nat) : w1.cell? ⟨wr.heap.size, o, none⟩ = (wr.alloc (.cells #[.int .i64 x0, .int .i64 x1, .int .i64 x2] 102)).cell? ⟨wr.heap.size, o, none⟩ := by
                  have h9 := hgrow.block wr.heap.size (by simp; omega) (by simp [Value.ownBlock]; omega)
                  rw [World.cell?_of_block (a := ⟨wr.heap.size, o, none⟩) h9]
                  simp [go_sem]
                have hu3 : Hid ((q2 ++ [x1])[p]? = some u_) := by
                  show _ = _
                  rw [List.getElem?_append_left hpq]; exact HU.out
                have hp3 : p < (q2 ++ [x1]).length := by omega
                have qc3 := int_cell (ArgRow.own H3.out) p hp3
                have e4 : (q2 ++ [x1])[p] = u_ := by have := hu3.out; rw [List.getElem?_eq_getElem hp3] at this; simpa using this
                rw [e4, Nat.zero_add] at qc3
                have hg3 := (own_base H3.out _ rfl).2
                simp only at hg3
                have hw1 : wr.heap.size < w1.heap.size := by omega
                clear hown hown' hgrow hgr e4
                generalize (q2 ++ [x1]).length = m3 at e3 H3 hp3
                subst e3
                have HS2 : Hid (QI M l (q2 ++ [x1]) p (k + 1)) := HSK.out _ HA.out (by rw [← hu_]; exact hu3.out) (fun _ => by simp) (fun e => absurd (show x1 = x0 from e) (by omega))
                go_wp2_with fail
                go_quiet (fail)
                go_wp2_with fail
                go_roundw
                case rel => exact ⟨k + 1, q2 ++ [x1], g3, c3, by omega, by simp; omega, by simp; omega, by simp, by go_num, by rw [← hu_]; exact hu3.out, HS2.out, by show World.ownsRow _ _ _ _ _ _ _; simpa using own_drewN H3.out, below_drewN HB3'.out _⟩
                case measure => simp [intOf]; omega
          · have e0' : (x0 == u) = false := by simp [e0]
            by_cases e1 : x1 = u
            · subst e1
              by_cases hin : x0 ∈ q2
              · have KH := Lib.hid (fun (w : World) r => specHas (some ⟨g2, 0, none⟩) q2.length cq2 q2 x0 true ⟨fun _ => hin, fun _ => rfl⟩ w r)
                have HS2 : Hid (QI M l q2 p (k + 1)) := HSK.out q2 HQ2.out HU.out (fun e => absurd (show x0 = x1 from e) (by omega)) (fun _ => hin)
                clear hin
                go_wp2_with fail
                go_quiet (fail)
                go_wp2_with fail
                go_region_with (go_at_call 161; (with_reducible refine (KH.out _ (R2.out.below (by (repeat' (first | (with_reducible exact Below.refl _ _) | (with_reducible assumption) | (with_reducible refine balloc ?_ _) | (with_reducible refine Below.drew ?_) | (with_reducible refine below_drewN ?_ _) | (with_reducible refine bset ?_ ?_ _) | (with_reducible refine bstep ?_ (by assumption)) | go_size))))).mono ?_); rintro e w2 ⟨rfl, rfl⟩)
                all_goals
                  go_wp2_with fail
                  go_roundw
                  case rel => exact ⟨k + 1, q2, g2, cq2, by omega, hq5, hpq, rfl, by go_num, HU.out, HS2.out, (by show World.ownsRow _ _ _ _ _ _ _; first | exact own_drewN (H2.out.alloc _) | exact own_drewN (own_drewN (H2.out.alloc _))), (by first | exact below_drewN (balloc HB2.out _) _ | exact below_drewN (below_drewN (balloc HB2.out _) _) _)⟩
                  case measure => simp [intOf]; omega
              · have KH := Lib.hid (fun (w : World) r => specHas (some ⟨g2, 0, none⟩) q2.length cq2 q2 x0 false ⟨(fun h => by cases h), fun h => absurd h hin⟩ w r)
                go_wp2_with fail
                go_quiet (fail)
                go_wp2_with fail
                go_region_with (go_at_call 161; (with_reducible refine (KH.out _ (R2.out.below (by (repeat' (first | (with_reducible exact Below.refl _ _) | (with_reducible assumption) | (with_reducible refine balloc ?_ _) | (with_reducible refine Below.drew ?_) | (with_reducible refine below_drewN ?_ _) | (with_reducible refine bset ?_ ?_ _) | (with_reducible refine bstep ?_ (by assumption)) | go_size))))).mono ?_); rintro e w2 ⟨rfl, rfl⟩)
                all_goals
                  obtain ⟨u_, hu_⟩ : ∃ u_, u_ = x1 := ⟨_, rfl⟩
                  rw [← hu_] at HU
                  have HA := Lib.hid (HQ2.out.add hin (by omega) (.bwd HM.out HUB.out))
                  have hlen := HA.out.qq.le
                  simp only [List.length_append, List.length_cons, List.length_nil] at hlen
                  have hown := H2.out
                  go_wp2_with (at_builtin; refine wpList_append_own _ rfl _ _ 79 rfl w.heap.size 3 i0 (.int .i64 0) 1 8 Try.underlying79 HI.out.1 HI.out.2.1 HI.out.2.2.1 HI.out.2.2.2 rfl (by decide) _ _ _ rfl (World.ownsRow.alloc (own_drewN (hown.alloc _)) _) ⟨wr.heap.size + 1, 0, none⟩ 1 1 [.int .i64 x0] rfl rfl ?c1 ?c2 ?c3 ?c4 ?c5 ?_)
                  case c1 =>
                    intro j v hj
                    match j, hj with
                    | 0, hj => simp at hj; subst hj; simp [go_sem]
                    | j + 1, hj => simp at hj
                  case c2 => intro v hv; simp at hv; subst hv; rfl
                  case c3 => unfold maxLen; omega
                  case c4 => omega
                  case c5 => have := HB2.out.size; simp; omega
                  intro v' w1 hown' hgrow _
                  obtain ⟨g3, c3, rfl⟩ := own_some hown' (by omega)
                  have e3 : (q2 ++ [x0]).length = q2.length + 1 := by simp
                  have H3 : Hid (w1.ownsRow w.heap.size 3 1 (.slice (some ⟨g3, 0, none⟩) (q2 ++ [x0]).length c3) (q2 ++ [x0]).length (ints (q2 ++ [x0]))) := by
                    show World.ownsRow _ _ _ _ _ _ _
                    rw [← ints_snoc, e3]; exact hown'
                  have hgr : wr.heap.size + 1 + 1 ≤ w1.heap.size := by have := hgrow.size; simpa using this
                  have HB3' : Hid (Below w.heap.size w w1) := (balloc (below_drewN (balloc HB2.out _) _) _).grown hgrow (by have := HB2.out.size; simp; omega) (fun k hk => (hown.lt k hk).1)
                  have ub (o : Nat) : w1.cell? ⟨wr.heap.size, o, none⟩ = (wr.alloc (.cells #[.int .i64 x0, .int .i64 x1, .int .i64 x2] 102)).cell? ⟨wr.heap.size, o, none⟩ := by
                    have h9 := hgrow.block wr.heap.size (by simp; omega) (by simp [Value.ownBlock]; omega)
                    rw [World.cell?_of_block (a := ⟨wr.heap.size, o, none⟩) h9]
                    simp [go_sem]
                  have hu3 : Hid ((q2 ++ [x0])[p]? = some u_) := by
                    show _ = _
                    rw [List.getElem?_append_left hpq]; exact HU.out
                  have hp3 : p < (q2 ++ [x0]).length := by omega
                  have qc3 := int_cell (ArgRow.own H3.out) p hp3
                  have e4 : (q2 ++ [x0])[p] = u_ := by have := hu3.out; rw [List.getElem?_eq_getElem hp3] at this; simpa using this
                  rw [e4, Nat.zero_add] at qc3
                  have hg3 := (own_base H3.out _ rfl).2
                  simp only at hg3
                  have hw1 : wr.heap.size < w1.heap.size := by omega
                  clear hown hown' hgrow hgr e4
                  generalize (q2 ++ [x0]).length = m3 at e3 H3 hp3
                  subst e3
                  have HS2 : Hid (QI M l (q2 ++ [x0]) p (k + 1)) := HSK.out _ HA.out (by rw [← hu_]; exact hu3.out) (fun e => absurd (show x0 = x1 from e) (by omega)) (fun _ => by simp)
                  go_wp2_with fail
                  go_roundw
                  case rel => exact ⟨k + 1, q2 ++ [x0], g3, c3, by omega, by simp; omega, by simp; omega, by simp, by go_num, by rw [← hu_]; exact hu3.out, HS2.out, by show World.ownsRow _ _ _ _ _ _ _; simpa using H3.out, HB3'.out⟩
                  case measure => simp [intOf]; omega
            · have e1' : (x1 == u) = false := by simp [e1]
              have HS2 : Hid (QI M l q2 p (k + 1)) := HSK.out q2 HQ2.out HU.out (fun e => absurd e e0) (fun e => absurd e e1)
              clear e0 e1
              go_wp2_with fail
              go_quiet (fail)
              go_wp2_with fail
              go_quiet (fail)
              go_wp2_with fail
              go_roundw
              case rel => exact ⟨k + 1, q2, g2, cq2, by omega, hq5, hpq, rfl, by go_num, HU.out, HS2.out, (by show World.ownsRow _ _ _ _ _ _ _; first | exact own_drewN (H2.out.alloc _) | exact own_drewN (own_drewN (H2.out.alloc _))), (by first | exact below_drewN (balloc HB2.out _) _ | exact below_drewN (below_drewN (balloc HB2.out _) _) _)⟩
              case measure => simp [intOf]; omega
        · obtain rfl : k = n := by omega
          have HQ3 : Hid (QO M l q2 (p + 1)) := by
            have := HQ2.out
            rw [← HL.out] at this
            exact this.leave
          go_wp2_with fail
          go_roundw
          case rel => exact ⟨p + 1, q2, g2, cq2, by omega, hq5, by omega, rfl, by go_num, HQ3.out, H2.out, HB2.out⟩
          case measure => simp [intOf]; omega
    · have e : p = q.length := by omega
      have HQ2 : Hid (QO M l q q.length) := by have := HQ.out; rw [e] at this; exact this
      go_wp2_with fail
      go_ret
      exact ⟨_, _, q, rfl, HQ2.out.qq, HQ2.out.done, HB.out⟩
end Go.Proofs.Ytjchindjoailbaa

/- RatioOk of the reference answers the same Bool; toRatio copies a fraction. -/
namespace Go.Proofs.Ytjchindjoailbaa
set_option linter.unusedSimpArgs false
set_option linter.unusedVariables false
open Go.RowKit

theorem inRange (n lo hi : Int) (w : World) (b : Bool) (h : b = true ↔ lo ≤ n ∧ n ≤ hi) :
    Calls Try.prog 113 #[.int .i64 n, .int .i64 lo, .int .i64 hi] w fun e w' => e = .returned (.bool b) ∧ w = w' := specIn n lo hi b h w

set_option maxHeartbeats 400000 in
theorem specRatioOk (n d : Int) (w : World) (b : Bool) (h : b = true ↔ okZ n d) :
    Calls Try.prog 94 #[ratV n d] w fun e w' => e = .returned (.bool b) ∧ Below w.heap.size w w' := by
  have HB := Lib.hid h
  clear h
  by_cases h1 : 1 ≤ d ∧ d ≤ 1000000000000000
  · by_cases h2 : -1000000000000000000 ≤ n ∧ n ≤ 1000000000000000000
    · obtain ⟨h1a, h1b⟩ := h1
      obtain ⟨h2a, h2b⟩ := h2
      have H5 : Hid (b = (gcdZ n d == 1)) := by
        have := HB.out
        show b = _
        rw [Bool.eq_iff_iff, this]; unfold okZ; simp; omega
      have h5 : (gcdZ n d == 1) = true ∨ (gcdZ n d == 1) = false := by cases (gcdZ n d == 1) <;> simp
      rcases h5 with h5 | h5
      all_goals
        go_enter Try.func94, Try.ntmps94
        go_wp2_with fail
        refine (inRange _ _ _ _ true (by simp; omega)).mono ?_
        rintro e w' ⟨rfl, rfl⟩
        go_wp2_with fail
        refine (inRange _ _ _ _ true (by simp; omega)).mono ?_
        rintro e w' ⟨rfl, rfl⟩
        go_wp2_with fail
        refine (specGcd n d _ (by omega) (by omega) (by omega) (by omega)).mono ?_
        rintro e w' ⟨rfl, m, rfl⟩
        go_wp2_with fail
        go_ret
        exact ⟨ret_bool (by rw [H5.out, h5]), below_drewN ((Below.refl _ _).alloc (Nat.le_refl _) _) _⟩
    · have HN : Hid (b = false) := bfalse HB.out (by unfold okZ; omega)
      go_enter Try.func94, Try.ntmps94
      go_wp2_with fail
      refine (inRange _ _ _ _ true (by simp; omega)).mono ?_
      rintro e w' ⟨rfl, rfl⟩
      go_wp2_with fail
      refine (inRange _ _ _ _ false (by simp; omega)).mono ?_
      rintro e w' ⟨rfl, rfl⟩
      go_wp2_with fail
      go_ret
      exact ⟨ret_bool HN.out.symm, by go_grown⟩
  · have HN : Hid (b = false) := bfalse HB.out (by unfold okZ; omega)
    go_enter Try.func94, Try.ntmps94
    go_wp2_with fail
    refine (inRange _ _ _ _ false (by simp; omega)).mono ?_
    rintro e w' ⟨rfl, rfl⟩
    go_wp2_with fail
    go_ret
    exact ⟨ret_bool HN.out.symm, by go_grown⟩


set_option maxHeartbeats 400000 in
theorem toRatio (n d : Int) (w : World) :
    Calls Try.prog 99 #[ratV n d] w fun e w' => e = .returned (ratV n d) ∧ Below w.heap.size w w' := by
  go_enter Try.func99, Try.ntmps99
  go_wp2_with fail
  go_returns
  exact ⟨rfl, by go_grown⟩


end Go.Proofs.Ytjchindjoailbaa

/- The two roundings down compute the integer quotient rounded down; RatioFloor and RatioCeil. -/
namespace Go.Proofs.Ytjchindjoailbaa
set_option linter.unusedSimpArgs false
set_option linter.unusedVariables false
open Go.RowKit

theorem ediv_of {n d q : Int} (hd : 0 < d) (h1 : q * d ≤ n) (h2 : n < (q + 1) * d) : n / d = q := by
  have a : q ≤ n / d := (Int.le_ediv_iff_mul_le hd).2 h1
  have b : n / d < q + 1 := (Int.ediv_lt_iff_lt_mul hd).2 h2
  omega

theorem tdiv_parts (n d : Int) (hd : 0 < d) (hn : n < 0) : ∃ t r : Int, n.tdiv d = t ∧ n.tmod d = r ∧ t * d + r = n ∧ -d < r ∧ r ≤ 0 ∧ n ≤ t ∧ t ≤ 0 := by
  have e1 : (-(-n)).tdiv d = -((-n).tdiv d) := Int.neg_tdiv _ _
  have e2 : (-(-n)).tmod d = -((-n).tmod d) := Int.neg_tmod _ _
  rw [Int.neg_neg] at e1 e2
  rw [show (-n).tdiv d = -n / d from Int.tdiv_eq_ediv_of_nonneg (by omega)] at e1
  rw [show (-n).tmod d = -n % d from Int.tmod_eq_emod_of_nonneg (by omega)] at e2
  have h3 := Int.mul_ediv_add_emod (-n) d
  have h4 := Int.emod_nonneg (-n) (show d ≠ 0 by omega)
  have h5 := Int.emod_lt_of_pos (-n) hd
  have h6 : 0 ≤ (-n) / d := Int.ediv_nonneg (by omega) (by omega)
  have h7 : (-n) / d ≤ -n := Int.ediv_le_self _ (by omega)
  refine ⟨_, _, e1, e2, ?_, by omega, by omega, by omega, by omega⟩
  rw [Int.neg_mul, Int.mul_comm]; omega

set_option maxHeartbeats 400000 in
theorem implFloor (n d : Int) (w : World) (hd : 0 < d) (hd2 : d ≤ 1000000000000000000) (h1 : -1000000000000000000 ≤ n) (h2 : n ≤ 1000000000000000000) :
    Calls Try.prog 127 #[.int .i64 n, .int .i64 d] w fun e w' => e = .returned (.int .i64 (n / d)) ∧ w = w' := by
  have hd0 : (d == 0) = false := by simp; omega
  have hd1 : (d == -1) = false := by simp; omega
  by_cases hn : 0 ≤ n
  · have hq : 0 ≤ n / d := Int.ediv_nonneg hn (by omega)
    have hq2 : n / d ≤ n := Int.ediv_le_self _ hn
    have hm : n / d * d ≤ n := Int.ediv_mul_le _ (by omega)
    have hm2 : 0 ≤ n / d * d := Int.mul_nonneg hq (by omega)
    go_enter Try.func127, Try.ntmps127
    go_wp2_with fail
    go_ret
    exact ⟨rfl, rfl⟩
  · obtain ⟨t, r, ht, hr, he, hr1, hr2, ht1, ht2⟩ := tdiv_parts n d hd (by omega)
    have hm : n ≤ t * d := by omega
    have hm2 : t * d ≤ 1000000000000000000 := by omega
    have HE := Lib.hid he
    by_cases h0 : r < 0
    · have h0' : n < t * d := by omega
      clear he
      go_enter Try.func127, Try.ntmps127
      go_wp2_with fail
      go_ret
      refine ⟨ret_int (ediv_of hd ?_ ?_).symm, rfl⟩
      · have := HE.out; rw [Int.sub_mul]; omega
      · have := HE.out; rw [show t - 1 + 1 = t by omega]; omega
    · have h0' : ¬ n < t * d := by omega
      clear he
      go_enter Try.func127, Try.ntmps127
      go_wp2_with fail
      go_ret
      refine ⟨ret_int (ediv_of hd ?_ ?_).symm, rfl⟩
      · have := HE.out; omega
      · have := HE.out; rw [Int.add_mul]; omega

end Go.Proofs.Ytjchindjoailbaa

/- RatioFloor and RatioCeil of the program and of the reference round alike. -/
namespace Go.Proofs.Ytjchindjoailbaa
set_option linter.unusedSimpArgs false
set_option linter.unusedVariables false
open Go.RowKit

theorem okZ_bd {n d : Int} (h : okZ n d) : 0 < d ∧ d ≤ 1000000000000000 ∧ -1000000000000000000 ≤ n ∧ n ≤ 1000000000000000000 := by unfold okZ at h; omega



end Go.Proofs.Ytjchindjoailbaa

/- Plain facts on fractions in lowest terms, with no program in sight. -/
namespace Gn

def gz (n d : Int) : Nat := Nat.gcd n.natAbs d.natAbs
/-- numerator and denominator of n / d in lowest terms, the denominator positive -/
def ratN (n d : Int) : Int := if (decide (n < 0) != decide (d < 0)) = true then -((n.natAbs / gz n d : Nat) : Int) else ((n.natAbs / gz n d : Nat) : Int)
def ratD (n d : Int) : Int := ((d.natAbs / gz n d : Nat) : Int)
/-- what RatioOf gives: the fraction in lowest terms, or zeros if it is none or too large -/
def fit (n d : Int) : Bool := decide (d ≠ 0) && decide (n.natAbs / gz n d ≤ 1000000000000000000) && decide (d.natAbs / gz n d ≤ 1000000000000000)
def rat (n d : Int) : Int × Int := if fit n d = true then (ratN n d, ratD n d) else (0, 0)

theorem gz_pos (n d : Int) (h : d ≠ 0) : 0 < gz n d := Nat.gcd_pos_of_pos_right _ (by omega)
theorem gz_dvd_n (n d : Int) : gz n d ∣ n.natAbs := Nat.gcd_dvd_left _ _
theorem gz_dvd_d (n d : Int) : gz n d ∣ d.natAbs := Nat.gcd_dvd_right _ _
theorem ratD_pos (n d : Int) (h : d ≠ 0) : 0 < ratD n d := by
  unfold ratD
  have := Nat.div_pos (Nat.le_of_dvd (by omega) (gz_dvd_d n d)) (gz_pos n d h)
  omega
theorem ratN_abs (n d : Int) : (ratN n d).natAbs = n.natAbs / gz n d := by
  unfold ratN; generalize n.natAbs / gz n d = x; split <;> omega
theorem ratD_abs (n d : Int) : (ratD n d).natAbs = d.natAbs / gz n d := by
  unfold ratD; generalize d.natAbs / gz n d = x; omega
theorem rat_coprime (n d : Int) (h : d ≠ 0) : Nat.gcd (ratN n d).natAbs (ratD n d).natAbs = 1 := by
  rw [ratN_abs, ratD_abs]
  exact (Nat.coprime_div_gcd_div_gcd (gz_pos n d h))
/-- it is the same fraction -/
theorem rat_cross (n d : Int) : ratN n d * d = n * ratD n d := by
  have hn := Nat.div_mul_cancel (gz_dvd_n n d)
  have hd := Nat.div_mul_cancel (gz_dvd_d n d)
  generalize hg : gz n d = g at hn hd
  have key : ((n.natAbs / g : Nat) : Int) * (d.natAbs : Int) = (n.natAbs : Int) * ((d.natAbs / g : Nat) : Int) := by
    generalize ha : n.natAbs / g = a at hn
    generalize hb : d.natAbs / g = b at hd
    rw [← hn, ← hd]; simp only [Int.natCast_mul]
    rw [Int.mul_assoc, Int.mul_comm (b : Int) (g : Int)]
  unfold ratN ratD
  rw [hg]
  by_cases h1 : n < 0
  · by_cases h2 : d < 0
    · rw [if_neg (by simp [h1, h2])]
      have e1 : n = -(n.natAbs : Int) := by omega
      have e2 : d = -(d.natAbs : Int) := by omega
      have e3 : ((n.natAbs / g : Nat) : Int) * d = -(((n.natAbs / g : Nat) : Int) * (d.natAbs : Int)) := by
        rw [← Int.mul_neg, ← e2]
      have e4 : n * ((d.natAbs / g : Nat) : Int) = -((n.natAbs : Int) * ((d.natAbs / g : Nat) : Int)) := by
        rw [← Int.neg_mul, ← e1]
      rw [e3, e4, key]
    · rw [if_pos (by simp [h1, h2])]
      have e1 : n = -(n.natAbs : Int) := by omega
      have e2 : d = (d.natAbs : Int) := by omega
      rw [Int.neg_mul]
      have e3 : n * ((d.natAbs / g : Nat) : Int) = -((n.natAbs : Int) * ((d.natAbs / g : Nat) : Int)) := by
        rw [← Int.neg_mul, ← e1]
      rw [e3, ← key, ← e2]
  · by_cases h2 : d < 0
    · rw [if_pos (by simp [h1, h2])]
      have e1 : n = (n.natAbs : Int) := by omega
      have e2 : d = -(d.natAbs : Int) := by omega
      rw [Int.neg_mul]
      have e3 : ((n.natAbs / g : Nat) : Int) * d = -(((n.natAbs / g : Nat) : Int) * (d.natAbs : Int)) := by
        rw [← Int.mul_neg, ← e2]
      rw [e3, key, Int.neg_neg, ← e1]
    · rw [if_neg (by simp [h1, h2])]
      have e1 : n = (n.natAbs : Int) := by omega
      have e2 : d = (d.natAbs : Int) := by omega
      rw [← e1, ← e2] at key
      exact key

end Gn
