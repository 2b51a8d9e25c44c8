/- Wires dropped and put by the reference. -/
import Derived.Test.YtjchindjoailbaaG07
import Derived.Test.YtjchindjoailbaaG08
import Derived.Test.YtjchindjoailbaaG12
import Derived.Deep.AppendLies
import Derived.Test.YtjchindjoailbaaG10
import Derived.Test.YtjchindjoailbaaG03
namespace Go.Proofs.Ytjchindjoailbaa
set_option linter.unusedSimpArgs false
set_option linter.unusedVariables false
open Go.RowKit

theorem cell_wire_new (w : World) (x : Wz) (t : TypeId) : ∀ j u, (wireV x)[j]? = some u → (w.alloc (.cells #[.int .i64 x.1, .int .i64 x.2.1, .int .i64 x.2.2] t)).cell? ((⟨w.heap.size, 0, none⟩ : Addr).add j) = some u := World.news_of_block (heap_alloc_new w _)
theorem wireV_one (x : Wz) : ∀ u ∈ wireV x, u.oneCell' = true := by
  intro u hu
  simp [wireV] at hu
  rcases hu with rfl | rfl | rfl <;> rfl
theorem wires_snoc (l : List Wz) (x : Wz) : wires l ++ wireV x = wires (l ++ [x]) := by simp [wires]
/-- a wire's own box -/
def wireAt (x : Wz) (i : Nat) : Value := if i = 0 then .int .i64 x.1 else if i = 1 then .int .i64 x.2.1 else .int .i64 x.2.2
theorem wireAt_new (w : World) (x : Wz) (t : TypeId) : (w.alloc (.cells #[.int .i64 x.1, .int .i64 x.2.1, .int .i64 x.2.2] t)).rowIs w.heap.size t 3 (wireAt x) :=
  World.rowIs_alloc w _ t _ (fun i hi => by
    have : i = 0 ∨ i = 1 ∨ i = 2 := by simp at hi; omega
    rcases this with rfl | rfl | rfl <;> rfl)

set_option maxRecDepth 100000 in
set_option maxHeartbeats 4000000 in
theorem specDrop (a : Option Addr) (n c : Nat) (l : List Wz) (w : World) (hr : ArgRow w a n c 3 (wires l)) (hl : l.length = n) (hn : n ≤ 1048576) :
    Calls Try.prog 151 #[.slice a n c] w fun e w' => ∃ g c', e = .returned (.slice (some ⟨g, 0, none⟩) (dropL l).length c') ∧ w'.ownsRow w.heap.size 102 3 (.slice (some ⟨g, 0, none⟩) (dropL l).length c') (dropL l).length (wires (dropL l)) ∧ Below w.heap.size w w' := by
  obtain ⟨i0, hi, hz0, hz1, hz2⟩ := info_parts infoWire
  have HI := Lib.hid (And.intro hi (And.intro hz0 (And.intro hz1 hz2)))
  clear hi hz0 hz1 hz2
  have HR := Lib.hid hr
  have HL := Lib.hid hl
  clear hr hl
  go_enter Try.func151, Try.ntmps151
  go_wp2_with fail
  go_loopw [3, 9] (fun v u wr => ∃ (k m g cg : Nat) (L : List Wz), k ≤ n ∧ m ≤ k ∧ u = .int .i64 k ∧ v = .slice (some ⟨g, 0, none⟩) m cg ∧ Hid (L = dropL (l.take k) ∧ L.length = m) ∧ Hid (wr.ownsRow w.heap.size 102 3 (.slice (some ⟨g, 0, none⟩) m cg) m (wires L)) ∧ Hid (Below w.heap.size w wr)) (fun _ u _ => n - (intOf u).toNat)
  case atStart => exact ⟨0, 0, w.heap.size, 0, [], by omega, by omega, rfl, rfl, ⟨rfl, rfl⟩, World.ownsRow_lit (base := w.heap.size) (size := 3) w #[] 0 (by omega) (by simp) rfl, balloc (Below.refl _ _) _⟩
  case round =>
    obtain ⟨k, m, g, cg, L, hk, hm, rfl, rfl, HE, HO, HB⟩ := hrel
    by_cases hlt : k < n
    · have hli : k < l.length := by rw [HL.out]; exact hlt
      obtain ⟨b, o, rfl, hb, _⟩ := HR.out.form (by omega)
      obtain ⟨p0, p1, p2⟩ := wire_cells HR.out k hli
      have hbl : b < wr.heap.size := Nat.lt_of_lt_of_le hb HB.out.size
      rw [← HB.out.cell (p := ⟨b, _, none⟩) hb] at p0 p1 p2
      have hgl := (own_base HO.out _ rfl).2
      simp only at hgl
      have hsz := HB.out.size
      by_cases hx : l[k].2.2 = 0
      · have HE2 : Hid (L = dropL (l.take (k + 1)) ∧ L.length = m) := ⟨by rw [dropL_yes hli hx]; exact HE.out.1, HE.out.2⟩
        generalize l[k] = x at p0 p1 p2 hx
        obtain ⟨x0, x1, x2⟩ := x
        simp only at hx
        subst hx
        clear hli
        go_wp2_with fail
        go_roundw
        case rel => exact ⟨k + 1, m, g, cg, L, by omega, by omega, by go_num, rfl, HE2.out, HO.out.alloc _, balloc HB.out _⟩
        case measure => simp [intOf]; omega
      · have HE2 : Hid (L ++ [l[k]] = dropL (l.take (k + 1)) ∧ (L ++ [l[k]]).length = m + 1) := ⟨by rw [dropL_no hli hx, HE.out.1], by simp [HE.out.2]⟩
        generalize l[k] = x at p0 p1 p2 hx HE2
        obtain ⟨x0, x1, x2⟩ := x
        simp only at hx
        have hx2 : (x2 == 0) = false := by simp [hx]
        have hx3 : (x2 != 0) = true := by simp [hx]
        clear hli
        have hown := (HO.out.alloc (.cells #[.int .i64 x0, .int .i64 x1, .int .i64 x2] 102)).alloc (.cells #[.int .i64 x0, .int .i64 x1, .int .i64 x2] 102)
        go_wp2_with (at_builtin; refine wpList_append_lies _ rfl _ _ 23 rfl w.heap.size 102 i0 (.agg #[.int .i64 0, .int .i64 0, .int .i64 0]) 3 24 Try.underlying23 HI.out.1 HI.out.2.1 HI.out.2.2.1 HI.out.2.2.2 rfl (by decide) _ _ _ rfl hown ⟨wr.heap.size + 1, 0, none⟩ 1 1 (wireV (x0, x1, x2)) rfl rfl ?c1 ?c2 (by omega) ?c3 ?c4 ?c5 _ rfl ?_)
        case c1 => first | (exact fun j u hu => hu) | (have := cell_wire_new (wr.alloc (.cells #[.int .i64 x0, .int .i64 x1, .int .i64 x2] 102)) (x0, x1, x2) 102; simp only [World.size_alloc] at this; exact this)
        case c2 => exact wireV_one _
        case c3 => unfold maxLen; omega
        case c4 => omega
        case c5 => first | omega | (simp only [World.size_alloc]; omega) | (simp; omega)
        intro g3 c3 w7 hown' hgrow hlies hlt7
        have H7 : Hid (w7.ownsRow w.heap.size 102 3 (.slice (some ⟨g3, 0, none⟩) (m + 1) c3) (m + 1) (wires (L ++ [(x0, x1, x2)]))) := by
          show World.ownsRow _ _ _ _ _ _ _
          rw [← wires_snoc]; exact hown'
        have HB7 : Hid (Below w.heap.size w w7) := (balloc (balloc HB.out _) _).grown hgrow (by simp; omega) (fun q hq => (hown.lt q hq).1)
        clear hown hown' hgrow hlies
        go_wp2_with fail
        go_roundw
        case rel => exact ⟨k + 1, m + 1, g3, c3, L ++ [(x0, x1, x2)], by omega, by omega, by go_num, rfl, HE2.out, H7.out, HB7.out⟩
        case measure => simp [intOf]; omega
    · obtain rfl : k = n := by omega
      obtain ⟨e1, e2⟩ := HE.out
      have e3 : L = dropL l := by rw [e1, List.take_of_length_le (by rw [HL.out]; omega)]
      have HE3 := Lib.hid e3
      have HE4 := Lib.hid e2
      clear e1 e2 e3
      go_wp2_with fail
      go_ret
      refine ⟨g, cg, ?_, ?_, HB.out⟩
      · rw [← HE3.out, HE4.out]; rfl
      · rw [← HE3.out, HE4.out]; exact HO.out
end Go.Proofs.Ytjchindjoailbaa

/- Nodes exchanged and joined, told by lists of wires. Plain Lean. -/
namespace Go.Proofs.Ytjchindjoailbaa
set_option linter.unusedSimpArgs false
set_option linter.unusedVariables false
open Go.RowKit

/-! exchanged -/
def sw (a b v : Int) : Int := if v = a then b else if v = b then a else v
theorem sw_sw (a b v : Int) : sw a b (sw a b v) = v := by unfold sw; split <;> split <;> (try split) <;> omega
theorem sw_inj {a b u v : Int} (h : sw a b u = sw a b v) : u = v := by have := congrArg (sw a b) h; rwa [sw_sw, sw_sw] at this
theorem sw_bd {a b v N : Int} (ha : 0 ≤ a ∧ a < N) (hb : 0 ≤ b ∧ b < N) (h : 0 ≤ v ∧ v < N) : 0 ≤ sw a b v ∧ sw a b v < N := by unfold sw; split <;> (try split) <;> omega
def swI (a b : Int) (e : Wz) : Wz := (min (sw a b e.1) (sw a b e.2.1), max (sw a b e.1) (sw a b e.2.1), e.2.2)
def swapL (a b : Int) (l : List Wz) : List Wz := l.foldl (fun out e => putL out (min (sw a b e.1) (sw a b e.2.1)) (max (sw a b e.1) (sw a b e.2.1)) e.2.2 false) []
theorem swapL_snoc {a b : Int} {l : List Wz} {k : Nat} (h : k < l.length) : swapL a b (l.take (k + 1)) = putL (swapL a b (l.take k)) (min (sw a b l[k].1) (sw a b l[k].2.1)) (max (sw a b l[k].1) (sw a b l[k].2.1)) l[k].2.2 false := by
  rw [List.take_succ_eq_append_getElem h, swapL, List.foldl_append]; rfl
theorem swI_key {a b : Int} {x y : Wz} (hx : x.1 < x.2.1) (hy : y.1 < y.2.1) (h1 : (swI a b x).1 = (swI a b y).1) (h2 : (swI a b x).2.1 = (swI a b y).2.1) : x.1 = y.1 ∧ x.2.1 = y.2.1 := by
  simp only [swI] at h1 h2
  have key : (sw a b x.1 = sw a b y.1 ∧ sw a b x.2.1 = sw a b y.2.1) ∨ (sw a b x.1 = sw a b y.2.1 ∧ sw a b x.2.1 = sw a b y.1) := by omega
  rcases key with ⟨e1, e2⟩ | ⟨e1, e2⟩
  · exact ⟨sw_inj e1, sw_inj e2⟩
  · have := sw_inj e1; have := sw_inj e2; omega
theorem swapL_told {a b : Int} {l : List Wz} (hs : Srt l) (ha : Asc l) : ∀ k, k ≤ l.length → Srt (swapL a b (l.take k)) ∧ ∀ y, y ∈ swapL a b (l.take k) ↔ ∃ e ∈ l.take k, y = swI a b e
  | 0, _ => by simp [swapL, Srt]
  | k + 1, hk => by
    obtain ⟨h1, h2⟩ := swapL_told hs ha k (by omega)
    rw [swapL_snoc (by omega)]
    refine ⟨putL_srt h1 _ _ _ _, fun y => ?_⟩
    have hte := List.take_succ_eq_append_getElem (show k < l.length by omega)
    rw [putL_mem, h2]
    simp only [Bool.false_eq_true, if_false]
    constructor
    · rintro (rfl | ⟨⟨e, he, rfl⟩, _⟩)
      · exact ⟨l[k], by rw [hte]; exact List.mem_append_right _ (List.mem_singleton.2 rfl), rfl⟩
      · exact ⟨e, by rw [hte]; exact List.mem_append_left _ he, rfl⟩
    · rintro ⟨e, he, rfl⟩
      rw [hte] at he
      rcases List.mem_append.1 he with he | he
      · refine .inr ⟨⟨e, he, rfl⟩, fun hkey => ?_⟩
        have hm : e ∈ l := List.mem_of_mem_take he
        have hx := swI_key (y := l[k]) (ha e hm) (ha _ (List.getElem_mem _)) hkey.1 hkey.2
        have hee := srt_key hs hm (List.getElem_mem _) hx.1 hx.2
        obtain ⟨i, hi, hie⟩ := List.getElem_of_mem he
        rw [List.length_take] at hi
        rw [List.getElem_take] at hie
        have hp := List.pairwise_iff_getElem.1 hs i k (by omega) (by omega) (by omega)
        rw [hie, hee] at hp
        exact lexlt_irrefl _ hp
      · simp at he; subst he; exact .inl rfl
theorem swapL_tab {a b : Int} {l : List Wz} {M : Nat} (hs : Srt l) (ha : Asc l) (hg : ∀ x ∈ l, 0 ≤ x.1 ∧ x.2.1 < M ∧ ¬ x.2.2 = 0) (h1 : 0 ≤ a ∧ a < M) (h2 : 0 ≤ b ∧ b < M) : tabL (fun i j => wbF l (sw a b i) (sw a b j)) M M = swapL a b l := by
  obtain ⟨t1, t2⟩ := swapL_told (a := a) (b := b) hs ha l.length (Nat.le_refl _)
  rw [List.take_length] at t1 t2
  refine srt_eq (tabL_srt _ _ _) t1 (fun y => ?_)
  rw [t2, tabL_mem]
  constructor
  · rintro ⟨g1, g2, g3, g4, g5, g6⟩
    have hne : ¬ sw a b y.1 = sw a b y.2.1 := fun e => by have := sw_inj e; omega
    obtain ⟨y1, y2, y3⟩ := y
    simp only at g1 g2 g3 g4 g5 g6 hne
    have e1 := sw_sw a b y1
    have e2 := sw_sw a b y2
    by_cases hlt : sw a b y1 < sw a b y2
    · refine ⟨_, wbF_find ha hlt g6, ?_⟩
      simp only [swI, e1, e2]
      rw [g5, show min y1 y2 = y1 from by omega, show max y1 y2 = y2 from by omega]
    · rw [wbF_comm] at g6
      refine ⟨_, wbF_find ha (show sw a b y2 < sw a b y1 by omega) g6, ?_⟩
      simp only [swI, e1, e2]
      rw [g5, wbF_comm l (sw a b y1), show min y2 y1 = y1 from by omega, show max y2 y1 = y2 from by omega]
  · rintro ⟨e, he, rfl⟩
    have hae := ha e he
    obtain ⟨p1, p2, p3⟩ := hg e he
    have hm := wbF_mem hs ha he
    have b1 := sw_bd h1 h2 (v := e.1) ⟨p1, by omega⟩
    have b2 := sw_bd h1 h2 (v := e.2.1) ⟨by omega, p2⟩
    have hne : ¬ sw a b e.1 = sw a b e.2.1 := fun e' => by have := sw_inj e'; omega
    have hw : wbF l (sw a b (min (sw a b e.1) (sw a b e.2.1))) (sw a b (max (sw a b e.1) (sw a b e.2.1))) = e.2.2 := by
      by_cases hlt : sw a b e.1 < sw a b e.2.1
      · rw [show min (sw a b e.1) (sw a b e.2.1) = sw a b e.1 from by omega, show max (sw a b e.1) (sw a b e.2.1) = sw a b e.2.1 from by omega, sw_sw, sw_sw, hm]
      · rw [show min (sw a b e.1) (sw a b e.2.1) = sw a b e.2.1 from by omega, show max (sw a b e.1) (sw a b e.2.1) = sw a b e.1 from by omega, sw_sw, sw_sw, wbF_comm, hm]
    simp only [swI]
    rw [hw]
    exact ⟨by omega, by omega, by omega, by omega, rfl, p3⟩

/-! bound nodes -/
inductive Con (l : List Wz) (u : Int) : Int → Prop
  | refl : Con l u u
  | fwd {x : Wz} : x ∈ l → Con l u x.1 → Con l u x.2.1
  | bwd {x : Wz} : x ∈ l → Con l u x.2.1 → Con l u x.1
theorem Con.trans {l : List Wz} {u v t : Int} (h : Con l u v) (k : Con l v t) : Con l u t := by
  induction k with
  | refl => exact h
  | fwd hx _ ih => exact .fwd hx ih
  | bwd hx _ ih => exact .bwd hx ih
theorem Con.symm {l : List Wz} {u v : Int} (h : Con l u v) : Con l v u := by
  induction h with
  | refl => exact .refl
  | fwd hx _ ih => exact (Con.bwd hx .refl).trans ih
  | bwd hx _ ih => exact (Con.fwd hx .refl).trans ih
theorem Rch.con {l : List Wz} {v : Int} (h : Rch l v) : Con l 0 v := by
  induction h with
  | zero => exact .refl
  | fwd hx _ ih => exact .fwd hx ih
  | bwd hx _ ih => exact .bwd hx ih
theorem Con.rch {l : List Wz} {v : Int} (h : Con l 0 v) : Rch l v := by
  induction h with
  | refl => exact .zero
  | fwd hx _ ih => exact .fwd hx ih
  | bwd hx _ ih => exact .bwd hx ih
theorem next_of_srt {l : List Wz} (h : Srt l) : ∀ (k : Nat) (hk : k + 1 < l.length), lexlt (l[k]'(by omega)) l[k + 1] :=
  fun k hk => List.pairwise_iff_getElem.1 h k (k + 1) (by omega) hk (by omega)
theorem NetOk.swap {N E S : Int} {l : List Wz} (h : NetOk N E S l) {a b : Int} (h1 : 0 ≤ a ∧ a < N) (h2 : 0 ≤ b ∧ b < N) : NetOk N E S (swapL a b l) := by
  obtain ⟨t1, t2⟩ := swapL_told (a := a) (b := b) h.srt h.asc l.length (Nat.le_refl _)
  rw [List.take_length] at t1 t2
  have hn1 := h.h.n1
  refine ⟨h.h, fun k hk => ?_, next_of_srt t1, ?_⟩
  · obtain ⟨e, he, hy⟩ := (t2 _).1 (List.getElem_mem hk)
    rw [hy]
    obtain ⟨g1, g2, g3, g4, g5⟩ := h.good he
    have b1 := sw_bd h1 h2 (v := e.1) ⟨g1, by omega⟩
    have b2 := sw_bd h1 h2 (v := e.2.1) ⟨by omega, g3⟩
    have hne : ¬ sw a b e.1 = sw a b e.2.1 := fun e' => by have := sw_inj e'; omega
    exact ⟨by simp only [swI]; omega, by simp only [swI]; omega, by simp only [swI]; omega, g4, g5⟩
  · have step : ∀ e ∈ l, Con (swapL a b l) (sw a b e.1) (sw a b e.2.1) := by
      intro e he
      have hm : swI a b e ∈ swapL a b l := (t2 _).2 ⟨e, he, rfl⟩
      by_cases hlt : sw a b e.1 < sw a b e.2.1
      · have := Con.fwd hm (u := (swI a b e).1) .refl
        simp only [swI] at this
        rwa [show min (sw a b e.1) (sw a b e.2.1) = sw a b e.1 from by omega, show max (sw a b e.1) (sw a b e.2.1) = sw a b e.2.1 from by omega] at this
      · have := Con.bwd hm (u := (swI a b e).2.1) .refl
        simp only [swI] at this
        rwa [show min (sw a b e.1) (sw a b e.2.1) = sw a b e.2.1 from by omega, show max (sw a b e.1) (sw a b e.2.1) = sw a b e.1 from by omega] at this
    have all : ∀ {v : Int}, Con l 0 v → Con (swapL a b l) (sw a b 0) (sw a b v) := by
      intro v hv
      induction hv with
      | refl => exact .refl
      | fwd hx _ ih => exact ih.trans (step _ hx)
      | bwd hx _ ih => exact ih.trans (step _ hx).symm
    have at' : ∀ v : Int, 0 ≤ v → v < N → Con (swapL a b l) (sw a b 0) v := by
      intro v hv0 hvN
      have hb := sw_bd h1 h2 (v := v) ⟨hv0, hvN⟩
      have := h.c (sw a b v).toNat (by omega)
      rw [show (((sw a b v).toNat : Nat) : Int) = sw a b v from by omega] at this
      have := all this.con
      rwa [sw_sw] at this
    intro v hv
    exact ((at' 0 (by omega) (by omega)).symm.trans (at' v (by omega) hv)).rch

/-! joined -/
def jn (a b v : Int) : Int := if v = b then a else if b < v then v - 1 else v
def jnMin (a b : Int) (e : Wz) : Int := min (jn a b e.1) (jn a b e.2.1)
def jnMax (a b : Int) (e : Wz) : Int := max (jn a b e.1) (jn a b e.2.1)
def joinL (a b : Int) (l : List Wz) : List Wz := l.foldl (fun out e => if jn a b e.1 = jn a b e.2.1 then out else putL out (jnMin a b e) (jnMax a b e) e.2.2 true) []
theorem joinL_snoc {a b : Int} {l : List Wz} {k : Nat} (h : k < l.length) : joinL a b (l.take (k + 1)) = if jn a b l[k].1 = jn a b l[k].2.1 then joinL a b (l.take k) else putL (joinL a b (l.take k)) (jnMin a b l[k]) (jnMax a b l[k]) l[k].2.2 true := by
  rw [List.take_succ_eq_append_getElem h, joinL, List.foldl_append]; rfl
/-- the weights that come to lie between p and q -/
def jSum (a b : Int) : List Wz → Int → Int → Int
  | [], _, _ => 0
  | e :: t, p, q => (if ¬ jn a b e.1 = jn a b e.2.1 ∧ jnMin a b e = p ∧ jnMax a b e = q then e.2.2 else 0) + jSum a b t p q
theorem jSum_app (a b : Int) (l m : List Wz) (p q : Int) : jSum a b (l ++ m) p q = jSum a b l p q + jSum a b m p q := by
  induction l with
  | nil => simp [jSum]
  | cons e t ih => simp only [List.cons_append, jSum, ih]; omega
theorem jSum_nn {a b : Int} {l : List Wz} (h : ∀ x ∈ l, 1 ≤ x.2.2) (p q : Int) : 0 ≤ jSum a b l p q := by
  induction l with
  | nil => simp [jSum]
  | cons e t ih =>
    have h1 := h e (by simp)
    have h2 := ih (fun x hx => h x (by simp [hx]))
    simp only [jSum]
    split <;> omega
theorem joinL_told {a b : Int} {l : List Wz} (hw : ∀ x ∈ l, 1 ≤ x.2.2) : ∀ k, k ≤ l.length → Srt (joinL a b (l.take k)) ∧ ∀ y, y ∈ joinL a b (l.take k) ↔ y.1 < y.2.1 ∧ y.2.2 = jSum a b (l.take k) y.1 y.2.1 ∧ ¬ jSum a b (l.take k) y.1 y.2.1 = 0
  | 0, _ => by
    refine ⟨List.Pairwise.nil, fun y => ?_⟩
    simp [joinL, jSum]
  | k + 1, hk => by
    obtain ⟨h1, h2⟩ := joinL_told hw k (by omega)
    rw [joinL_snoc (by omega)]
    have hsum : ∀ p q, jSum a b (l.take (k + 1)) p q = jSum a b (l.take k) p q + if ¬ jn a b l[k].1 = jn a b l[k].2.1 ∧ jnMin a b l[k] = p ∧ jnMax a b l[k] = q then l[k].2.2 else 0 := by
      intro p q
      rw [List.take_succ_eq_append_getElem (by omega), jSum_app]; simp [jSum]
    have hwk := hw l[k] (List.getElem_mem _)
    have hnn := fun p q => jSum_nn (a := a) (b := b) (l := l.take k) (fun x hx => hw x (List.mem_of_mem_take hx)) p q
    by_cases hj : jn a b l[k].1 = jn a b l[k].2.1
    · rw [if_pos hj]
      refine ⟨h1, fun y => ?_⟩
      rw [hsum, if_neg (by simp [hj]), Int.add_zero, h2]
    · rw [if_neg hj]
      refine ⟨putL_srt h1 _ _ _ _, fun y => ?_⟩
      have hmm : jnMin a b l[k] < jnMax a b l[k] := by unfold jnMin jnMax; omega
      have hadd : addS (joinL a b (l.take k)) (jnMin a b l[k]) (jnMax a b l[k]) = jSum a b (l.take k) (jnMin a b l[k]) (jnMax a b l[k]) := by
        by_cases h0 : jSum a b (l.take k) (jnMin a b l[k]) (jnMax a b l[k]) = 0
        · rw [h0]
          apply addS_zero
          intro x hx hkey
          have := ((h2 x).1 hx).2.2
          rw [hkey.1, hkey.2] at this; exact this h0
        · exact addS_mem h1 (y := (jnMin a b l[k], jnMax a b l[k], jSum a b (l.take k) (jnMin a b l[k]) (jnMax a b l[k]))) ((h2 _).2 ⟨hmm, rfl, h0⟩)
      rw [putL_mem, h2, hadd, hsum]
      simp only [if_true]
      have hn := hnn (jnMin a b l[k]) (jnMax a b l[k])
      constructor
      · rintro (rfl | ⟨⟨g1, g2, g3⟩, g4⟩)
        · simp only [hj, not_false_iff, and_self, if_true]
          exact ⟨hmm, by omega, by omega⟩
        · rw [if_neg (by intro h; exact g4 ⟨h.2.1.symm, h.2.2.symm⟩), Int.add_zero]
          exact ⟨g1, g2, g3⟩
      · rintro ⟨g1, g2, g3⟩
        by_cases hkey : y.1 = jnMin a b l[k] ∧ y.2.1 = jnMax a b l[k]
        · left
          rw [hkey.1, hkey.2, if_pos ⟨hj, rfl, rfl⟩] at g2
          obtain ⟨y1, y2, y3⟩ := y
          simp only at hkey g2
          rw [hkey.1, hkey.2, g2, Int.add_comm]
        · rw [if_neg (by intro h; exact hkey ⟨h.2.1.symm, h.2.2.symm⟩), Int.add_zero] at g2 g3
          exact .inr ⟨⟨g1, g2, g3⟩, hkey⟩
/-- the weights that join two nodes, summed -/
def wbS : List Wz → Int → Int → Int
  | [], _, _ => 0
  | e :: t, p, q => (if joins e p q then e.2.2 else 0) + wbS t p q
theorem wbS_zero {l : List Wz} {p q : Int} (h : ∀ x ∈ l, ¬ joins x p q) : wbS l p q = 0 := by
  induction l with
  | nil => rfl
  | cons e t ih => rw [wbS, if_neg (h e (by simp)), ih (fun x hx => h x (by simp [hx]))]; rfl
theorem wbS_eq {l : List Wz} (hs : Srt l) (ha : Asc l) (p q : Int) : wbS l p q = wbF l p q := by
  induction l with
  | nil => rfl
  | cons e t ih =>
    have h' := List.pairwise_cons.1 hs
    rw [wbS, wbF]
    by_cases hj : joins e p q
    · rw [if_pos hj, if_pos hj, wbS_zero, Int.add_zero]
      intro x hx hjx
      have h1 := h'.1 x hx
      have h2 := ha e (by simp)
      have h3 := ha x (by simp [hx])
      unfold lexlt at h1; unfold joins at hj hjx; omega
    · rw [if_neg hj, if_neg hj, Int.zero_add]
      exact ih h'.2 (fun x hx => ha x (by simp [hx]))
/-- the node that was v's before b was taken out -/
def skip (b v : Int) : Int := if v < b then v else v + 1
/-- the weights when node b's have been put on node a's -/
def jT (l : List Wz) (a b p q : Int) : Int :=
  if p = a then (if q = a ∨ q = b then wbF l p q else wbF l a q + wbF l b q)
  else if q = a then (if p = b then wbF l p q else wbF l a p + wbF l b p)
  else wbF l p q
theorem jSum_eq {l : List Wz} {a b p q N : Int} (hs : Srt l) (ha : Asc l) (hg : ∀ x ∈ l, 0 ≤ x.1 ∧ x.2.1 < N) (hab : 0 ≤ a ∧ a < b ∧ b < N) (hpq : 0 ≤ p ∧ p < q) : jSum a b l p q = jT l a b (skip b p) (skip b q) := by
  have hjT : jT l a b (skip b p) (skip b q) = if p = a then wbS l a (skip b q) + wbS l b (skip b q) else if q = a then wbS l a (skip b p) + wbS l b (skip b p) else wbS l (skip b p) (skip b q) := by
    unfold jT
    rw [wbS_eq hs ha, wbS_eq hs ha, wbS_eq hs ha, wbS_eq hs ha, wbS_eq hs ha]
    have e1 : skip b p = a ↔ p = a := by unfold skip; split <;> omega
    have e2 : skip b q = a ↔ q = a := by unfold skip; split <;> omega
    have e3 : ¬ skip b q = b := by unfold skip; split <;> omega
    have e4 : ¬ skip b p = b := by unfold skip; split <;> omega
    by_cases h1 : p = a
    · rw [if_pos (e1.2 h1), if_neg (by rw [e2]; omega), if_pos h1]
    · rw [if_neg (fun h => h1 (e1.1 h)), if_neg h1]
      by_cases h2 : q = a
      · rw [if_pos (e2.2 h2), if_neg e4, if_pos h2]
      · rw [if_neg (fun h => h2 (e2.1 h)), if_neg h2]
  rw [hjT]
  clear hjT hs
  induction l with
  | nil => simp [jSum, wbS]
  | cons e t ih =>
    have ih := ih (fun x hx => ha x (by simp [hx])) (fun x hx => hg x (by simp [hx]))
    have h1 := ha e (by simp)
    have h2 := hg e (by simp)
    obtain ⟨x, y, z⟩ := e
    simp only at h1 h2
    simp only [jSum, wbS]
    rw [ih]
    have key : (if ¬ jn a b x = jn a b y ∧ jnMin a b (x, y, z) = p ∧ jnMax a b (x, y, z) = q then z else 0) = if p = a then (if joins (x, y, z) a (skip b q) then z else 0) + (if joins (x, y, z) b (skip b q) then z else 0) else if q = a then (if joins (x, y, z) a (skip b p) then z else 0) + (if joins (x, y, z) b (skip b p) then z else 0) else (if joins (x, y, z) (skip b p) (skip b q) then z else 0) := by
      have hsp : (p < b ∧ skip b p = p) ∨ (b ≤ p ∧ skip b p = p + 1) := by unfold skip; split <;> omega
      have hsq : (q < b ∧ skip b q = q) ∨ (b ≤ q ∧ skip b q = q + 1) := by unfold skip; split <;> omega
      have hjx : (x = b ∧ jn a b x = a) ∨ (b < x ∧ jn a b x = x - 1) ∨ (x < b ∧ jn a b x = x) := by unfold jn; split <;> (try split) <;> omega
      have hjy : (y = b ∧ jn a b y = a) ∨ (b < y ∧ jn a b y = y - 1) ∨ (y < b ∧ jn a b y = y) := by unfold jn; split <;> (try split) <;> omega
      have J : ∀ u v, joins (x, y, z) u v ↔ ((x = u ∧ y = v) ∨ (x = v ∧ y = u)) := fun u v => Iff.rfl
      unfold jnMin jnMax
      simp only
      generalize skip b p = sp at *
      generalize skip b q = sq at *
      generalize jn a b x = jx at *
      generalize jn a b y = jy at *
      by_cases c0 : p = a
      · rw [if_pos c0]
        by_cases c1 : (¬ jx = jy ∧ min jx jy = p ∧ max jx jy = q)
        · rw [if_pos c1]
          by_cases c2 : joins (x, y, z) a sq
          · have c3 := (J _ _).1 c2
            rw [if_pos c2, if_neg (fun h => by have := (J _ _).1 h; omega)]; omega
          · have c3 : ¬ ((x = a ∧ y = sq) ∨ (x = sq ∧ y = a)) := fun h => c2 ((J _ _).2 h)
            rw [if_neg c2, if_pos ((J _ _).2 (by omega))]; omega
        · rw [if_neg c1, if_neg (fun h => by have := (J _ _).1 h; omega), if_neg (fun h => by have := (J _ _).1 h; omega)]; rfl
      · rw [if_neg c0]
        by_cases c9 : q = a
        · rw [if_pos c9]
          by_cases c1 : (¬ jx = jy ∧ min jx jy = p ∧ max jx jy = q)
          · rw [if_pos c1]
            by_cases c2 : joins (x, y, z) a sp
            · have c3 := (J _ _).1 c2
              rw [if_pos c2, if_neg (fun h => by have := (J _ _).1 h; omega)]; omega
            · have c3 : ¬ ((x = a ∧ y = sp) ∨ (x = sp ∧ y = a)) := fun h => c2 ((J _ _).2 h)
              rw [if_neg c2, if_pos ((J _ _).2 (by omega))]; omega
          · rw [if_neg c1, if_neg (fun h => by have := (J _ _).1 h; omega), if_neg (fun h => by have := (J _ _).1 h; omega)]; rfl
        · rw [if_neg c9]
          by_cases c1 : (¬ jx = jy ∧ min jx jy = p ∧ max jx jy = q)
          · rw [if_pos c1, if_pos ((J _ _).2 (by omega))]
          · rw [if_neg c1, if_neg (fun h => by have := (J _ _).1 h; omega)]
    rw [key]
    split
    · omega
    · split <;> omega
theorem joinL_tab {l : List Wz} {a b : Int} {M : Nat} (hs : Srt l) (ha : Asc l) (hg : ∀ x ∈ l, 0 ≤ x.1 ∧ x.2.1 < (M : Int) + 1) (hw : ∀ x ∈ l, 1 ≤ x.2.2) (hab : 0 ≤ a ∧ a < b ∧ b < (M : Int) + 1) : tabL (fun i j => jT l a b (skip b i) (skip b j)) M M = joinL a b l := by
  obtain ⟨t1, t2⟩ := joinL_told (a := a) (b := b) hw l.length (Nat.le_refl _)
  rw [List.take_length] at t1 t2
  refine srt_eq (tabL_srt _ _ _) t1 (fun y => ?_)
  rw [t2, tabL_mem]
  constructor
  · rintro ⟨g1, g2, g3, g4, g5, g6⟩
    rw [jSum_eq hs ha hg hab ⟨g1, g3⟩]
    exact ⟨g3, g5, g6⟩
  · rintro ⟨g1, g2, g3⟩
    -- a weight between p and q: both are nodes
    have hpq : 0 ≤ y.1 ∧ y.2.1 < M := by
      have : ∀ m : List Wz, (∀ x ∈ m, 0 ≤ x.1 ∧ x.2.1 < (M : Int) + 1) → Asc m → ¬ jSum a b m y.1 y.2.1 = 0 → 0 ≤ y.1 ∧ y.2.1 < M := by
        intro m
        induction m with
        | nil => intro _ _ h; simp [jSum] at h
        | cons e t ih =>
          intro hm hma h
          have e1 := hm e (by simp)
          have e2 := hma e (by simp)
          simp only [jSum] at h
          by_cases hc : ¬ jn a b e.1 = jn a b e.2.1 ∧ jnMin a b e = y.1 ∧ jnMax a b e = y.2.1
          · obtain ⟨_, c2, c3⟩ := hc
            unfold jnMin jn at c2
            unfold jnMax jn at c3
            split at c2 <;> split at c2 <;> (try split at c2) <;> (try split at c2) <;> simp_all <;> omega
          · rw [if_neg hc, Int.zero_add] at h
            exact ih (fun x hx => hm x (by simp [hx])) (fun x hx => hma x (by simp [hx])) h
      exact this l hg ha g3
    rw [← jSum_eq hs ha hg hab ⟨hpq.1, g1⟩]
    exact ⟨hpq.1, by omega, g1, hpq.2, g2, g3⟩
end Go.Proofs.Ytjchindjoailbaa

/- A network divided by its greatest common divisor. Plain Lean. -/
namespace Go.Proofs.Ytjchindjoailbaa
set_option linter.unusedSimpArgs false
set_option linter.unusedVariables false
open Go.RowKit

theorem Rch.re {l : List Wz} {v : Int} (h : Rch l v) (φ : Wz → Int) : Rch (l.map fun x => (x.1, x.2.1, φ x)) v := by
  induction h with
  | zero => exact .zero
  | fwd hx _ ih => exact .fwd (x := (_, _, φ _)) (List.mem_map_of_mem hx) ih
  | bwd hx _ ih => exact .bwd (x := (_, _, φ _)) (List.mem_map_of_mem hx) ih
theorem NetOk.re {N E S S' : Int} {l : List Wz} (h : NetOk N E S l) (φ : Wz → Int) (h1 : 1 ≤ S') (h2 : S' ≤ 1000) (h3 : ∀ x ∈ l, 1 ≤ φ x ∧ φ x ≤ 200) : NetOk N E S' (l.map fun x => (x.1, x.2.1, φ x)) := by
  refine ⟨⟨h.h.n1, h.h.n5, h.h.e1, h.h.eN, h1, h2⟩, fun k hk => ?_, fun k hk => ?_, fun v hv => (h.c v hv).re φ⟩
  · rw [List.length_map] at hk
    obtain ⟨g0, g1, g2, _, _⟩ := h.w k hk
    have := h3 l[k] (List.getElem_mem _)
    simp only [List.getElem_map]
    exact ⟨g0, g1, g2, by simp only; omega, by simp only; omega⟩
  · rw [List.length_map] at hk
    have := h.o k hk
    simp only [List.getElem_map]
    exact this
/-- the greatest common divisor of a scale and weights -/
def gL (s : Nat) (l : List Wz) : Nat := l.foldl (fun g e => Nat.gcd g e.2.2.natAbs) s
theorem gL_snoc (s : Nat) (l : List Wz) (e : Wz) : gL s (l ++ [e]) = Nat.gcd (gL s l) e.2.2.natAbs := by simp [gL, List.foldl_append]
theorem gL_dvd : ∀ (l : List Wz) (s : Nat), gL s l ∣ s ∧ ∀ e ∈ l, gL s l ∣ e.2.2.natAbs
  | [], s => ⟨Nat.dvd_refl _, by simp⟩
  | e :: l, s => by
    have h := gL_dvd l (Nat.gcd s e.2.2.natAbs)
    have e1 : gL s (e :: l) = gL (Nat.gcd s e.2.2.natAbs) l := rfl
    rw [e1]
    refine ⟨Nat.dvd_trans h.1 (Nat.gcd_dvd_left _ _), fun x hx => ?_⟩
    rcases List.mem_cons.1 hx with rfl | hx
    · exact Nat.dvd_trans h.1 (Nat.gcd_dvd_right _ _)
    · exact h.2 x hx
theorem gL_pos {s : Nat} (hs : 0 < s) (l : List Wz) : 0 < gL s l := Nat.pos_of_dvd_of_pos (gL_dvd l s).1 hs
theorem gL_le {s : Nat} (hs : 0 < s) (l : List Wz) : gL s l ≤ s := Nat.le_of_dvd hs (gL_dvd l s).1
/-- weights divided -/
def divL (g : Nat) (l : List Wz) : List Wz := l.map fun x => (x.1, x.2.1, Int.tdiv x.2.2 g)
theorem divL_len (g : Nat) (l : List Wz) : (divL g l).length = l.length := by simp [divL]
theorem tdiv_pos {a : Int} {g : Nat} {B : Int} (h1 : 1 ≤ a) (h2 : a ≤ B) (hg : 0 < g) (hd : g ∣ a.natAbs) : 1 ≤ Int.tdiv a g ∧ Int.tdiv a g ≤ B := by
  obtain ⟨n, rfl⟩ : ∃ n : Nat, a = n := ⟨a.toNat, by omega⟩
  have e : Int.tdiv (n : Int) (g : Int) = ((n / g : Nat) : Int) := rfl
  rw [e]
  simp only [Int.natAbs_natCast] at hd
  have h3 : 0 < n / g := Nat.div_pos (Nat.le_of_dvd (by omega) hd) hg
  have h4 : n / g ≤ n := Nat.div_le_self _ _
  omega
theorem NetOk.canon {N E S : Int} {l : List Wz} (h : NetOk N E S l) {s : Nat} (hs : S = s) : NetOk N E (Int.tdiv S (gL s l)) (divL (gL s l) l) := by
  have h1 := h.h.s1
  have h2 := h.h.s2
  have hp := gL_pos (show 0 < s by omega) l
  have hd := gL_dvd l s
  have q := tdiv_pos (a := S) (B := 1000) h1 h2 hp (by rw [hs]; exact hd.1)
  exact h.re (fun x => Int.tdiv x.2.2 (gL s l)) q.1 q.2 (fun x hx => by
    obtain ⟨_, _, _, g4, g5⟩ := h.good hx
    exact tdiv_pos g4 g5 hp (hd.2 x hx))
end Go.Proofs.Ytjchindjoailbaa

/- A table's network: the program's netOf. -/
namespace Go.Proofs.Ytjchindjoailbaa
set_option linter.unusedSimpArgs false
set_option linter.unusedVariables false
open Go.RowKit

theorem rowL_zero (f : Int → Int → Int) (i : Nat) : rowL f (i + 1) i = [] := by
  unfold rowL
  rw [List.filter_eq_nil_iff.2]
  · rfl
  · intro j hj
    rw [List.mem_range] at hj
    simp; omega
theorem rowL_no {f : Int → Int → Int} {i j : Nat} (h : f i j = 0) : rowL f (j + 1) i = rowL f j i := by
  unfold rowL
  rw [List.range_succ, List.filter_append]
  simp [h]
theorem rowL_yes {f : Int → Int → Int} {i j : Nat} (hij : i < j) (h : ¬ f i j = 0) : rowL f (j + 1) i = rowL f j i ++ [((i : Int), (j : Int), f i j)] := by
  unfold rowL
  rw [List.range_succ, List.filter_append, List.map_append]
  simp [h, hij]
theorem rowL_len (f : Int → Int → Int) (N i : Nat) : (rowL f N i).length ≤ N := by
  unfold rowL
  rw [List.length_map]
  exact Nat.le_trans (List.length_filter_le _ _) (by simp)
theorem tabL_len (f : Int → Int → Int) (N : Nat) : ∀ k, (tabL f N k).length ≤ k * N
  | 0 => by simp [tabL]
  | k + 1 => by
    rw [tabL, List.length_append, Nat.succ_mul]
    have := tabL_len f N k; have := rowL_len f N k; omega
/-- a network's box, by its cells -/
def netAt (x0 x1 x2 x3 : Value) (i : Nat) : Value := if i = 0 then x0 else if i = 1 then x1 else if i = 2 then x2 else x3
theorem netAt_new (w : World) (x0 x1 x2 x3 : Value) (t : TypeId) : (w.alloc (.cells #[x0, x1, x2, x3] t)).rowIs w.heap.size t 4 (netAt x0 x1 x2 x3) :=
  World.rowIs_alloc w _ t _ (fun i hi => by
    have : i = 0 ∨ i = 1 ∨ i = 2 ∨ i = 3 := by simp at hi; omega
    rcases this with rfl | rfl | rfl | rfl <;> rfl)
theorem netAt_cells {w : World} {b : Nat} {t : TypeId} {x0 x1 x2 x3 : Value} (h : w.rowIs b t 4 (netAt x0 x1 x2 x3)) : w.cell? ⟨b, 0, none⟩ = some x0 ∧ w.cell? ⟨b, 1, none⟩ = some x1 ∧ w.cell? ⟨b, 2, none⟩ = some x2 ∧ w.cell? ⟨b, 3, none⟩ = some x3 :=
  ⟨h.cell (i := 0) (by omega), h.cell (i := 1) (by omega), h.cell (i := 2) (by omega), h.cell (i := 3) (by omega)⟩
theorem netAt_set3 {w : World} {b : Nat} {t : TypeId} {x0 x1 x2 x3 : Value} (h : w.rowIs b t 4 (netAt x0 x1 x2 x3)) (v : Value) : (w.setCell ⟨b, 3, none⟩ v).rowIs b t 4 (netAt x0 x1 x2 v) :=
  (h.set 3 v).congr (fun i hi => by
    have : i = 0 ∨ i = 1 ∨ i = 2 ∨ i = 3 := by omega
    rcases this with rfl | rfl | rfl | rfl <;> rfl)
theorem netAt_set2 {w : World} {b : Nat} {t : TypeId} {x0 x1 x2 x3 : Value} (h : w.rowIs b t 4 (netAt x0 x1 x2 x3)) (v : Value) : (w.setCell ⟨b, 2, none⟩ v).rowIs b t 4 (netAt x0 x1 v x3) :=
  (h.set 2 v).congr (fun i hi => by
    have : i = 0 ∨ i = 1 ∨ i = 2 ∨ i = 3 := by omega
    rcases this with rfl | rfl | rfl | rfl <;> rfl)
/-- what netOf gives -/
def NetRes (e : Ending) (w w' : World) (ok : Bool) (M E S : Int) (L : List Wz) : Prop :=
  if ok = true then ∃ a' c', e = .returned (.tuple #[netV M E S a' L.length c', .bool true]) ∧ w'.ownsRow w.heap.size 102 3 (.slice a' L.length c') L.length (wires L)
  else e = .returned (.tuple #[netV 0 0 0 none 0 0, .bool false])
theorem wrap_small' {x : Int} (h : -9223372036854775808 ≤ x ∧ x ≤ 9223372036854775807) : wrap64 x = x := by unfold wrap64; omega
theorem grown_set' (w : World) (p : Addr) (v : Value) : w.grownBy (w.setCell p v) (some p.block) :=
  ⟨rfl, rfl, rfl, by simp [World.setCell], fun k _ hk => Below.heap_setCell _ _ _ _ (fun e => hk (by rw [e]))⟩
theorem gcd_step_z {s : Nat} {L : List Wz} {x : Int} (hs : 0 < s) (hs2 : s ≤ 1000000000000000000) (hx : -1000000000000000000 ≤ x ∧ x ≤ 1000000000000000000) (i j : Int) : gcdZ (gL s L) x = ((gL s (L ++ [(i, j, x)]) : Nat) : Int) := by
  have h1 := gL_pos hs L
  have h2 := gL_le hs L
  unfold gcdZ
  rw [if_neg (by omega), gL_snoc]
  simp
theorem divL_step (g : Nat) (l : List Wz) (i : Nat) (h : i < l.length) : (wires (divL g (l.take i) ++ l.drop i)).set (i * 3 + 2) (.int .i64 (Int.tdiv l[i].2.2 g)) = wires (divL g (l.take (i + 1)) ++ l.drop (i + 1)) := by
  have hl : (wires (divL g (l.take i))).length = i * 3 := by rw [wires_len, divL_len, List.length_take]; omega
  have e1 : wires (divL g (l.take i) ++ l.drop i) = wires (divL g (l.take i)) ++ (wireV l[i] ++ wires (l.drop (i + 1))) := by
    have hd := List.drop_eq_getElem_cons h
    simp only [wires, List.flatMap_append]
    rw [hd, List.flatMap_cons]
  have e2 : wires (divL g (l.take (i + 1)) ++ l.drop (i + 1)) = wires (divL g (l.take i)) ++ (wireV (l[i].1, l[i].2.1, Int.tdiv l[i].2.2 g) ++ wires (l.drop (i + 1))) := by
    rw [List.take_succ_eq_append_getElem h]
    simp only [divL, List.map_append, wires, List.flatMap_append, List.map_cons, List.map_nil, List.flatMap_cons, List.flatMap_nil, List.append_nil, List.append_assoc]
  rw [e1, e2, List.set_append_right _ _ (by omega), hl, show i * 3 + 2 - i * 3 = 2 from by omega]
  rfl

set_option maxRecDepth 100000 in
set_option maxHeartbeats 16000000 in
theorem implNetOf (M : Nat) (E : Int) (s : Nat) (f : Int → Int → Int) (at' : Option Addr) (c : Nat) (cut ok : Bool) (hM : 1 ≤ M ∧ M ≤ 5) (hs : 0 < s) (hs2 : s ≤ 1000000000000000000) (hf : ∀ i j, -1000000000000000000 ≤ f i j ∧ f i j ≤ 1000000000000000000)
    (hok : ok = true ↔ NetOk M E (if cut = true then Int.tdiv s (gL s (tabL f M M)) else s) (if cut = true then divL (gL s (tabL f M M)) (tabL f M M) else tabL f M M)) (w : World) (hr : IGrid w at' M c (tab M f)) :
    Calls Try.prog 102 #[.int .i64 E, .int .i64 s, .slice at' M c, .bool cut] w fun e w' => NetRes e w w' ok M E (if cut = true then Int.tdiv s (gL s (tabL f M M)) else s) (if cut = true then divL (gL s (tabL f M M)) (tabL f M M) else tabL f M M) ∧ Below w.heap.size w w' := by
  obtain ⟨i0, hi, hz0, hz1, hz2⟩ := info_parts infoWire
  have HI := Lib.hid (And.intro hi (And.intro hz0 (And.intro hz1 hz2)))
  clear hi hz0 hz1 hz2
  generalize hSS : (if cut = true then Int.tdiv (s : Int) (gL s (tabL f M M)) else (s : Int)) = SS at hok ⊢
  generalize hLL : (if cut = true then divL (gL s (tabL f M M)) (tabL f M M) else tabL f M M) = LL at hok ⊢
  have HSS := Lib.hid hSS
  have HLL := Lib.hid hLL
  clear hSS hLL
  have HR := Lib.hid hr
  have HF := Lib.hid hf
  have HOK := Lib.hid hok
  obtain ⟨bt, ot, e, hbt⟩ := hr.form (by omega)
  subst e
  have HTL := Lib.hid (tabL_len f M)
  have HRL := Lib.hid (rowL_len f)
  have HG0 := Lib.hid (fun L => gL_pos hs L)
  have HG1 := Lib.hid (fun L => gL_le hs L)
  have HGC := Lib.hid (fun (L : List Wz) (x : Int) (hx : -1000000000000000000 ≤ x ∧ x ≤ 1000000000000000000) (i j : Int) => gcd_step_z (L := L) hs hs2 hx i j)
  have A0 : Hid (((w.alloc (.cells #[.int .i64 0, .int .i64 0, .int .i64 0, .slice none 0 0] 25)).alloc (.cells #[.int .i64 M, .int .i64 E, .int .i64 s, .slice none 0 0] 25)).rowIs w.heap.size 25 4 (netAt (.int .i64 0) (.int .i64 0) (.int .i64 0) (.slice none 0 0))) := (netAt_new _ _ _ _ _ _).alloc _
  have A1 : Hid (((w.alloc (.cells #[.int .i64 0, .int .i64 0, .int .i64 0, .slice none 0 0] 25)).alloc (.cells #[.int .i64 M, .int .i64 E, .int .i64 s, .slice none 0 0] 25)).rowIs (w.heap.size + 1) 25 4 (netAt (.int .i64 M) (.int .i64 E) (.int .i64 s) (.slice none 0 0))) := by
    have := netAt_new (w.alloc (.cells #[.int .i64 0, .int .i64 0, .int .i64 0, .slice none 0 0] 25)) (.int .i64 M) (.int .i64 E) (.int .i64 s) (.slice none 0 0) 25
    simpa [Hid] using this
  have hM1 := hM.1
  have hM5 := hM.2
  clear hr hf hok hM
  go_enter Try.func102, Try.ntmps102
  go_wp2_with fail
  go_loopw [11, 24] (fun gv u wr => ∃ (i m cg : Nat) (a : Option Addr) (q : Nat) (L : List Wz), i ≤ M ∧ m ≤ 25 ∧ u = .int .i64 i ∧ gv = .int .i64 q ∧ w.heap.size + 1 < wr.heap.size ∧ Hid (L = tabL f M i ∧ L.length = m ∧ q = gL s L) ∧ Hid (wr.ownsRow (w.heap.size + 1 + 1) 102 3 (.slice a m cg) m (wires L)) ∧ Hid (wr.rowIs w.heap.size 25 4 (netAt (.int .i64 0) (.int .i64 0) (.int .i64 0) (.slice none 0 0))) ∧ Hid (wr.rowIs (w.heap.size + 1) 25 4 (netAt (.int .i64 M) (.int .i64 E) (.int .i64 s) (.slice a m cg))) ∧ Hid (Below w.heap.size w wr)) (fun _ u _ => M - (intOf u).toNat)
  case atStart => exact ⟨0, 0, 0, none, s, [], by omega, by omega, rfl, rfl, by simp, ⟨rfl, rfl, rfl⟩, World.ownsRow_nil _ _ _ _, A0.out, A1.out, balloc (balloc (Below.refl _ _) _) _⟩
  case round =>
    clear A0 A1
    obtain ⟨i, m, cg, a, q, L, hi, hm, rfl, rfl, hsz, HE, HO, HA, HN, HB⟩ := hrel
    by_cases hlt : i < M
    · have HE2 : Hid (L = tabL f M i ++ rowL f (i + 1) i ∧ L.length = m ∧ q = gL s L) := ⟨by rw [rowL_zero, List.append_nil]; exact HE.out.1, HE.out.2.1, HE.out.2.2⟩
      clear HE
      go_wp2_with fail
      go_loopw [11, 13] (fun gv u wr => ∃ (j m cg : Nat) (a : Option Addr) (q : Nat) (L : List Wz), i < j ∧ j ≤ M ∧ m ≤ 25 ∧ u = .int .i64 j ∧ gv = .int .i64 q ∧ w.heap.size + 1 < wr.heap.size ∧ Hid (L = tabL f M i ++ rowL f j i ∧ L.length = m ∧ q = gL s L) ∧ Hid (wr.ownsRow (w.heap.size + 1 + 1) 102 3 (.slice a m cg) m (wires L)) ∧ Hid (wr.rowIs w.heap.size 25 4 (netAt (.int .i64 0) (.int .i64 0) (.int .i64 0) (.slice none 0 0))) ∧ Hid (wr.rowIs (w.heap.size + 1) 25 4 (netAt (.int .i64 M) (.int .i64 E) (.int .i64 s) (.slice a m cg))) ∧ Hid (Below w.heap.size w wr)) (fun _ u _ => M - (intOf u).toNat)
      case atStart => exact ⟨i + 1, m, cg, a, q, L, by omega, by omega, hm, by go_num, rfl, hsz, HE2.out, HO.out, HA.out, HN.out, HB.out⟩
      case round =>
        clear HE2 HO HA HN HB hsz hm
        obtain ⟨j, m, cg, a, q, L, hij, hj, hm, rfl, rfl, hsz, HE, HO, HA, HN, HB⟩ := hrel
        by_cases hlj : j < M
        · have G1 := HR.out.below HB.out
          have hli : i < (tab M f).length := by rw [tab_len]; exact hlt
          obtain ⟨d1, e1, p1, q1⟩ := G1.row i hli
          have hrl : (tab M f)[i].length = M := tab_sq M _ _ (List.getElem_mem _)
          rw [hrl] at p1 q1
          obtain ⟨b2, o2, rfl, hb2, hcc⟩ := q1.form (by omega)
          have hlj' : j < (tab M f)[i].length := by rw [hrl]; exact hlj
          have p2 := int_cell q1 j hlj'
          have hv : (tab M f)[i][j] = f i j := by simp only [tab_row, List.getElem_map, upto_at]
          rw [hv] at p2
          have hfb := HF.out i j
          have hbt' : bt < wr.heap.size := Nat.lt_of_lt_of_le hbt HB.out.size
          obtain ⟨q2, hq2⟩ : ∃ q2 : Nat, q2 = gL s (L ++ [((i : Int), (j : Int), f i j)]) := ⟨_, rfl⟩
          have HY : ¬ f i j = 0 → Hid (L ++ [((i : Int), (j : Int), f i j)] = tabL f M i ++ rowL f (j + 1) i ∧ (L ++ [((i : Int), (j : Int), f i j)]).length = m + 1 ∧ q2 = gL s (L ++ [((i : Int), (j : Int), f i j)])) := fun h => ⟨by rw [rowL_yes hij h, ← List.append_assoc, ← HE.out.1], by simp [HE.out.2.1], hq2⟩
          have HNo : f i j = 0 → Hid (L = tabL f M i ++ rowL f (j + 1) i ∧ L.length = m ∧ q = gL s L) := fun h => ⟨by rw [rowL_no h]; exact HE.out.1, HE.out.2⟩
          have hmm : m + 1 ≤ 25 := by
            have h1 := HTL.out i
            have h2 := HRL.out j i
            have h3 := HE.out.2.1
            rw [HE.out.1, List.length_append] at h3
            have h4 : i * M ≤ 3 * 5 := Nat.mul_le_mul (by omega) hM5
            omega
          have HGQ : Hid (gcdZ (gL s L) (f i j) = (q2 : Int)) := by rw [hq2]; exact HGC.out L (f i j) hfb i j
          clear hq2
          have hgq : 0 < q ∧ q ≤ 1000000000000000000 := by
            rw [HE.out.2.2]; exact ⟨HG0.out L, Nat.le_trans (HG1.out L) hs2⟩
          have HQE := Lib.hid HE.out.2.2
          generalize f i j = x at p2 hfb HY HNo HGQ
          clear hcc G1 hli q1 hrl hlj' hv HE
          obtain ⟨n0, n1, n2, n3⟩ := netAt_cells HN.out
          have nf := HN.out.frozen 3
          by_cases hx : x = 0
          · have HN2 := HNo hx
            subst hx
            clear HY HNo
            go_wp2_with fail
            go_roundw
            case rel => exact ⟨j + 1, m, cg, a, q, L, by omega, by omega, by omega, by go_num, rfl, hsz, HN2.out, HO.out, HA.out, HN.out, HB.out⟩
            case measure => simp [intOf]; omega
          · have HY2 := HY hx
            have hx1 : (x == 0) = false := by simp [hx]
            have hx2 : (x != 0) = true := by simp [hx]
            clear HY HNo
            have hown := HO.out.alloc (.cells #[.int .i64 i, .int .i64 j, .int .i64 x] 102)
            go_wp2_with (at_builtin; refine wpList_append_lies _ rfl _ _ 23 rfl (w.heap.size + 1 + 1) 102 i0 (.agg #[.int .i64 0, .int .i64 0, .int .i64 0]) 3 24 Try.underlying23 HI.out.1 HI.out.2.1 HI.out.2.2.1 HI.out.2.2.2 rfl (by decide) _ _ _ rfl hown ⟨wr.heap.size, 0, none⟩ 1 1 (wireV ((i : Int), (j : Int), x)) rfl rfl ?c1 ?c2 (by omega) ?c3 ?c4 ?c5 _ rfl ?_)
            case c1 => first | (exact fun j u hu => hu) | exact cell_wire_new wr ((i : Int), (j : Int), x) 102
            case c2 => exact wireV_one _
            case c3 => unfold maxLen; omega
            case c4 => omega
            case c5 => first | omega | (simp only [World.size_alloc]; omega) | (simp; omega)
            intro g3 c3 w7 hown' hgrow hlies hlt7
            have hs7 := hgrow.size
            simp only [World.size_alloc] at hs7
            have H7 : w7.ownsRow (w.heap.size + 1 + 1) 102 3 (.slice (some ⟨g3, 0, none⟩) (m + 1) c3) (m + 1) (wires (L ++ [((i : Int), (j : Int), x)])) := by rw [← wires_snoc]; exact hown'
            have hnb : ∀ b, b < w.heap.size + 1 + 1 → some b ≠ (Value.slice a m cg).ownBlock := fun b hb e => by have := (hown.lt _ e.symm).1; omega
            have HA7 : w7.rowIs w.heap.size 25 4 (netAt (.int .i64 0) (.int .i64 0) (.int .i64 0) (.slice none 0 0)) := (HA.out.alloc _).of_block (hgrow.block _ (by simp only [World.size_alloc]; omega) (hnb _ (by omega)))
            have HN7 : w7.rowIs (w.heap.size + 1) 25 4 (netAt (.int .i64 M) (.int .i64 E) (.int .i64 s) (.slice a m cg)) := (HN.out.alloc _).of_block (hgrow.block _ (by simp only [World.size_alloc]; omega) (hnb _ (by omega)))
            have HB7 : Below w.heap.size w w7 := (balloc HB.out _).grown hgrow (by simp only [World.size_alloc]; omega) (fun q hq => by have := (hown.lt q hq).1; omega)
            have hg3 := (own_base H7 _ rfl).1
            simp only at hg3
            have H8 : Hid ((w7.setCell ⟨w.heap.size + 1, 3, none⟩ (.slice (some ⟨g3, 0, none⟩) (m + 1) c3)).ownsRow (w.heap.size + 1 + 1) 102 3 (.slice (some ⟨g3, 0, none⟩) (m + 1) c3) (m + 1) (wires (L ++ [((i : Int), (j : Int), x)]))) := H7.kept (grown_set' _ ⟨w.heap.size + 1, 3, none⟩ _) (.inr (by simp [Value.ownBlock]; omega))
            have HA8 : Hid ((w7.setCell ⟨w.heap.size + 1, 3, none⟩ (.slice (some ⟨g3, 0, none⟩) (m + 1) c3)).rowIs w.heap.size 25 4 (netAt (.int .i64 0) (.int .i64 0) (.int .i64 0) (.slice none 0 0))) := HA7.setOther (by show w.heap.size ≠ w.heap.size + 1; omega) _
            have HN8 := Lib.hid (netAt_set3 HN7 (.slice (some ⟨g3, 0, none⟩) (m + 1) c3))
            have HB8 : Hid (Below w.heap.size w (w7.setCell ⟨w.heap.size + 1, 3, none⟩ (.slice (some ⟨g3, 0, none⟩) (m + 1) c3))) := bset HB7 (by show _ ≤ w.heap.size + 1; omega) _
            have hs8 : w.heap.size + 1 < w7.heap.size := by omega
            have k0 := (netAt_cells HN7).2.2.2
            have k1 := HN7.frozen 3
            have hgv : gcdZ (q : Int) x = (q2 : Int) := by rw [HQE.out]; exact HGQ.out
            have KG := Lib.hid (fun w => implGcd (q : Int) x w (by omega) (by omega) (by omega) (by omega))
            rw [hgv] at KG
            clear hown hown' hgrow hlies H7 HA7 HN7 HB7 hgv hnb n0 n1 n2 n3 nf
            go_wp2_with fail
            refine (KG.out _).mono ?_
            rintro e w9 ⟨rfl, nn, rfl⟩
            go_wp2_with fail
            go_roundw
            case rel => exact ⟨j + 1, m + 1, c3, some ⟨g3, 0, none⟩, q2, L ++ [((i : Int), (j : Int), x)], by omega, by omega, hmm, by go_num, rfl, by simpa using hs8, HY2.out, H8.out, HA8.out, HN8.out, below_drewN HB8.out _⟩
            case measure => simp [intOf]; omega
        · obtain rfl : j = M := by omega
          go_wp2_with fail
          go_roundw
          case rel => exact ⟨i + 1, m, cg, a, q, L, by omega, hm, by go_num, rfl, hsz, HE.out, HO.out, HA.out, HN.out, HB.out⟩
          case measure => simp [intOf]; omega
    · obtain rfl : i = M := by omega
      have hgq : 0 < q ∧ q ≤ 1000000000000000000 := by
        rw [HE.out.2.2]; exact ⟨HG0.out L, Nat.le_trans (HG1.out L) hs2⟩
      have hqL : q = gL s (tabL f i i) := by rw [HE.out.2.2, ← HE.out.1]
      have hLT : L = tabL f i i := HE.out.1
      have hLm := HE.out.2.1
      obtain ⟨n0, n1, n2, n3⟩ := netAt_cells HN.out
      have nf0 := HN.out.frozen 2
      cases cut
      · have HV : Hid (LL = L ∧ SS = s) := ⟨by have := HLL.out; simp only [Bool.false_eq_true, if_false] at this; rw [← this, hLT], by have := HSS.out; simp only [Bool.false_eq_true, if_false] at this; exact this.symm⟩
        have HOK2 : Hid (ok = true ↔ NetOk i E s L) := by have := HOK.out; rw [HV.out.1, HV.out.2] at this; exact this
        have KN := Lib.hid (fun (w : World) rr => implNetOk i E s a m cg L ok HOK2.out w rr hLm)
        have HLM := Lib.hid hLm
        clear hLT hLm hqL HE
        have HRW := Lib.hid (ArgRow.own HO.out)
        go_wp2_with fail
        refine (KN.out _ HRW.out).mono ?_
        rintro e w9 ⟨rfl, hb9⟩
        have HB9 : Hid (Below w.heap.size w w9) := bstep HB.out hb9
        have HO9' := Lib.hid (own_below HO.out hb9)
        have HA9 := HA.out.of_block (hb9.block _ HA.out.lt)
        have HN9 := HN.out.of_block (hb9.block _ HN.out.lt)
        obtain ⟨r0, r1, r2, r3⟩ := netAt_cells HA9
        obtain ⟨t0, t1, t2, t3⟩ := netAt_cells HN9
        have f0 := HA9.frozen 0
        have f1 := HA9.frozen 1
        have f2 := HA9.frozen 2
        have f3 := HA9.frozen 3
        have hs9 : w.heap.size < w9.heap.size := HA9.lt
        have hs9' : w.heap.size + 1 < w9.heap.size := HN9.lt
        clear hb9 HA9 HN9 n0 n1 n2 n3
        cases ok
        · go_wp2_with fail
          have rs0 : (w9.cell? { block := w.heap.size, off := 0 }).isSome = true := by simp [go_sem, *]
          have rs1 : (w9.cell? { block := w.heap.size, off := 1 }).isSome = true := by simp [go_sem, *]
          have rs2 : (w9.cell? { block := w.heap.size, off := 2 }).isSome = true := by simp [go_sem, *]
          have rs3 : (w9.cell? { block := w.heap.size, off := 3 }).isSome = true := by simp [go_sem, *]
          refine bodyPost_ret (v := (.tuple #[netV 0 0 0 none 0 0, .bool false])) (by simp [results, Try.results102, go_sem, rs0, rs1, rs2, rs3]; try rfl) rfl ?_
          exact ⟨by unfold NetRes; rw [if_neg (by simp)], by have := HB9.out; (repeat' (first | (with_reducible exact Below.refl _ _) | (with_reducible assumption) | (with_reducible refine balloc ?_ _) | (with_reducible refine Below.drew ?_) | (with_reducible refine below_drewN ?_ _) | (with_reducible refine bset ?_ ?_ _) | (with_reducible refine bstep ?_ (by assumption)) | go_size))⟩
        · go_wp2_with fail
          have rs0 : (w9.cell? { block := w.heap.size, off := 0 }).isSome = true := by simp [go_sem, *]
          have rs1 : (w9.cell? { block := w.heap.size, off := 1 }).isSome = true := by simp [go_sem, *]
          have rs2 : (w9.cell? { block := w.heap.size, off := 2 }).isSome = true := by simp [go_sem, *]
          have rs3 : (w9.cell? { block := w.heap.size, off := 3 }).isSome = true := by simp [go_sem, *]
          refine bodyPost_ret (v := (.tuple #[netV i E s a m cg, .bool true])) (by simp [results, Try.results102, go_sem, rs0, rs1, rs2, rs3]; try rfl) rfl ?_
          refine ⟨?_, by have := HB9.out; (repeat' (first | (with_reducible exact Below.refl _ _) | (with_reducible assumption) | (with_reducible refine balloc ?_ _) | (with_reducible refine Below.drew ?_) | (with_reducible refine below_drewN ?_ _) | (with_reducible refine bset ?_ ?_ _) | (with_reducible refine bstep ?_ (by assumption)) | go_size))⟩
          unfold NetRes
          rw [if_pos rfl]
          rw [HV.out.1, HV.out.2, HLM.out]
          refine ⟨a, cg, rfl, ?_⟩
          refine World.ownsRow.mono (base := w.heap.size + 1 + 1) ?_ (by omega)
          have o9 := HO9'.out
          repeat' (first | with_reducible exact o9 | (with_reducible refine ownsRow_setCell_below ?_ ?_ _) | (dsimp only; omega) | omega)
      · obtain ⟨y, hy⟩ : ∃ y : Nat, s / q = y := ⟨_, rfl⟩
        have hyb : y ≤ s := by rw [← hy]; exact Nat.div_le_self s q
        have hyt : Int.tdiv (s : Int) q = y := by rw [← hy, Int.ofNat_tdiv]
        have hyd : (s : Int) / (q : Int) = (y : Int) := by rw [← hy]; exact (Int.natCast_ediv s q).symm
        clear hy
        have hyi : IntKind.i64.wrap (y : Int) = y := IntWalk.i64_in _ ⟨by omega, by omega⟩
        have hyw : wrap64 (y : Int) = y := wrap_small' ⟨by omega, by omega⟩
        have e1 : IntKind.i64.wrap (Int.tdiv (s : Int) q) = y := by rw [hyt]; exact hyi
        have e1' : wrap64 ((s : Int) / (q : Int)) = y := by rw [hyd]; exact hyw
        have e1'' : IntKind.i64.wrap ((s : Int) / (q : Int)) = y := by rw [hyd]; exact hyi
        have hq0 : ((q : Int) == 0) = false := by simp; omega
        have hq1 : ¬ (q : Int) = 0 := by omega
        have hq2 : ¬ q = 0 := by omega
        have HV : Hid (LL = divL q L ∧ SS = (y : Int)) := ⟨by have := HLL.out; simp only [if_true] at this; rw [← this, ← hLT, hqL, ← hLT], by have := HSS.out; simp only [if_true] at this; rw [← this, ← hqL]; exact hyt⟩
        have HOK2 : Hid (ok = true ↔ NetOk i E (y : Int) (divL q L)) := by have := HOK.out; rw [HV.out.1, HV.out.2] at this; exact this
        have HLM := Lib.hid hLm
        have HWF : Hid (∀ k (h : k < L.length), -1000000000000000000 ≤ L[k].2.2 ∧ L[k].2.2 ≤ 1000000000000000000) := by
          intro k h
          have hm9 := List.getElem_mem h
          have h9 : L[k] ∈ tabL f i i := by rw [← hLT]; exact hm9
          have h8 := (tabL_mem.1 h9).2.2.2.2.1
          have := HF.out (L[k].1) (L[k].2.1)
          omega
        have H0 : Hid ((wr.setCell ⟨w.heap.size + 1, 2, none⟩ (.int .i64 (y : Int))).ownsRow (w.heap.size + 1 + 1) 102 3 (.slice a m cg) m (wires (divL q (L.take 0) ++ L.drop 0))) := by
          have h9 := HO.out.kept (grown_set' _ ⟨w.heap.size + 1, 2, none⟩ (.int .i64 (y : Int))) (by
            cases hb : (Value.slice a m cg).ownBlock with
            | none => exact .inl rfl
            | some k => right; intro e; have := (HO.out.lt k hb).1; simp at e; omega)
          simpa [Hid, divL] using h9
        have H1 : Hid ((wr.setCell ⟨w.heap.size + 1, 2, none⟩ (.int .i64 (y : Int))).rowIs w.heap.size 25 4 (netAt (.int .i64 0) (.int .i64 0) (.int .i64 0) (.slice none 0 0))) := HA.out.setOther (by show w.heap.size ≠ w.heap.size + 1; omega) _
        have H2 := Lib.hid (netAt_set2 HN.out (.int .i64 (y : Int)))
        have H3 : Hid (Below w.heap.size w (wr.setCell ⟨w.heap.size + 1, 2, none⟩ (.int .i64 (y : Int)))) := bset HB.out (by show _ ≤ w.heap.size + 1; omega) _
        clear hLT hLm hqL HE HO HA HN HB hyt hyd hyi hyw
        go_wp2_with fail
        go_loopw [66] (fun u wr => ∃ k : Nat, k ≤ m ∧ u = .int .i64 k ∧ w.heap.size + 1 < wr.heap.size ∧ Hid (wr.ownsRow (w.heap.size + 1 + 1) 102 3 (.slice a m cg) m (wires (divL q (L.take k) ++ L.drop k))) ∧ Hid (wr.rowIs w.heap.size 25 4 (netAt (.int .i64 0) (.int .i64 0) (.int .i64 0) (.slice none 0 0))) ∧ Hid (wr.rowIs (w.heap.size + 1) 25 4 (netAt (.int .i64 i) (.int .i64 E) (.int .i64 (y : Int)) (.slice a m cg))) ∧ Hid (Below w.heap.size w wr)) (fun u _ => m - (intOf u).toNat)
        case atStart => exact ⟨0, by omega, rfl, by simpa using hsz, H0.out, H1.out, H2.out, H3.out⟩
        case round =>
          clear H0 H1 H2 H3 n0 n1 n2 n3 nf0 hsz
          obtain ⟨k, hk, rfl, hsz, HO, HA, HN, HB⟩ := hrel
          obtain ⟨n0, n1, n2, n3⟩ := netAt_cells HN.out
          by_cases hlk : k < m
          · obtain ⟨g, c', e⟩ := own_some HO.out (by omega)
            cases e
            have hkl : k < L.length := by rw [HLM.out]; exact hlk
            have hg := own_base HO.out _ rfl
            simp only at hg
            have hgn : ¬ g = w.heap.size + 1 := by omega
            have hst := (HO.out.stored (k * 3 + 2) (.int .i64 (Int.tdiv L[k].2.2 q))).1
            rw [divL_step q L k hkl] at hst
            have hold : wr.cell? ⟨g, k * 3 + 2, none⟩ = some (.int .i64 L[k].2.2) := by
              rw [HO.out.cellAt (k * 3 + 2) (by omega)]
              have h9 := (wires_get (divL q (L.take k) ++ L.drop k) k (by simp [divL_len]; omega)).2.2
              rw [h9, List.getElem_append_right (by rw [divL_len, List.length_take]; omega)]
              simp [divL_len, Nat.min_eq_left (Nat.le_of_lt hkl)]
            have hf := HO.out.frozenAt (k * 3 + 2)
            have hwb := HWF.out k hkl
            have e2 : IntKind.i64.wrap (Int.tdiv L[k].2.2 q) = Int.tdiv L[k].2.2 q := by
              have h1 := Int.natAbs_tdiv_le_natAbs L[k].2.2 q
              exact IntWalk.i64_in _ (by omega)
            generalize hxx : Int.tdiv L[k].2.2 q = y at hst e2
            have HXX := Lib.hid hxx
            generalize L[k].2.2 = x at hold hxx e2 hwb
            have hxy : Int.tdiv x q = y := hxx
            have HS := Lib.hid hst
            have HA2 := Lib.hid (HA.out.setOther (a := ⟨g, k * 3 + 2, none⟩) (by show w.heap.size ≠ g; omega) (.int .i64 y))
            have HN2 := Lib.hid (HN.out.setOther (a := ⟨g, k * 3 + 2, none⟩) (by show w.heap.size + 1 ≠ g; omega) (.int .i64 y))
            have HB2 : Hid (Below w.heap.size w (wr.setCell ⟨g, k * 3 + 2, none⟩ (.int .i64 y))) := bset HB.out (by show _ ≤ g; omega) _
            clear hst HXX hxx
            go_wp2_with fail
            go_roundw
            case rel => exact ⟨k + 1, by omega, by go_num, by simpa using hsz, HS.out, HA2.out, HN2.out, HB2.out⟩
            case measure => simp [intOf]; omega
          · obtain rfl : k = m := by omega
            have hfull : divL q (L.take k) ++ L.drop k = divL q L := by rw [List.take_of_length_le (by rw [HLM.out]; omega), List.drop_eq_nil_of_le (by rw [HLM.out]; omega), List.append_nil]
            have HO9 : Hid (wr.ownsRow (w.heap.size + 1 + 1) 102 3 (.slice a k cg) k (wires (divL q L))) := by show World.ownsRow _ _ _ _ _ _ _; rw [← hfull]; exact HO.out
            have HDM : Hid ((divL q L).length = k) := (divL_len q L).trans HLM.out
            have KN := Lib.hid (fun (w : World) rr => implNetOk i E (y : Int) a k cg (divL q L) ok HOK2.out w rr HDM.out)
            clear hfull HO
            have HRW := Lib.hid (ArgRow.own HO9.out)
            go_wp2_with fail
            refine (KN.out _ HRW.out).mono ?_
            rintro e w9 ⟨rfl, hb9⟩
            have HB9 : Hid (Below w.heap.size w w9) := bstep HB.out hb9
            have HO9' := Lib.hid (own_below HO9.out hb9)
            have HA9 := HA.out.of_block (hb9.block _ HA.out.lt)
            have HN9 := HN.out.of_block (hb9.block _ HN.out.lt)
            obtain ⟨r0, r1, r2, r3⟩ := netAt_cells HA9
            obtain ⟨t0, t1, t2, t3⟩ := netAt_cells HN9
            have f0 := HA9.frozen 0
            have f1 := HA9.frozen 1
            have f2 := HA9.frozen 2
            have f3 := HA9.frozen 3
            have hs9 : w.heap.size < w9.heap.size := HA9.lt
            have hs9' : w.heap.size + 1 < w9.heap.size := HN9.lt
            clear hb9 HA9 HN9 n0 n1 n2 n3
            cases ok
            · go_wp2_with fail
              have rs0 : (w9.cell? { block := w.heap.size, off := 0 }).isSome = true := by simp [go_sem, *]
              have rs1 : (w9.cell? { block := w.heap.size, off := 1 }).isSome = true := by simp [go_sem, *]
              have rs2 : (w9.cell? { block := w.heap.size, off := 2 }).isSome = true := by simp [go_sem, *]
              have rs3 : (w9.cell? { block := w.heap.size, off := 3 }).isSome = true := by simp [go_sem, *]
              refine bodyPost_ret (v := (.tuple #[netV 0 0 0 none 0 0, .bool false])) (by simp [results, Try.results102, go_sem, rs0, rs1, rs2, rs3]; try rfl) rfl ?_
              exact ⟨by unfold NetRes; rw [if_neg (by simp)], by have := HB9.out; (repeat' (first | (with_reducible exact Below.refl _ _) | (with_reducible assumption) | (with_reducible refine balloc ?_ _) | (with_reducible refine Below.drew ?_) | (with_reducible refine below_drewN ?_ _) | (with_reducible refine bset ?_ ?_ _) | (with_reducible refine bstep ?_ (by assumption)) | go_size))⟩
            · go_wp2_with fail
              have rs0 : (w9.cell? { block := w.heap.size, off := 0 }).isSome = true := by simp [go_sem, *]
              have rs1 : (w9.cell? { block := w.heap.size, off := 1 }).isSome = true := by simp [go_sem, *]
              have rs2 : (w9.cell? { block := w.heap.size, off := 2 }).isSome = true := by simp [go_sem, *]
              have rs3 : (w9.cell? { block := w.heap.size, off := 3 }).isSome = true := by simp [go_sem, *]
              refine bodyPost_ret (v := (.tuple #[netV i E (y : Int) a k cg, .bool true])) (by simp [results, Try.results102, go_sem, rs0, rs1, rs2, rs3]; try rfl) rfl ?_
              refine ⟨?_, by have := HB9.out; (repeat' (first | (with_reducible exact Below.refl _ _) | (with_reducible assumption) | (with_reducible refine balloc ?_ _) | (with_reducible refine Below.drew ?_) | (with_reducible refine below_drewN ?_ _) | (with_reducible refine bset ?_ ?_ _) | (with_reducible refine bstep ?_ (by assumption)) | go_size))⟩
              unfold NetRes
              rw [if_pos rfl]
              rw [HV.out.1, HV.out.2, HDM.out]
              refine ⟨a, cg, rfl, ?_⟩
              refine World.ownsRow.mono (base := w.heap.size + 1 + 1) ?_ (by omega)
              have o9 := HO9'.out
              repeat' (first | with_reducible exact o9 | (with_reducible refine ownsRow_setCell_below ?_ ?_ _) | (dsimp only; omega) | omega)
end Go.Proofs.Ytjchindjoailbaa
