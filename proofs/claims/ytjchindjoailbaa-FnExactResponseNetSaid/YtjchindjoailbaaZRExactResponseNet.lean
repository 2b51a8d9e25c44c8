/- ResponseNet of the program. -/
import Derived.Test.YtjchindjoailbaaG25
import Derived.Test.YtjchindjoailbaaG13
import Derived.Test.YtjchindjoailbaaG08
import Derived.Test.YtjchindjoailbaaG14
import Derived.Test.YtjchindjoailbaaG24
import Derived.Test.YtjchindjoailbaaG17b
import Derived.Test.YtjchindjoailbaaG12
import Derived.Test.YtjchindjoailbaaG18
import Derived.WalkKit
import Derived.ProofKit
import Derived.OpenShut
import Derived.ShutString
import Derived.ChangeOld
import Derived.Below
import Derived.Lib.SmallJoins
namespace Go.Proofs.Ytjchindjoailbaa
set_option linter.unusedSimpArgs false
set_option linter.unusedVariables false
open Go.RowKit

theorem ints_set (L : List Int) (j : Nat) (x : Int) : (ints L).set j (.int .i64 x) = ints (L.set j x) := by
  have e : ∀ L : List Int, ints L = L.map (Value.int .i64) := fun L => by induction L with
    | nil => rfl
    | cons a t ih => simp [ints] at ih ⊢; try exact ih
  rw [e, e, List.map_set]
theorem GT.put {w : World} {base g N k : Nat} {T e : TypeId} {s B : Nat} {r c : Nat → Nat} {xs : Nat → List Value} {cur : Value} (h : GT w base g N k T e s B r c xs cur) {i : Nat} (hi : i < k) (j : Nat) (v : Value) :
    GT (w.setCell ⟨r i, j, none⟩ v) base g N k T e s B r c (fun q => if q = i then (xs q).set j v else xs q) cur := by
  refine ⟨h.og.setOther (fun e => h.ne i hi e.symm) _, fun q hq => ?_, h.lt, h.ne, h.inj, h.gB⟩
  by_cases e : q = i
  · subst e; simp only [if_true]; exact ((h.rows q hq).stored j v).1
  · simp only [if_neg e]
    exact (h.rows q hq).kept (grown_set' _ ⟨r i, j, none⟩ v) (.inr (fun e2 => e (h.inj q i hq hi (by simpa [Value.ownBlock] using e2))))
theorem GT.gridI {w : World} {base g F B : Nat} {T e : TypeId} {r c : Nat → Nat} {f : Int → Int → Int} {cur : Value} (h : GT w base g F F T e 1 B r c (fun q => ints ((upto F).map fun p => f q p)) cur) (hF : F ≤ maxLen) : IGrid w (some ⟨g, 0, none⟩) F F (tab F f) := by
  refine ⟨(List.range F).map fun i => (some ⟨r i, 0, none⟩, c i, (upto F).map fun p => f i p), ?_, ⟨?_, Nat.le_refl _, hF, ?_⟩, ?_⟩
  · simp [tab, upto, Function.comp_def]
  · simp
  · by_cases h0 : F = 0
    · exact .inl h0
    · refine .inr ⟨g, 0, rfl, h.og.lt, fun j hj => ?_⟩
      simp at hj
      rw [Nat.zero_add, h.outer hj (Nat.le_refl _)]
      simp [slV, upto_len]
  · intro x hx
    simp only [List.mem_map, List.mem_range] at hx
    obtain ⟨i, hi, rfl⟩ := hx
    have := ArgRow.own (h.rows i hi)
    simp only [List.length_map, upto_len]
    exact this
/-- the entries while they are being negated -/
def negE (g : Int → Int → Int) (i j : Nat) (q : Nat) (p : Int) : Int := if q < i ∨ (q = i ∧ p < j) then -(g q p) else g q p
theorem negE_step (g : Int → Int → Int) (F i j : Nat) : ((upto F).map (negE g i j i)).set j (-(g i j)) = (upto F).map (negE g i (j + 1) i) := by
  refine List.ext_getElem (by simp) fun p h1 h2 => ?_
  rw [List.getElem_set]
  simp only [List.getElem_map, upto_at]
  by_cases e : j = p
  · subst e; rw [if_pos rfl]; unfold negE; rw [if_pos (.inr ⟨rfl, by omega⟩)]
  · rw [if_neg e]
    unfold negE
    by_cases h : (p : Int) < j
    · rw [if_pos (.inr ⟨rfl, h⟩), if_pos (.inr ⟨rfl, by omega⟩)]
    · rw [if_neg (by omega), if_neg (by omega)]
theorem negE_other (g : Int → Int → Int) (F i j j' q : Nat) (h : ¬ q = i) : (upto F).map (negE g i j q) = (upto F).map (negE g i j' q) := by
  apply List.map_congr_left
  intro p _
  unfold negE
  by_cases e : q < i
  · rw [if_pos (.inl e), if_pos (.inl e)]
  · rw [if_neg (by omega), if_neg (by omega)]
theorem negE_next (g : Int → Int → Int) (F i q : Nat) : (upto F).map (negE g i F q) = (upto F).map (negE g (i + 1) 0 q) := by
  apply List.map_congr_left
  intro p hp
  have := (Gn.upto_mem F p).1 hp
  unfold negE
  by_cases e : q < i ∨ q = i
  · rw [if_pos (by omega), if_pos (by omega)]
  · rw [if_neg (by omega), if_neg (by omega)]
def rnF (M F : Nat) (l : List Wz) (i j : Int) : Int := -(topW M F l i j)
/-- the scale and the wires that a response's network has, before they are divided -/
def rnS (M F : Nat) (S : Int) (l : List Wz) : Nat := (S * downW M F l).toNat
def rnL (M F : Nat) (l : List Wz) : List Wz := tabL (rnF M F l) F F
def rnG (M F : Nat) (S : Int) (l : List Wz) : Nat := gL (rnS M F S l) (rnL M F l)
def RnOk (M F : Nat) (S : Int) (l : List Wz) : Prop := NetOk F F (Int.tdiv (rnS M F S l) (rnG M F S l)) (divL (rnG M F S l) (rnL M F l))
set_option maxRecDepth 100000 in
set_option maxHeartbeats 16000000 in
theorem implResponseNet (M F : Nat) (S : Int) (a : Option Addr) (n c : Nat) (l : List Wz) (hF0 : 1 ≤ F) (hF : F ≤ M) (hok : NetOk M F S l) (ok : Bool) (hk : ok = true ↔ RnOk M F S l) (w : World) (hr : ArgRow w a n c 3 (wires l)) (hl : l.length = n) :
    Calls Try.prog 66 #[netV M F S a n c] w fun e w' => NetRes e w w' ok F F (Int.tdiv (rnS M F S l) (rnG M F S l)) (divL (rnG M F S l) (rnL M F l)) ∧ Below w.heap.size w w' := by
  have HR := Lib.hid hr
  have hM5 : M ≤ 5 := by have := hok.h.n5; omega
  have hFx : F ≤ maxLen := by unfold maxLen; omega
  have KN := Lib.hid (fun (w : World) rr => implNetOk M F S a n c l true ⟨fun _ => hok, fun _ => rfl⟩ w rr hl)
  have KP := Lib.hid (fun (w : World) r => implResponse M F S a n c l hF0 hF hok w r hl)
  have hd := hok.sdown hF0 hF
  have HT := Lib.hid (fun (i j : Int) => hok.top_bd hF0 hF i j)
  have HTR : Hid (∀ q, topRow M F l q F = (upto F).map fun p => topW M F l q p) := fun q => rfl
  simp only [HTR.out] at KP
  obtain ⟨s, hs⟩ : ∃ s : Nat, S * downW M F l = s := ⟨(S * downW M F l).toNat, by omega⟩
  have hrs : rnS M F S l = s := by unfold rnS; rw [hs]; rfl
  rw [hs] at KP hd
  have KO := Lib.hid (fun (w : World) (g : Nat) rr => implNetOf F F s (rnF M F l) (some ⟨g, 0, none⟩) F true ok ⟨hF0, by omega⟩ (by omega) (by omega) (fun i j => by have := HT.out i j; unfold rnF; omega) (by
    have h9 := hk; unfold RnOk rnG at h9; rw [hrs] at h9
    rw [if_pos rfl, if_pos rfl]; exact h9) w rr)
  simp only [if_true] at KO
  unfold rnG
  rw [hrs]
  have HRF : Hid (∀ i j, rnF M F l i j = -(topW M F l i j)) := fun i j => rfl
  unfold rnL
  generalize rnF M F l = f at KO HRF ⊢
  generalize topW M F l = g at KP HT HRF
  generalize (Int.tdiv (s : Int) (gL s (tabL f F F))) = D at KO ⊢
  generalize divL (gL s (tabL f F F)) (tabL f F F) = L2 at KO ⊢
  clear hr hok hk hs hrs HTR
  have HA0 : Hid (((w.alloc (.cells #[.int .i64 M, .int .i64 F, .int .i64 S, .slice a n c] 25)).alloc (.cells #[.int .i64 0, .int .i64 0, .int .i64 0, .slice none 0 0] 25)).rowIs (w.heap.size + 1) 25 4 (netAt (.int .i64 0) (.int .i64 0) (.int .i64 0) (.slice none 0 0))) := by
    have := netAt_new (w.alloc (.cells #[.int .i64 M, .int .i64 F, .int .i64 S, .slice a n c] 25)) (.int .i64 0) (.int .i64 0) (.int .i64 0) (.slice none 0 0) 25
    simpa [Hid] using this
  have HP0 : Hid (((w.alloc (.cells #[.int .i64 M, .int .i64 F, .int .i64 S, .slice a n c] 25)).alloc (.cells #[.int .i64 0, .int .i64 0, .int .i64 0, .slice none 0 0] 25)).rowIs w.heap.size 25 4 (netAt (.int .i64 M) (.int .i64 F) (.int .i64 S) (.slice a n c))) := (netAt_new _ _ _ _ _ _).alloc _
  go_enter Try.func66, Try.ntmps66
  go_wp2_with fail
  refine (KN.out _ (HR.out.below (by (repeat' (first | (with_reducible exact Below.refl _ _) | (with_reducible assumption) | (with_reducible refine balloc ?_ _) | (with_reducible refine Below.drew ?_) | (with_reducible refine below_drewN ?_ _) | (with_reducible refine bset ?_ ?_ _) | (with_reducible refine bstep ?_ (by assumption)) | go_size))))).mono ?_
  rintro e w1 ⟨rfl, hb1⟩
  have HA1 := Lib.hid (HA0.out.of_block (hb1.block _ HA0.out.lt))
  have HP1 := Lib.hid (HP0.out.of_block (hb1.block _ HP0.out.lt))
  have B1 : Hid (Below w.heap.size w w1) := bstep (by (repeat' (first | (with_reducible exact Below.refl _ _) | (with_reducible assumption) | (with_reducible refine balloc ?_ _) | (with_reducible refine Below.drew ?_) | (with_reducible refine below_drewN ?_ _) | (with_reducible refine bset ?_ ?_ _) | (with_reducible refine bstep ?_ (by assumption)) | go_size))) hb1
  have R1 := Lib.hid (HR.out.below B1.out)
  clear HA0 HP0 hb1
  obtain ⟨t0, t1, t2, t3⟩ := netAt_cells HP1.out
  have hlP1 := HP1.out.lt
  go_wp2_with fail
  refine (KP.out _ R1.out).mono ?_
  rintro e wI ⟨gm, r, cm, Bm, rfl, oG, _, hbI⟩
  have HG0 := Lib.hid (oG.congr (xs' := fun q => ints ((upto F).map (negE g 0 0 q))) (fun q _ => by
    congr 1
    apply List.map_congr_left
    intro p hp
    have := (Gn.upto_mem F p).1 hp
    unfold negE; rw [if_neg (by omega)]))
  clear oG t0 t1 t2 t3 hlP1
  go_wp2_with fail
  go_loopw [19] (fun v wr => ∃ i : Nat, i ≤ F ∧ v = .int .i64 i ∧ Hid (GT wr w1.heap.size gm F F 79 3 1 Bm r cm (fun q => ints ((upto F).map (negE g i 0 q))) (.slice none 0 0)) ∧ Hid (Below w1.heap.size w1 wr)) (fun v _ => F - (intOf v).toNat)
  case atStart => exact ⟨0, by omega, rfl, HG0.out, hbI⟩
  case round =>
    clear HG0 hbI
    obtain ⟨i, hi, rfl, HG, HB⟩ := hrel
    by_cases hlt : i < F
    · go_wp2_with fail
      go_loopw [24] (fun v wr => ∃ j : Nat, j ≤ F ∧ v = .int .i64 j ∧ Hid (GT wr w1.heap.size gm F F 79 3 1 Bm r cm (fun q => ints ((upto F).map (negE g i j q))) (.slice none 0 0)) ∧ Hid (Below w1.heap.size w1 wr)) (fun v _ => F - (intOf v).toNat)
      case atStart => exact ⟨0, by omega, rfl, HG.out, HB.out⟩
      case round =>
        clear HG HB
        obtain ⟨j, hj, rfl, HG, HB⟩ := hrel
        by_cases hlj : j < F
        · have hgo := HG.out.og.lt
          have hrw := HG.out.rows i hlt
          have hrb := own_base hrw _ rfl
          simp only at hrb
          have hrl := hrb.2
          have hlg := hrb.1
          have hco := HG.out.outer hlt (Nat.le_refl _)
          have hjl : j < ((upto F).map (negE g i j i)).length := by simp [upto_len]; exact hlj
          have hce : wr.cell? ⟨r i, j, none⟩ = some (.int .i64 (g i j)) := by
            rw [hrw.cellAt j (by omega), List.getElem?_eq_getElem (by rw [ints_len]; exact hjl), ints_at _ j hjl]
            simp only [List.getElem_map, upto_at]
            unfold negE; rw [if_neg (by omega)]
          have hfe := hrw.frozenAt j
          have hwb := HT.out i j
          have hv1 : wrap64 (-(g i j)) = -(g i j) := wrap_small (by omega)
          have hv2 : IntKind.i64.wrap (-(g i j)) = -(g i j) := IntWalk.i64_in _ (by omega)
          have HP := Lib.hid ((HG.out.put hlt j (.int .i64 (-(g i j)))).congr (xs' := fun q => ints ((upto F).map (negE g i (j + 1) q))) (fun q _ => by
            by_cases e : q = i
            · subst e; simp only [if_true]; rw [ints_set, negE_step]
            · simp only [if_neg e]; rw [negE_other g F i j (j + 1) q e]))
          have HBP := Lib.hid (HB.out.setCell (p := ⟨r i, j, none⟩) (by show _ ≤ r i; omega) (.int .i64 (-(g i j))))
          generalize g i j = x at hce hwb hv1 hv2 HP HBP
          generalize r i = ρ at hrl hco hce hfe HP HBP
          clear hrw hrb hlg hjl
          go_wp2_with fail
          go_region
          all_goals
            go_wp2_with fail
            go_roundw
            case rel => exact ⟨j + 1, by omega, by go_num, HP.out.below (below_drewN (Below.refl _ _) 1), below_drewN HBP.out 1⟩
            case measure => simp [intOf]; omega
        · obtain rfl : j = F := by omega
          have HG9 := Lib.hid (HG.out.congr (xs' := fun q => ints ((upto j).map (negE g (i + 1) 0 q))) (fun q _ => by rw [negE_next]))
          go_wp2_with fail
          go_roundw
          case rel => exact ⟨i + 1, by omega, by go_num, HG9.out, HB.out⟩
          case measure => simp [intOf]; omega
    · obtain rfl : i = F := by omega
      have hgr := Lib.hid (GT.gridI (f := f) (HG.out.congr (xs' := fun q => ints ((upto i).map fun p => f q p)) (fun q hq => by
        congr 1
        apply List.map_congr_left
        intro p _
        unfold negE; rw [if_pos (.inl hq), HRF.out])) hFx)
      have HA2 := Lib.hid (HA1.out.of_block (HB.out.block _ HA1.out.lt))
      have HP2 := Lib.hid (HP1.out.of_block (HB.out.block _ HP1.out.lt))
      have B2 : Hid (Below w.heap.size w wr) := B1.out.trans (HB.out.mono B1.out.size)
      obtain ⟨t0, t1, t2, t3⟩ := netAt_cells HP2.out
      have hlP2 := HP2.out.lt
      clear HG HB HP1 HA1
      go_wp2_with fail
      refine (KO.out _ gm hgr.out).mono ?_
      rintro e wO ⟨hres, hbO⟩
      have HA3 := Lib.hid (HA2.out.of_block (hbO.block _ HA2.out.lt))
      have BO : Hid (Below w.heap.size w wO) := bstep B2.out hbO
      obtain ⟨r0, r1, r2, r3⟩ := netAt_cells HA3.out
      have f0 := HA3.out.frozen 0
      have f1 := HA3.out.frozen 1
      have f2 := HA3.out.frozen 2
      have f3 := HA3.out.frozen 3
      have hlA := HA3.out.lt
      have hszr : w.heap.size + 1 + 1 ≤ wr.heap.size := by have := HA2.out.lt; omega
      unfold NetRes at hres
      cases ok
      · rw [if_neg (by simp)] at hres
        subst hres
        go_wp2_with fail
        have rs0 : (wO.cell? { block := w.heap.size + 1, off := 0 }).isSome = true := by simp [go_sem, *]
        have rs1 : (wO.cell? { block := w.heap.size + 1, off := 1 }).isSome = true := by simp [go_sem, *]
        have rs2 : (wO.cell? { block := w.heap.size + 1, off := 2 }).isSome = true := by simp [go_sem, *]
        have rs3 : (wO.cell? { block := w.heap.size + 1, off := 3 }).isSome = true := by simp [go_sem, *]
        refine bodyPost_ret (v := (.tuple #[netV 0 0 0 none 0 0, .bool false])) (by simp [results, Try.results66, go_sem, rs0, rs1, rs2, rs3]; try rfl) rfl ?_
        exact ⟨by unfold NetRes; rw [if_neg (by simp)], by have := BO.out; (repeat' (first | (with_reducible exact Below.refl _ _) | (with_reducible assumption) | (with_reducible refine balloc ?_ _) | (with_reducible refine Below.drew ?_) | (with_reducible refine below_drewN ?_ _) | (with_reducible refine bset ?_ ?_ _) | (with_reducible refine bstep ?_ (by assumption)) | go_size))⟩
      · rw [if_pos rfl] at hres
        obtain ⟨aO, cO, rfl, oO⟩ := hres
        have OO := Lib.hid oO
        clear oO
        go_wp2_with fail
        have rs0 : (wO.cell? { block := w.heap.size + 1, off := 0 }).isSome = true := by simp [go_sem, *]
        have rs1 : (wO.cell? { block := w.heap.size + 1, off := 1 }).isSome = true := by simp [go_sem, *]
        have rs2 : (wO.cell? { block := w.heap.size + 1, off := 2 }).isSome = true := by simp [go_sem, *]
        have rs3 : (wO.cell? { block := w.heap.size + 1, off := 3 }).isSome = true := by simp [go_sem, *]
        refine bodyPost_ret (v := (.tuple #[netV i i D aO L2.length cO, .bool true])) (by simp [results, Try.results66, go_sem, rs0, rs1, rs2, rs3]; try rfl) rfl ?_
        refine ⟨?_, by have := BO.out; (repeat' (first | (with_reducible exact Below.refl _ _) | (with_reducible assumption) | (with_reducible refine balloc ?_ _) | (with_reducible refine Below.drew ?_) | (with_reducible refine below_drewN ?_ _) | (with_reducible refine bset ?_ ?_ _) | (with_reducible refine bstep ?_ (by assumption)) | go_size))⟩
        unfold NetRes
        rw [if_pos rfl]
        refine ⟨aO, cO, rfl, ?_⟩
        refine World.ownsRow.mono (base := w.heap.size + 1 + 1) ?_ (by omega)
        have o9 := World.ownsRow.mono (base' := w.heap.size + 1 + 1) OO.out hszr
        repeat' (first | with_reducible exact o9 | (with_reducible refine ownsRow_setCell_below ?_ ?_ _) | (dsimp only; omega) | omega)
set_option maxRecDepth 100000 in
set_option maxHeartbeats 8000000 in
theorem implResponseNet0 (N : Int) (E S : Int) (a : Option Addr) (n c : Nat) (l : List Wz) (hok : ¬ NetOk N E S l) (w : World) (hr : ArgRow w a n c 3 (wires l)) (hl : l.length = n) :
    Calls Try.prog 66 #[netV N E S a n c] w fun e w' => e = .returned (.tuple #[netV 0 0 0 none 0 0, .bool false]) ∧ Below w.heap.size w w' := by
  have HR := Lib.hid hr
  have KN := Lib.hid (fun (w : World) rr => implNetOk N E S a n c l false ⟨(fun h => by cases h), fun h => absurd h hok⟩ w rr hl)
  clear hr hok
  have HA0 : Hid (((w.alloc (.cells #[.int .i64 N, .int .i64 E, .int .i64 S, .slice a n c] 25)).alloc (.cells #[.int .i64 0, .int .i64 0, .int .i64 0, .slice none 0 0] 25)).rowIs (w.heap.size + 1) 25 4 (netAt (.int .i64 0) (.int .i64 0) (.int .i64 0) (.slice none 0 0))) := by
    have := netAt_new (w.alloc (.cells #[.int .i64 N, .int .i64 E, .int .i64 S, .slice a n c] 25)) (.int .i64 0) (.int .i64 0) (.int .i64 0) (.slice none 0 0) 25
    simpa [Hid] using this
  go_enter Try.func66, Try.ntmps66
  go_wp2_with fail
  refine (KN.out _ (HR.out.below (by (repeat' (first | (with_reducible exact Below.refl _ _) | (with_reducible assumption) | (with_reducible refine balloc ?_ _) | (with_reducible refine Below.drew ?_) | (with_reducible refine below_drewN ?_ _) | (with_reducible refine bset ?_ ?_ _) | (with_reducible refine bstep ?_ (by assumption)) | go_size))))).mono ?_
  rintro e w1 ⟨rfl, hb1⟩
  have HA1 := Lib.hid (HA0.out.of_block (hb1.block _ HA0.out.lt))
  have B1 : Hid (Below w.heap.size w w1) := bstep (by (repeat' (first | (with_reducible exact Below.refl _ _) | (with_reducible assumption) | (with_reducible refine balloc ?_ _) | (with_reducible refine Below.drew ?_) | (with_reducible refine below_drewN ?_ _) | (with_reducible refine bset ?_ ?_ _) | (with_reducible refine bstep ?_ (by assumption)) | go_size))) hb1
  clear HA0 hb1
  obtain ⟨r0, r1, r2, r3⟩ := netAt_cells HA1.out
  have f0 := HA1.out.frozen 0
  have f1 := HA1.out.frozen 1
  have f2 := HA1.out.frozen 2
  have f3 := HA1.out.frozen 3
  have hlA1 := HA1.out.lt
  go_wp2_with fail
  have rs0 : (w1.cell? { block := w.heap.size + 1, off := 0 }).isSome = true := by simp [go_sem, *]
  have rs1 : (w1.cell? { block := w.heap.size + 1, off := 1 }).isSome = true := by simp [go_sem, *]
  have rs2 : (w1.cell? { block := w.heap.size + 1, off := 2 }).isSome = true := by simp [go_sem, *]
  have rs3 : (w1.cell? { block := w.heap.size + 1, off := 3 }).isSome = true := by simp [go_sem, *]
  refine bodyPost_ret (v := (.tuple #[netV 0 0 0 none 0 0, .bool false])) (by simp [results, Try.results66, go_sem, rs0, rs1, rs2, rs3]; try rfl) rfl ?_
  exact ⟨rfl, by have := B1.out; (repeat' (first | (with_reducible exact Below.refl _ _) | (with_reducible assumption) | (with_reducible refine balloc ?_ _) | (with_reducible refine Below.drew ?_) | (with_reducible refine below_drewN ?_ _) | (with_reducible refine bset ?_ ?_ _) | (with_reducible refine bstep ?_ (by assumption)) | go_size))⟩
end Go.Proofs.Ytjchindjoailbaa

/- CanonNet of the reference. -/
namespace Go.Proofs.Ytjchindjoailbaa
set_option linter.unusedSimpArgs false
set_option linter.unusedVariables false
open Go.RowKit

set_option maxRecDepth 100000 in
set_option maxHeartbeats 16000000 in
theorem specCanon (N E : Int) (s : Nat) (a : Option Addr) (n c : Nat) (l : List Wz) (hs1 : 0 < s) (hs2 : s ≤ 1000000000000000000) (hb : ∀ x ∈ l, -1000000000000000000 ≤ x.2.2 ∧ x.2.2 ≤ 1000000000000000000) (hn : n ≤ 1000) (w : World) (hr : ArgRow w a n c 3 (wires l)) (hl : l.length = n) :
    Calls Try.prog 152 #[netV N E s a n c] w fun e w' => ∃ a' c', e = .returned (netV N E (Int.tdiv (s : Int) (gL s l)) a' n c') ∧ w'.ownsRow w.heap.size 102 3 (.slice a' n c') n (wires (divL (gL s l) l)) ∧ Below w.heap.size w w' := by
  obtain ⟨i0, hi, hz0, hz1, hz2⟩ := info_parts infoWire
  have HI := Lib.hid (And.intro hi (And.intro hz0 (And.intro hz1 hz2)))
  clear hi hz0 hz1 hz2
  generalize hD : Int.tdiv (s : Int) (gL s l) = D
  generalize hL2 : divL (gL s l) l = L2
  have HD0 := Lib.hid hD
  have HL20 := Lib.hid hL2
  clear hD hL2
  have HR := Lib.hid hr
  have HL := Lib.hid hl
  have HBD := Lib.hid hb
  have HG0 := Lib.hid (fun L => gL_pos hs1 L)
  have HG1 := Lib.hid (fun L => gL_le hs1 L)
  have HGC := Lib.hid (fun (L : List Wz) (x : Int) (hx : -1000000000000000000 ≤ x ∧ x ≤ 1000000000000000000) (i j : Int) => gcd_step_z (L := L) hs1 hs2 hx i j)
  clear hr hl hb
  have HA0 : Hid (((w.alloc (.cells #[.int .i64 N, .int .i64 E, .int .i64 s, .slice a n c] 25)).alloc (.cells #[.int .i64 0, .int .i64 0, .int .i64 0, .slice none 0 0] 25)).rowIs (w.heap.size + 1) 25 4 (netAt (.int .i64 0) (.int .i64 0) (.int .i64 0) (.slice none 0 0))) := by
    have := netAt_new (w.alloc (.cells #[.int .i64 N, .int .i64 E, .int .i64 s, .slice a n c] 25)) (.int .i64 0) (.int .i64 0) (.int .i64 0) (.slice none 0 0) 25
    simpa [Hid] using this
  have HP0 : Hid (((w.alloc (.cells #[.int .i64 N, .int .i64 E, .int .i64 s, .slice a n c] 25)).alloc (.cells #[.int .i64 0, .int .i64 0, .int .i64 0, .slice none 0 0] 25)).rowIs w.heap.size 25 4 (netAt (.int .i64 N) (.int .i64 E) (.int .i64 s) (.slice a n c))) := (netAt_new _ _ _ _ _ _).alloc _
  go_enter Try.func152, Try.ntmps152
  go_wp2_with fail
  go_loopw [3, 14] (fun gv u wr => ∃ k q : Nat, k ≤ n ∧ u = .int .i64 k ∧ gv = .int .i64 q ∧ Hid (q = gL s (l.take k)) ∧ Hid (wr.rowIs (w.heap.size + 1) 25 4 (netAt (.int .i64 0) (.int .i64 0) (.int .i64 0) (.slice none 0 0))) ∧ Hid (wr.rowIs w.heap.size 25 4 (netAt (.int .i64 N) (.int .i64 E) (.int .i64 s) (.slice a n c))) ∧ Hid (Below w.heap.size w wr)) (fun _ u _ => n - (intOf u).toNat)
  case atStart => exact ⟨0, s, by omega, rfl, rfl, rfl, HA0.out, HP0.out, by show Below _ _ _; (repeat' (first | (with_reducible exact Below.refl _ _) | (with_reducible assumption) | (with_reducible refine balloc ?_ _) | (with_reducible refine Below.drew ?_) | (with_reducible refine below_drewN ?_ _) | (with_reducible refine bset ?_ ?_ _) | (with_reducible refine bstep ?_ (by assumption)) | go_size))⟩
  case round =>
    clear HA0 HP0
    obtain ⟨k, q, hk, rfl, rfl, HQ, HA, HP, HB⟩ := hrel
    have hlA := HA.out.lt
    have hlP := HP.out.lt
    obtain ⟨t0, t1, t2, t3⟩ := netAt_cells HP.out
    have hgq : 0 < q ∧ q ≤ 1000000000000000000 := by
      rw [HQ.out]; exact ⟨HG0.out _, Nat.le_trans (HG1.out _) hs2⟩
    by_cases hlt : k < n
    · have hli : k < l.length := by rw [HL.out]; exact hlt
      obtain ⟨b, o, rfl, hb, _⟩ := HR.out.form (by omega)
      obtain ⟨p0, p1, p2⟩ := wire_cells HR.out k hli
      have hbl : b < wr.heap.size := Nat.lt_of_lt_of_le hb HB.out.size
      rw [← HB.out.cell (p := ⟨b, _, none⟩) hb] at p0 p1 p2
      have hxb := HBD.out l[k] (List.getElem_mem _)
      obtain ⟨q2, hq2⟩ : ∃ q2, q2 = gL s (l.take (k + 1)) := ⟨_, rfl⟩
      have hgv : gcdZ (q : Int) l[k].2.2 = (q2 : Int) := by
        rw [hq2, List.take_succ_eq_append_getElem hli, HQ.out]
        exact HGC.out (l.take k) l[k].2.2 hxb l[k].1 l[k].2.1
      have HQ2 := Lib.hid hq2
      generalize l[k] = x at p0 p1 p2 hxb hgv
      obtain ⟨x0, x1, x2⟩ := x
      simp only at hxb hgv
      have KG := Lib.hid (fun w => specGcd (q : Int) x2 w (by omega) (by omega) (by omega) (by omega))
      rw [hgv] at KG
      clear hli hq2 hgv
      go_wp2_with fail
      refine (KG.out _).mono ?_
      rintro e w9 ⟨rfl, nn, rfl⟩
      go_wp2_with fail
      go_roundw
      case rel => exact ⟨k + 1, q2, by omega, by go_num, rfl, HQ2.out, (HA.out.alloc (.cells #[.int .i64 x0, .int .i64 x1, .int .i64 x2] 102)), (HP.out.alloc (.cells #[.int .i64 x0, .int .i64 x1, .int .i64 x2] 102)), below_drewN (balloc HB.out _) _⟩
      case measure => simp [intOf]; omega
    · obtain rfl : k = n := by omega
      have hqL : q = gL s l := by rw [HQ.out, List.take_of_length_le (by rw [HL.out]; omega)]
      obtain ⟨y, hy⟩ : ∃ y : Nat, s / q = y := ⟨_, rfl⟩
      have hyb : y ≤ s := by rw [← hy]; exact Nat.div_le_self s q
      have hyt : Int.tdiv (s : Int) q = y := by rw [← hy, Int.ofNat_tdiv]
      have hyd : (s : Int) / (q : Int) = (y : Int) := by rw [← hy]; exact (Int.natCast_ediv s q).symm
      clear hy
      have hyi : IntKind.i64.wrap (y : Int) = y := IntWalk.i64_in _ ⟨by omega, by omega⟩
      have hyw : wrap64 (y : Int) = y := wrap_small' ⟨by omega, by omega⟩
      have e1 : IntKind.i64.wrap (Int.tdiv (s : Int) q) = y := by rw [hyt]; exact hyi
      have e1' : wrap64 ((s : Int) / (q : Int)) = y := by rw [hyd]; exact hyw
      have e1'' : IntKind.i64.wrap ((s : Int) / (q : Int)) = y := by rw [hyd]; exact hyi
      have hq0 : ((q : Int) == 0) = false := by simp; omega
      have hq1 : ¬ (q : Int) = 0 := by omega
      have hq2 : ¬ q = 0 := by omega
      have HV : Hid (L2 = divL q l ∧ D = (y : Int)) := ⟨by rw [← HL20.out, ← hqL], by rw [← HD0.out, ← hqL]; exact hyt⟩
      have HN0 : Hid ((wr.alloc (.cells #[.int .i64 N, .int .i64 E, .int .i64 y, .slice none 0 0] 25)).rowIs wr.heap.size 25 4 (netAt (.int .i64 N) (.int .i64 E) (.int .i64 y) (.slice none 0 0))) := netAt_new _ _ _ _ _ _
      obtain ⟨w1, rfl⟩ : ∃ w1 : World, w1 = wr := ⟨_, rfl⟩
      clear HQ hyt hyd hyi hyw hqL
      go_wp2_with fail
      go_region
      all_goals
        go_wp2_with fail
        go_loopw [35] (fun u wr => ∃ (k' cg : Nat) (a' : Option Addr), k' ≤ k ∧ u = .int .i64 k' ∧ w1.heap.size < wr.heap.size ∧ Hid (wr.ownsRow (w1.heap.size + 1) 102 3 (.slice a' k' cg) k' (wires (divL q (l.take k')))) ∧ Hid (wr.rowIs w1.heap.size 25 4 (netAt (.int .i64 N) (.int .i64 E) (.int .i64 y) (.slice a' k' cg))) ∧ Hid (Below w1.heap.size w1 wr)) (fun u _ => k - (intOf u).toNat)
        case atStart => exact ⟨0, 0, none, by omega, rfl, by simp, World.ownsRow_nil _ _ _ _, by first | exact HN0.out | exact HN0.out.drew, by first | exact balloc (Below.refl _ _) _ | exact below_drewN (balloc (Below.refl _ _) _) _ | exact (balloc (Below.refl _ _) _).drew⟩
        case round =>
          clear HN0 t0 t1 t2 t3
          obtain ⟨k', cg, a', hk', rfl, hsz, HO, HN, HC⟩ := hrel
          have HB2 : Hid (Below w.heap.size w wr) := bstep HB.out HC.out
          have HP2 := Lib.hid (HP.out.of_block (HC.out.block _ hlP))
          obtain ⟨t0, t1, t2, t3⟩ := netAt_cells HP2.out
          obtain ⟨n0, n1, n2, n3⟩ := netAt_cells HN.out
          have nf3 := HN.out.frozen 3
          have hlP2 := HP2.out.lt
          by_cases hlt' : k' < k
          · have hli : k' < l.length := by rw [HL.out]; exact hlt'
            obtain ⟨b, o, rfl, hb, _⟩ := HR.out.form (by omega)
            obtain ⟨p0, p1, p2⟩ := wire_cells HR.out k' hli
            have hbl : b < wr.heap.size := Nat.lt_of_lt_of_le hb HB2.out.size
            rw [← HB2.out.cell (p := ⟨b, _, none⟩) hb] at p0 p1 p2
            have hxb := HBD.out l[k'] (List.getElem_mem _)
            have HD : Hid (divL q (l.take (k' + 1)) = divL q (l.take k') ++ [(l[k'].1, l[k'].2.1, Int.tdiv l[k'].2.2 q)]) := by
              show _ = _
              rw [List.take_succ_eq_append_getElem hli, divL, List.map_append]; rfl
            generalize l[k'] = x at p0 p1 p2 hxb HD
            obtain ⟨x0, x1, x2⟩ := x
            simp only at hxb HD
            have hyb2 : -1000000000000000000 ≤ Int.tdiv x2 q ∧ Int.tdiv x2 q ≤ 1000000000000000000 := by
              have h1 := Int.natAbs_tdiv_le_natAbs x2 q
              omega
            generalize hxy : Int.tdiv x2 q = z at HD hyb2
            have e2 : IntKind.i64.wrap z = z := IntWalk.i64_in _ ⟨by omega, by omega⟩
            have hzw : wrap64 z = z := wrap_small' ⟨by omega, by omega⟩
            have hown := (HO.out.alloc (.cells #[.int .i64 x0, .int .i64 x1, .int .i64 z] 102)).alloc (.cells #[.int .i64 x0, .int .i64 x1, .int .i64 z] 102)
            clear hli
            go_wp2_with (at_builtin; refine wpList_append_lies _ rfl _ _ 23 rfl (w1.heap.size + 1) 102 i0 (.agg #[.int .i64 0, .int .i64 0, .int .i64 0]) 3 24 Try.underlying23 HI.out.1 HI.out.2.1 HI.out.2.2.1 HI.out.2.2.2 rfl (by decide) _ _ _ rfl hown ⟨wr.heap.size + 1, 0, none⟩ 1 1 (wireV (x0, x1, z)) rfl rfl ?c1 ?c2 (by omega) ?c3 ?c4 ?c5 _ rfl ?_)
            case c1 => first | (exact fun j u hu => hu) | (have := cell_wire_new (wr.alloc (.cells #[.int .i64 x0, .int .i64 x1, .int .i64 z] 102)) (x0, x1, z) 102; simp only [World.size_alloc] at this; exact this)
            case c2 => exact wireV_one _
            case c3 => unfold maxLen; omega
            case c4 => omega
            case c5 => first | omega | (simp only [World.size_alloc]; omega) | (simp; omega)
            intro g3 c3 w7 hown' hgrow hlies hlt7
            have hs7 := hgrow.size
            simp only [World.size_alloc] at hs7
            have H7 : w7.ownsRow (w1.heap.size + 1) 102 3 (.slice (some ⟨g3, 0, none⟩) (k' + 1) c3) (k' + 1) (wires (divL q (l.take (k' + 1)))) := by rw [HD.out, ← wires_snoc]; exact hown'
            have HN7 : w7.rowIs w1.heap.size 25 4 (netAt (.int .i64 N) (.int .i64 E) (.int .i64 y) (.slice a' k' cg)) := ((HN.out.alloc _).alloc _).of_block (hgrow.block _ (by simp only [World.size_alloc]; omega) (fun e => by have := (hown.lt _ e.symm).1; omega))
            have HC7 : Below w1.heap.size w1 w7 := ((HC.out.alloc (by omega) _).alloc (by simp only [World.size_alloc]; omega) _).grown hgrow (by simp only [World.size_alloc]; omega) (fun q hq => by have := (hown.lt q hq).1; omega)
            have hg3 := (own_base H7 _ rfl).1
            simp only at hg3
            have H8 : Hid ((w7.setCell ⟨w1.heap.size, 3, none⟩ (.slice (some ⟨g3, 0, none⟩) (k' + 1) c3)).ownsRow (w1.heap.size + 1) 102 3 (.slice (some ⟨g3, 0, none⟩) (k' + 1) c3) (k' + 1) (wires (divL q (l.take (k' + 1))))) := H7.kept (grown_set' _ ⟨w1.heap.size, 3, none⟩ _) (.inr (by simp [Value.ownBlock]; omega))
            have HN8 := Lib.hid (netAt_set3 HN7 (.slice (some ⟨g3, 0, none⟩) (k' + 1) c3))
            have HC8 : Hid (Below w1.heap.size w1 (w7.setCell ⟨w1.heap.size, 3, none⟩ (.slice (some ⟨g3, 0, none⟩) (k' + 1) c3))) := HC7.setCell (Nat.le_refl _) _
            have k0 := (netAt_cells HN7).2.2.2
            have k1 := HN7.frozen 3
            have hl7 := HN7.lt
            clear hown hown' hgrow hlies H7 HN7 HC7 n0 n1 n2 n3 nf3
            go_wp2_with fail
            go_roundw
            case rel => exact ⟨k' + 1, c3, some ⟨g3, 0, none⟩, by omega, by go_num, by simpa using hl7, H8.out, HN8.out, HC8.out⟩
            case measure => simp [intOf]; omega
          · obtain rfl : k' = k := by omega
            have hT : l.take k' = l := List.take_of_length_le (by rw [HL.out]; omega)
            have HO2 : Hid (wr.ownsRow (w1.heap.size + 1) 102 3 (.slice a' k' cg) k' (wires (divL q l))) := by have := HO.out; rw [hT] at this; exact this
            have HA2 := Lib.hid (HA.out.of_block (HC.out.block _ hlA))
            have hlA2 := HA2.out.lt
            obtain ⟨r0, r1, r2, r3⟩ := netAt_cells HA2.out
            have f0 := HA2.out.frozen 0
            have f1 := HA2.out.frozen 1
            have f2 := HA2.out.frozen 2
            have f3 := HA2.out.frozen 3
            clear hT HO
            go_wp2_with fail
            have rs0 : (wr.cell? { block := w.heap.size + 1, off := 0 }).isSome = true := by simp [go_sem, *]
            have rs1 : (wr.cell? { block := w.heap.size + 1, off := 1 }).isSome = true := by simp [go_sem, *]
            have rs2 : (wr.cell? { block := w.heap.size + 1, off := 2 }).isSome = true := by simp [go_sem, *]
            have rs3 : (wr.cell? { block := w.heap.size + 1, off := 3 }).isSome = true := by simp [go_sem, *]
            refine bodyPost_ret (v := (netV N E y a' k' cg)) (by simp [results, Try.results152, go_sem, rs0, rs1, rs2, rs3]; try rfl) rfl ?_
            refine ⟨a', cg, by rw [HV.out.2], ?_, by have := HB2.out; (repeat' (first | (with_reducible exact Below.refl _ _) | (with_reducible assumption) | (with_reducible refine balloc ?_ _) | (with_reducible refine Below.drew ?_) | (with_reducible refine below_drewN ?_ _) | (with_reducible refine bset ?_ ?_ _) | (with_reducible refine bstep ?_ (by assumption)) | go_size))⟩
            rw [HV.out.1]
            refine World.ownsRow.mono (base := w.heap.size + 1 + 1) ?_ (by omega)
            have o9 := World.ownsRow.mono (base' := w.heap.size + 1 + 1) HO2.out (by omega)
            repeat' (first | with_reducible exact o9 | (with_reducible refine ownsRow_setCell_below ?_ ?_ _) | (dsimp only; omega) | omega)
end Go.Proofs.Ytjchindjoailbaa

/- ResponseNet of the reference. -/
namespace Go.Proofs.Ytjchindjoailbaa
set_option linter.unusedSimpArgs false
set_option linter.unusedVariables false
open Go.RowKit

set_option maxRecDepth 100000 in
set_option maxHeartbeats 8000000 in
theorem specResponseNet0 (N : Int) (E S : Int) (a : Option Addr) (n c : Nat) (l : List Wz) (hok : ¬ NetOk N E S l) (w : World) (hr : ArgRow w a n c 3 (wires l)) (hl : l.length = n) :
    Calls Try.prog 65 #[netV N E S a n c] w fun e w' => e = .returned (.tuple #[netV 0 0 0 none 0 0, .bool false]) ∧ Below w.heap.size w w' := by
  have HR := Lib.hid hr
  have KN := Lib.hid (fun (w : World) rr => specNetOk N E S a n c l false ⟨(fun h => by cases h), fun h => absurd h hok⟩ w rr hl)
  clear hr hok
  have HA0 : Hid (((w.alloc (.cells #[.int .i64 N, .int .i64 E, .int .i64 S, .slice a n c] 25)).alloc (.cells #[.int .i64 0, .int .i64 0, .int .i64 0, .slice none 0 0] 25)).rowIs (w.heap.size + 1) 25 4 (netAt (.int .i64 0) (.int .i64 0) (.int .i64 0) (.slice none 0 0))) := by
    have := netAt_new (w.alloc (.cells #[.int .i64 N, .int .i64 E, .int .i64 S, .slice a n c] 25)) (.int .i64 0) (.int .i64 0) (.int .i64 0) (.slice none 0 0) 25
    simpa [Hid] using this
  go_enter Try.func65, Try.ntmps65
  go_wp2_with fail
  refine (KN.out _ (HR.out.below (by (repeat' (first | (with_reducible exact Below.refl _ _) | (with_reducible assumption) | (with_reducible refine balloc ?_ _) | (with_reducible refine Below.drew ?_) | (with_reducible refine below_drewN ?_ _) | (with_reducible refine bset ?_ ?_ _) | (with_reducible refine bstep ?_ (by assumption)) | go_size))))).mono ?_
  rintro e w1 ⟨rfl, hb1⟩
  have HA1 := Lib.hid (HA0.out.of_block (hb1.block _ HA0.out.lt))
  have B1 : Hid (Below w.heap.size w w1) := bstep (by (repeat' (first | (with_reducible exact Below.refl _ _) | (with_reducible assumption) | (with_reducible refine balloc ?_ _) | (with_reducible refine Below.drew ?_) | (with_reducible refine below_drewN ?_ _) | (with_reducible refine bset ?_ ?_ _) | (with_reducible refine bstep ?_ (by assumption)) | go_size))) hb1
  clear HA0 hb1
  obtain ⟨r0, r1, r2, r3⟩ := netAt_cells HA1.out
  have f0 := HA1.out.frozen 0
  have f1 := HA1.out.frozen 1
  have f2 := HA1.out.frozen 2
  have f3 := HA1.out.frozen 3
  have hlA1 := HA1.out.lt
  go_wp2_with fail
  have rs0 : (w1.cell? { block := w.heap.size + 1, off := 0 }).isSome = true := by simp [go_sem, *]
  have rs1 : (w1.cell? { block := w.heap.size + 1, off := 1 }).isSome = true := by simp [go_sem, *]
  have rs2 : (w1.cell? { block := w.heap.size + 1, off := 2 }).isSome = true := by simp [go_sem, *]
  have rs3 : (w1.cell? { block := w.heap.size + 1, off := 3 }).isSome = true := by simp [go_sem, *]
  refine bodyPost_ret (v := (.tuple #[netV 0 0 0 none 0 0, .bool false])) (by simp [results, Try.results65, go_sem, rs0, rs1, rs2, rs3]; try rfl) rfl ?_
  exact ⟨rfl, by have := B1.out; (repeat' (first | (with_reducible exact Below.refl _ _) | (with_reducible assumption) | (with_reducible refine balloc ?_ _) | (with_reducible refine Below.drew ?_) | (with_reducible refine below_drewN ?_ _) | (with_reducible refine bset ?_ ?_ _) | (with_reducible refine bstep ?_ (by assumption)) | go_size))⟩
set_option maxRecDepth 100000 in
set_option maxHeartbeats 8000000 in
theorem specReduced (N E : Int) (s : Nat) (a : Option Addr) (n c : Nat) (L : List Wz) (hs1 : 0 < s) (hs2 : s ≤ 1000000000000000000) (hb : ∀ x ∈ L, -1000000000000000000 ≤ x.2.2 ∧ x.2.2 ≤ 1000000000000000000) (hn : n ≤ 1000) (ok : Bool)
    (hk : ok = true ↔ NetOk N E (Int.tdiv s (gL s (dropL L))) (divL (gL s (dropL L)) (dropL L))) (w : World) (hr : ArgRow w a n c 3 (wires L)) (hl : L.length = n) :
    Calls Try.prog 119 #[netV N E s a n c] w fun e w' => NetRes e w w' ok N E (Int.tdiv s (gL s (dropL L))) (divL (gL s (dropL L)) (dropL L)) ∧ Below w.heap.size w w' := by
  have HR := Lib.hid hr
  have KD := Lib.hid (fun (w : World) rr => specDrop a n c L w rr hl (by omega))
  have hdl : (dropL L).length ≤ n := by rw [← hl]; exact List.length_filter_le _ _
  have KC := Lib.hid (fun (a' : Option Addr) (c' : Nat) (w : World) rr => specCanon N E s a' (dropL L).length c' (dropL L) hs1 hs2 (fun x hx => hb x (dropL_mem.1 hx).1) (by omega) w rr rfl)
  have KN := Lib.hid (fun (a' : Option Addr) (c' : Nat) (w : World) rr => specNetOk N E (Int.tdiv s (gL s (dropL L))) a' (dropL L).length c' (divL (gL s (dropL L)) (dropL L)) ok hk w rr (divL_len _ _))
  have HLL : Hid ((divL (gL s (dropL L)) (dropL L)).length = (dropL L).length) := divL_len _ _
  generalize divL (gL s (dropL L)) (dropL L) = L2 at KC KN HLL ⊢
  generalize Int.tdiv (s : Int) (gL s (dropL L)) = D at KC KN ⊢
  generalize dropL L = L1 at KD KC KN HLL
  rw [show (L1.length) = L2.length from HLL.out.symm] at KD KC KN
  obtain ⟨m, hm⟩ : ∃ m, L2.length = m := ⟨_, rfl⟩
  rw [hm] at KD KC KN
  have HM := Lib.hid hm
  clear HLL hm
  clear hr hk hb hs1 hs2 hdl hl
  have HA0 : Hid (((w.alloc (.cells #[.int .i64 N, .int .i64 E, .int .i64 s, .slice a n c] 25)).alloc (.cells #[.int .i64 0, .int .i64 0, .int .i64 0, .slice none 0 0] 25)).rowIs (w.heap.size + 1) 25 4 (netAt (.int .i64 0) (.int .i64 0) (.int .i64 0) (.slice none 0 0))) := by
    have := netAt_new (w.alloc (.cells #[.int .i64 N, .int .i64 E, .int .i64 s, .slice a n c] 25)) (.int .i64 0) (.int .i64 0) (.int .i64 0) (.slice none 0 0) 25
    simpa [Hid] using this
  have HP0 : Hid (((w.alloc (.cells #[.int .i64 N, .int .i64 E, .int .i64 s, .slice a n c] 25)).alloc (.cells #[.int .i64 0, .int .i64 0, .int .i64 0, .slice none 0 0] 25)).rowIs w.heap.size 25 4 (netAt (.int .i64 N) (.int .i64 E) (.int .i64 s) (.slice a n c))) := (netAt_new _ _ _ _ _ _).alloc _
  go_enter Try.func119, Try.ntmps119
  go_wp2_with fail
  refine (KD.out _ (HR.out.below (by (repeat' (first | (with_reducible exact Below.refl _ _) | (with_reducible assumption) | (with_reducible refine balloc ?_ _) | (with_reducible refine Below.drew ?_) | (with_reducible refine below_drewN ?_ _) | (with_reducible refine bset ?_ ?_ _) | (with_reducible refine bstep ?_ (by assumption)) | go_size))))).mono ?_
  rintro e w1 ⟨g1, c1, rfl, o1, hb1⟩
  have HA1 := HA0.out.of_block (hb1.block _ HA0.out.lt)
  have HP1 := HP0.out.of_block (hb1.block _ HP0.out.lt)
  have B1 : Below w.heap.size w w1 := bstep (by (repeat' (first | (with_reducible exact Below.refl _ _) | (with_reducible assumption) | (with_reducible refine balloc ?_ _) | (with_reducible refine Below.drew ?_) | (with_reducible refine below_drewN ?_ _) | (with_reducible refine bset ?_ ?_ _) | (with_reducible refine bstep ?_ (by assumption)) | go_size))) hb1
  have HA2 := Lib.hid (HA1.setOther (a := ⟨w.heap.size, 3, none⟩) (by show w.heap.size + 1 ≠ w.heap.size; omega) (.slice (some ⟨g1, 0, none⟩) m c1))
  have HP2 := Lib.hid (netAt_set3 HP1 (.slice (some ⟨g1, 0, none⟩) m c1))
  have B2 : Hid (Below w.heap.size w (w1.setCell ⟨w.heap.size, 3, none⟩ (.slice (some ⟨g1, 0, none⟩) m c1))) := bset B1 (Nat.le_refl _) _
  have O2 : Hid (ArgRow (w1.setCell ⟨w.heap.size, 3, none⟩ (.slice (some ⟨g1, 0, none⟩) m c1)) (some ⟨g1, 0, none⟩) m c1 3 (wires L1)) := ArgRow.own (ownsRow_setCell_below o1 (a := ⟨w.heap.size, 3, none⟩) (by simp; omega) _)
  obtain ⟨t0, t1, t2, t3⟩ := netAt_cells HP1
  have f3 := HP1.frozen 3
  have hlP1 := HP1.lt
  clear HA0 HP0 hb1 HA1 HP1 B1 o1
  go_wp2_with fail
  refine (KC.out _ _ _ O2.out).mono ?_
  rintro e w2 ⟨a2, c2, rfl, o2, hb2⟩
  have HA3 := Lib.hid (HA2.out.of_block (hb2.block _ HA2.out.lt))
  have B3 : Hid (Below w.heap.size w w2) := bstep B2.out hb2
  have O3 := Lib.hid o2
  have hsz2 : w.heap.size + 1 + 1 ≤ (w1.setCell ⟨w.heap.size, 3, none⟩ (.slice (some ⟨g1, 0, none⟩) m c1)).heap.size := by have := HA2.out.lt; omega
  clear t0 t1 t2 t3 f3 hlP1 HA2 HP2 B2 O2 hb2 o2
  have hm0 := HA3.out.lt
  have hx0 : ¬ w.heap.size + 1 = w2.heap.size := by omega
  go_wp2_with fail
  refine (KN.out _ _ _ ((ArgRow.own O3.out).below (by (repeat' (first | (with_reducible exact Below.refl _ _) | (with_reducible assumption) | (with_reducible refine balloc ?_ _) | (with_reducible refine Below.drew ?_) | (with_reducible refine below_drewN ?_ _) | (with_reducible refine bset ?_ ?_ _) | (with_reducible refine bstep ?_ (by assumption)) | go_size))))).mono ?_
  rintro e w3 ⟨rfl, hb3⟩
  have HN4 := Lib.hid ((netAt_new w2 (.int .i64 N) (.int .i64 E) (.int .i64 D) (.slice a2 m c2) 25).of_block (hb3.block _ (by simp)))
  have HA4 := Lib.hid ((HA3.out.alloc _).of_block (hb3.block _ (HA3.out.alloc _).lt))
  have O4 := Lib.hid (own_below (O3.out.alloc _) hb3)
  have B4 : Hid (Below w.heap.size w w3) := bstep (balloc B3.out _) hb3
  obtain ⟨r0, r1, r2, r3⟩ := netAt_cells HA4.out
  have f0 := HA4.out.frozen 0
  have f1 := HA4.out.frozen 1
  have f2 := HA4.out.frozen 2
  have f3 := HA4.out.frozen 3
  have hlA := HA4.out.lt
  obtain ⟨q0, q1, q2, q3⟩ := netAt_cells HN4.out
  have hlN := HN4.out.lt
  clear hb3
  cases ok
  · go_wp2_with fail
    have rs0 : (w3.cell? { block := w.heap.size + 1, off := 0 }).isSome = true := by simp [go_sem, *]
    have rs1 : (w3.cell? { block := w.heap.size + 1, off := 1 }).isSome = true := by simp [go_sem, *]
    have rs2 : (w3.cell? { block := w.heap.size + 1, off := 2 }).isSome = true := by simp [go_sem, *]
    have rs3 : (w3.cell? { block := w.heap.size + 1, off := 3 }).isSome = true := by simp [go_sem, *]
    refine bodyPost_ret (v := (.tuple #[netV 0 0 0 none 0 0, .bool false])) (by simp [results, Try.results119, go_sem, rs0, rs1, rs2, rs3]; try rfl) rfl ?_
    exact ⟨by unfold NetRes; rw [if_neg (by simp)], by have := B4.out; (repeat' (first | (with_reducible exact Below.refl _ _) | (with_reducible assumption) | (with_reducible refine balloc ?_ _) | (with_reducible refine Below.drew ?_) | (with_reducible refine below_drewN ?_ _) | (with_reducible refine bset ?_ ?_ _) | (with_reducible refine bstep ?_ (by assumption)) | go_size))⟩
  · go_wp2_with fail
    have rs0 : (w3.cell? { block := w.heap.size + 1, off := 0 }).isSome = true := by simp [go_sem, *]
    have rs1 : (w3.cell? { block := w.heap.size + 1, off := 1 }).isSome = true := by simp [go_sem, *]
    have rs2 : (w3.cell? { block := w.heap.size + 1, off := 2 }).isSome = true := by simp [go_sem, *]
    have rs3 : (w3.cell? { block := w.heap.size + 1, off := 3 }).isSome = true := by simp [go_sem, *]
    refine bodyPost_ret (v := (.tuple #[netV N E D a2 m c2, .bool true])) (by simp [results, Try.results119, go_sem, rs0, rs1, rs2, rs3]; try rfl) rfl ?_
    refine ⟨?_, by have := B4.out; (repeat' (first | (with_reducible exact Below.refl _ _) | (with_reducible assumption) | (with_reducible refine balloc ?_ _) | (with_reducible refine Below.drew ?_) | (with_reducible refine below_drewN ?_ _) | (with_reducible refine bset ?_ ?_ _) | (with_reducible refine bstep ?_ (by assumption)) | go_size))⟩
    unfold NetRes
    rw [if_pos rfl, HM.out]
    refine ⟨a2, c2, rfl, ?_⟩
    refine World.ownsRow.mono (base := w.heap.size + 1 + 1) ?_ (by omega)
    have o9 := World.ownsRow.mono (base' := w.heap.size + 1 + 1) O4.out hsz2
    repeat' (first | with_reducible exact o9 | (with_reducible refine ownsRow_setCell_below ?_ ?_ _) | (dsimp only; omega) | omega)
end Go.Proofs.Ytjchindjoailbaa

/- Single operations that make a response's network in the reference, by what their operands hold. -/
namespace Go.Proofs.Ytjchindjoailbaa
set_option linter.unusedSimpArgs false
set_option linter.unusedVariables false
open Go.RowKit

section
variable {w : World} {o : Oper} {a : Act} {K : Act → World → Prop} {Q : Exit → Act → World → Prop}
theorem wp_move1s (x : Operand) (v : Value) (hop : o.op = .move x) (hx : a.eval x = v) (hK : K (a.put o.dst v) w) : Oper.wp Try.prog o a w K Q := by
  unfold Oper.wp
  simp [execOp, hop, hx]
  exact hK
set_option maxRecDepth 100000 in
set_option maxHeartbeats 4000000 in
theorem wp_field3 (x : Operand) (b : Nat) (hop : o.op = .fieldAddr 25 x 3) (hx : a.eval x = .pointer (some ⟨b, 0, none⟩)) (hK : K (a.put o.dst (.pointer (some ⟨b, 3, none⟩))) w) : Oper.wp Try.prog o a w K Q := by
  unfold Oper.wp
  simp only [execOp, hop, hx]
  go_simp
  exact hK
set_option maxRecDepth 100000 in
set_option maxHeartbeats 4000000 in
theorem wp_loadW (x : Operand) (b k : Nat) (v : Value) (hop : o.op = .load 23 x) (hx : a.eval x = .pointer (some ⟨b, k, none⟩)) (hc : w.cell? ⟨b, k, none⟩ = some v) (hK : K (a.put o.dst v) w) : Oper.wp Try.prog o a w K Q := by
  unfold Oper.wp
  simp only [execOp, hop, hx]
  go_simp
  exact hK
set_option maxRecDepth 100000 in
set_option maxHeartbeats 4000000 in
theorem wp_loadN (x : Operand) (b : Nat) (v0 v1 v2 v3 : Value) (hop : o.op = .load 25 x) (hx : a.eval x = .pointer (some ⟨b, 0, none⟩)) (h0 : w.cell? ⟨b, 0, none⟩ = some v0) (h1 : w.cell? ⟨b, 1, none⟩ = some v1) (h2 : w.cell? ⟨b, 2, none⟩ = some v2) (h3 : w.cell? ⟨b, 3, none⟩ = some v3)
    (hK : K (a.put o.dst (.agg #[v0, v1, v2, v3])) w) : Oper.wp Try.prog o a w K Q := by
  unfold Oper.wp
  simp only [execOp, hop, hx]
  go_simp
  exact hK
set_option maxRecDepth 100000 in
set_option maxHeartbeats 4000000 in
theorem wp_neg1 (x : Operand) (T : Int) (hop : o.op = .unOp .neg 3 x) (hx : a.eval x = .int .i64 T) (hT : IntKind.i64.wrap (-T) = -T) (hK : K (a.put o.dst (.int .i64 (-T))) w) : Oper.wp Try.prog o a w K Q := by
  unfold Oper.wp
  simp only [execOp, hop, hx]
  go_simp
  exact hK
set_option maxRecDepth 100000 in
set_option maxHeartbeats 4000000 in
theorem wp_buildW (x y z : Operand) (p q r : Int) (hop : o.op = .build 102 #[(0, x), (1, y), (2, z)]) (hx : a.eval x = .int .i64 p) (hy : a.eval y = .int .i64 q) (hz : a.eval z = .int .i64 r)
    (hK : K (a.put o.dst (.agg #[.int .i64 p, .int .i64 q, .int .i64 r])) w) : Oper.wp Try.prog o a w K Q := by
  unfold Oper.wp
  simp only [execOp, hop, hx, hy, hz, List.map_toArray, List.map_cons, List.map_nil]
  go_simp
  exact hK
set_option maxRecDepth 100000 in
set_option maxHeartbeats 4000000 in
theorem wp_buildSW (x : Operand) (p q r : Int) (hop : o.op = .buildSlice 23 1 #[(0, x)]) (hx : a.eval x = .agg #[.int .i64 p, .int .i64 q, .int .i64 r])
    (hK : K (a.put o.dst (.slice (some ⟨w.heap.size, 0, none⟩) 1 1)) (w.alloc (.cells #[.int .i64 p, .int .i64 q, .int .i64 r] 102))) : Oper.wp Try.prog o a w K Q := by
  unfold Oper.wp
  simp only [execOp, hop, hx, List.map_toArray, List.map_cons, List.map_nil]
  go_simp
  exact hK
set_option maxRecDepth 100000 in
set_option maxHeartbeats 4000000 in
theorem wp_callTop (x0 x1 x2 : Operand) (ats : Array TypeId) (u0 u1 u2 : Value) (hop : o.op = .call { callee := .value (.func 118), args := #[x0, x1, x2], argTypes := ats }) (h0 : a.eval x0 = u0) (h1 : a.eval x1 = u1) (h2 : a.eval x2 = u2) {R : Ending → World → Prop}
    (hc : Calls Try.prog 118 #[u0, u1, u2] w R) (v : Value) (hK : ∀ e w', R e w' → e = .returned v ∧ K (a.put o.dst v) w') : Oper.wp Try.prog o a w K Q := by
  unfold Oper.wp
  simp only [execOp, hop, resolve, List.map_toArray, List.map_cons, List.map_nil, h0, h1, h2]
  clear h0 h1 h2 hop
  go_simp
  refine hc.mono ?_
  intro e w' h
  obtain ⟨rfl, h2⟩ := hK e w' h
  exact h2
end
/-- a row's wires, those of weight 0 among them -/
def fullRow (f : Int → Int → Int) (i j : Nat) : List Wz := ((List.range j).filter fun q => decide (i < q)).map fun (q : Nat) => ((i : Int), (q : Int), f i q)
def fullL (f : Int → Int → Int) (N : Nat) : Nat → List Wz
  | 0 => []
  | k + 1 => fullL f N k ++ fullRow f k N
theorem fullRow_first (f : Int → Int → Int) (i : Nat) : fullRow f i (i + 1) = [] := by
  unfold fullRow
  rw [List.filter_eq_nil_iff.2]
  · rfl
  · intro q hq
    rw [List.mem_range] at hq
    simp; omega
theorem fullRow_succ (f : Int → Int → Int) {i j : Nat} (h : i < j) : fullRow f i (j + 1) = fullRow f i j ++ [((i : Int), (j : Int), f i j)] := by
  unfold fullRow
  rw [List.range_succ, List.filter_append, List.map_append]
  simp [h]
theorem drop_row (f : Int → Int → Int) (i N : Nat) : dropL (fullRow f i N) = rowL f N i := by
  unfold dropL fullRow rowL
  rw [List.filter_map, List.filter_filter]
  congr 1
  apply List.filter_congr
  intro q _
  simp [Function.comp, Bool.and_comm]
theorem drop_full (f : Int → Int → Int) (N : Nat) : ∀ k, dropL (fullL f N k) = tabL f N k
  | 0 => rfl
  | k + 1 => by
    rw [fullL, tabL, ← drop_full f N k, ← drop_row]
    unfold dropL
    rw [List.filter_append]
theorem full_bd {f : Int → Int → Int} {B : Int} (hf : ∀ i j, -B ≤ f i j ∧ f i j ≤ B) (N : Nat) : ∀ k, ∀ x ∈ fullL f N k, -B ≤ x.2.2 ∧ x.2.2 ≤ B
  | 0, x, h => by simp [fullL] at h
  | k + 1, x, h => by
    rw [fullL, List.mem_append] at h
    rcases h with h | h
    · exact full_bd hf N k x h
    · unfold fullRow at h
      obtain ⟨q, _, rfl⟩ := List.mem_map.1 h
      exact hf _ _
end Go.Proofs.Ytjchindjoailbaa

/- ResponseNet of the reference: the walk. -/
namespace Go.Proofs.Ytjchindjoailbaa
set_option linter.unusedSimpArgs false
set_option linter.unusedVariables false
open Go.RowKit

theorem fullRow_len (f : Int → Int → Int) (i j : Nat) : (fullRow f i j).length ≤ j := by
  unfold fullRow
  rw [List.length_map]
  exact Nat.le_trans (List.length_filter_le _ _) (by simp)
set_option maxRecDepth 100000 in
set_option maxHeartbeats 16000000 in
theorem specResponseNet (M F : Nat) (S : Int) (a : Option Addr) (n c : Nat) (l : List Wz) (hF0 : 1 ≤ F) (hF : F ≤ M) (hok : NetOk M F S l) (ok : Bool) (hk : ok = true ↔ RnOk M F S l) (w : World) (hr : ArgRow w a n c 3 (wires l)) (hl : l.length = n) :
    Calls Try.prog 65 #[netV M F S a n c] w fun e w' => NetRes e w w' ok F F (Int.tdiv (rnS M F S l) (rnG M F S l)) (divL (rnG M F S l) (rnL M F l)) ∧ Below w.heap.size w w' := by
  obtain ⟨i0, hi, hz0, hz1, hz2⟩ := info_parts infoWire
  have HI := Lib.hid (And.intro hi (And.intro hz0 (And.intro hz1 hz2)))
  clear hi hz0 hz1 hz2
  have HR := Lib.hid hr
  have hM5 : M ≤ 5 := by have := hok.h.n5; omega
  have KN := Lib.hid (fun (w : World) rr => specNetOk M F S a n c l true ⟨fun _ => hok, fun _ => rfl⟩ w rr hl)
  have KD := Lib.hid (fun (w : World) r => specDown M F S a n c l hF hok w r hl)
  have KT := Lib.hid (fun (i j : Nat) (hi : i < F) (hj : j < F) (w : World) r => specTop M F S a n c l i j ⟨by omega, by omega⟩ ⟨by omega, by omega⟩ hF0 hF hok w r hl)
  have hd := hok.sdown hF0 hF
  have HT := Lib.hid (fun (i j : Int) => hok.top_bd hF0 hF i j)
  obtain ⟨s, hs⟩ : ∃ s : Nat, S * downW M F l = s := ⟨(S * downW M F l).toNat, by omega⟩
  have hrs : rnS M F S l = s := by unfold rnS; rw [hs]; rfl
  have hd2 := hd
  rw [hs] at hd2
  have KO := Lib.hid (fun (a' : Option Addr) (m c' : Nat) (hm : m ≤ 1000) (hlm : (fullL (rnF M F l) F F).length = m) (w : World) rr => specReduced F F s a' m c' (fullL (rnF M F l) F F) (by omega) (by omega) (full_bd (B := 1000000000000000000) (fun i j => by have := HT.out i j; unfold rnF; omega) F F) hm ok (by
    have h9 := hk; unfold RnOk rnG rnL at h9; rw [hrs] at h9
    rw [drop_full]; exact h9) w rr hlm)
  simp only [drop_full] at KO
  unfold rnG rnL
  rw [hrs]
  have HRF : Hid (∀ i j, rnF M F l i j = -(topW M F l i j)) := fun i j => rfl
  generalize rnF M F l = f at KO HRF ⊢
  generalize (Int.tdiv (s : Int) (gL s (tabL f F F))) = D at KO ⊢
  generalize divL (gL s (tabL f F F)) (tabL f F F) = L2 at KO ⊢
  have hm1 : IntKind.i64.wrap (S * downW M F l) = s := by rw [hs]; exact IntWalk.i64_in _ (by omega)
  have hm2 : wrap64 (S * downW M F l) = s := by rw [hs]; unfold wrap64; omega
  generalize downW M F l = dW at KD hm1 hm2
  clear hr hok hk hs hrs hd
  have HA0 : Hid (((w.alloc (.cells #[.int .i64 M, .int .i64 F, .int .i64 S, .slice a n c] 25)).alloc (.cells #[.int .i64 0, .int .i64 0, .int .i64 0, .slice none 0 0] 25)).rowIs (w.heap.size + 1) 25 4 (netAt (.int .i64 0) (.int .i64 0) (.int .i64 0) (.slice none 0 0))) := by
    have := netAt_new (w.alloc (.cells #[.int .i64 M, .int .i64 F, .int .i64 S, .slice a n c] 25)) (.int .i64 0) (.int .i64 0) (.int .i64 0) (.slice none 0 0) 25
    simpa [Hid] using this
  have HP0 : Hid (((w.alloc (.cells #[.int .i64 M, .int .i64 F, .int .i64 S, .slice a n c] 25)).alloc (.cells #[.int .i64 0, .int .i64 0, .int .i64 0, .slice none 0 0] 25)).rowIs w.heap.size 25 4 (netAt (.int .i64 M) (.int .i64 F) (.int .i64 S) (.slice a n c))) := (netAt_new _ _ _ _ _ _).alloc _
  go_enter Try.func65, Try.ntmps65
  go_wp2_with fail
  refine (KN.out _ (HR.out.below (by (repeat' (first | (with_reducible exact Below.refl _ _) | (with_reducible assumption) | (with_reducible refine balloc ?_ _) | (with_reducible refine Below.drew ?_) | (with_reducible refine below_drewN ?_ _) | (with_reducible refine bset ?_ ?_ _) | (with_reducible refine bstep ?_ (by assumption)) | go_size))))).mono ?_
  rintro e w1 ⟨rfl, hb1⟩
  have HA1 := Lib.hid (HA0.out.of_block (hb1.block _ HA0.out.lt))
  have HP1 := Lib.hid (HP0.out.of_block (hb1.block _ HP0.out.lt))
  have B1 : Hid (Below w.heap.size w w1) := bstep (by (repeat' (first | (with_reducible exact Below.refl _ _) | (with_reducible assumption) | (with_reducible refine balloc ?_ _) | (with_reducible refine Below.drew ?_) | (with_reducible refine below_drewN ?_ _) | (with_reducible refine bset ?_ ?_ _) | (with_reducible refine bstep ?_ (by assumption)) | go_size))) hb1
  have R1 := Lib.hid (HR.out.below B1.out)
  clear HA0 HP0 hb1
  obtain ⟨t0, t1, t2, t3⟩ := netAt_cells HP1.out
  have hlP1 := HP1.out.lt
  have ne0 := World.new_ne w1 _ t0
  go_upto_region 3 with fail
  go_cut [4] (fun s4 wx => ∃ bo, s4 = .pointer (some ⟨bo, 0, none⟩) ∧ w1.heap.size ≤ bo ∧ Hid (wx.rowIs bo 25 4 (netAt (.int .i64 F) (.int .i64 F) (.int .i64 s) (.slice none 0 0))) ∧ Hid (Below w1.heap.size w1 wx))
  case first =>
    go_region_held3 (fun w' => w'.cell? ⟨w.heap.size, 0, none⟩ = some (.int .i64 M) ∧ w'.cell? ⟨w.heap.size, 1, none⟩ = some (.int .i64 F) ∧ w'.cell? ⟨w.heap.size, 2, none⟩ = some (.int .i64 S) ∧ w'.cell? ⟨w.heap.size, 3, none⟩ = some (.slice a n c)) (go_keep)
      ((go_at_call 117; ((with_reducible refine (KD.out _ (R1.out.below (by (repeat' (first | (with_reducible exact Below.refl _ _) | (with_reducible assumption) | (with_reducible refine balloc ?_ _) | (with_reducible refine Below.drew ?_) | (with_reducible refine below_drewN ?_ _) | (with_reducible refine bset ?_ ?_ _) | (with_reducible refine bstep ?_ (by assumption)) | go_size))))).mono ?_); rintro e wX ⟨rfl, hbX⟩); (try (replace hbX := bdrew hbX)); (try (have hq_ := bltn hbX (b := w.heap.size) (by (first | omega | (simp only [World.size_alloc, World.size_setCell, World.size_drew, World.heap_drewN]; omega))); obtain ⟨uu, vv, zz, nn, mm⟩ := hq_)); (try (have hq_ := bltn hbX (b := w1.heap.size) (by (first | omega | (simp only [World.size_alloc, World.size_setCell, World.size_drew, World.heap_drewN]; omega))); obtain ⟨uu, vv, zz, nn, mm⟩ := hq_))))
    all_goals
      go_wp2_with fail
      go_meet
      first
      | exact ⟨_, rfl, hbX.size, netAt_new _ _ _ _ _ _, balloc hbX _⟩
      | (have h0 := (netAt_new w1 (.int .i64 0) (.int .i64 0) (.int .i64 0) (.slice none 0 0) 25).of_block (hbX.block _ (by simp))
         have h1 := (((h0.set 0 (.int .i64 F)).set 1 (.int .i64 F)).set 2 (.int .i64 s)).set 3 (.slice none 0 0)
         refine ⟨_, rfl, Nat.le_refl _, h1.congr (fun i hi => ?_), bset (bset (bset (bset (by (repeat' (first | (with_reducible exact Below.refl _ _) | (with_reducible assumption) | (with_reducible refine balloc ?_ _) | (with_reducible refine Below.drew ?_) | (with_reducible refine below_drewN ?_ _) | (with_reducible refine bset ?_ ?_ _) | (with_reducible refine bstep ?_ (by assumption)) | go_size))) ?_ _) ?_ _) ?_ _) ?_ _⟩
         · have : i = 0 ∨ i = 1 ∨ i = 2 ∨ i = 3 := by omega
           rcases this with rfl | rfl | rfl | rfl <;> rfl
         all_goals (show _ ≤ w1.heap.size; omega))
  case rest =>
  obtain ⟨bo, rfl, hbo, HO0, HC⟩ := hcut
  obtain ⟨wb, rfl⟩ : ∃ wb : World, wb = wc := ⟨_, rfl⟩
  have HPb := Lib.hid (HP1.out.of_block (HC.out.block _ HP1.out.lt))
  have hP0 := HP1.out.lt
  have hbb := HO0.out.lt
  clear t0 t1 t2 t3 hlP1 ne0 hm1 hm2
  obtain ⟨t0, t1, t2, t3⟩ := netAt_cells HPb.out
  have hlPb := HPb.out.lt
  go_wp2_with fail
  clear t0 t1 t2 t3
  go_loopw [5] (fun u wr => ∃ (i m : Nat) (cur : Value), i ≤ F ∧ u = .int .i64 i ∧ m ≤ 6 * i ∧ Hid ((fullL f F i).length = m) ∧ Hid (wr.rowIs bo 25 4 (netAt (.int .i64 F) (.int .i64 F) (.int .i64 s) cur)) ∧ Hid (wr.ownsRow wb.heap.size 102 3 cur m (wires (fullL f F i))) ∧ wb.heap.size ≤ wr.heap.size ∧ Hid (Below w1.heap.size w1 wr)) (fun u _ => F - (intOf u).toNat)
  case atStart => exact ⟨0, 0, .slice none 0 0, by omega, rfl, by omega, rfl, HO0.out, World.ownsRow_nil _ _ _ _, Nat.le_refl _, HC.out⟩
  case round =>
    clear HO0 HC HPb hlPb
    obtain ⟨i, m, cur, hi, rfl, hm, hml, HN, HW, hsz, HB⟩ := hrel
    have HPr := Lib.hid (HP1.out.of_block (HB.out.block _ HP1.out.lt))
    obtain ⟨t0, t1, t2, t3⟩ := netAt_cells HPr.out
    have hlPr := HPr.out.lt
    by_cases hlt : i < F
    · have e1 : IntKind.i64.wrap ((i : Int) + 1) = ((i + 1 : Nat) : Int) := by rw [IntWalk.i64_in _ (by omega)]; omega
      have e2 : wrap64 ((i : Int) + 1) = ((i + 1 : Nat) : Int) := by unfold wrap64; omega
      go_wp2_with fail
      clear t0 t1 t2 t3 hlPr HPr e1 e2
      go_loopw [6] (fun u wr => ∃ (j m : Nat) (cur : Value), i < j ∧ j ≤ F ∧ u = .int .i64 j ∧ m ≤ 6 * i + j ∧ Hid ((fullL f F i ++ fullRow f i j).length = m) ∧ Hid (wr.rowIs bo 25 4 (netAt (.int .i64 F) (.int .i64 F) (.int .i64 s) cur)) ∧ Hid (wr.ownsRow wb.heap.size 102 3 cur m (wires (fullL f F i ++ fullRow f i j))) ∧ wb.heap.size ≤ wr.heap.size ∧ Hid (Below w1.heap.size w1 wr)) (fun u _ => F - (intOf u).toNat)
      case atStart =>
        refine ⟨i + 1, m, cur, ?_, ?_, ?_, ?_, ?_, HN.out, ?_, hsz, HB.out⟩
        · omega
        · omega
        · exact congrArg (Value.int .i64) (by omega)
        · omega
        · show _ = _
          rw [fullRow_first, List.append_nil]; exact hml.out
        · show World.ownsRow _ _ _ _ _ _ _
          rw [fullRow_first, List.append_nil]; exact HW.out
      case round =>
        clear HN HW hsz HB hm hml
        obtain ⟨j, m, cur, hij, hj, rfl, hm, hml, HN, HW, hsz, HB⟩ := hrel
        have HPr := Lib.hid (HP1.out.of_block (HB.out.block _ HP1.out.lt))
        obtain ⟨t0, t1, t2, t3⟩ := netAt_cells HPr.out
        have hlPr := HPr.out.lt
        by_cases hlj : j < F
        · have e3 : IntKind.i64.wrap ((j : Int) + 1) = (j : Int) + 1 := IntWalk.i64_in _ (by omega)
          have hTb := HT.out i j
          have HFT := HRF.out i j
          have KTI := Lib.hid (fun w rr => KT.out i j hlt hlj w rr)
          generalize topW M F l i j = T at hTb HFT KTI
          have hng : IntKind.i64.wrap (-T) = -T := IntWalk.i64_in _ (by omega)
          have HFR := Lib.hid (fullRow_succ f hij)
          rw [HFT] at HFR
          clear HFT
          obtain ⟨n0, n1, n2, n3⟩ := netAt_cells HN.out
          have hno := HN.out.lt
          go_wp2_with fail
          refine region_facts (C := fun L w' => if L 11 = true then wr.grownBy w' cur.ownBlock else Below wr.heap.size wr w') (Rel := fun q w1 w2 => if q = 11 then w1.grownBy w2 cur.ownBlock else Below w1.heap.size w1 w2)
            (F := fun L q v w' => match q with
              | 0 => v = .pointer (some ⟨bo, 3, none⟩)
              | 1 => v = cur
              | 2 => v = .int .i64 i
              | 3 => v = .int .i64 j
              | 4 => v = .agg #[.int .i64 M, .int .i64 F, .int .i64 S, .slice a n c]
              | 5 => v = .int .i64 i
              | 6 => v = .int .i64 j
              | 7 => v = .int .i64 T
              | 8 => v = .int .i64 (-T)
              | 9 => v = .agg #[.int .i64 i, .int .i64 j, .int .i64 (-T)]
              | 10 => L 11 = true ∨ ∃ g, v = .slice (some ⟨g, 0, none⟩) 1 1 ∧ ∀ p u, (wireV ((i : Int), (j : Int), -T))[p]? = some u → w'.cell? ((⟨g, 0, none⟩ : Addr).add p) = some u
              | 11 => w'.ownsRow wb.heap.size 102 3 v (m + 1) (wires (fullL f F i ++ fullRow f i (j + 1)))
              | _ => v = .pointer (some ⟨bo, 3, none⟩)) 13 [35, 36, 37, 38, 39, 40, 41, 42, 43, 44, 45, 46, 47] (by kernel_rfl) (by kernel_rfl) (by rfl) (by decide) (by simp) ?hC ?hF ?hstep ?htail
          case hC => exact (Below.refl _ _).drew
          case hF =>
            intro L p q v w1 w2 hp hq hne hLq hLp hf hC hR
            have hq' : q = 0 ∨ q = 1 ∨ q = 2 ∨ q = 3 ∨ q = 4 ∨ q = 5 ∨ q = 6 ∨ q = 7 ∨ q = 8 ∨ q = 9 ∨ q = 10 ∨ q = 11 ∨ q = 12 := by omega
            by_cases hp17 : p = 11
            · subst hp17
              rcases hq' with rfl | rfl | rfl | rfl | rfl | rfl | rfl | rfl | rfl | rfl | rfl | rfl | rfl
              all_goals (first | exact hf | exact .inl rfl | exact absurd rfl hne)
            · have hR' : Below w1.heap.size w1 w2 := by simpa [hp17] using hR
              have e17 : (if 11 = p then true else L 11) = L 11 := if_neg (Ne.symm hp17)
              rcases hq' with rfl | rfl | rfl | rfl | rfl | rfl | rfl | rfl | rfl | rfl | rfl | rfl | rfl
              · exact hf
              · exact hf
              · exact hf
              · exact hf
              · exact hf
              · exact hf
              · exact hf
              · exact hf
              · exact hf
              · exact hf
              · rcases hf with h | ⟨g, e, h⟩
                · exact .inl (e17.trans h)
                · exact .inr ⟨g, e, fun p u hu => cell_up hR' (h p u hu)⟩
              · have hf' : w1.ownsRow wb.heap.size 102 3 v (m + 1) (wires (fullL f F i ++ fullRow f i (j + 1))) := hf
                obtain ⟨g, c, rfl⟩ := own_slice hf'
                exact own_below hf' hR'
              · exact hf
          case hstep =>
            intro q o hq ho L a' w2 vs hC hL K hK
            have hq' : q = 0 ∨ q = 1 ∨ q = 2 ∨ q = 3 ∨ q = 4 ∨ q = 5 ∨ q = 6 ∨ q = 7 ∨ q = 8 ∨ q = 9 ∨ q = 10 ∨ q = 11 ∨ q = 12 := by omega
            rcases hq' with rfl | rfl | rfl | rfl | rfl | rfl | rfl | rfl | rfl | rfl | rfl | rfl | rfl
            · cases ho
              exact wp_field3 (.tmp 4) bo rfl (hL.old 4 (by decide)) (hK _ _ (by simpa using hC) (Below.refl _ _) rfl)
            · cases ho
              have h17 : L 11 = false := by
                cases e : L 11 with
                | false => rfl
                | true =>
                  exfalso
                  have c11 := e
                  have c1 := hL.cl 11 1 c11 (by kernel_rfl)
                  rw [hL.un] at c1
                  cases c1
              have hC1 : Below wr.heap.size wr w2 := by rw [if_neg (by rw [h17]; simp)] at hC; exact hC
              have v0 : a'.eval (.tmp 35) = .pointer (some ⟨bo, 3, none⟩) := (hL.new 0 (by decide) (by kernel_rfl)).1.trans (hL.new 0 (by decide) (by kernel_rfl)).2
              exact wp_loadW (.tmp 35) bo 3 cur rfl v0 (cell_up hC1 n3) (hK _ _ (by simpa using hC) (Below.refl _ _) rfl)
            · cases ho
              exact wp_move1s (.tmp 5) (.int .i64 i) rfl (hL.old 5 (by decide)) (hK _ _ (by simpa using hC) (Below.refl _ _) rfl)
            · cases ho
              exact wp_move1s (.tmp 6) (.int .i64 j) rfl (hL.old 6 (by decide)) (hK _ _ (by simpa using hC) (Below.refl _ _) rfl)
            · cases ho
              have h17 : L 11 = false := by
                cases e : L 11 with
                | false => rfl
                | true =>
                  exfalso
                  have c11 := e
                  have c10 := hL.cl 11 10 c11 (by kernel_rfl)
                  have c9 := hL.cl 10 9 c10 (by kernel_rfl)
                  have c8 := hL.cl 9 8 c9 (by kernel_rfl)
                  have c7 := hL.cl 8 7 c8 (by kernel_rfl)
                  have c4 := hL.cl 7 4 c7 (by kernel_rfl)
                  rw [hL.un] at c4
                  cases c4
              have hC1 : Below wr.heap.size wr w2 := by rw [if_neg (by rw [h17]; simp)] at hC; exact hC
              exact wp_loadN (.tmp 1) w.heap.size _ _ _ _ rfl (hL.old 1 (by decide)) (cell_up hC1 t0) (cell_up hC1 t1) (cell_up hC1 t2) (cell_up hC1 t3) (hK _ _ (by simpa using hC) (Below.refl _ _) rfl)
            · cases ho
              exact wp_move1s (.tmp 5) (.int .i64 i) rfl (hL.old 5 (by decide)) (hK _ _ (by simpa using hC) (Below.refl _ _) rfl)
            · cases ho
              exact wp_move1s (.tmp 6) (.int .i64 j) rfl (hL.old 6 (by decide)) (hK _ _ (by simpa using hC) (Below.refl _ _) rfl)
            · cases ho
              have h17 : L 11 = false := by
                cases e : L 11 with
                | false => rfl
                | true =>
                  exfalso
                  have c11 := e
                  have c10 := hL.cl 11 10 c11 (by kernel_rfl)
                  have c9 := hL.cl 10 9 c10 (by kernel_rfl)
                  have c8 := hL.cl 9 8 c9 (by kernel_rfl)
                  have c7 := hL.cl 8 7 c8 (by kernel_rfl)
                  rw [hL.un] at c7
                  cases c7
              have hC1 : Below wr.heap.size wr w2 := by rw [if_neg (by rw [h17]; simp)] at hC; exact hC
              have v4 : a'.eval (.tmp 39) = .agg #[.int .i64 M, .int .i64 F, .int .i64 S, .slice a n c] := (hL.new 4 (by decide) (by kernel_rfl)).1.trans (hL.new 4 (by decide) (by kernel_rfl)).2
              have v5 : a'.eval (.tmp 40) = .int .i64 i := (hL.new 5 (by decide) (by kernel_rfl)).1.trans (hL.new 5 (by decide) (by kernel_rfl)).2
              have v6 : a'.eval (.tmp 41) = .int .i64 j := (hL.new 6 (by decide) (by kernel_rfl)).1.trans (hL.new 6 (by decide) (by kernel_rfl)).2
              refine wp_callTop (.tmp 39) (.tmp 40) (.tmp 41) _ _ _ _ rfl v4 v5 v6 (KTI.out _ (R1.out.below (HB.out.trans (hC1.mono HB.out.size)))) (.int .i64 T) ?_
              rintro e w9 ⟨rfl, hb9⟩
              exact ⟨rfl, hK _ _ (by simpa [h17] using (show Below wr.heap.size wr _ from bstep hC1 hb9)) hb9 rfl⟩
            · cases ho
              have v7 : a'.eval (.tmp 42) = .int .i64 T := (hL.new 7 (by decide) (by kernel_rfl)).1.trans (hL.new 7 (by decide) (by kernel_rfl)).2
              exact wp_neg1 (.tmp 42) T rfl v7 hng (hK _ _ (by simpa using hC) (Below.refl _ _) rfl)
            · cases ho
              have v2 : a'.eval (.tmp 37) = .int .i64 i := (hL.new 2 (by decide) (by kernel_rfl)).1.trans (hL.new 2 (by decide) (by kernel_rfl)).2
              have v3 : a'.eval (.tmp 38) = .int .i64 j := (hL.new 3 (by decide) (by kernel_rfl)).1.trans (hL.new 3 (by decide) (by kernel_rfl)).2
              have v8 : a'.eval (.tmp 43) = .int .i64 (-T) := (hL.new 8 (by decide) (by kernel_rfl)).1.trans (hL.new 8 (by decide) (by kernel_rfl)).2
              exact wp_buildW (.tmp 37) (.tmp 38) (.tmp 43) i j (-T) rfl v2 v3 v8 (hK _ _ (by simpa using hC) (Below.refl _ _) rfl)
            · cases ho
              have h17 : L 11 = false := by
                cases e : L 11 with
                | false => rfl
                | true =>
                  exfalso
                  have c11 := e
                  have c10 := hL.cl 11 10 c11 (by kernel_rfl)
                  rw [hL.un] at c10
                  cases c10
              have hC1 : Below wr.heap.size wr w2 := by rw [if_neg (by rw [h17]; simp)] at hC; exact hC
              have v9 : a'.eval (.tmp 44) = .agg #[.int .i64 i, .int .i64 j, .int .i64 (-T)] := (hL.new 9 (by decide) (by kernel_rfl)).1.trans (hL.new 9 (by decide) (by kernel_rfl)).2
              have hb1 : Below w2.heap.size w2 (w2.alloc (.cells #[.int .i64 i, .int .i64 j, .int .i64 (-T)] 102)) := balloc (Below.refl _ _) _
              exact wp_buildSW (.tmp 44) i j (-T) rfl v9 (hK _ _ (by simpa [h17] using (show Below wr.heap.size wr _ from bstep hC1 hb1)) hb1 (.inr ⟨_, rfl, cell_wire_new w2 ((i : Int), (j : Int), -T) 102⟩))
            · cases ho
              have h17 : L 11 = false := hL.un
              have hC1 : Below wr.heap.size wr w2 := by rw [if_neg (by rw [h17]; simp)] at hC; exact hC
              have v1 : a'.eval (.tmp 36) = cur := (hL.new 1 (by decide) (by kernel_rfl)).1.trans (hL.new 1 (by decide) (by kernel_rfl)).2
              obtain ⟨z1, z2⟩ := hL.new 10 (by decide) (by kernel_rfl)
              rcases z2 with z2 | ⟨g8, z2, z3⟩
              · rw [h17] at z2; cases z2
              obtain ⟨ac, cc, rfl⟩ := own_slice HW.out
              have hown := own_below HW.out hC1
              refine wp_append_own _ (.tmp 36) (.tmp 45) 23 rfl wb.heap.size 102 i0 (.agg #[.int .i64 0, .int .i64 0, .int .i64 0]) 3 24 Try.underlying23 HI.out.1 HI.out.2.1 HI.out.2.2.1 HI.out.2.2.2 rfl (by decide) _ m _ v1 hown ⟨g8, 0, none⟩ 1 1 (wireV ((i : Int), (j : Int), -T)) (z1.trans z2) rfl z3 (wireV_one _) (by unfold maxLen; omega) (by omega) (by have := hC1.size; omega) (fun v9 w9 h9 hg9 _ => hK _ _ ?_ (by exact hg9) ?_)
              · exact grown_trans (grown_below hC1) hg9
              · show World.ownsRow _ _ _ _ _ _ _
                rw [HFR.out, ← List.append_assoc, ← wires_snoc]; exact h9
            · cases ho
              exact wp_field3 (.tmp 4) bo rfl (hL.old 4 (by decide)) (hK _ _ (by simpa using hC) (Below.refl _ _) rfl)
          case htail =>
            intro L w2 vs hL hC hF
            have o17 : w2.ownsRow wb.heap.size 102 3 (vs 11) (m + 1) (wires (fullL f F i ++ fullRow f i (j + 1))) := hF 11 (by decide)
            have e18 : vs 12 = .pointer (some ⟨bo, 3, none⟩) := hF 12 (by decide)
            have hg : wr.grownBy w2 cur.ownBlock := by rw [if_pos (hL 11 (by decide))] at hC; exact hC
            have hlow : ∀ b, cur.ownBlock = some b → wb.heap.size ≤ b := fun b hb => (HW.out.lt b hb).1
            simp only [putAll, Act.put, List.setIfInBounds_toArray, List.set_cons_zero, List.set_cons_succ]
            rw [e18]
            generalize vs 11 = v17 at o17 ⊢
            obtain ⟨g3, c3, rfl⟩ := own_some o17 (by omega)
            have hg3 := own_base o17 _ rfl
            simp only at hg3
            have HN6 := HN.out.of_block (hg.block bo hno (fun e => by have := hlow bo e.symm; omega))
            have hc6 := (netAt_cells HN6).2.2.2
            have hf6 := HN6.frozen 3
            have HN7 := Lib.hid (netAt_set3 HN6 (.slice (some ⟨g3, 0, none⟩) (m + 1) c3))
            have HO7 := Lib.hid (o17.kept (grown_set' _ ⟨bo, 3, none⟩ (.slice (some ⟨g3, 0, none⟩) (m + 1) c3)) (.inr (by simp [Value.ownBlock]; omega)))
            have hsz7 : wb.heap.size ≤ w2.heap.size := by omega
            have HB7 : Hid (Below w1.heap.size w1 (w2.setCell ⟨bo, 3, none⟩ (.slice (some ⟨g3, 0, none⟩) (m + 1) c3))) := bset (HB.out.grown hg (by have := HB.out.size; omega) (fun b hb => by have := hlow b hb; omega)) hbo _
            have hml7 : Hid ((fullL f F i ++ fullRow f i (j + 1)).length = m + 1) := by show _ = _; rw [HFR.out, ← List.append_assoc, List.length_append, hml.out]; rfl
            clear HN6 o17 hg hlow hC hF t0 t1 t2 t3 n0 n1 n2 n3
            go_wp2_with fail
            go_roundw
            case rel => exact ⟨j + 1, m + 1, _, by omega, by omega, by go_num, by omega, hml7, HN7.out, HO7.out, by simpa using hsz7, HB7.out⟩
            case measure => simp [intOf]; omega
        · skip
          obtain rfl : j = F := by omega
          go_wp2_with fail
          go_roundw
          case rel => exact ⟨i + 1, m, cur, by omega, by go_num, by omega, hml, HN.out, HW.out, hsz, HB.out⟩
          case measure => simp [intOf]; omega
    · skip
      obtain rfl : i = F := by omega
      obtain ⟨ac, cc, rfl⟩ := own_slice HW.out
      obtain ⟨n0, n1, n2, n3⟩ := netAt_cells HN.out
      have hno := HN.out.lt
      have HA2 := Lib.hid (HA1.out.of_block (HB.out.block _ HA1.out.lt))
      have B2 : Hid (Below w.heap.size w wr) := B1.out.trans (HB.out.mono B1.out.size)
      have hw1 := HA1.out.lt
      have hwsz := HB.out.size
      go_wp2_with fail
      refine (KO.out _ _ _ (by omega) hml.out _ (ArgRow.own HW.out)).mono ?_
      rintro e wO ⟨hres, hbO⟩
      have HA3 := Lib.hid (HA2.out.of_block (hbO.block _ HA2.out.lt))
      have BO : Hid (Below w.heap.size w wO) := bstep B2.out hbO
      obtain ⟨r0, r1, r2, r3⟩ := netAt_cells HA3.out
      have f0 := HA3.out.frozen 0
      have f1 := HA3.out.frozen 1
      have f2 := HA3.out.frozen 2
      have f3 := HA3.out.frozen 3
      have hlA := HA3.out.lt
      unfold NetRes at hres
      cases ok
      · rw [if_neg (by simp)] at hres
        subst hres
        go_wp2_with fail
        have rs0 : (wO.cell? { block := w.heap.size + 1, off := 0 }).isSome = true := by simp [go_sem, *]
        have rs1 : (wO.cell? { block := w.heap.size + 1, off := 1 }).isSome = true := by simp [go_sem, *]
        have rs2 : (wO.cell? { block := w.heap.size + 1, off := 2 }).isSome = true := by simp [go_sem, *]
        have rs3 : (wO.cell? { block := w.heap.size + 1, off := 3 }).isSome = true := by simp [go_sem, *]
        refine bodyPost_ret (v := (.tuple #[netV 0 0 0 none 0 0, .bool false])) (by simp [results, Try.results65, go_sem, rs0, rs1, rs2, rs3]; try rfl) rfl ?_
        exact ⟨by unfold NetRes; rw [if_neg (by simp)], by have := BO.out; (repeat' (first | (with_reducible exact Below.refl _ _) | (with_reducible assumption) | (with_reducible refine balloc ?_ _) | (with_reducible refine Below.drew ?_) | (with_reducible refine below_drewN ?_ _) | (with_reducible refine bset ?_ ?_ _) | (with_reducible refine bstep ?_ (by assumption)) | go_size))⟩
      · rw [if_pos rfl] at hres
        obtain ⟨aO, cO, rfl, oO⟩ := hres
        have OO := Lib.hid oO
        clear oO
        go_wp2_with fail
        have rs0 : (wO.cell? { block := w.heap.size + 1, off := 0 }).isSome = true := by simp [go_sem, *]
        have rs1 : (wO.cell? { block := w.heap.size + 1, off := 1 }).isSome = true := by simp [go_sem, *]
        have rs2 : (wO.cell? { block := w.heap.size + 1, off := 2 }).isSome = true := by simp [go_sem, *]
        have rs3 : (wO.cell? { block := w.heap.size + 1, off := 3 }).isSome = true := by simp [go_sem, *]
        refine bodyPost_ret (v := (.tuple #[netV i i D aO L2.length cO, .bool true])) (by simp [results, Try.results65, go_sem, rs0, rs1, rs2, rs3]; try rfl) rfl ?_
        refine ⟨?_, by have := BO.out; (repeat' (first | (with_reducible exact Below.refl _ _) | (with_reducible assumption) | (with_reducible refine balloc ?_ _) | (with_reducible refine Below.drew ?_) | (with_reducible refine below_drewN ?_ _) | (with_reducible refine bset ?_ ?_ _) | (with_reducible refine bstep ?_ (by assumption)) | go_size))⟩
        unfold NetRes
        rw [if_pos rfl]
        refine ⟨aO, cO, rfl, ?_⟩
        refine World.ownsRow.mono (base := w.heap.size + 1 + 1) ?_ (by omega)
        have o9 := World.ownsRow.mono (base' := w.heap.size + 1 + 1) OO.out (by omega)
        repeat' (first | with_reducible exact o9 | (with_reducible refine ownsRow_setCell_below ?_ ?_ _) | (dsimp only; omega) | omega)
end Go.Proofs.Ytjchindjoailbaa

/- A network's box carried through a law's walk. -/
namespace Go.Proofs.Ytjchindjoailbaa
set_option linter.unusedSimpArgs false
set_option linter.unusedVariables false
open Go.RowKit

theorem bx_new (w : World) (x0 x1 x2 x3 : Value) (t : TypeId) : Bx (w.alloc (.cells #[x0, x1, x2, x3] t)) w.heap.size x0 x1 x2 x3 := by
  have h := heap_alloc_new w (.cells #[x0, x1, x2, x3] t)
  refine ⟨?_, ?_, ?_, ?_⟩ <;> (simp only [World.cell?, h]; rfl)
theorem Bx.below {w w' : World} {b : Nat} {x0 x1 x2 x3 : Value} (h : Bx w b x0 x1 x2 x3) (hb : b < w.heap.size) (k : Below w.heap.size w w') : Bx w' b x0 x1 x2 x3 :=
  ⟨(k.cell (p := ⟨b, 0, none⟩) hb).trans h.1, (k.cell (p := ⟨b, 1, none⟩) hb).trans h.2.1, (k.cell (p := ⟨b, 2, none⟩) hb).trans h.2.2.1, (k.cell (p := ⟨b, 3, none⟩) hb).trans h.2.2.2⟩
theorem Bx.grown {w w' : World} {b : Nat} {x0 x1 x2 x3 : Value} {r : Option Nat} (h : Bx w b x0 x1 x2 x3) (k : w.grownBy w' r) (hb : b < w.heap.size) (hr : r = some b → False) : Bx w' b x0 x1 x2 x3 := by
  have e : w'.heap[b]? = w.heap[b]? := k.block b hb (fun e => hr e.symm)
  exact ⟨(World.cell?_of_block (a := ⟨b, 0, none⟩) e).trans h.1, (World.cell?_of_block (a := ⟨b, 1, none⟩) e).trans h.2.1, (World.cell?_of_block (a := ⟨b, 2, none⟩) e).trans h.2.2.1, (World.cell?_of_block (a := ⟨b, 3, none⟩) e).trans h.2.2.2⟩
end Go.Proofs.Ytjchindjoailbaa

/- What netOf gives, as the laws ask for it. -/
namespace Go.Proofs.Ytjchindjoailbaa
set_option linter.unusedSimpArgs false
set_option linter.unusedVariables false
open Go.RowKit

theorem NetRes.law {e : Ending} {w w' : World} {ok : Bool} {M E S : Int} {L : List Wz} (h : NetRes e w w' ok M E S L) : ∃ a' c', e = .returned (.tuple #[netV (if ok = true then M else 0) (if ok = true then E else 0) (if ok = true then S else 0) a' (if ok = true then L else []).length c', .bool ok]) ∧ w'.ownsRow w.heap.size 102 3 (.slice a' (if ok = true then L else []).length c') (if ok = true then L else []).length (wires (if ok = true then L else [])) := by
  unfold NetRes at h
  cases ok
  · rw [if_neg (by simp)] at h
    subst h
    exact ⟨none, 0, by simp, World.ownsRow_nil _ _ _ _⟩
  · rw [if_pos rfl] at h
    simpa using h
theorem NetRes.bad {e : Ending} {w w' : World} (h : e = .returned (.tuple #[netV 0 0 0 none 0 0, .bool false])) : NetRes e w w' false 0 0 0 [] := by
  unfold NetRes; rw [if_neg (by simp)]; exact h
end Go.Proofs.Ytjchindjoailbaa

/- ResponseNet: the law's walk. -/
namespace Go.Proofs.Ytjchindjoailbaa
set_option linter.unusedSimpArgs false
set_option linter.unusedVariables false
open Go.RowKit

set_option maxRecDepth 100000 in
set_option maxHeartbeats 16000000 in
theorem walk_FnExactResponseNet (N E S : Int) (a : Option Addr) (n c : Nat) (l : List Wz) (w : World) (ha : NetArg w N E S a n c l) :
    Calls Try.prog 13 #[netV N E S a n c] w fun e w' => e = .returned (.bool true) ∧ Below w.heap.size w w' := by
  have hr := ha.row
  have hl := ha.len
  have hwf := ha.wl
  have hN := i64_bd ha.wN
  have hE := i64_bd ha.wE
  have hS := i64_bd ha.wS
  have hn := hr.le
  clear ha
  have K := fun w => szNet N E S a n c w hn
  by_cases hb : 1048576 < n
  · simp only [if_pos hb] at K
    have K := Lib.hid K
    go_enter Try.func13, Try.ntmps13
    go_wp2_with fail
    refine (K.out _).mono ?_
    rintro e wx ⟨rfl, hbx⟩
    obtain ⟨hcx, hfx⟩ := bcell hbx
    have hzx := bsize hbx
    go_wp2_with fail
    go_ret
    exact ⟨rfl, by (repeat' (first | (with_reducible exact Below.refl _ _) | (with_reducible assumption) | (with_reducible refine balloc ?_ _) | (with_reducible refine Below.drew ?_) | (with_reducible refine below_drewN ?_ _) | (with_reducible refine bset ?_ ?_ _) | (with_reducible refine bstep ?_ (by assumption)) | go_size))⟩
  simp only [if_neg hb] at K
  have K := Lib.hid K
  have HR := Lib.hid hr
  have HL := Lib.hid hl
  have hn' : n ≤ 1048576 := by omega
  obtain ⟨N', E', S', B, L, m, hm, hLm, KS, KI⟩ : ∃ (N' E' S' : Int) (B : Bool) (L : List Wz) (m : Nat), m ≤ 1048576 ∧ L.length = m ∧ Hid (∀ (w : World) (g : Nat), ArgRow w (some ⟨g, 0, none⟩) n n 3 (wires l) → Calls Try.prog 65 #[netV N E S (some ⟨g, 0, none⟩) n n] w fun e w' => ∃ a' c', e = .returned (.tuple #[netV N' E' S' a' m c', .bool B]) ∧ ArgRow w' a' m c' 3 (wires L) ∧ Below w.heap.size w w') ∧ Hid (∀ (w : World) (g : Nat), ArgRow w (some ⟨g, 0, none⟩) n n 3 (wires l) → Calls Try.prog 66 #[netV N E S (some ⟨g, 0, none⟩) n n] w fun e w' => ∃ a' c', e = .returned (.tuple #[netV N' E' S' a' m c', .bool B]) ∧ w'.ownsRow w.heap.size 102 3 (.slice a' m c') m (wires L) ∧ Below w.heap.size w w') := by
    obtain ⟨ok, M0, E0, S0, L0, hlen, HS0, HI0⟩ : ∃ (ok : Bool) (M0 E0 S0 : Int) (L0 : List Wz), (ok = true → L0.length ≤ 1048576) ∧ (∀ (w : World) (g : Nat), ArgRow w (some ⟨g, 0, none⟩) n n 3 (wires l) → Calls Try.prog 65 #[netV N E S (some ⟨g, 0, none⟩) n n] w fun e w' => NetRes e w w' ok M0 E0 S0 L0 ∧ Below w.heap.size w w') ∧ (∀ (w : World) (g : Nat), ArgRow w (some ⟨g, 0, none⟩) n n 3 (wires l) → Calls Try.prog 66 #[netV N E S (some ⟨g, 0, none⟩) n n] w fun e w' => NetRes e w w' ok M0 E0 S0 L0 ∧ Below w.heap.size w w') := by
      by_cases hok : NetOk N E S l
      · obtain ⟨M, rfl⟩ : ∃ M : Nat, N = M := ⟨N.toNat, by have := hok.h.n1; omega⟩
        obtain ⟨F, rfl⟩ : ∃ F : Nat, E = F := ⟨E.toNat, by have := hok.h.e1; omega⟩
        have hF0 : 1 ≤ F := by have := hok.h.e1; omega
        have hF : F ≤ M := by have := hok.h.eN; omega
        obtain ⟨ok, hoo⟩ := bool_of (RnOk M F S l)
        exact ⟨ok, F, F, Int.tdiv (rnS M F S l) (rnG M F S l), divL (rnG M F S l) (rnL M F l), fun h => by have := NetOk.few (hoo.1 h); omega, fun w g rr => specResponseNet M F S _ n n l hF0 hF hok ok hoo w rr hl, fun w g rr => implResponseNet M F S _ n n l hF0 hF hok ok hoo w rr hl⟩
      · exact ⟨false, 0, 0, 0, [], by simp, fun w g rr => (specResponseNet0 N E S _ n n l hok w rr hl).mono (fun e w' h => ⟨NetRes.bad h.1, h.2⟩), fun w g rr => (implResponseNet0 N E S _ n n l hok w rr hl).mono (fun e w' h => ⟨NetRes.bad h.1, h.2⟩)⟩
    refine ⟨if ok = true then M0 else 0, if ok = true then E0 else 0, if ok = true then S0 else 0, ok, if ok = true then L0 else [], (if ok = true then L0 else []).length, ?_, rfl, fun w g rr => (HS0 w g rr).mono ?_, fun w g rr => (HI0 w g rr).mono ?_⟩
    · cases ok
      · simp
      · simpa using hlen rfl
    · rintro e w' ⟨h1, h2⟩
      obtain ⟨a', c', h3, h4⟩ := h1.law
      exact ⟨a', c', h3, ArgRow.own h4, h2⟩
    · rintro e w' ⟨h1, h2⟩
      obtain ⟨a', c', h3, h4⟩ := h1.law
      exact ⟨a', c', h3, h4, h2⟩
  have HLM := Lib.hid hLm
  clear hr hl hn hb hwf hLm
  have XA0 : Hid (Bx (w.alloc (.cells #[.int .i64 N, .int .i64 E, .int .i64 S, .slice a n c] 60)) w.heap.size (.int .i64 N) (.int .i64 E) (.int .i64 S) (.slice a n c)) := bx_new _ _ _ _ _ _
  go_enter Try.func13, Try.ntmps13
  go_wp2_with fail
  refine (K.out _).mono ?_
  rintro e w1 ⟨rfl, hb1⟩
  have hA1 : w.heap.size < w1.heap.size := by have := hb1.size; simp at this; omega
  have HB1 : Hid (Below w.heap.size w w1) := bstep (balloc (Below.refl _ _) _) hb1
  have XA1 := Lib.hid (XA0.out.below (by simp) hb1)
  clear hb1 XA0
  obtain ⟨xA0, xA1, xA2, xA3⟩ := XA1.out
  have nA1 : ¬ w.heap.size = w1.heap.size := by omega
  have nA2 : ¬ w1.heap.size = w.heap.size := by omega
  go_wp2_with fail
  refine (toNet N E S a n c l _ (HR.out.below HB1.out) HL.out hn').mono ?_
  rintro e w2 ⟨g2, rfl, o2, hb2⟩
  have R2 := Lib.hid (ArgRow.own o2)
  clear o2
  clear xA0 xA1 xA2 xA3 nA1 nA2
  have hc2 : Below w1.heap.size w1 w2 := hb2
  have sz2 := hc2.size
  have HB2 : Hid (Below w.heap.size w w2) := HB1.out.trans (hc2.mono (by omega))
  have XA2 := Lib.hid (XA1.out.below (by omega) hc2)
  have hA2 : w.heap.size < w2.heap.size := by omega
  clear hb2; clear hc2
  go_wp2_with fail
  refine (KS.out _ g2 R2.out).mono ?_
  rintro e w3 ⟨aS, cS, rfl, rS, hb3⟩
  have RS := Lib.hid rS
  clear rS
  have hc3 : Below w2.heap.size w2 w3 := hb3
  have sz3 := hc3.size
  have HB3 : Hid (Below w.heap.size w w3) := HB2.out.trans (hc3.mono (by omega))
  have XA3 := Lib.hid (XA2.out.below (by omega) hc3)
  have hA3 : w.heap.size < w3.heap.size := by omega
  clear hb3; clear hc3
  have HC3 : Hid (Below w3.heap.size w3 w3) := Below.refl _ _
  obtain ⟨xA0, xA1, xA2, xA3⟩ := XA3.out
  have nA1 : ¬ w.heap.size = w3.heap.size := by omega
  have nA2 : ¬ w3.heap.size = w.heap.size := by omega
  go_wp2_with fail
  refine (toNet N E S a n c l _ (HR.out.below (balloc HB3.out _)) HL.out hn').mono ?_
  rintro e w4 ⟨g4, rfl, o4, hb4⟩
  have hg4 := own_base o4 _ rfl
  simp only [World.size_alloc] at hg4
  have R4 := Lib.hid (ArgRow.own o4)
  have O4 := Lib.hid o4
  clear o4
  clear xA0 xA1 xA2 xA3 nA1 nA2
  have hc4 : Below w3.heap.size w3 w4 := bstep (balloc (Below.refl _ _) _) hb4
  have XS4 : Hid (Bx w4 w3.heap.size (.int .i64 N') (.int .i64 E') (.int .i64 S') (.slice aS m cS)) := (bx_new _ _ _ _ _ _).below (by simp) hb4
  have hS4 : w3.heap.size < w4.heap.size := by have := hb4.size; simp at this; omega
  have sz4 := hc4.size
  have HB4 : Hid (Below w.heap.size w w4) := HB3.out.trans (hc4.mono (by omega))
  have XA4 := Lib.hid (XA3.out.below (by omega) hc4)
  have hA4 : w.heap.size < w4.heap.size := by omega
  have HC4 : Hid (Below w3.heap.size w3 w4) := HC3.out.trans (hc4.mono (by omega))
  clear hb4 hc4
  go_wp2_with fail
  refine (KI.out _ g4 (R4.out.below (by (repeat' (first | (with_reducible exact Below.refl _ _) | (with_reducible assumption) | (with_reducible refine balloc ?_ _) | (with_reducible refine Below.drew ?_) | (with_reducible refine below_drewN ?_ _) | (with_reducible refine bset ?_ ?_ _) | (with_reducible refine bstep ?_ (by assumption)) | go_size))))).mono ?_
  rintro e w5 ⟨aI, cI, rfl, oI, hb5⟩
  have hgI := oI.lt
  simp only [World.size_alloc] at hgI
  have HGI := Lib.hid hgI
  have OI5 := Lib.hid oI
  have R5 := Lib.hid ((R4.out.below (w' := w4.alloc _) (by (repeat' (first | (with_reducible exact Below.refl _ _) | (with_reducible assumption) | (with_reducible refine balloc ?_ _) | (with_reducible refine Below.drew ?_) | (with_reducible refine below_drewN ?_ _) | (with_reducible refine bset ?_ ?_ _) | (with_reducible refine bstep ?_ (by assumption)) | go_size)))).below hb5)
  have O5 := Lib.hid (own_below (O4.out.alloc _) hb5)
  clear oI hgI
  have hc5 : Below w4.heap.size w4 w5 := bstep (balloc (Below.refl _ _) _) hb5
  have XX5 : Hid (Bx w5 w4.heap.size (.int .i64 N) (.int .i64 E) (.int .i64 S) (.slice (some ⟨g4, 0, none⟩) n n)) := (bx_new _ _ _ _ _ _).below (by simp) hb5
  have hX5 : w4.heap.size < w5.heap.size := by have := hb5.size; simp at this; omega
  have sz5 := hc5.size
  have HB5 : Hid (Below w.heap.size w w5) := HB4.out.trans (hc5.mono (by omega))
  have XA5 := Lib.hid (XA4.out.below (by omega) hc5)
  have hA5 : w.heap.size < w5.heap.size := by omega
  have XS5 := Lib.hid (XS4.out.below (by omega) hc5)
  have hS5 : w3.heap.size < w5.heap.size := by omega
  have HC5 : Hid (Below w3.heap.size w3 w5) := HC4.out.trans (hc5.mono (by omega))
  clear hb5 hc5
  obtain ⟨xS0, xS1, xS2, xS3⟩ := XS5.out
  have nS1 : ¬ w3.heap.size = w5.heap.size := by omega
  have nS2 : ¬ w5.heap.size = w3.heap.size := by omega
  go_wp2_with fail
  refine (eqNet N' E' S' aI aS m cI cS L _ ((ArgRow.own OI5.out).below (by (repeat' (first | (with_reducible exact Below.refl _ _) | (with_reducible assumption) | (with_reducible refine balloc ?_ _) | (with_reducible refine Below.drew ?_) | (with_reducible refine below_drewN ?_ _) | (with_reducible refine bset ?_ ?_ _) | (with_reducible refine bstep ?_ (by assumption)) | go_size)))) (RS.out.below (HC5.out.alloc (by omega) _)) HLM.out).mono ?_
  rintro e w6 ⟨rfl, hb6⟩
  clear xS0 xS1 xS2 xS3 nS1 nS2
  have OI6 := Lib.hid (own_below (OI5.out.alloc _) hb6)
  have R6 := Lib.hid ((R5.out.below (w' := w5.alloc _) (by (repeat' (first | (with_reducible exact Below.refl _ _) | (with_reducible assumption) | (with_reducible refine balloc ?_ _) | (with_reducible refine Below.drew ?_) | (with_reducible refine below_drewN ?_ _) | (with_reducible refine bset ?_ ?_ _) | (with_reducible refine bstep ?_ (by assumption)) | go_size)))).below hb6)
  have O6 := Lib.hid (own_below (O5.out.alloc _) hb6)
  have hc6 : Below w5.heap.size w5 w6 := bstep (balloc (Below.refl _ _) _) hb6
  have XG6 : Hid (Bx w6 w5.heap.size (.int .i64 N') (.int .i64 E') (.int .i64 S') (.slice aI m cI)) := (bx_new _ _ _ _ _ _).below (by simp) hb6
  have hG6 : w5.heap.size < w6.heap.size := by have := hb6.size; simp at this; omega
  have sz6 := hc6.size
  have HB6 : Hid (Below w.heap.size w w6) := HB5.out.trans (hc6.mono (by omega))
  have XA6 := Lib.hid (XA5.out.below (by omega) hc6)
  have hA6 : w.heap.size < w6.heap.size := by omega
  have XS6 := Lib.hid (XS5.out.below (by omega) hc6)
  have hS6 : w3.heap.size < w6.heap.size := by omega
  have XX6 := Lib.hid (XX5.out.below (by omega) hc6)
  have hX6 : w4.heap.size < w6.heap.size := by omega
  have HC6 : Hid (Below w3.heap.size w3 w6) := HC5.out.trans (hc6.mono (by omega))
  clear hb6 hc6
  obtain ⟨xA0, xA1, xA2, xA3⟩ := XA6.out
  have nA1 : ¬ w.heap.size = w6.heap.size := by omega
  have nA2 : ¬ w6.heap.size = w.heap.size := by omega
  obtain ⟨xX0, xX1, xX2, xX3⟩ := XX6.out
  have nX1 : ¬ w4.heap.size = w6.heap.size := by omega
  have nX2 : ¬ w6.heap.size = w4.heap.size := by omega
  go_upto_region 10 with fail
  go_cut [45] (fun s wc => s = .bool false ∧ Hid (Below w6.heap.size w6 wc))
  case first =>
    go_region_with (first
      | (go_at_call 45; ((with_reducible refine (toNet N E S a n c l _ (HR.out.below (by first | exact HB6.out | exact HB6.out.drew | exact below_drewN HB6.out _)) HL.out hn').mono ?_); rintro e w7 ⟨g7, rfl, o7, hb7⟩); (try (replace hb7 := bdrew hb7)); have R7 := Lib.hid (ArgRow.own o7); have R67 := Lib.hid (R6.out.below hb7); clear o7; (try (have hq_ := bltn hb7 (b := w.heap.size) (by (first | omega | (simp only [World.size_alloc, World.size_setCell, World.size_drew, World.heap_drewN]; omega))); obtain ⟨uu, vv, zz, nn, mm⟩ := hq_)); (try (have hq_ := bltn hb7 (b := w4.heap.size) (by (first | omega | (simp only [World.size_alloc, World.size_setCell, World.size_drew, World.heap_drewN]; omega))); obtain ⟨uu, vv, zz, nn, mm⟩ := hq_)))
      | (go_at_call 48; ((with_reducible refine (eqNet N E S (some ⟨g4, 0, none⟩) (some ⟨g7, 0, none⟩) n n n l _ (by exact R67.out) (by exact R7.out) HL.out).mono ?_); rintro e w8 ⟨rfl, hb8⟩); (try (replace hb8 := bdrew hb8))))
    all_goals
      go_wp2_with fail
      go_meet
      exact ⟨rfl, bstep hb7 hb8⟩
  case rest =>
    obtain ⟨rfl, HQ⟩ := hcut
    have hq := HQ.out
    clear HQ
    clear xA0 xA1 xA2 xA3 nA1 nA2 xX0 xX1 xX2 xX3 nX1 nX2
    have hcc : Below w6.heap.size w6 wc := hq
    have szc := hcc.size
    have HBc : Hid (Below w.heap.size w wc) := HB6.out.trans (hcc.mono (by omega))
    have XAc := Lib.hid (XA6.out.below (by omega) hcc)
    have hAc : w.heap.size < wc.heap.size := by omega
    have XSc := Lib.hid (XS6.out.below (by omega) hcc)
    have hSc : w3.heap.size < wc.heap.size := by omega
    have XXc := Lib.hid (XX6.out.below (by omega) hcc)
    have hXc : w4.heap.size < wc.heap.size := by omega
    have XGc := Lib.hid (XG6.out.below (by omega) hcc)
    have hGc : w5.heap.size < wc.heap.size := by omega
    have HCc : Hid (Below w3.heap.size w3 wc) := HC6.out.trans (hcc.mono (by omega))
    have OIc := Lib.hid (own_below OI6.out hcc)
    have Oc := Lib.hid (own_below O6.out hcc)
    clear hq; clear hcc
    obtain ⟨xX0, xX1, xX2, xX3⟩ := XXc.out
    have nX1 : ¬ w4.heap.size = wc.heap.size := by omega
    have nX2 : ¬ wc.heap.size = w4.heap.size := by omega
    go_wp2_with fail
    refine (markNet N E S _ (some ⟨g4, 0, none⟩) n n _ _ Oc.out hn').mono ?_
    rintro e wa ⟨rfl, _, gma⟩
    clear xX0 xX1 xX2 xX3 nX1 nX2
    have sza := gma.size
    have HBa : Hid (Below w.heap.size w wa) := HBc.out.grown gma (by omega) (fun k hk => by simp [Value.ownBlock] at hk; omega)
    have HCa : Hid (Below w3.heap.size w3 wa) := HCc.out.grown gma (by omega) (fun k hk => by simp [Value.ownBlock] at hk; omega)
    have XAa := Lib.hid (XAc.out.grown gma (by omega) (fun hk => by simp [Value.ownBlock] at hk; omega))
    have hAa : w.heap.size < wa.heap.size := by omega
    have XSa := Lib.hid (XSc.out.grown gma (by omega) (fun hk => by simp [Value.ownBlock] at hk; omega))
    have hSa : w3.heap.size < wa.heap.size := by omega
    have XGa := Lib.hid (XGc.out.grown gma (by omega) (fun hk => by simp [Value.ownBlock] at hk; omega))
    have hGa : w5.heap.size < wa.heap.size := by omega
    have OIa := Lib.hid (OIc.out.kept gma (.inr (fun hk => by have := HGI.out _ hk; simp [Value.ownBlock] at this; omega)))
    have hk0 : ¬ (3 * (n : Int) + 1) < 0 := by omega
    clear gma
    obtain ⟨xG0, xG1, xG2, xG3⟩ := XGa.out
    have nG1 : ¬ w5.heap.size = wa.heap.size := by omega
    have nG2 : ¬ wa.heap.size = w5.heap.size := by omega
    obtain ⟨xS0, xS1, xS2, xS3⟩ := XSa.out
    have nS1 : ¬ w3.heap.size = wa.heap.size := by omega
    have nS2 : ¬ wa.heap.size = w3.heap.size := by omega
    go_wp2_with fail
    refine (eqNet N' E' S' aI aS m cI cS L _ (ArgRow.own OIa.out) (RS.out.below HCa.out) HLM.out).mono ?_
    rintro e wb ⟨rfl, hbb⟩
    clear xG0 xG1 xG2 xG3 nG1 nG2 xS0 xS1 xS2 xS3 nS1 nS2
    have hcb : Below wa.heap.size wa wb := hbb
    have szb := hcb.size
    have HBb : Hid (Below w.heap.size w wb) := HBa.out.trans (hcb.mono (by omega))
    have XAb := Lib.hid (XAa.out.below (by omega) hcb)
    have hAb : w.heap.size < wb.heap.size := by omega
    have XSb := Lib.hid (XSa.out.below (by omega) hcb)
    have hSb : w3.heap.size < wb.heap.size := by omega
    have XGb := Lib.hid (XGa.out.below (by omega) hcb)
    have hGb : w5.heap.size < wb.heap.size := by omega
    have HCb : Hid (Below w3.heap.size w3 wb) := HCa.out.trans (hcb.mono (by omega))
    have OIb := Lib.hid (own_below OIa.out hcb)
    clear hbb; clear hcb
    obtain ⟨xG0, xG1, xG2, xG3⟩ := XGb.out
    have nG1 : ¬ w5.heap.size = wb.heap.size := by omega
    have nG2 : ¬ wb.heap.size = w5.heap.size := by omega
    go_wp2_with fail
    refine (markNet N' E' S' _ aI m cI _ _ OIb.out hm).mono ?_
    rintro e wd ⟨rfl, om, gmd⟩
    have OMd := Lib.hid om
    clear om
    clear xG0 xG1 xG2 xG3 nG1 nG2
    have szd := gmd.size
    have HBd : Hid (Below w.heap.size w wd) := HBb.out.grown gmd (by omega) (fun k hk => by have := HGI.out _ hk; omega)
    have HCd : Hid (Below w3.heap.size w3 wd) := HCb.out.grown gmd (by omega) (fun k hk => by have := HGI.out _ hk; omega)
    have XAd := Lib.hid (XAb.out.grown gmd (by omega) (fun hk => by have := HGI.out _ hk; omega))
    have hAd : w.heap.size < wd.heap.size := by omega
    have XSd := Lib.hid (XSb.out.grown gmd (by omega) (fun hk => by have := HGI.out _ hk; omega))
    have hSd : w3.heap.size < wd.heap.size := by omega
    have XGd := Lib.hid (XGb.out.grown gmd (by omega) (fun hk => by have := HGI.out _ hk; omega))
    have hGd : w5.heap.size < wd.heap.size := by omega
    clear gmd
    have hk1 : ¬ (3 * (m : Int) + 1) < 0 := by omega
    obtain ⟨xG0, xG1, xG2, xG3⟩ := XGd.out
    have nG1 : ¬ w5.heap.size = wd.heap.size := by omega
    have nG2 : ¬ wd.heap.size = w5.heap.size := by omega
    go_wp2_with fail
    refine (heldNet N' E' S' aI m cI _ (ArgRow.own OMd.out) hm).mono ?_
    rintro e we ⟨rfl, hbe⟩
    clear xG0 xG1 xG2 xG3 nG1 nG2
    have hce : Below wd.heap.size wd we := hbe
    have sze := hce.size
    have HBe : Hid (Below w.heap.size w we) := HBd.out.trans (hce.mono (by omega))
    have XAe := Lib.hid (XAd.out.below (by omega) hce)
    have hAe : w.heap.size < we.heap.size := by omega
    have XSe := Lib.hid (XSd.out.below (by omega) hce)
    have hSe : w3.heap.size < we.heap.size := by omega
    have XGe := Lib.hid (XGd.out.below (by omega) hce)
    have hGe : w5.heap.size < we.heap.size := by omega
    have HCe : Hid (Below w3.heap.size w3 we) := HCd.out.trans (hce.mono (by omega))
    have OMe := Lib.hid (own_below OMd.out hce)
    clear hbe; clear hce
    obtain ⟨xA0, xA1, xA2, xA3⟩ := XAe.out
    have nA1 : ¬ w.heap.size = we.heap.size := by omega
    have nA2 : ¬ we.heap.size = w.heap.size := by omega
    go_wp2_with fail
    refine (toNet N E S a n c l _ (HR.out.below HBe.out) HL.out hn').mono ?_
    rintro e wf ⟨gf, rfl, of, hbf⟩
    have Rf := Lib.hid (ArgRow.own of)
    clear of
    clear xA0 xA1 xA2 xA3 nA1 nA2
    have hcf : Below we.heap.size we wf := hbf
    have szf := hcf.size
    have HBf : Hid (Below w.heap.size w wf) := HBe.out.trans (hcf.mono (by omega))
    have XSf := Lib.hid (XSe.out.below (by omega) hcf)
    have hSf : w3.heap.size < wf.heap.size := by omega
    have XGf := Lib.hid (XGe.out.below (by omega) hcf)
    have hGf : w5.heap.size < wf.heap.size := by omega
    have HCf : Hid (Below w3.heap.size w3 wf) := HCe.out.trans (hcf.mono (by omega))
    have OMf := Lib.hid (own_below OMe.out hcf)
    clear hbf; clear hcf
    go_wp2_with fail
    refine (KI.out _ gf Rf.out).mono ?_
    rintro e wg ⟨aH, cH, rfl, oH, hbg⟩
    have OHg := Lib.hid oH
    clear oH
    have hcg : Below wf.heap.size wf wg := hbg
    have szg := hcg.size
    have HBg : Hid (Below w.heap.size w wg) := HBf.out.trans (hcg.mono (by omega))
    have XSg := Lib.hid (XSf.out.below (by omega) hcg)
    have hSg : w3.heap.size < wg.heap.size := by omega
    have XGg := Lib.hid (XGf.out.below (by omega) hcg)
    have hGg : w5.heap.size < wg.heap.size := by omega
    have HCg : Hid (Below w3.heap.size w3 wg) := HCf.out.trans (hcg.mono (by omega))
    have OMg := Lib.hid (own_below OMf.out hcg)
    clear hbg; clear hcg
    obtain ⟨xS0, xS1, xS2, xS3⟩ := XSg.out
    have nS1 : ¬ w3.heap.size = wg.heap.size := by omega
    have nS2 : ¬ wg.heap.size = w3.heap.size := by omega
    go_wp2_with fail
    refine (eqNet N' E' S' aH aS m cH cS L _ ((ArgRow.own OHg.out).below (by (repeat' (first | (with_reducible exact Below.refl _ _) | (with_reducible assumption) | (with_reducible refine balloc ?_ _) | (with_reducible refine Below.drew ?_) | (with_reducible refine below_drewN ?_ _) | (with_reducible refine bset ?_ ?_ _) | (with_reducible refine bstep ?_ (by assumption)) | go_size)))) (RS.out.below (HCg.out.alloc (by omega) _)) HLM.out).mono ?_
    rintro e wh ⟨rfl, hbh⟩
    clear xS0 xS1 xS2 xS3 nS1 nS2
    have OMh := Lib.hid (own_below (OMg.out.alloc _) hbh)
    have hch : Below wg.heap.size wg wh := bstep (balloc (Below.refl _ _) _) hbh
    have XHh : Hid (Bx wh wg.heap.size (.int .i64 N') (.int .i64 E') (.int .i64 S') (.slice aH m cH)) := (bx_new _ _ _ _ _ _).below (by simp) hbh
    have hHh : wg.heap.size < wh.heap.size := by have := hbh.size; simp at this; omega
    have szh := hch.size
    have HBh : Hid (Below w.heap.size w wh) := HBg.out.trans (hch.mono (by omega))
    have XGh := Lib.hid (XGg.out.below (by omega) hch)
    have hGh : w5.heap.size < wh.heap.size := by omega
    have HCh : Hid (Below w3.heap.size w3 wh) := HCg.out.trans (hch.mono (by omega))
    clear hbh hch
    obtain ⟨xG0, xG1, xG2, xG3⟩ := XGh.out
    have nG1 : ¬ w5.heap.size = wh.heap.size := by omega
    have nG2 : ¬ wh.heap.size = w5.heap.size := by omega
    go_wp2_with fail
    refine (heldNet N' E' S' aI m cI _ (ArgRow.own OMh.out) hm).mono ?_
    rintro e wi ⟨rfl, hbi⟩
    clear xG0 xG1 xG2 xG3 nG1 nG2
    have HBi : Hid (Below w.heap.size w wi) := bstep HBh.out hbi
    clear hbi
    go_wp2_with fail
    go_ret
    exact ⟨rfl, HBi.out⟩
end Go.Proofs.Ytjchindjoailbaa

/- For every input the program's ResponseNet returns what the reference's ResponseNet returns: the law FnExactResponseNet answers true and leaves its arguments as they were. -/
namespace Go.Proofs.Ytjchindjoailbaa
set_option linter.unusedSimpArgs false
set_option linter.unusedVariables false
open Go.ChangeShapes Go.WideShapes Go.ChangeAt Go.RowKit
open Go.ChangeMaps (open_string shut_string)
set_option linter.unusedVariables false

set_option maxRecDepth 100000 in
theorem lifted_FnExactResponseNet (os : Os) (started : os.Started) (H : Type) (enc : TypeId × Value → H) :
    ReturnsInHanded {} Try.checked os 13 .any (Rows.fnExactResponseNetSpec.pre6 enc Try.prog Try.f13 Rows.fnExactResponseNetRow.domain false) (Rows.fnExactResponseNetSpec.post enc Try.prog Try.f13 false true false false) := by
  refine returnsInHanded_of_change (C := Try.checked) own started (by kernel_rfl) Try.func13
    (ChangeSpec.witness6 (enc := enc) (C := Try.checked) false ⟨#[], #[.agg #[.int .i64 0, .int .i64 0, .int .i64 0, .slice none 0 0]], []⟩ 8 (by kernel_rfl) (by kernel_rfl) (by kernel_rfl) (by kernel_rfl)) ?_
  intro W base args ds gs before hval0 hW hcnd _
  have hval : ∀ (j : Nat) t v, Try.f13.params[j]? = some t → args[j]? = some v → Value.okWide Try.prog W .any base t v := hval0
  have hW' := hW
  obtain ⟨p, q, hA0, hV, rfl, hfz, hnd⟩ := hW
  have hA : DataW.TrodAll enc Try.prog W 0 (fun _ => true) true Try.f13.params.toList args.toList ds p := hA0
  rw [Try.params13] at hA hval
  obtain ⟨v0, vs0, d0, ds0, p0, q0, hargs, rfl, rfl, h0, r0⟩ := trodAll_cons hA
  obtain ⟨rfl, rfl, rfl⟩ := trodAll_nil r0
  obtain rfl : args = #[v0] := by cases args; simp_all
  obtain ⟨rfl, rfl⟩ := trodVars_none hV
  have k0 := h0
  have lt0 : ∀ x ∈ p0, x.block < W.heap.size := by obtain ⟨m, hm⟩ := k0; exact DataW.trod_lt m _ _ _ hm
  obtain ⟨N0, E0, S0, a0, n0, c0, l0, e0a, w0⟩ := open_net (hval 0 60 v0 rfl rfl) h0
  subst e0a
  clear hA0 hval0
  refine (walk_FnExactResponseNet N0 E0 S0 a0 n0 c0 l0 W w0).mono fun e W' ⟨he, bel⟩ => ?_
  subst he
  exact ⟨_, rfl, _, _, _, [], _, [], hW', trodAll_mk1 (shut_bool Try.underlying4 _), (trodAll_cons_mk (Below.trod laidOut (by kernel_rfl) (of_decide_eq_true (by kernel_rfl)) k0 bel lt0) trodAll_mk0), rfl, bel.frame _, fun h => by cases h⟩

set_option maxRecDepth 100000 in
set_option maxHeartbeats 8000000 in
theorem closed_FnExactResponseNet : joinedFacts Try.pinned.checked.prog 13 Try.f13 Rows.fnExactResponseNetSpec Rows.fnExactResponseNetRow = true := by
  unfold joinedFacts
  repeat' (with_reducible refine band ?_ ?_)
  all_goals first | (with_reducible exact mayEnter_p) | ((with_reducible refine bmake (finals_p.trans ?_)); rfl) | ((with_reducible refine beq_iff_eq.2 (make_p.trans ?_)); rfl) | (as_aux_lemma => kernel_rfl)

theorem fnExactResponseNet_holds : Rows.FnExactResponseNetSaid :=
  OpenClaim.holds_of_wide 13 Try.f13 rfl rfl rfl rfl rfl rfl rfl ⟨rfl, rfl, rfl, rfl, rfl⟩ rfl rfl rfl rfl rfl (by kernel_rfl) Try.func13 closed_FnExactResponseNet
    (of_decide_eq_true (by kernel_rfl)) (by unfold Func.isWrapper; first | (rw [if_pos (by decide +kernel)]; kernel_rfl) | (rw [if_neg (by decide +kernel)]; exact ⟨rfl, rfl⟩))
    (fun os started H enc _ => lifted_FnExactResponseNet os started H enc)

end Go.Proofs.Ytjchindjoailbaa
