/- CountTrees of the program. -/
import Derived.Test.YtdmiihljepkapaaTrees
import Derived.Lib.SliceRun
namespace Go.Proofs.Ytdmiihljepkapaa
set_option linter.unusedSimpArgs false
set_option linter.unusedVariables false
open Go.RowKit

/-- the wires, each of weight 1 -/
def ones (l : List Wz) : List Wz := l.map fun x => (x.1, x.2.1, (1 : Int))
theorem ones_len (l : List Wz) : (ones l).length = l.length := by simp [ones]
theorem Rch.ones {l : List Wz} {v : Int} (h : Rch l v) : Rch (Proofs.Ytdmiihljepkapaa.ones l) v := by
  induction h with
  | zero => exact .zero
  | fwd hx _ ih => exact .fwd (x := (_, _, (1 : Int))) (List.mem_map_of_mem hx) ih
  | bwd hx _ ih => exact .bwd (x := (_, _, (1 : Int))) (List.mem_map_of_mem hx) ih
theorem NetOk.ones {N E S S' : Int} {l : List Wz} (h : NetOk N E S l) (h1 : 1 ≤ S') (h2 : S' ≤ 1000) : NetOk N E S' (Proofs.Ytdmiihljepkapaa.ones l) := by
  refine ⟨⟨h.h.n1, h.h.n5, h.h.e1, h.h.eN, h1, h2⟩, fun k hk => ?_, fun k hk => ?_, fun v hv => (h.c v hv).ones⟩
  · rw [ones_len] at hk
    obtain ⟨g0, g1, g2, _, _⟩ := h.w k hk
    simp only [Proofs.Ytdmiihljepkapaa.ones, List.getElem_map]
    exact ⟨g0, g1, g2, by simp only; omega, by simp only; omega⟩
  · rw [ones_len] at hk
    have := h.o k hk
    simp only [Proofs.Ytdmiihljepkapaa.ones, List.getElem_map]
    exact this
theorem ones_step (l : List Wz) (i : Nat) (h : i < l.length) : (wires (ones (l.take i) ++ l.drop i)).set (i * 3 + 2) (.int .i64 1) = wires (ones (l.take (i + 1)) ++ l.drop (i + 1)) := by
  have hl : (wires (ones (l.take i))).length = i * 3 := by rw [wires_len, ones_len, List.length_take]; omega
  have e1 : wires (ones (l.take i) ++ l.drop i) = wires (ones (l.take i)) ++ (wireV l[i] ++ wires (l.drop (i + 1))) := by
    have hd := List.drop_eq_getElem_cons h
    simp only [wires, List.flatMap_append]
    rw [hd, List.flatMap_cons]
  have e2 : wires (ones (l.take (i + 1)) ++ l.drop (i + 1)) = wires (ones (l.take i)) ++ (wireV (l[i].1, l[i].2.1, 1) ++ wires (l.drop (i + 1))) := by
    rw [List.take_succ_eq_append_getElem h]
    simp only [ones, List.map_append, wires, List.flatMap_append, List.map_cons, List.map_nil, List.flatMap_cons, List.flatMap_nil, List.append_nil, List.append_assoc]
  rw [e1, e2, List.set_append_right _ _ (by omega), hl, show i * 3 + 2 - i * 3 = 2 from by omega]
  rfl
theorem infoWire : (Try.prog.info? 104).map (fun i => (i.zero, i.size, i.bytes)) = some (some (.agg #[.int .i64 0, .int .i64 0, .int .i64 0]), 3, 24) := by kernel_rfl
theorem wires_one (l : List Wz) : ∀ u ∈ wires l, u.oneCell' = true := by
  intro u hu
  unfold wires at hu
  rw [List.mem_flatMap] at hu
  obtain ⟨z, _, h⟩ := hu
  simp [wireV] at h
  rcases h with rfl | rfl | rfl <;> rfl

theorem cloneWires (a : Option Addr) (n c : Nat) (l : List Wz) (w : World) (hr : ArgRow w a n c 3 (wires l)) (hn : n ≤ 1048576) :
    Calls Try.prog 183 #[.slice a n c] w fun e w' => ∃ a' c', e = .returned (.slice a' n c') ∧ w'.ownsRow w.heap.size 104 3 (.slice a' n c') n (wires l) ∧ Below w.heap.size w w' := by
  obtain ⟨i0, hi, hz0, hz1, hz2⟩ := info_parts infoWire
  have HI := Lib.hid (And.intro hi (And.intro hz0 (And.intro hz1 hz2)))
  clear hi hz0 hz1 hz2
  have q22 : ∀ (w : World) (a : Option Addr) (n c n' c' : Nat), (binOp .eql 23 (.slice a n c) (.slice none n' c')).run Try.prog w = .ok (.bool a.isNone) w := fun w a n c n' c' => Lib.run_eql_slice_nil w _ _ a n c n' c' Try.underlying23
  have hlen := hr.1
  cases a with
  | none =>
    have h0 : n = 0 := by
      by_cases h : 0 < n
      · obtain ⟨b, o, e, _⟩ := hr.form h; cases e
      · omega
    subst h0
    have hnil : wires l = [] := List.length_eq_zero_iff.1 (by omega)
    rw [hnil]
    clear hr
    go_enter Try.func183, Try.ntmps183
    go_wp2_with fail
    go_ret
    exact ⟨none, 0, rfl, World.ownsRow_nil _ _ _ _, Below.refl _ _⟩
  | some ad =>
    have hnews : Hid (∀ j u, (wires l)[j]? = some u → (w.alloc (.cells #[] 104)).cell? (ad.add j) = some u) := by
      intro j u hu
      have hj := (List.getElem?_eq_some_iff.1 hu).1
      obtain ⟨b, o, e, hb, hc⟩ := hr.form (by omega)
      cases e
      rw [Addr.add_lit]
      have h9 : (w.alloc (.cells #[] 104)).cell? ⟨b, o + j, none⟩ = w.cell? ⟨b, o + j, none⟩ := (balloc (Below.refl _ _) _).cell (p := ⟨b, o + j, none⟩) hb
      rw [h9, hc j hj, ← hu, List.getElem?_eq_getElem hj]
    clear hr
    go_enter Try.func183, Try.ntmps183
    go_wp2_with (at_builtin; refine wpList_append_own _ rfl _ _ 23 rfl w.heap.size 104 i0 (.agg #[.int .i64 0, .int .i64 0, .int .i64 0]) 3 24 Try.underlying23 HI.out.1 HI.out.2.1 HI.out.2.2.1 HI.out.2.2.2 rfl (by decide) _ _ _ rfl (World.ownsRow_lit (base := w.heap.size) (size := 3) w #[] 0 (Nat.le_refl _) (by simp) rfl) ad n c (wires l) rfl ?c0 ?c1 ?c2 ?c3 ?c4 ?c5 ?_)
    case c0 => exact hlen
    case c1 => exact hnews.out
    case c2 => exact wires_one l
    case c3 => unfold maxLen; omega
    case c4 => omega
    case c5 => simp
    intro v' w1 hown hgrow _
    obtain ⟨a', c', rfl⟩ := own_slice hown
    have O1 : Hid (w1.ownsRow w.heap.size 104 3 (.slice a' n c') n (wires l)) := by
      show World.ownsRow _ _ _ _ _ _ _
      simpa using hown
    have B1 : Hid (Below w.heap.size w w1) := (balloc (Below.refl _ _) _).grown hgrow (by simp) (fun k hk => by simp [Value.ownBlock] at hk; omega)
    clear hown hgrow
    go_wp2_with fail
    go_ret
    exact ⟨a', c', by simp, O1.out, B1.out⟩

set_option maxRecDepth 100000 in
set_option maxHeartbeats 2000000 in
theorem implCopyNet (N E S : Int) (a : Option Addr) (n c : Nat) (l : List Wz) (w : World) (hr : ArgRow w a n c 3 (wires l)) (hn : n ≤ 1048576) :
    Calls Try.prog 151 #[netV N E S a n c] w fun e w' => ∃ a' c', e = .returned (netV N E S a' n c') ∧ w'.ownsRow w.heap.size 104 3 (.slice a' n c') n (wires l) ∧ Below w.heap.size w w' := by
  have HR := Lib.hid hr
  clear hr
  go_enter Try.func151, Try.ntmps151
  go_wp2_with fail
  refine (cloneWires a n c l _ (HR.out.below (by (repeat' (first | (with_reducible exact Below.refl _ _) | (with_reducible assumption) | (with_reducible refine balloc ?_ _) | (with_reducible refine Below.drew ?_) | (with_reducible refine below_drewN ?_ _) | (with_reducible refine bset ?_ ?_ _) | (with_reducible refine bstep ?_ (by assumption)) | go_size)))) hn).mono ?_
  rintro e w1 ⟨a1, c1, rfl, o1, b1⟩
  obtain ⟨u0, v0, l0⟩ := blt b1 (b := w.heap.size) (by (first | omega | (simp only [World.size_alloc, World.size_setCell, World.size_drew, World.heap_drewN]; omega)))
  obtain ⟨u1, v1, l1⟩ := blt b1 (b := w.heap.size + 1) (by (first | omega | (simp only [World.size_alloc, World.size_setCell, World.size_drew, World.heap_drewN]; omega)))
  have B1 : Hid (Below w.heap.size w w1) := bstep (by (repeat' (first | (with_reducible exact Below.refl _ _) | (with_reducible assumption) | (with_reducible refine balloc ?_ _) | (with_reducible refine Below.drew ?_) | (with_reducible refine below_drewN ?_ _) | (with_reducible refine bset ?_ ?_ _) | (with_reducible refine bstep ?_ (by assumption)) | go_size))) b1
  have O1 := Lib.hid o1
  clear o1 b1
  go_wp2_with fail
  have rs0 : (w1.cell? { block := w.heap.size + 1, off := 0 }).isSome = true := by simp [go_sem, u1]
  have rs1 : (w1.cell? { block := w.heap.size + 1, off := 1 }).isSome = true := by simp [go_sem, u1]
  have rs2 : (w1.cell? { block := w.heap.size + 1, off := 2 }).isSome = true := by simp [go_sem, u1]
  have rs3 : (w1.cell? { block := w.heap.size + 1, off := 3 }).isSome = true := by simp [go_sem, u1]
  refine bodyPost_ret (v := _) (by simp [results, Try.results151, go_sem, rs0, rs1, rs2, rs3]; try rfl) rfl ?_
  have B1' := B1.out
  refine ⟨a1, c1, rfl, World.ownsRow.mono (base := w.heap.size + 1 + 1) ?_ (by omega), by (repeat' (first | (with_reducible exact Below.refl _ _) | (with_reducible assumption) | (with_reducible refine balloc ?_ _) | (with_reducible refine Below.drew ?_) | (with_reducible refine below_drewN ?_ _) | (with_reducible refine bset ?_ ?_ _) | (with_reducible refine bstep ?_ (by assumption)) | go_size))⟩
  have o2 := O1.out
  simp only [World.size_alloc] at o2
  repeat' (first | with_reducible exact o2 | (with_reducible refine ownsRow_setCell_below ?_ ?_ _) | (dsimp only; omega) | omega)

/-- a network's box, turned: what it holds -/
def Bx (w : World) (b : Nat) (x0 x1 x2 x3 : Value) : Prop := w.cell? ⟨b, 0, none⟩ = some x0 ∧ w.cell? ⟨b, 1, none⟩ = some x1 ∧ w.cell? ⟨b, 2, none⟩ = some x2 ∧ w.cell? ⟨b, 3, none⟩ = some x3
theorem Bx.set {w : World} {b : Nat} {x0 x1 x2 x3 : Value} (h : Bx w b x0 x1 x2 x3) {p : Addr} (hp : p.block ≠ b) (v : Value) : Bx (w.setCell p v) b x0 x1 x2 x3 := by
  have k : ∀ o, (w.setCell p v).cell? ⟨b, o, none⟩ = w.cell? ⟨b, o, none⟩ := fun o => World.cell?_of_block (a := ⟨b, o, none⟩) (Go.Deep.blk_setCell_other _ _ _ _ (fun e => hp e.symm))
  exact ⟨(k 0).trans h.1, (k 1).trans h.2.1, (k 2).trans h.2.2.1, (k 3).trans h.2.2.2⟩

set_option maxRecDepth 100000 in
set_option maxHeartbeats 4000000 in
theorem implCountTrees (M : Nat) (E S : Int) (a : Option Addr) (n c : Nat) (l : List Wz) (hok : NetOk M E S l) (w : World) (hr : ArgRow w a n c 3 (wires l)) (hl : l.length = n) (hn : n ≤ 1048576) :
    Calls Try.prog 83 #[netV M E S a n c] w fun e w' => e = .returned (.int .i64 (leftW M (ones l) [0] [0])) ∧ Below w.heap.size w w' := by
  have HR := Lib.hid hr
  have HL := Lib.hid hl
  have KN := Lib.hid (fun (w : World) rr => implNetOk M E S a n c l true ⟨fun _ => hok, fun _ => rfl⟩ w rr hl)
  have KC := Lib.hid (fun (w : World) rr => implCopyNet M E S a n c l w rr hn)
  have KT := Lib.hid (fun a' c' (w : World) rr => implTreeSum M E S a' n c' (ones l) (hok.ones hok.h.s1 hok.h.s2) w rr (by rw [ones_len]; exact hl))
  clear hr hok
  go_enter Try.func83, Try.ntmps83
  go_wp2_with fail
  refine (KN.out _ (HR.out.below (by (repeat' (first | (with_reducible exact Below.refl _ _) | (with_reducible assumption) | (with_reducible refine balloc ?_ _) | (with_reducible refine Below.drew ?_) | (with_reducible refine below_drewN ?_ _) | (with_reducible refine bset ?_ ?_ _) | (with_reducible refine bstep ?_ (by assumption)) | go_size))))).mono ?_
  rintro e w1 ⟨rfl, hb1⟩
  obtain ⟨uu1, vv1, zz1, nn1, mm1⟩ := bltn hb1 (b := w.heap.size) (by (first | omega | (simp only [World.size_alloc, World.size_setCell, World.size_drew, World.heap_drewN]; omega)))
  have B1 : Hid (Below w.heap.size w w1) := bstep (by (repeat' (first | (with_reducible exact Below.refl _ _) | (with_reducible assumption) | (with_reducible refine balloc ?_ _) | (with_reducible refine Below.drew ?_) | (with_reducible refine below_drewN ?_ _) | (with_reducible refine bset ?_ ?_ _) | (with_reducible refine bstep ?_ (by assumption)) | go_size))) hb1
  go_wp2_with fail
  refine (KC.out _ (HR.out.below B1.out)).mono ?_
  rintro e w2 ⟨a2, c2, rfl, o2, hb2⟩
  obtain ⟨uu2, vv2, zz2, nn2, mm2⟩ := bltn hb2 (b := w.heap.size) (by (first | omega | (simp only [World.size_alloc, World.size_setCell, World.size_drew, World.heap_drewN]; omega)))
  have B2 : Hid (Below w.heap.size w w2) := bstep B1.out hb2
  have O2 := Lib.hid o2
  clear o2
  go_wp2_with fail
  have HX0 : Hid (Bx ((((w2.setCell ⟨w.heap.size, 0, none⟩ (.int .i64 M)).setCell ⟨w.heap.size, 1, none⟩ (.int .i64 E)).setCell ⟨w.heap.size, 2, none⟩ (.int .i64 S)).setCell ⟨w.heap.size, 3, none⟩ (.slice a2 n c2)) w.heap.size (.int .i64 M) (.int .i64 E) (.int .i64 S) (.slice a2 n c2)) := by
    refine ⟨?_, ?_, ?_, ?_⟩ <;> simp [go_sem, uu2, uu1]
  have HO0 : Hid (((((w2.setCell ⟨w.heap.size, 0, none⟩ (.int .i64 M)).setCell ⟨w.heap.size, 1, none⟩ (.int .i64 E)).setCell ⟨w.heap.size, 2, none⟩ (.int .i64 S)).setCell ⟨w.heap.size, 3, none⟩ (.slice a2 n c2)).ownsRow (w.heap.size + 1) 104 3 (.slice a2 n c2) n (wires (ones (l.take 0) ++ l.drop 0))) := by
    have o3 := O2.out.mono (base' := w.heap.size + 1) (by omega)
    show World.ownsRow _ _ _ _ _ _ _
    rw [show ones (l.take 0) ++ l.drop 0 = l from by simp [ones]]
    repeat' (first | with_reducible exact o3 | (with_reducible refine ownsRow_setCell_below ?_ ?_ _) | (dsimp only; omega) | omega)
  have HB0 : Hid (Below w.heap.size w ((((w2.setCell ⟨w.heap.size, 0, none⟩ (.int .i64 M)).setCell ⟨w.heap.size, 1, none⟩ (.int .i64 E)).setCell ⟨w.heap.size, 2, none⟩ (.int .i64 S)).setCell ⟨w.heap.size, 3, none⟩ (.slice a2 n c2))) := bset (bset (bset (bset B2.out (Nat.le_refl _) _) (Nat.le_refl _) _) (Nat.le_refl _) _) (Nat.le_refl _) _
  clear uu2 vv2 zz2 nn2 mm2 uu1 vv1 zz1 nn1 mm1 hb1 hb2
  go_loopw [12] (fun v wr => ∃ i : Nat, i ≤ n ∧ v = .int .i64 i ∧ Hid (Bx wr w.heap.size (.int .i64 M) (.int .i64 E) (.int .i64 S) (.slice a2 n c2)) ∧ Hid (wr.ownsRow (w.heap.size + 1) 104 3 (.slice a2 n c2) n (wires (ones (l.take i) ++ l.drop i))) ∧ Hid (Below w.heap.size w wr)) (fun v _ => n - (intOf v).toNat)
  case atStart => exact ⟨0, by omega, rfl, HX0.out, HO0.out, HB0.out⟩
  case round =>
    clear HX0 HO0 HB0
    obtain ⟨i, hi, rfl, HX, HO, HB⟩ := hrel
    obtain ⟨x0, x1, x2, x3⟩ := HX.out
    by_cases hlt : i < n
    · obtain ⟨g, c', e⟩ := own_some HO.out (by omega)
      cases e
      have hg := own_base HO.out _ rfl
      simp only at hg
      have hlen := HO.out.1
      have hst := (HO.out.stored (i * 3 + 2) (.int .i64 1)).1
      rw [ones_step l i (by rw [HL.out]; exact hlt)] at hst
      obtain ⟨old, hold⟩ : ∃ old, wr.cell? ⟨g, i * 3 + 2, none⟩ = some old := ⟨_, (HO.out.cellAt (i * 3 + 2) (by omega)).trans (List.getElem?_eq_getElem (by omega))⟩
      have hf := HO.out.frozenAt (i * 3 + 2)
      have HS := Lib.hid hst
      have HX2 := Lib.hid (HX.out.set (p := ⟨g, i * 3 + 2, none⟩) (by show g ≠ _; omega) (.int .i64 1))
      have HB2 : Hid (Below w.heap.size w (wr.setCell ⟨g, i * 3 + 2, none⟩ (.int .i64 1))) := bset HB.out (by show _ ≤ g; omega) _
      clear hst hlen
      go_wp2_with fail
      go_roundw
      case rel => exact ⟨i + 1, by omega, by go_num, HX2.out, HS.out, HB2.out⟩
      case measure => simp [intOf]; omega
    · obtain rfl : i = n := by omega
      have HR3 : Hid (ArgRow wr a2 i c2 3 (wires (ones l))) := by
        have := ArgRow.own' HO.out
        rw [List.take_of_length_le (by rw [HL.out]; omega), List.drop_eq_nil_of_le (by rw [HL.out]; omega), List.append_nil] at this
        exact this
      go_wp2_with fail
      refine (KT.out a2 c2 _ HR3.out).mono ?_
      rintro e w6 ⟨rfl, hb6⟩
      go_wp2_with fail
      go_ret
      exact ⟨rfl, bstep HB.out hb6⟩
set_option maxRecDepth 100000 in
set_option maxHeartbeats 4000000 in
theorem implCountTrees0 (N E S : Int) (a : Option Addr) (n c : Nat) (l : List Wz) (hok : ¬ NetOk N E S l) (w : World) (hr : ArgRow w a n c 3 (wires l)) (hl : l.length = n) :
    Calls Try.prog 83 #[netV N E S a n c] w fun e w' => e = .returned (.int .i64 0) ∧ Below w.heap.size w w' := by
  have HR := Lib.hid hr
  have KN := Lib.hid (fun (w : World) rr => implNetOk N E S a n c l false ⟨(fun h => by cases h), fun h => absurd h hok⟩ w rr hl)
  clear hr hok
  go_enter Try.func83, Try.ntmps83
  go_wp2_with fail
  refine (KN.out _ (HR.out.below (by (repeat' (first | (with_reducible exact Below.refl _ _) | (with_reducible assumption) | (with_reducible refine balloc ?_ _) | (with_reducible refine Below.drew ?_) | (with_reducible refine below_drewN ?_ _) | (with_reducible refine bset ?_ ?_ _) | (with_reducible refine bstep ?_ (by assumption)) | go_size))))).mono ?_
  rintro e w1 ⟨rfl, hb1⟩
  go_wp2_with fail
  go_ret
  exact ⟨rfl, bstep (by (repeat' (first | (with_reducible exact Below.refl _ _) | (with_reducible assumption) | (with_reducible refine balloc ?_ _) | (with_reducible refine Below.drew ?_) | (with_reducible refine below_drewN ?_ _) | (with_reducible refine bset ?_ ?_ _) | (with_reducible refine bstep ?_ (by assumption)) | go_size))) hb1⟩
end Go.Proofs.Ytdmiihljepkapaa
