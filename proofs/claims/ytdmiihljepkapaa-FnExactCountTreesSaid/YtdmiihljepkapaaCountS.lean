/- CountTrees of the reference. -/
import Derived.Test.YtdmiihljepkapaaCount
import Derived.Test.YtdmiihljepkapaaTreesS
namespace Go.Proofs.Ytdmiihljepkapaa
set_option linter.unusedSimpArgs false
set_option linter.unusedVariables false
open Go.RowKit

theorem Bx.put3 {w : World} {b : Nat} {x0 x1 x2 x3 : Value} (h : Bx w b x0 x1 x2 x3) (v : Value) : Bx (w.setCell ⟨b, 3, none⟩ v) b x0 x1 x2 v := by
  obtain ⟨h0, h1, h2, h3⟩ := h
  refine ⟨?_, ?_, ?_, ?_⟩ <;> simp [go_sem, h0, h1, h2, h3]
theorem ones_take (l : List Wz) (i : Nat) (h : i < l.length) : wires (ones (l.take (i + 1))) = wires (ones (l.take i)) ++ [.int .i64 l[i].1, .int .i64 l[i].2.1, .int .i64 1] := by
  rw [List.take_succ_eq_append_getElem h]
  simp only [ones, List.map_append, wires, List.flatMap_append, List.map_cons, List.map_nil, List.flatMap_cons, List.flatMap_nil, List.append_nil, wireV]

set_option maxRecDepth 100000 in
set_option maxHeartbeats 4000000 in
theorem specCountTrees (M : Nat) (E S : Int) (a : Option Addr) (n c : Nat) (l : List Wz) (hok : NetOk M E S l) (w : World) (hr : ArgRow w a n c 3 (wires l)) (hl : l.length = n) (hn : n ≤ 1048576) :
    Calls Try.prog 82 #[netV M E S a n c] w fun e w' => e = .returned (.int .i64 (leftW M (ones l) [0] [0])) ∧ Below w.heap.size w w' := by
  obtain ⟨i0, hi, hz0, hz1, hz2⟩ := info_parts infoWire
  have HI := Lib.hid (And.intro hi (And.intro hz0 (And.intro hz1 hz2)))
  clear hi hz0 hz1 hz2
  have HR := Lib.hid hr
  have HL := Lib.hid hl
  have KN := Lib.hid (fun (w : World) rr => specNetOk M E S a n c l true ⟨fun _ => hok, fun _ => rfl⟩ w rr hl)
  have KT := Lib.hid (fun a' c' (w : World) rr => specTreeSum M E 1 a' n c' (ones l) (hok.ones (by omega) (by omega)) w rr (by rw [ones_len]; exact hl))
  clear hr hok
  go_enter Try.func82, Try.ntmps82
  go_wp2_with fail
  refine (KN.out _ (HR.out.below (by (repeat' (first | (with_reducible exact Below.refl _ _) | (with_reducible assumption) | (with_reducible refine balloc ?_ _) | (with_reducible refine Below.drew ?_) | (with_reducible refine below_drewN ?_ _) | (with_reducible refine bset ?_ ?_ _) | (with_reducible refine bstep ?_ (by assumption)) | go_size))))).mono ?_
  rintro e w1 ⟨rfl, hb1⟩
  obtain ⟨uu1, vv1, zz1, nn1, mm1⟩ := bltn hb1 (b := w.heap.size) (by (first | omega | (simp only [World.size_alloc, World.size_setCell, World.size_drew, World.heap_drewN]; omega)))
  have B1 : Hid (Below w.heap.size w w1) := bstep (by (repeat' (first | (with_reducible exact Below.refl _ _) | (with_reducible assumption) | (with_reducible refine balloc ?_ _) | (with_reducible refine Below.drew ?_) | (with_reducible refine below_drewN ?_ _) | (with_reducible refine bset ?_ ?_ _) | (with_reducible refine bstep ?_ (by assumption)) | go_size))) hb1
  go_wp2_with fail
  obtain ⟨q0, hq0⟩ : ∃ q0, q0 = w1.heap.size := ⟨_, rfl⟩
  have hqw : w.heap.size ≤ q0 := by omega
  have HX0 : Hid (Bx (w1.alloc (.cells #[.int .i64 M, .int .i64 E, .int .i64 1, .slice none 0 0] 25)) q0 (.int .i64 M) (.int .i64 E) (.int .i64 1) (.slice none 0 0)) := by
    subst hq0
    refine ⟨?_, ?_, ?_, ?_⟩ <;> simp [go_sem]
  have HF0 : Hid ((w1.alloc (.cells #[.int .i64 M, .int .i64 E, .int .i64 1, .slice none 0 0] 25)).frozen? ⟨q0, 3, none⟩ = false) := by
    subst hq0; show _ = _; simp [go_sem]
  have HZ0 : Hid (q0 < (w1.alloc (.cells #[.int .i64 M, .int .i64 E, .int .i64 1, .slice none 0 0] 25)).heap.size) := by
    subst hq0; show _ < _; simp
  rw [← hq0]
  clear hq0 uu1 vv1 zz1 nn1 mm1 hb1
  go_loopw [17] (fun v wr => ∃ (i : Nat) (a' : Option Addr) (c' : Nat), i ≤ n ∧ v = .int .i64 i ∧ Hid (Bx wr q0 (.int .i64 M) (.int .i64 E) (.int .i64 1) (.slice a' i c')) ∧ Hid (wr.frozen? ⟨q0, 3, none⟩ = false) ∧ Hid (q0 < wr.heap.size) ∧ Hid (wr.ownsRow (q0 + 1) 104 3 (.slice a' i c') i (wires (ones (l.take i)))) ∧ Hid (Below w.heap.size w wr)) (fun v _ => n - (intOf v).toNat)
  case atStart => exact ⟨0, none, 0, by omega, rfl, HX0.out, HF0.out, HZ0.out, World.ownsRow_nil _ _ _ _, balloc B1.out _⟩
  case round =>
    clear HX0 HF0 HZ0
    obtain ⟨i, a', c', hi, rfl, HX, HF, HZ, HO, HB⟩ := hrel
    obtain ⟨x0, x1, x2, x3⟩ := HX.out
    have hzq := HZ.out
    by_cases hlt : i < n
    · obtain ⟨b, o, rfl, hb, _⟩ := HR.out.form (by omega)
      have hli : i < l.length := by rw [HL.out]; exact hlt
      obtain ⟨p0, p1, p2⟩ := wire_cells HR.out i hli
      rw [← HB.out.cell (p := ⟨b, _, none⟩) hb] at p0 p1 p2
      have hbl : b < wr.heap.size := Nat.lt_of_lt_of_le hb HB.out.size
      have hbn : ¬ b = wr.heap.size := by omega
      have hbn' : ¬ wr.heap.size = b := by omega
      have hqn : ¬ q0 = wr.heap.size := by omega
      have hqn' : ¬ wr.heap.size = q0 := by omega
      have HT := Lib.hid (ones_take l i hli)
      generalize l[i] = x at p0 p1 p2 HT
      obtain ⟨y0, y1, y2⟩ := x
      have hown := HO.out
      clear hli
      go_wp2_with (at_builtin; refine wpList_append_own _ rfl _ _ 23 rfl (q0 + 1) 104 i0 (.agg #[.int .i64 0, .int .i64 0, .int .i64 0]) 3 24 Try.underlying23 HI.out.1 HI.out.2.1 HI.out.2.2.1 HI.out.2.2.2 rfl (by decide) _ _ _ rfl ((hown.alloc _).alloc _) ⟨wr.heap.size + 1, 0, none⟩ 1 1 [.int .i64 y0, .int .i64 y1, .int .i64 1] rfl rfl ?c1 ?c2 ?c3 ?c4 ?c5 ?_)
      case c2 => exact ⟨rfl, rfl, rfl⟩
      case c3 => unfold maxLen; omega
      case c4 => omega
      case c5 => first | omega | (simp; omega)
      intro v' w7 hown' hgrow _
      obtain ⟨g3, c3, rfl⟩ := own_some hown' (by omega)
      have hrow : some q0 ≠ Value.ownBlock (.slice a' i c') := by
        intro e
        have := (hown.lt q0 e.symm).1
        omega
      have hblk := hgrow.block q0 (by simp; omega) hrow
      have kc (o : Nat) : w7.cell? ⟨q0, o, none⟩ = wr.cell? ⟨q0, o, none⟩ := by
        rw [World.cell?_of_block (a := ⟨q0, o, none⟩) hblk]
        exact (balloc (balloc (Below.refl _ _) _) _).cell (p := ⟨q0, o, none⟩) hzq
      have kf : w7.frozen? ⟨q0, 3, none⟩ = false := by
        rw [World.frozen?_of_block (a := ⟨q0, 3, none⟩) hblk]
        exact ((balloc (balloc (Below.refl _ _) _) _).frozen (p := ⟨q0, 3, none⟩) hzq).trans HF.out
      have HX7 : Bx w7 q0 (.int .i64 M) (.int .i64 E) (.int .i64 1) (.slice a' i c') := ⟨(kc 0).trans x0, (kc 1).trans x1, (kc 2).trans x2, (kc 3).trans x3⟩
      have hx3 := HX7.2.2.2
      have HX8 := Lib.hid (HX7.put3 (.slice (some ⟨g3, 0, none⟩) (i + 1) c3))
      have hg3 := own_base hown' _ rfl
      simp only at hg3
      have hsz := hgrow.size
      have hz7 : q0 < w7.heap.size := by omega
      have H7 : Hid ((w7.setCell ⟨q0, 3, none⟩ (.slice (some ⟨g3, 0, none⟩) (i + 1) c3)).ownsRow (q0 + 1) 104 3 (.slice (some ⟨g3, 0, none⟩) (i + 1) c3) (i + 1) (wires (ones (l.take (i + 1))))) := by
        show World.ownsRow _ _ _ _ _ _ _
        rw [HT.out]
        exact ownsRow_setCell_below hown' (by show q0 < q0 + 1; omega) _
      have HB7 : Hid (Below w.heap.size w (w7.setCell ⟨q0, 3, none⟩ (.slice (some ⟨g3, 0, none⟩) (i + 1) c3))) := bset ((balloc (balloc HB.out _) _).grown hgrow (by have := HB.out.size; simp; omega) (fun k hk => by have := (hown.lt k hk).1; omega)) (by show _ ≤ q0; omega) _
      have HF7 : Hid ((w7.setCell ⟨q0, 3, none⟩ (.slice (some ⟨g3, 0, none⟩) (i + 1) c3)).frozen? ⟨q0, 3, none⟩ = false) := by show _ = _; simp [go_sem, kf]
      have HZ7 : Hid (q0 < (w7.setCell ⟨q0, 3, none⟩ (.slice (some ⟨g3, 0, none⟩) (i + 1) c3)).heap.size) := by show _ < _; simpa using hz7
      clear hown hown' hgrow hblk hrow hsz HX7 kc
      go_wp2_with fail
      go_roundw
      case rel => exact ⟨i + 1, some ⟨g3, 0, none⟩, c3, by omega, by go_num, HX8.out, HF7.out, HZ7.out, H7.out, HB7.out⟩
      case measure => simp [intOf]; omega
    · obtain rfl : i = n := by omega
      have HR3 : Hid (ArgRow wr a' i c' 3 (wires (ones l))) := by
        have := ArgRow.own' HO.out
        rw [List.take_of_length_le (by rw [HL.out]; omega)] at this
        exact this
      go_wp2_with fail
      refine (KT.out a' c' _ HR3.out).mono ?_
      rintro e w6 ⟨rfl, hb6⟩
      go_wp2_with fail
      go_ret
      exact ⟨rfl, bstep HB.out hb6⟩
set_option maxRecDepth 100000 in
set_option maxHeartbeats 4000000 in
theorem specCountTrees0 (N E S : Int) (a : Option Addr) (n c : Nat) (l : List Wz) (hok : ¬ NetOk N E S l) (w : World) (hr : ArgRow w a n c 3 (wires l)) (hl : l.length = n) :
    Calls Try.prog 82 #[netV N E S a n c] w fun e w' => e = .returned (.int .i64 0) ∧ Below w.heap.size w w' := by
  have HR := Lib.hid hr
  have KN := Lib.hid (fun (w : World) rr => specNetOk N E S a n c l false ⟨(fun h => by cases h), fun h => absurd h hok⟩ w rr hl)
  clear hr hok
  go_enter Try.func82, Try.ntmps82
  go_wp2_with fail
  refine (KN.out _ (HR.out.below (by (repeat' (first | (with_reducible exact Below.refl _ _) | (with_reducible assumption) | (with_reducible refine balloc ?_ _) | (with_reducible refine Below.drew ?_) | (with_reducible refine below_drewN ?_ _) | (with_reducible refine bset ?_ ?_ _) | (with_reducible refine bstep ?_ (by assumption)) | go_size))))).mono ?_
  rintro e w1 ⟨rfl, hb1⟩
  go_wp2_with fail
  go_ret
  exact ⟨rfl, bstep (by (repeat' (first | (with_reducible exact Below.refl _ _) | (with_reducible assumption) | (with_reducible refine balloc ?_ _) | (with_reducible refine Below.drew ?_) | (with_reducible refine below_drewN ?_ _) | (with_reducible refine bset ?_ ?_ _) | (with_reducible refine bstep ?_ (by assumption)) | go_size))) hb1⟩
end Go.Proofs.Ytdmiihljepkapaa
