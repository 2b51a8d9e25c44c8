/- Networks of the laws' own make: copied, weighed, compared. -/
import Derived.Test.YtdmiihljepkapaaOpen
namespace Go.Proofs.Ytdmiihljepkapaa
set_option linter.unusedSimpArgs false
set_option linter.unusedVariables false
open Go.RowKit

abbrev wireA (x : Wz) : Value := .agg #[.int .i64 x.1, .int .i64 x.2.1, .int .i64 x.2.2]

set_option maxHeartbeats 1000000 in
theorem toWire (p q r : Int) (w : World) :
    Calls Try.prog 168 #[.agg #[.int .i64 p, .int .i64 q, .int .i64 r]] w fun e w' => e = .returned (.agg #[.int .i64 p, .int .i64 q, .int .i64 r]) ∧ Below w.heap.size w w' := by
  go_enter Try.func168, Try.ntmps168
  go_wp2_with fail
  go_returns
  exact ⟨rfl, by (repeat' (first | (with_reducible exact Below.refl _ _) | (with_reducible assumption) | (with_reducible refine balloc ?_ _) | (with_reducible refine Below.drew ?_) | (with_reducible refine below_drewN ?_ _) | (with_reducible refine bset ?_ ?_ _) | (with_reducible refine bstep ?_ (by assumption)) | go_size))⟩

set_option maxHeartbeats 1000000 in
theorem szWires (a : Option Addr) (n c : Nat) (k : Nat) (w : World) (hn : n ≤ maxLen) (hk : k ≤ 1048576) :
    Calls Try.prog 116 #[.slice a n c, .int .i64 k] w fun e w' => (e = .returned (.int .i64 (if k < n then -1 else (k : Int) - n))) ∧ w = w' := by
  unfold maxLen at hn
  by_cases h : k < n
  · rw [if_pos h]
    go_enter Try.func116, Try.ntmps116
    go_wp2_with fail
    go_ret
    exact ⟨rfl, rfl⟩
  · rw [if_neg h]
    go_enter Try.func116, Try.ntmps116
    go_wp2_with fail
    go_ret
    exact ⟨rfl, rfl⟩

theorem szNet (N E S : Int) (a : Option Addr) (n c : Nat) (w : World) (hn : n ≤ maxLen) :
    Calls Try.prog 41 #[.agg #[.int .i64 N, .int .i64 E, .int .i64 S, .slice a n c], .int .i64 1048576] w fun e w' => (e = .returned (.int .i64 (if 1048576 < n then -1 else (1048576 : Int) - n))) ∧ Below w.heap.size w w' := by
  have K := Lib.hid (fun w => szWires a n c 1048576 w hn (by omega))
  unfold maxLen at hn
  by_cases h : 1048576 < n
  · rw [if_pos h] at K ⊢
    go_enter Try.func41, Try.ntmps41
    go_wp2_with fail
    refine (K.out _).mono ?_
    rintro e w' ⟨rfl, rfl⟩
    go_wp2_with fail
    go_ret
    exact ⟨rfl, by (repeat' (first | (with_reducible exact Below.refl _ _) | (with_reducible assumption) | (with_reducible refine balloc ?_ _) | (with_reducible refine Below.drew ?_) | (with_reducible refine below_drewN ?_ _) | (with_reducible refine bset ?_ ?_ _) | (with_reducible refine bstep ?_ (by assumption)) | go_size))⟩
  · rw [if_neg h] at K ⊢
    go_enter Try.func41, Try.ntmps41
    go_wp2_with fail
    refine (K.out _).mono ?_
    rintro e w' ⟨rfl, rfl⟩
    go_wp2_with fail
    go_ret
    exact ⟨rfl, by (repeat' (first | (with_reducible exact Below.refl _ _) | (with_reducible assumption) | (with_reducible refine balloc ?_ _) | (with_reducible refine Below.drew ?_) | (with_reducible refine below_drewN ?_ _) | (with_reducible refine bset ?_ ?_ _) | (with_reducible refine bstep ?_ (by assumption)) | go_size))⟩

theorem wires_get (l : List Wz) : ∀ (i : Nat) (h : i < l.length), (wires l)[i * 3]? = some (.int .i64 l[i].1) ∧ (wires l)[i * 3 + 1]? = some (.int .i64 l[i].2.1) ∧ (wires l)[i * 3 + 2]? = some (.int .i64 l[i].2.2) := by
  induction l with
  | nil => intro i h; simp at h
  | cons a l ih =>
    intro i h
    have e : wires (a :: l) = .int .i64 a.1 :: .int .i64 a.2.1 :: .int .i64 a.2.2 :: wires l := rfl
    cases i with
    | zero => rw [e]; simp
    | succ i =>
      have := ih i (by simpa using h)
      rw [e, show (i + 1) * 3 = i * 3 + 1 + 1 + 1 from by omega]
      simpa using this
/-- the cells of one wire -/
theorem wire_cells {w : World} {b o n c : Nat} {l : List Wz} (h : ArgRow w (some ⟨b, o, none⟩) n c 3 (wires l)) (i : Nat) (hi : i < l.length) :
    w.cell? ⟨b, o + i * 3, none⟩ = some (.int .i64 l[i].1) ∧ w.cell? ⟨b, o + i * 3 + 1, none⟩ = some (.int .i64 l[i].2.1) ∧ w.cell? ⟨b, o + i * 3 + 2, none⟩ = some (.int .i64 l[i].2.2) := by
  have hl := wires_len l
  have hn : 0 < n := by have := h.1; omega
  obtain ⟨b', o', e, _, hc⟩ := h.form hn
  cases e
  obtain ⟨g0, g1, g2⟩ := wires_get l i hi
  rw [List.getElem?_eq_getElem (by omega)] at g0 g1 g2
  simp only [Option.some.injEq] at g0 g1 g2
  refine ⟨?_, ?_, ?_⟩
  · rw [hc (i * 3) (by omega), g0]
  · rw [show o + i * 3 + 1 = o + (i * 3 + 1) from by omega, hc (i * 3 + 1) (by omega), g1]
  · rw [show o + i * 3 + 2 = o + (i * 3 + 2) from by omega, hc (i * 3 + 2) (by omega), g2]
theorem wires_take (l : List Wz) (zs : List Value) (i : Nat) (h : i < l.length) (hz : zs.length = l.length * 3) :
    (((wires (l.take i) ++ zs.drop (i * 3)).set (i * 3) (.int .i64 l[i].1)).set (i * 3 + 1) (.int .i64 l[i].2.1)).set (i * 3 + 2) (.int .i64 l[i].2.2) = wires (l.take (i + 1)) ++ zs.drop ((i + 1) * 3) := by
  have hl : (wires (l.take i)).length = i * 3 := by rw [wires_len, List.length_take]; omega
  obtain ⟨z0, z1, z2, r, hd⟩ : ∃ z0 z1 z2 r, zs.drop (i * 3) = z0 :: z1 :: z2 :: r := by
    have : 3 ≤ (zs.drop (i * 3)).length := by rw [List.length_drop]; omega
    match hd : zs.drop (i * 3), this with
    | z0 :: z1 :: z2 :: r, _ => exact ⟨z0, z1, z2, r, rfl⟩
  have hr : zs.drop ((i + 1) * 3) = r := by
    rw [show (i + 1) * 3 = i * 3 + 3 from by omega, ← List.drop_drop, hd]; rfl
  rw [hd, hr, List.take_succ_eq_append_getElem h]
  rw [List.set_append_right _ _ (by omega), hl, List.set_append_right _ _ (by omega), hl, List.set_append_right _ _ (by omega), hl]
  rw [show wires (l.take i ++ [l[i]]) = wires (l.take i) ++ wireV l[i] from by simp only [wires, List.flatMap_append, List.flatMap_cons, List.flatMap_nil, List.append_nil]]
  generalize wires (l.take i) = x
  simp [wireV]

/-- a struct of three cells stored into an owned row -/
theorem own_store3 {w : World} {base g n c : Nat} {e : TypeId} {xs : List Value} (h : w.ownsRow base e 3 (.slice (some ⟨g, 0, none⟩) n c) n xs) (i : Nat) (hi : i < n) (u0 u1 u2 : Value) :
    ∃ v0 v1 v2, w.cell? ⟨g, i * 3, none⟩ = some v0 ∧ w.cell? ⟨g, i * 3 + 1, none⟩ = some v1 ∧ w.cell? ⟨g, i * 3 + 2, none⟩ = some v2 ∧
    w.frozen? ⟨g, i * 3, none⟩ = false ∧ w.frozen? ⟨g, i * 3 + 1, none⟩ = false ∧ w.frozen? ⟨g, i * 3 + 2, none⟩ = false ∧
    (((w.setCell ⟨g, i * 3, none⟩ u0).setCell ⟨g, i * 3 + 1, none⟩ u1).setCell ⟨g, i * 3 + 2, none⟩ u2).ownsRow base e 3 (.slice (some ⟨g, 0, none⟩) n c) n (((xs.set (i * 3) u0).set (i * 3 + 1) u1).set (i * 3 + 2) u2) := by
  have hl : xs.length = n * 3 := h.1
  refine ⟨xs[i * 3]'(by omega), xs[i * 3 + 1]'(by omega), xs[i * 3 + 2]'(by omega), ?_, ?_, ?_, h.frozenAt _, h.frozenAt _, h.frozenAt _, ((((h.stored _ u0).1).stored _ u1).1.stored _ u2).1⟩
  · rw [h.cellAt _ (by omega), List.getElem?_eq_getElem (by omega)]
  · rw [h.cellAt _ (by omega), List.getElem?_eq_getElem (by omega)]
  · rw [h.cellAt _ (by omega), List.getElem?_eq_getElem (by omega)]
set_option maxHeartbeats 2000000 in
theorem toWires (a : Option Addr) (n c : Nat) (l : List Wz) (w : World) (hr : ArgRow w a n c 3 (wires l)) (hl : l.length = n) (hn : n ≤ 1048576) :
    Calls Try.prog 117 #[.slice a n c] w fun e w' => ∃ g, e = .returned (.slice (some ⟨g, 0, none⟩) n n) ∧ w'.ownsRow w.heap.size 104 3 (.slice (some ⟨g, 0, none⟩) n n) n (wires l) ∧ Below w.heap.size w w' := by
  have hmk := run_make_rows (P := Try.prog) 23 104 (.agg #[.int .i64 0, .int .i64 0, .int .i64 0]) 3 24 Try.underlying23 (by kernel_rfl) .i64 .i64 n (by omega) (by omega)
  have HZ : Hid ((w.alloc (.cells (madeCells #[Value.int .i64 0, Value.int .i64 0, Value.int .i64 0] (n * 3)) 104)).ownsRow w.heap.size 104 3 (.slice (some ⟨w.heap.size, 0, none⟩) n n) n (madeCells #[Value.int .i64 0, Value.int .i64 0, Value.int .i64 0] (n * 3)).toList) :=
    World.ownsRow_lit w _ n (Nat.le_refl _) (by unfold maxLen; omega) (size_madeCells _ _)
  have hzl : (madeCells #[Value.int .i64 0, Value.int .i64 0, Value.int .i64 0] (n * 3)).toList.length = l.length * 3 := by rw [Array.length_toList, size_madeCells, hl]
  obtain ⟨zs, hzs⟩ : ∃ zs, madeCells #[Value.int .i64 0, Value.int .i64 0, Value.int .i64 0] (n * 3) = zs := ⟨_, rfl⟩
  have hmk' : ∀ (w : World), Sem.run Try.prog (Instr.makeSlice 23 (Value.int IntKind.i64 ↑n) (Value.int IntKind.i64 ↑n)) w = Result.ok (Value.slice (some { block := w.heap.size, off := 0 }) n n) (w.alloc (Obj.cells zs 104)) := by
    intro w; rw [← hzs]; exact hmk w
  rw [hzs] at HZ hzl
  clear hmk hzs
  have HR := Lib.hid hr
  have HL := Lib.hid hl
  have HZL := Lib.hid hzl
  clear hr hl hzl
  go_enter Try.func117, Try.ntmps117
  go_wp2_with fail
  go_loopw [4] (fun u wr => ∃ i : Nat, i ≤ n ∧ u = .int .i64 i ∧ Hid (wr.ownsRow w.heap.size 104 3 (.slice (some ⟨w.heap.size, 0, none⟩) n n) n (wires (l.take i) ++ zs.toList.drop (i * 3))) ∧ Hid (Below w.heap.size w wr)) (fun u _ => n - (intOf u).toNat)
  case atStart => exact ⟨0, by omega, rfl, by simpa [Hid, wires] using HZ.out, balloc (Below.refl _ _) _⟩
  case round =>
    obtain ⟨i, hi, rfl, H, HB⟩ := hrel
    by_cases hlt : i < n
    · have hli : i < l.length := by rw [HL.out]; exact hlt
      obtain ⟨b, o, rfl, hb, hcell⟩ := HR.out.form (by omega)
      have hbl : b < wr.heap.size := Nat.lt_of_lt_of_le hb HB.out.size
      have hgl : w.heap.size < wr.heap.size := (own_base H.out _ rfl).2
      obtain ⟨c0, c1, c2⟩ := wire_cells HR.out i hli
      rw [← HB.out.cell (p := ⟨b, _, none⟩) hb] at c0 c1 c2
      generalize hxx : l[i] = x at c0 c1 c2
      obtain ⟨x0, x1, x2⟩ := x
      have HX := Lib.hid hxx
      clear hcell hxx
      go_wp2_with fail
      refine (toWire x0 x1 x2 _).mono ?_
      rintro e w1 ⟨rfl, hb1⟩
      obtain ⟨t0, t1, t2, d0, d1, d2, f0, f1, f2, h2⟩ := own_store3 (own_below H.out hb1) i hlt (.int .i64 x0) (.int .i64 x1) (.int .i64 x2)
      have hgl1 : w.heap.size < w1.heap.size := Nat.lt_of_lt_of_le hgl hb1.size
      have H2 : Hid ((((w1.setCell ⟨w.heap.size, i * 3, none⟩ (.int .i64 x0)).setCell ⟨w.heap.size, i * 3 + 1, none⟩ (.int .i64 x1)).setCell ⟨w.heap.size, i * 3 + 2, none⟩ (.int .i64 x2)).ownsRow w.heap.size 104 3 (.slice (some ⟨w.heap.size, 0, none⟩) n n) n (wires (l.take (i + 1)) ++ zs.toList.drop ((i + 1) * 3))) := by
        have e := wires_take l zs.toList i hli HZL.out
        rw [HX.out] at e
        show World.ownsRow _ _ _ _ _ _ _
        rw [← e]; exact h2
      have H3 : Hid (Below w.heap.size w (((w1.setCell ⟨w.heap.size, i * 3, none⟩ (.int .i64 x0)).setCell ⟨w.heap.size, i * 3 + 1, none⟩ (.int .i64 x1)).setCell ⟨w.heap.size, i * 3 + 2, none⟩ (.int .i64 x2))) :=
        (((bstep HB.out hb1).setCell (Nat.le_refl _) _).setCell (Nat.le_refl _) _).setCell (Nat.le_refl _) _
      clear h2 hb1
      go_wp2_with fail
      go_roundw
      case rel => exact ⟨i + 1, by omega, by go_num, H2.out, H3.out⟩
      case measure => simp [intOf]; omega
    · obtain rfl : i = n := by omega
      go_wp2_with fail
      go_ret
      refine ⟨_, rfl, ?_, HB.out⟩
      have := H.out
      rw [List.take_of_length_le (by rw [HL.out]; omega), List.drop_eq_nil_of_le (by rw [HZL.out, HL.out]; omega), List.append_nil] at this
      exact this
abbrev netV (N E S : Int) (a : Option Addr) (n c : Nat) : Value := .agg #[.int .i64 N, .int .i64 E, .int .i64 S, .slice a n c]

set_option maxRecDepth 100000 in
set_option maxHeartbeats 2000000 in
theorem toNet (N E S : Int) (a : Option Addr) (n c : Nat) (l : List Wz) (w : World) (hr : ArgRow w a n c 3 (wires l)) (hl : l.length = n) (hn : n ≤ 1048576) :
    Calls Try.prog 43 #[netV N E S a n c] w fun e w' => ∃ g, e = .returned (netV N E S (some ⟨g, 0, none⟩) n n) ∧ w'.ownsRow w.heap.size 104 3 (.slice (some ⟨g, 0, none⟩) n n) n (wires l) ∧ Below w.heap.size w w' := by
  have HR := Lib.hid hr
  have HL := Lib.hid hl
  clear hr hl
  go_enter Try.func43, Try.ntmps43
  go_wp2_with fail
  refine (toWires a n c l _ (HR.out.below (by (repeat' (first | (with_reducible exact Below.refl _ _) | (with_reducible assumption) | (with_reducible refine balloc ?_ _) | (with_reducible refine Below.drew ?_) | (with_reducible refine below_drewN ?_ _) | (with_reducible refine bset ?_ ?_ _) | (with_reducible refine bstep ?_ (by assumption)) | go_size)))) HL.out hn).mono ?_
  rintro e w1 ⟨g, rfl, o1, b1⟩
  obtain ⟨u0, v0, l0⟩ := blt b1 (b := w.heap.size) (by (first | omega | (simp only [World.size_alloc, World.size_setCell, World.size_drew, World.heap_drewN]; omega)))
  obtain ⟨u1, v1, l1⟩ := blt b1 (b := w.heap.size + 1) (by (first | omega | (simp only [World.size_alloc, World.size_setCell, World.size_drew, World.heap_drewN]; omega)))
  obtain ⟨u2, v2, l2⟩ := blt b1 (b := w.heap.size + 1 + 1) (by (first | omega | (simp only [World.size_alloc, World.size_setCell, World.size_drew, World.heap_drewN]; omega)))
  have hg := own_base o1 _ rfl
  have B1 : Below w.heap.size w w1 := bstep (by (repeat' (first | (with_reducible exact Below.refl _ _) | (with_reducible assumption) | (with_reducible refine balloc ?_ _) | (with_reducible refine Below.drew ?_) | (with_reducible refine below_drewN ?_ _) | (with_reducible refine bset ?_ ?_ _) | (with_reducible refine bstep ?_ (by assumption)) | go_size))) b1
  have O1 := Lib.hid o1
  clear o1 b1
  go_wp2_with fail
  have rs0 : (w1.cell? { block := w.heap.size + 1, off := 0 }).isSome = true := by simp [go_sem, u1]
  have rs1 : (w1.cell? { block := w.heap.size + 1, off := 1 }).isSome = true := by simp [go_sem, u1]
  have rs2 : (w1.cell? { block := w.heap.size + 1, off := 2 }).isSome = true := by simp [go_sem, u1]
  have rs3 : (w1.cell? { block := w.heap.size + 1, off := 3 }).isSome = true := by simp [go_sem, u1]
  refine bodyPost_ret (v := _) (by simp [results, Try.results43, go_sem, rs0, rs1, rs2, rs3]; try rfl) rfl ?_
  refine ⟨g, rfl, World.ownsRow.mono (base := w.heap.size + 1 + 1 + 1) ?_ (by omega), by (repeat' (first | (with_reducible exact Below.refl _ _) | (with_reducible assumption) | (with_reducible refine balloc ?_ _) | (with_reducible refine Below.drew ?_) | (with_reducible refine below_drewN ?_ _) | (with_reducible refine bset ?_ ?_ _) | (with_reducible refine bstep ?_ (by assumption)) | go_size))⟩
  have o2 := O1.out
  simp only [World.size_alloc] at o2
  repeat' (first | with_reducible exact o2 | (with_reducible refine ownsRow_setCell_below ?_ ?_ _) | (dsimp only; omega) | omega)
end Go.Proofs.Ytdmiihljepkapaa
