/- Rows of numbers in the laws: copied, compared. -/
import Derived.Test.YtjchindjoailbaaG01
namespace Go.Proofs.Ytjchindjoailbaa
set_option linter.unusedSimpArgs false
set_option linter.unusedVariables false
open Go.RowKit

theorem ints_take (l : List Int) (zs : List Value) (i : Nat) (h : i < l.length) (hz : zs.length = l.length) :
    (ints (l.take i) ++ zs.drop i).set i (.int .i64 l[i]) = ints (l.take (i + 1)) ++ zs.drop (i + 1) := by
  have hl : (ints (l.take i)).length = i := by rw [ints_len, List.length_take]; omega
  rw [List.set_append_right _ _ (by omega), hl, Nat.sub_self, List.drop_eq_getElem_cons (by omega), List.set_cons_zero, List.take_succ_eq_append_getElem h, ints_append, List.append_assoc]
  rfl

end Go.Proofs.Ytjchindjoailbaa

/- Rows of fractions in the laws: copied, compared, weighed. -/
namespace Go.Proofs.Ytjchindjoailbaa
set_option linter.unusedSimpArgs false
set_option linter.unusedVariables false
open Go.RowKit

abbrev Rz := Int × Int
def ratC (x : Rz) : List Value := [.int .i64 x.1, .int .i64 x.2]
def rats (l : List Rz) : List Value := l.flatMap ratC
theorem rats_len (l : List Rz) : (rats l).length = l.length * 2 := flat_len ratC 2 (fun _ => rfl) l
theorem ArgRow.rats_len {w : World} {a : Option Addr} {n c : Nat} {l : List Rz} (h : ArgRow w a n c 2 (rats l)) : l.length = n := by
  have h1 := h.1
  rw [Proofs.Ytjchindjoailbaa.rats_len] at h1; omega
theorem rats_get (l : List Rz) : ∀ (i : Nat) (h : i < l.length), (rats l)[i * 2]? = some (.int .i64 l[i].1) ∧ (rats l)[i * 2 + 1]? = some (.int .i64 l[i].2) := by
  induction l with
  | nil => intro i h; simp at h
  | cons a l ih =>
    intro i h
    have e : rats (a :: l) = .int .i64 a.1 :: .int .i64 a.2 :: rats l := rfl
    cases i with
    | zero => rw [e]; simp
    | succ i =>
      have := ih i (by simpa using h)
      rw [e, show (i + 1) * 2 = i * 2 + 1 + 1 from by omega]
      simpa using this
theorem rat_cells {w : World} {b o n c : Nat} {l : List Rz} (h : ArgRow w (some ⟨b, o, none⟩) n c 2 (rats l)) (i : Nat) (hi : i < l.length) :
    w.cell? ⟨b, o + i * 2, none⟩ = some (.int .i64 l[i].1) ∧ w.cell? ⟨b, o + i * 2 + 1, none⟩ = some (.int .i64 l[i].2) := by
  have hl := rats_len l
  have hn : 0 < n := by have := h.1; omega
  obtain ⟨b', o', e, _, hc⟩ := h.form hn
  cases e
  obtain ⟨g0, g1⟩ := rats_get l i hi
  rw [List.getElem?_eq_getElem (by omega)] at g0 g1
  simp only [Option.some.injEq] at g0 g1
  refine ⟨?_, ?_⟩
  · rw [hc (i * 2) (by omega), g0]
  · rw [show o + i * 2 + 1 = o + (i * 2 + 1) from by omega, hc (i * 2 + 1) (by omega), g1]
theorem rats_take (l : List Rz) (zs : List Value) (i : Nat) (h : i < l.length) (hz : zs.length = l.length * 2) :
    ((rats (l.take i) ++ zs.drop (i * 2)).set (i * 2) (.int .i64 l[i].1)).set (i * 2 + 1) (.int .i64 l[i].2) = rats (l.take (i + 1)) ++ zs.drop ((i + 1) * 2) := by
  have hl : (rats (l.take i)).length = i * 2 := by rw [rats_len, List.length_take]; omega
  obtain ⟨z0, z1, r, hd⟩ : ∃ z0 z1 r, zs.drop (i * 2) = z0 :: z1 :: r := by
    have : 2 ≤ (zs.drop (i * 2)).length := by rw [List.length_drop]; omega
    match hd : zs.drop (i * 2), this with
    | z0 :: z1 :: r, _ => exact ⟨z0, z1, r, rfl⟩
  have hr : zs.drop ((i + 1) * 2) = r := by
    rw [show (i + 1) * 2 = i * 2 + 2 from by omega, ← List.drop_drop, hd]; rfl
  rw [hd, hr, List.take_succ_eq_append_getElem h]
  rw [List.set_append_right _ _ (by omega), hl, List.set_append_right _ _ (by omega), hl]
  rw [show rats (l.take i ++ [l[i]]) = rats (l.take i) ++ ratC l[i] from by simp only [rats, List.flatMap_append, List.flatMap_cons, List.flatMap_nil, List.append_nil]]
  generalize rats (l.take i) = x
  simp [ratC]
theorem own_store2 {w : World} {base g n c : Nat} {e : TypeId} {xs : List Value} (h : w.ownsRow base e 2 (.slice (some ⟨g, 0, none⟩) n c) n xs) (i : Nat) (hi : i < n) (u0 u1 : Value) :
    ∃ v0 v1, w.cell? ⟨g, i * 2, none⟩ = some v0 ∧ w.cell? ⟨g, i * 2 + 1, none⟩ = some v1 ∧
    w.frozen? ⟨g, i * 2, none⟩ = false ∧ w.frozen? ⟨g, i * 2 + 1, none⟩ = false ∧
    ((w.setCell ⟨g, i * 2, none⟩ u0).setCell ⟨g, i * 2 + 1, none⟩ u1).ownsRow base e 2 (.slice (some ⟨g, 0, none⟩) n c) n ((xs.set (i * 2) u0).set (i * 2 + 1) u1) := by
  have hl : xs.length = n * 2 := h.1
  refine ⟨xs[i * 2]'(by omega), xs[i * 2 + 1]'(by omega), ?_, ?_, h.frozenAt _, h.frozenAt _, ((h.stored _ u0).1.stored _ u1).1⟩
  · rw [h.cellAt _ (by omega), List.getElem?_eq_getElem (by omega)]
  · rw [h.cellAt _ (by omega), List.getElem?_eq_getElem (by omega)]

set_option maxHeartbeats 1000000 in
theorem toRat1 (p q : Int) (w : World) :
    Calls Try.prog 99 #[.agg #[.int .i64 p, .int .i64 q]] w fun e w' => e = .returned (.agg #[.int .i64 p, .int .i64 q]) ∧ Below w.heap.size w w' := by
  go_enter Try.func99, Try.ntmps99
  go_wp2_with fail
  go_returns
  exact ⟨rfl, by (repeat' (first | (with_reducible exact Below.refl _ _) | (with_reducible assumption) | (with_reducible refine balloc ?_ _) | (with_reducible refine Below.drew ?_) | (with_reducible refine below_drewN ?_ _) | (with_reducible refine bset ?_ ?_ _) | (with_reducible refine bstep ?_ (by assumption)) | go_size))⟩
set_option maxHeartbeats 1000000 in
theorem eqRat1 (p q : Int) (w : World) :
    Calls Try.prog 47 #[.agg #[.int .i64 p, .int .i64 q], .agg #[.int .i64 p, .int .i64 q]] w fun e w' => e = .returned (.bool true) ∧ Below w.heap.size w w' := by
  go_enter Try.func47, Try.ntmps47
  go_wp2_with fail
  go_ret
  exact ⟨rfl, by (repeat' (first | (with_reducible exact Below.refl _ _) | (with_reducible assumption) | (with_reducible refine balloc ?_ _) | (with_reducible refine Below.drew ?_) | (with_reducible refine below_drewN ?_ _) | (with_reducible refine bset ?_ ?_ _) | (with_reducible refine bstep ?_ (by assumption)) | go_size))⟩

set_option maxHeartbeats 2000000 in
theorem toRats (a : Option Addr) (n c : Nat) (l : List Rz) (w : World) (hr : ArgRow w a n c 2 (rats l)) (hn : n ≤ 1048576) :
    Calls Try.prog 46 #[.slice a n c] w fun e w' => ∃ g, e = .returned (.slice (some ⟨g, 0, none⟩) n n) ∧ w'.ownsRow w.heap.size 32 2 (.slice (some ⟨g, 0, none⟩) n n) n (rats l) ∧ Below w.heap.size w w' := by
  have hl := hr.rats_len
  have hmk := run_make_rows (P := Try.prog) 28 32 (.agg #[.int .i64 0, .int .i64 0]) 2 16 Try.underlying28 (by kernel_rfl) .i64 .i64 n (by omega) (by omega)
  have HZ : Hid ((w.alloc (.cells (madeCells #[Value.int .i64 0, Value.int .i64 0] (n * 2)) 32)).ownsRow w.heap.size 32 2 (.slice (some ⟨w.heap.size, 0, none⟩) n n) n (madeCells #[Value.int .i64 0, Value.int .i64 0] (n * 2)).toList) :=
    World.ownsRow_lit w _ n (Nat.le_refl _) (by unfold maxLen; omega) (size_madeCells _ _)
  have hzl : (madeCells #[Value.int .i64 0, Value.int .i64 0] (n * 2)).toList.length = l.length * 2 := by rw [Array.length_toList, size_madeCells, hl]
  obtain ⟨zs, hzs⟩ : ∃ zs, madeCells #[Value.int .i64 0, Value.int .i64 0] (n * 2) = zs := ⟨_, rfl⟩
  have hmk' : ∀ (w : World), Sem.run Try.prog (Instr.makeSlice 28 (Value.int IntKind.i64 ↑n) (Value.int IntKind.i64 ↑n)) w = Result.ok (Value.slice (some { block := w.heap.size, off := 0 }) n n) (w.alloc (Obj.cells zs 32)) := by
    intro w; rw [← hzs]; exact hmk w
  rw [hzs] at HZ hzl
  clear hmk hzs
  have HR := Lib.hid hr
  have HL := Lib.hid hl
  have HZL := Lib.hid hzl
  clear hr hl hzl
  go_enter Try.func46, Try.ntmps46
  go_wp2_with fail
  go_loopw [4] (fun u wr => ∃ i : Nat, i ≤ n ∧ u = .int .i64 i ∧ Hid (wr.ownsRow w.heap.size 32 2 (.slice (some ⟨w.heap.size, 0, none⟩) n n) n (rats (l.take i) ++ zs.toList.drop (i * 2))) ∧ Hid (Below w.heap.size w wr)) (fun u _ => n - (intOf u).toNat)
  case atStart => exact ⟨0, by omega, rfl, by simpa [Hid, rats] using HZ.out, balloc (Below.refl _ _) _⟩
  case round =>
    obtain ⟨i, hi, rfl, H, HB⟩ := hrel
    by_cases hlt : i < n
    · have hli : i < l.length := by rw [HL.out]; exact hlt
      obtain ⟨b, o, rfl, hb, hcell⟩ := HR.out.form (by omega)
      have hbl : b < wr.heap.size := Nat.lt_of_lt_of_le hb HB.out.size
      have hgl : w.heap.size < wr.heap.size := (own_base H.out _ rfl).2
      obtain ⟨c0, c1⟩ := rat_cells HR.out i hli
      rw [← HB.out.cell (p := ⟨b, _, none⟩) hb] at c0 c1
      generalize hxx : l[i] = x at c0 c1
      obtain ⟨x0, x1⟩ := x
      have HX := Lib.hid hxx
      clear hcell hxx
      go_wp2_with fail
      refine (toRat1 x0 x1 _).mono ?_
      rintro e w1 ⟨rfl, hb1⟩
      obtain ⟨t0, t1, d0, d1, f0, f1, h2⟩ := own_store2 (own_below H.out hb1) i hlt (.int .i64 x0) (.int .i64 x1)
      have hgl1 : w.heap.size < w1.heap.size := Nat.lt_of_lt_of_le hgl hb1.size
      have H2 : Hid (((w1.setCell ⟨w.heap.size, i * 2, none⟩ (.int .i64 x0)).setCell ⟨w.heap.size, i * 2 + 1, none⟩ (.int .i64 x1)).ownsRow w.heap.size 32 2 (.slice (some ⟨w.heap.size, 0, none⟩) n n) n (rats (l.take (i + 1)) ++ zs.toList.drop ((i + 1) * 2))) := by
        have e := rats_take l zs.toList i hli HZL.out
        rw [HX.out] at e
        show World.ownsRow _ _ _ _ _ _ _
        rw [← e]; exact h2
      have H3 : Hid (Below w.heap.size w ((w1.setCell ⟨w.heap.size, i * 2, none⟩ (.int .i64 x0)).setCell ⟨w.heap.size, i * 2 + 1, none⟩ (.int .i64 x1))) :=
        ((bstep HB.out hb1).setCell (Nat.le_refl _) _).setCell (Nat.le_refl _) _
      clear h2 hb1
      go_wp2_with fail
      go_roundw
      case rel => exact ⟨i + 1, by omega, by go_num, H2.out, H3.out⟩
      case measure => simp [intOf]; omega
    · obtain rfl : i = n := by omega
      go_wp2_with fail
      go_ret
      refine ⟨_, rfl, ?_, HB.out⟩
      have := H.out
      rw [List.take_of_length_le (by rw [HL.out]; omega), List.drop_eq_nil_of_le (by rw [HZL.out, HL.out]; omega), List.append_nil] at this
      exact this

set_option maxHeartbeats 2000000 in
theorem eqRats (a1 a2 : Option Addr) (n c1 c2 : Nat) (l : List Rz) (w : World) (r1 : ArgRow w a1 n c1 2 (rats l)) (r2 : ArgRow w a2 n c2 2 (rats l)) :
    Calls Try.prog 49 #[.slice a1 n c1, .slice a2 n c2] w fun e w' => e = .returned (.bool true) ∧ Below w.heap.size w w' := by
  have hl := r1.rats_len
  have hn := r1.le
  unfold maxLen at hn
  by_cases h0 : n = 0
  · subst h0
    clear r1 r2
    go_enter Try.func49, Try.ntmps49
    go_wp2_with fail
    go_rounds 1
    go_ret
    exact ⟨rfl, Below.refl _ _⟩
  · obtain ⟨b1, o1, rfl, hb1, _⟩ := r1.form (by omega)
    obtain ⟨b2, o2, rfl, hb2, _⟩ := r2.form (by omega)
    have R1 := Lib.hid r1
    have R2 := Lib.hid r2
    have HL := Lib.hid hl
    clear r1 r2 hl
    go_enter Try.func49, Try.ntmps49
    go_wp2_with fail
    go_loopw [5] (fun v wr => ∃ k : Nat, k ≤ n ∧ v = .int .i64 k ∧ Hid (Below w.heap.size w wr)) (fun v _ => n - (intOf v).toNat)
    case atStart => exact ⟨0, by omega, rfl, Below.refl _ _⟩
    case round =>
      obtain ⟨k, hk, rfl, HB⟩ := hrel
      by_cases hlt : k < n
      · have hli : k < l.length := by rw [HL.out]; exact hlt
        obtain ⟨p0, p1⟩ := rat_cells R1.out k hli
        obtain ⟨q0, q1⟩ := rat_cells R2.out k hli
        rw [← HB.out.cell (p := ⟨b1, _, none⟩) hb1] at p0 p1
        rw [← HB.out.cell (p := ⟨b2, _, none⟩) hb2] at q0 q1
        generalize l[k] = x at p0 p1 q0 q1
        obtain ⟨x0, x1⟩ := x
        clear hli
        go_wp2_with fail
        go_region_with (go_at_call 47; ((with_reducible refine (eqRat1 _ _ _).mono ?_); rintro e w2 ⟨rfl, hb3⟩))
        all_goals
          have HB3 : Hid (Below w.heap.size w w2) := bstep (by first | exact HB.out | exact below_drewN HB.out _ | exact HB.out.drew) hb3
          clear hb3
          go_wp2_with fail
          go_roundw
          case rel => exact ⟨k + 1, by omega, by go_num, by first | exact HB3.out | exact below_drewN HB3.out _ | exact HB3.out.drew⟩
          case measure => simp [intOf]; omega
      · go_wp2_with fail
        go_ret
        exact ⟨rfl, HB.out⟩

set_option maxHeartbeats 1000000 in
theorem szRats (a : Option Addr) (n c : Nat) (k : Nat) (w : World) (hn : n ≤ maxLen) (hk : k ≤ 1048576) :
    Calls Try.prog 43 #[.slice a n c, .int .i64 k] w fun e w' => (e = .returned (.int .i64 (if k < n then -1 else (k : Int) - n))) ∧ w = w' := by
  unfold maxLen at hn
  by_cases h : k < n
  · rw [if_pos h]
    go_enter Try.func43, Try.ntmps43
    go_wp2_with fail
    go_ret
    exact ⟨rfl, rfl⟩
  · rw [if_neg h]
    go_enter Try.func43, Try.ntmps43
    go_wp2_with fail
    go_ret
    exact ⟨rfl, rfl⟩
end Go.Proofs.Ytjchindjoailbaa

/- Tables of numbers in the laws: compared, weighed. -/
namespace Go.Proofs.Ytjchindjoailbaa
set_option linter.unusedSimpArgs false
set_option linter.unusedVariables false
open Go.RowKit

theorem ArgRow.setOther {w : World} {b n c sz : Nat} {xs : List Value} (h : ArgRow w (some ⟨b, 0, none⟩) n c sz xs) {p : Addr} (hp : p.block ≠ b) (v : Value) : ArgRow (w.setCell p v) (some ⟨b, 0, none⟩) n c sz xs := by
  obtain ⟨h1, h2, h3, h4⟩ := h
  refine ⟨h1, h2, h3, ?_⟩
  rcases h4 with h4 | ⟨b', o', e, hb, hc⟩
  · exact .inl h4
  · cases e
    refine .inr ⟨b, 0, rfl, by simpa using hb, fun j hj => ?_⟩
    rw [World.cell?_of_block (a := ⟨b, 0 + j, none⟩) (Go.Deep.blk_setCell_other _ _ _ _ (fun e => hp e.symm))]
    exact hc j hj
end Go.Proofs.Ytjchindjoailbaa

/- Rows of rows of fractions in the laws: copied, compared, weighed. -/
namespace Go.Proofs.Ytjchindjoailbaa
set_option linter.unusedSimpArgs false
set_option linter.unusedVariables false
open Go.RowKit

abbrev RGrid := Grid ratC 2

end Go.Proofs.Ytjchindjoailbaa
