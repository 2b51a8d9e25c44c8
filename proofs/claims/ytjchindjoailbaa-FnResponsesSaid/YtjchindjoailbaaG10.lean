/- NetOk of the program. -/
import Derived.Test.YtjchindjoailbaaG07
import Derived.StillTailTactics
namespace Go.Proofs.Ytjchindjoailbaa
set_option linter.unusedSimpArgs false
set_option linter.unusedVariables false
open Go.RowKit

def bools (m : List Bool) : List Value := m.map Value.bool
theorem ArgRow.own' {w : World} {base : Nat} {e : TypeId} {size : Nat} {a : Option Addr} {n cap : Nat} {xs : List Value} (h : w.ownsRow base e size (.slice a n cap) n xs) : ArgRow w a n cap size xs := .of (own_row h)
theorem bools_len (m : List Bool) : (bools m).length = m.length := by simp [bools]
theorem bools_at (m : List Bool) (i : Nat) {v : Bool} (h : m[i]? = some v) : (bools m)[i]? = some (.bool v) := by simp [bools, h]
theorem bools_both (m : List Bool) (x : Wz) : ((bools m).set x.1.toNat (.bool true)).set x.2.1.toNat (.bool true) = bools (both m x) := by
  simp [bools, both, List.map_set]
theorem bool_cell {w : World} {b o n c : Nat} {m : List Bool} (h : ArgRow w (some ⟨b, o, none⟩) n c 1 (bools m)) (i : Nat) (hi : i < m.length) : w.cell? ⟨b, o + i, none⟩ = some (.bool m[i]) := by
  have hl := bools_len m
  have hn : 0 < n := by have := h.1; omega
  obtain ⟨b', o', e, _, hc⟩ := h.form hn
  cases e
  rw [hc i (by omega)]
  simp [bools]

set_option maxHeartbeats 1000000 in
theorem indexBool (g n c : Nat) (m : List Bool) (w : World) (hr : ArgRow w (some ⟨g, 0, none⟩) n c 1 (bools m)) :
    Calls Try.prog 155 #[.slice (some ⟨g, 0, none⟩) n c, .bool false] w fun e w' => ∃ i : Int, e = .returned (.int .i64 i) ∧ (0 ≤ i ↔ false ∈ m) ∧ w = w' := by
  have hl : m.length = n := by have := hr.1; rw [bools_len] at this; omega
  have hn := hr.le
  unfold maxLen at hn
  have R := Lib.hid hr
  have HL := Lib.hid hl
  clear hr hl
  go_enter Try.func155, Try.ntmps155
  go_wp2_with fail
  go_loopw [8] (fun v wr => ∃ k : Nat, k ≤ n ∧ v = .int .i64 k ∧ Hid (¬ false ∈ m.take k) ∧ wr = w) (fun v _ => n - (intOf v).toNat)
  case atStart => exact ⟨0, by omega, rfl, by simp [Hid], rfl⟩
  case round =>
    obtain ⟨k, hk, rfl, HT, rfl⟩ := hrel
    by_cases hlt : k < n
    · have hli : k < m.length := by rw [HL.out]; exact hlt
      have p0 := bool_cell R.out k hli
      rw [Nat.zero_add] at p0
      have HM : Hid (m[k] ∈ m) := List.getElem_mem _
      have HS : Hid (m.take (k + 1) = m.take k ++ [m[k]]) := List.take_succ_eq_append_getElem hli
      generalize m[k] = x at p0 HM HS
      cases x with
      | false =>
        go_wp2_with fail
        go_ret
        exact ⟨k, rfl, ⟨fun _ => HM.out, fun _ => by omega⟩, rfl⟩
      | true =>
        have HT2 : Hid (¬ false ∈ m.take (k + 1)) := by
          show ¬ _
          rw [HS.out]
          have := HT.out
          simpa using this
        go_wp2_with fail
        go_roundw
        case rel => exact ⟨k + 1, by omega, by go_num, HT2.out, by trivial⟩
        case measure => simp [intOf]; omega
    · go_wp2_with fail
      go_ret
      have := HT.out
      rw [List.take_of_length_le (by rw [HL.out]; omega)] at this
      exact ⟨-1, rfl, ⟨fun h => by omega, fun h => absurd h this⟩, rfl⟩
theorem containsBool (g n c : Nat) (m : List Bool) (b : Bool) (hb : b = true ↔ false ∈ m) (w : World) (hr : ArgRow w (some ⟨g, 0, none⟩) n c 1 (bools m)) :
    Calls Try.prog 125 #[.slice (some ⟨g, 0, none⟩) n c, .bool false] w fun e w' => e = .returned (.bool b) ∧ w = w' := by
  go_enter Try.func125, Try.ntmps125
  go_wp2_with fail
  refine (indexBool g n c m _ hr).mono ?_
  rintro e w' ⟨i, rfl, hi, rfl⟩
  by_cases h0 : 0 ≤ i
  · have : b = true := hb.2 (hi.1 h0)
    subst this
    clear hi hb
    go_wp2_with fail
    go_ret
    exact ⟨rfl, rfl⟩
  · have : b = false := bfalse hb (fun h => h0 (hi.2 h))
    subst this
    clear hi hb
    go_wp2_with fail
    go_ret
    exact ⟨by show Ending.returned (.bool (decide (0 ≤ i))) = _; rw [decide_eq_false (by omega)], rfl⟩

set_option maxRecDepth 100000 in
set_option maxHeartbeats 8000000 in
theorem implNetOk (N E S : Int) (a : Option Addr) (n c : Nat) (l : List Wz) (ok : Bool) (hok : ok = true ↔ NetOk N E S l) (w : World) (hr : ArgRow w a n c 3 (wires l)) (hl : l.length = n) :
    Calls Try.prog 76 #[netV N E S a n c] w fun e w' => e = .returned (.bool ok) ∧ Below w.heap.size w w' := by
  have hn := hr.le
  unfold maxLen at hn
  have HR := Lib.hid hr
  have HL := Lib.hid hl
  have HO := Lib.hid hok
  clear hr hl hok
  by_cases hh : Hdr N E S
  rotate_left
  · have hb : ok = false := bfalse HO.out (fun h => hh h.h)
    subst hb
    rcases not_hdr hh with h1 | ⟨h1, h2⟩ | ⟨h1, h2, h3⟩ | ⟨h1, h2, h3, h4⟩ | ⟨h1, h2, h3, h4, h5⟩ | ⟨h1, h2, h3, h4, h5, h6⟩
    all_goals
      clear hh
      go_enter Try.func76, Try.ntmps76
      go_wp2_with fail
      go_ret
      exact ⟨rfl, by (repeat' (first | (with_reducible exact Below.refl _ _) | (with_reducible assumption) | (with_reducible refine balloc ?_ _) | (with_reducible refine Below.drew ?_) | (with_reducible refine below_drewN ?_ _) | (with_reducible refine bset ?_ ?_ _) | (with_reducible refine bstep ?_ (by assumption)) | go_size))⟩
  have HH := Lib.hid hh
  obtain ⟨n1, n5, e1, eN, s1, s2⟩ := hh
  obtain ⟨M, rfl⟩ : ∃ M : Nat, N = M := ⟨N.toNat, by omega⟩
  have hmk := run_make_rows (P := Try.prog) 130 4 (.bool false) 1 1 Try.underlying130 (by kernel_rfl) .i64 .i64 M (by omega) (by omega)
  simp only [Value.cells] at hmk
  go_enter Try.func76, Try.ntmps76
  go_wp2_with fail
  go_loopw [41] (fun v wr => ∃ k : Nat, k ≤ n ∧ v = .int .i64 k ∧ Hid (WOk M l k) ∧ Hid (Below (w.heap.size + 1) (NBox M E S a n c w) wr)) (fun v _ => n - (intOf v).toNat)
  case atStart => exact ⟨0, by omega, rfl, fun j _ h => absurd h (by omega), Below.refl _ _⟩
  case round =>
    obtain ⟨k, hk, rfl, HW, HB⟩ := hrel
    obtain ⟨hB, hz1, u1, hz2, hz3⟩ := nbox_cells HB.out
    have HB' := Lib.hid hB
    have hB1 : True := trivial
    by_cases hlt : k < n
    · obtain ⟨b, o, rfl, hb, _⟩ := HR.out.form (by omega)
      have hli : k < l.length := by rw [HL.out]; exact hlt
      obtain ⟨p0, p1, p2⟩ := wire_cells HR.out k hli
      rw [← hB.cell (p := ⟨b, _, none⟩) hb] at p0 p1 p2
      have hbl : b < wr.heap.size := Nat.lt_of_lt_of_le hb hB.size
      have hbn : ¬ b = wr.heap.size := by omega
      have hbn' : ¬ wr.heap.size = b := by omega
      clear hB
      by_cases hg : good M l[k]
      rotate_left
      · have hbf : ok = false := bfalse HO.out (fun h => hg (h.wok k hli).1)
        subst hbf
        generalize l[k] = x at p0 p1 p2 hg
        obtain ⟨x0, x1, x2⟩ := x
        have hg' := not_good hg
        clear hg hli
        simp only at hg'
        rcases hg' with h1 | ⟨h1, h2⟩ | ⟨h1, h2, h3⟩ | ⟨h1, h2, h3, h4⟩ | ⟨h1, h2, h3, h4, h5⟩
        all_goals
          try have d1 : decide (x0 < 0) = true := decide_eq_true h1
          try have d1 : decide (x0 < 0) = false := decide_eq_false (by omega)
          try have d2 : decide (x1 ≤ x0) = true := decide_eq_true h2
          try have d2 : decide (x1 ≤ x0) = false := decide_eq_false (by omega)
          try have d3 : decide ((M : Int) ≤ x1) = true := decide_eq_true h3
          try have d3 : decide ((M : Int) ≤ x1) = false := decide_eq_false (by omega)
          try have d4 : decide (x2 < 1) = true := decide_eq_true h4
          try have d4 : decide (x2 < 1) = false := decide_eq_false (by omega)
          try have d5 : decide (200 < x2) = true := decide_eq_true h5
          go_wp2_with fail
          go_quiet (fail)
          go_wp2_with fail
          go_ret
          exact ⟨rfl, below_drewN (balloc HB'.out _) _⟩
      · have HG := Lib.hid hg
        by_cases hk0 : k = 0
        · have HW2 : Hid (WOk M l (k + 1)) := HW.out.next hli hg (fun h0 => absurd h0 (by omega))
          generalize l[k] = x at p0 p1 p2 hg HG
          obtain ⟨x0, x1, x2⟩ := x
          obtain ⟨h1, h2, h3, h4, h5⟩ := hg
          simp only at h1 h2 h3 h4 h5
          have d1 : decide (x0 < 0) = false := decide_eq_false (by omega)
          have d2 : decide (x1 ≤ x0) = false := decide_eq_false (by omega)
          have d3 : decide ((M : Int) ≤ x1) = false := decide_eq_false (by omega)
          have d4 : decide (x2 < 1) = false := decide_eq_false (by omega)
          have d5 : decide (200 < x2) = false := decide_eq_false (by omega)
          have hdn : decide (0 < k) = false := decide_eq_false (by omega)
          clear hli hk0
          go_wp2_with fail
          go_quiet (fail)
          go_wp2_with fail
          go_roundw
          case rel => exact ⟨k + 1, by omega, by go_num, HW2.out, below_drewN (HB.out.alloc (by omega) _) _⟩
          case measure => simp [intOf]; omega
        · have hli' : k - 1 < l.length := by omega
          obtain ⟨q0, q1, q2⟩ := wire_cells HR.out (k - 1) hli'
          rw [← HB'.out.cell (p := ⟨b, _, none⟩) hb] at q0 q1 q2
          have hkk : ((k : Int) - 1) = ((k - 1 : Nat) : Int) := by omega
          have KB := fun w => byEnds l[k - 1] l[k] w
          by_cases ho : lexlt l[k - 1] l[k]
          · have HW2 : Hid (WOk M l (k + 1)) := HW.out.next hli hg (fun h0 => ho)
            have hz : lexZ l[k - 1] l[k] < 0 := (lexZ_iff _ _).1 ho
            generalize l[k] = x at p0 p1 p2 hg HG hz KB
            generalize l[k - 1] = y at q0 q1 q2 hz KB
            obtain ⟨x0, x1, x2⟩ := x
            obtain ⟨y0, y1, y2⟩ := y
            obtain ⟨h1, h2, h3, h4, h5⟩ := hg
            simp only at h1 h2 h3 h4 h5
            generalize lexZ (y0, y1, y2) (x0, x1, x2) = z at hz KB
            have KB := Lib.hid KB
            have d1 : decide (x0 < 0) = false := decide_eq_false (by omega)
            have d2 : decide (x1 ≤ x0) = false := decide_eq_false (by omega)
            have d3 : decide ((M : Int) ≤ x1) = false := decide_eq_false (by omega)
            have d4 : decide (x2 < 1) = false := decide_eq_false (by omega)
            have d5 : decide (200 < x2) = false := decide_eq_false (by omega)
            have d6 : decide (0 < (k : Int)) = true := decide_eq_true (by omega)
            have hdn : decide (0 < k) = true := decide_eq_true (by omega)
            have hk1 : k - 1 < n := by omega
            have hk2 : ((k - 1 : Nat) : Int) < (n : Int) := by omega
            have hk3 : (0 : Int) ≤ ((k - 1 : Nat) : Int) := by omega
            have hsum : IntKind.i64.wrap ((k : Int) - 1) = ((k - 1 : Nat) : Int) := by rw [hkk]; exact IntWalk.i64_in _ (by omega)
            have hsum2 : IntKind.i64.wrap ((k - 1 : Nat) : Int) = ((k - 1 : Nat) : Int) := IntWalk.i64_in _ (by omega)
            clear hli hli' ho
            go_wp2_with fail
            have hrec : ∀ (W : World) (t) (d : Nat) (os) (out) (p : Addr), ({ heap := W.heap, tape := t, drawn := d, os := os, output := out } : World).cell? p = W.cell? p := fun _ _ _ _ _ _ => rfl
            go_still_tail 38, (by kernel_rfl)
            change wpList _ _ _ _ _ (wr.alloc (.cells #[.int .i64 x0, .int .i64 x1, .int .i64 x2] 102)).drew
            clear hrec
            go_wp2_with fail
            refine (KB.out _).mono ?_
            rintro e w2 ⟨rfl, hb2⟩
            replace hb2 := bdrew hb2
            all_goals
              try (have hd7 : decide (0 ≤ z) = false := decide_eq_false (by omega))
              go_wp2_with fail
              go_roundw
              case rel => exact ⟨k + 1, by omega, by go_num, HW2.out, (HB.out.alloc (by omega) _).trans (hb2.mono (by simp; omega))⟩
              case measure => simp [intOf]; omega
          · have hbf : ok = false := bfalse HO.out (fun h => ho ((h.wok k hli).2 (by omega)))
            subst hbf
            have hz : 0 ≤ lexZ l[k - 1] l[k] := by
              have := mt (lexZ_iff _ _).2 ho
              omega
            generalize l[k] = x at p0 p1 p2 hg HG hz KB
            generalize l[k - 1] = y at q0 q1 q2 hz KB
            obtain ⟨x0, x1, x2⟩ := x
            obtain ⟨y0, y1, y2⟩ := y
            obtain ⟨h1, h2, h3, h4, h5⟩ := hg
            simp only at h1 h2 h3 h4 h5
            generalize lexZ (y0, y1, y2) (x0, x1, x2) = z at hz KB
            have KB := Lib.hid KB
            have d1 : decide (x0 < 0) = false := decide_eq_false (by omega)
            have d2 : decide (x1 ≤ x0) = false := decide_eq_false (by omega)
            have d3 : decide ((M : Int) ≤ x1) = false := decide_eq_false (by omega)
            have d4 : decide (x2 < 1) = false := decide_eq_false (by omega)
            have d5 : decide (200 < x2) = false := decide_eq_false (by omega)
            have d6 : decide (0 < (k : Int)) = true := decide_eq_true (by omega)
            have hdn : decide (0 < k) = true := decide_eq_true (by omega)
            have hk1 : k - 1 < n := by omega
            have hk2 : ((k - 1 : Nat) : Int) < (n : Int) := by omega
            have hk3 : (0 : Int) ≤ ((k - 1 : Nat) : Int) := by omega
            have hsum : IntKind.i64.wrap ((k : Int) - 1) = ((k - 1 : Nat) : Int) := by rw [hkk]; exact IntWalk.i64_in _ (by omega)
            have hsum2 : IntKind.i64.wrap ((k - 1 : Nat) : Int) = ((k - 1 : Nat) : Int) := IntWalk.i64_in _ (by omega)
            clear hli hli' ho
            go_wp2_with fail
            have hrec : ∀ (W : World) (t) (d : Nat) (os) (out) (p : Addr), ({ heap := W.heap, tape := t, drawn := d, os := os, output := out } : World).cell? p = W.cell? p := fun _ _ _ _ _ _ => rfl
            go_still_tail 38, (by kernel_rfl)
            change wpList _ _ _ _ _ (wr.alloc (.cells #[.int .i64 x0, .int .i64 x1, .int .i64 x2] 102)).drew
            clear hrec
            go_wp2_with fail
            refine (KB.out _).mono ?_
            rintro e w2 ⟨rfl, hb2⟩
            replace hb2 := bdrew hb2
            all_goals
              go_wp2_with fail
              go_ret
              exact ⟨rfl, bstep (balloc HB'.out _) hb2⟩
    · obtain rfl : k = n := by omega
      have HW2 : Hid (WOk M l l.length) := by rw [HL.out]; exact HW.out
      clear HW hB hB1
      obtain ⟨wa, rfl⟩ : ∃ wa : World, wa = wr := ⟨_, rfl⟩
      have hg0 : w.heap.size + 1 ≤ wa.heap.size := by omega
      have HZ : Hid ((wa.alloc (.cells (madeCells #[Value.bool false] (M * 1)) 4)).ownsRow (w.heap.size + 1) 4 1 (.slice (some ⟨wa.heap.size, 0, none⟩) M M) M (madeCells #[Value.bool false] (M * 1)).toList) :=
        World.ownsRow_lit wa _ M hg0 (by unfold maxLen; omega) (size_madeCells _ _)
      have hzl : (madeCells #[Value.bool false] (M * 1)).toList = bools (List.replicate M false) := by
        rw [Nat.mul_one, toList_madeCells_one]; simp [bools]
      obtain ⟨zs, hzs⟩ : ∃ zs, madeCells #[Value.bool false] (M * 1) = zs := ⟨_, rfl⟩
      have hmk' : ∀ (w : World), Sem.run Try.prog (Instr.makeSlice 130 (Value.int IntKind.i64 ↑M) (Value.int IntKind.i64 ↑M)) w = Result.ok (Value.slice (some { block := w.heap.size, off := 0 }) M M) (w.alloc (Obj.cells zs 4)) := by
        intro w; rw [← hzs]; exact hmk w
      rw [hzs] at HZ hzl
      clear hmk hzs
      have hz0 : zs.size = M := by have := congrArg List.length hzl; simpa [bools] using this
      have hcl : (wa.alloc (.cells zs 4)).cell? ⟨wa.heap.size, 0, none⟩ = some (.bool false) := by
        rw [HZ.out.cellAt 0 (by omega), hzl, List.getElem?_eq_getElem (by rw [bools_len]; simp; omega)]
        simp [bools]
      have hfr := HZ.out.frozenAt 0
      have hz1 : (zs.setIfInBounds 0 (Value.bool true)).toList = bools ((List.replicate M false).set 0 true) := by
        rw [Array.toList_setIfInBounds, hzl]; simp [bools, List.map_set]
      have HS0 : Hid ((wa.alloc (.cells (zs.setIfInBounds 0 (Value.bool true)) 4)).ownsRow (w.heap.size + 1) 4 1 (.slice (some ⟨wa.heap.size, 0, none⟩) M M) M (bools ((List.replicate M false).set 0 true))) := by
        rw [← hz1]
        exact World.ownsRow_lit wa _ M hg0 (by unfold maxLen; omega) (by rw [Array.size_setIfInBounds, hz0, Nat.mul_one])
      have hz2' : wa.heap.size < wa.heap.size + 1 := by omega
      have hne : ¬ w.heap.size = wa.heap.size := by omega
      have hne' : ¬ wa.heap.size = w.heap.size := by omega
      have hcnt : ((List.replicate M false).set 0 true).count true = 1 := by
        rw [count_set _ _ (by rw [List.getElem?_replicate, if_pos (by omega)]), List.count_replicate]; rfl
      have HM0 : Hid (Met M l ((List.replicate M false).set 0 true)) := by
        refine ⟨by rw [List.length_set, List.length_replicate], ?_, by rw [List.getElem?_set, if_pos rfl, if_pos (by rw [List.length_replicate]; omega)]⟩
        intro i hi
        rw [List.getElem?_set] at hi
        by_cases e : 0 = i
        · subst e; exact .zero
        · rw [if_neg e, List.getElem?_replicate] at hi; split at hi <;> simp at hi
      have HR0 : Hid (Round 0 0 l ((List.replicate M false).set 0 true)) := .inr (.inl ⟨by omega, fun x hx => absurd hx (by rw [List.take_zero]; exact List.not_mem_nil)⟩)
      generalize (List.replicate M false).set 0 true = m0 at HS0 HM0 HR0
      clear hcnt hzl hz1
      have HB0 : Hid (Below (w.heap.size + 1) (NBox M E S a k c w) (wa.alloc (.cells (zs.setIfInBounds 0 (Value.bool true)) 4))) := HB.out.alloc hg0 _
      have HGD := Lib.hid HW2.out.all
      go_wp2_with fail
      go_loopw [96] (fun v wr => ∃ (r : Nat) (m : List Bool), r ≤ M ∧ v = .int .i64 r ∧ Hid (Met M l m) ∧ Hid (Round r 0 l m) ∧ Hid (wr.ownsRow (w.heap.size + 1) 4 1 (.slice (some ⟨wa.heap.size, 0, none⟩) M M) M (bools m)) ∧ Hid (Below (w.heap.size + 1) (NBox M E S a k c w) wr)) (fun v _ => M - (intOf v).toNat)
      case atStart => exact ⟨0, m0, by omega, rfl, HM0.out, HR0.out, HS0.out, HB0.out⟩
      case round =>
        clear hcl hfr
        obtain ⟨r, m, hr, rfl, HM, HRD, HS, HB2⟩ := hrel
        obtain ⟨hB2, hy1, v1, hy2, hy3⟩ := nbox_cells HB2.out
        have HB2' := Lib.hid hB2
        clear hB2
        by_cases hrm : r < M
        · go_wp2_with fail
          obtain ⟨wo, rfl⟩ : ∃ wo : World, wo = wr := ⟨_, rfl⟩
          go_loopw [101] (fun v wr => ∃ (q : Nat) (m : List Bool), q ≤ k ∧ v = .int .i64 q ∧ Hid (Met M l m) ∧ Hid (Round r q l m) ∧ Hid (wr.ownsRow (w.heap.size + 1) 4 1 (.slice (some ⟨wa.heap.size, 0, none⟩) M M) M (bools m)) ∧ Hid (Below (w.heap.size + 1) (NBox M E S a k c w) wr)) (fun v _ => k - (intOf v).toNat)
          case atStart => exact ⟨0, m, by omega, rfl, HM.out, HRD.out, HS.out, HB2.out⟩
          case round =>
            clear hy1 v1 hy2 hy3 HM HRD HS HB2 HB2'
            obtain ⟨q, m2, hq, rfl, HM, HRD, HS, HB2⟩ := hrel
            obtain ⟨hB2, hy1, v1, hy2, hy3⟩ := nbox_cells HB2.out
            by_cases hqk : q < k
            · obtain ⟨b, o, rfl, hb, _⟩ := HR.out.form (by omega)
              have hli : q < l.length := by rw [HL.out]; exact hqk
              obtain ⟨p0, p1, p2⟩ := wire_cells HR.out q hli
              rw [← hB2.cell (p := ⟨b, _, none⟩) hb] at p0 p1 p2
              have hgl : wa.heap.size < wr.heap.size := (own_base HS.out _ rfl).2
              have hbl : b < wr.heap.size := Nat.lt_of_lt_of_le hb hB2.size
              have hbn : ¬ b = wr.heap.size := by omega
              have hbn' : ¬ wr.heap.size = b := by omega
              have hgn : ¬ wa.heap.size = wr.heap.size := by omega
              have hgn' : ¬ wr.heap.size = wa.heap.size := by omega
              clear hB2
              have hgd := HGD.out l[q] (List.getElem_mem _)
              have HST : Hid (m2[l[q].1.toNat]? = some true ∨ m2[l[q].2.1.toNat]? = some true → Met M l (both m2 l[q]) ∧ Round r (q + 1) l (both m2 l[q])) := fun h => HM.out.step hli hgd HRD.out h
              have HSM : Hid (Cl m2 l[q] → Round r (q + 1) l m2) := fun h => HRD.out.same hli h
              have hml := HM.out.len
              generalize l[q] = x at p0 p1 p2 hgd HST HSM
              obtain ⟨x0, x1, x2⟩ := x
              obtain ⟨h1, h2, h3, h4, h5⟩ := hgd
              simp only at h1 h2 h3 h4 h5
              obtain ⟨A, rfl⟩ : ∃ A : Nat, x0 = A := ⟨x0.toNat, by omega⟩
              obtain ⟨B, rfl⟩ : ∃ B : Nat, x1 = B := ⟨x1.toNat, by omega⟩
              simp only [Int.toNat_natCast] at HST
              have hA : A < m2.length := by omega
              have hBm : B < m2.length := by omega
              obtain ⟨va, hva⟩ : ∃ va, m2[A]? = some va := ⟨_, List.getElem?_eq_getElem hA⟩
              obtain ⟨vb, hvb⟩ : ∃ vb, m2[B]? = some vb := ⟨_, List.getElem?_eq_getElem hBm⟩
              have ca : wr.cell? ⟨wa.heap.size, A, none⟩ = some (.bool va) := (HS.out.cellAt A (by omega)).trans (bools_at m2 A hva)
              have cb : wr.cell? ⟨wa.heap.size, B, none⟩ = some (.bool vb) := (HS.out.cellAt B (by omega)).trans (bools_at m2 B hvb)
              have fa := HS.out.frozenAt A
              have fb := HS.out.frozenAt B
              have HNO : va = false → vb = false → Hid (Round r (q + 1) l m2) := fun ea eb => HSM.out (by unfold Cl; simp only [Int.toNat_natCast]; rw [hva, hvb, ea, eb])
              have HYE : va = true ∨ vb = true → Hid (Met M l (both m2 ((A : Int), (B : Int), x2)) ∧ Round r (q + 1) l (both m2 ((A : Int), (B : Int), x2))) := fun h => HST.out (by rcases h with rfl | rfl; exact .inl hva; exact .inr hvb)
              have hs2 := ((HS.out.stored A (.bool true)).1.stored B (.bool true)).1.alloc (.cells #[.int .i64 A, .int .i64 B, .int .i64 x2] 102)
              have HS2 : Hid ((((wr.setCell ⟨wa.heap.size, A, none⟩ (.bool true)).setCell ⟨wa.heap.size, B, none⟩ (.bool true)).alloc (.cells #[.int .i64 A, .int .i64 B, .int .i64 x2] 102)).ownsRow (w.heap.size + 1) 4 1 (.slice (some ⟨wa.heap.size, 0, none⟩) M M) M (bools (both m2 ((A : Int), (B : Int), x2)))) := by
                have := hs2
                rw [← bools_both]
                exact this
              have HB3 : Hid (Below (w.heap.size + 1) (NBox M E S (some ⟨b, o, none⟩) k c w) (((wr.setCell ⟨wa.heap.size, A, none⟩ (.bool true)).setCell ⟨wa.heap.size, B, none⟩ (.bool true)).alloc (.cells #[.int .i64 A, .int .i64 B, .int .i64 x2] 102))) := ((HB2.out.setCell hg0 _).setCell hg0 _).alloc (by simp only [World.size_setCell]; omega) _
              clear hs2 hli hva hvb HST HSM hA hBm
              cases va with
              | true =>
                obtain ⟨HM2, HR2⟩ := (HYE (.inl rfl)).out
                have HM2 := Lib.hid HM2
                have HR2 := Lib.hid HR2
                clear HYE HNO
                go_wp2_with fail
                go_roundw
                case rel => exact ⟨q + 1, both m2 ((A : Int), (B : Int), x2), by omega, by go_num, HM2.out, HR2.out, HS2.out, HB3.out⟩
                case measure => simp [intOf]; omega
              | false =>
                cases vb with
                | true =>
                  obtain ⟨HM2, HR2⟩ := (HYE (.inr rfl)).out
                  have HM2 := Lib.hid HM2
                  have HR2 := Lib.hid HR2
                  clear HYE HNO
                  go_wp2_with fail
                  go_roundw
                  case rel => exact ⟨q + 1, both m2 ((A : Int), (B : Int), x2), by omega, by go_num, HM2.out, HR2.out, HS2.out, HB3.out⟩
                  case measure => simp [intOf]; omega
                | false =>
                  have HR2 := HNO rfl rfl
                  clear HYE HNO
                  go_wp2_with fail
                  go_roundw
                  case rel => exact ⟨q + 1, m2, by omega, by go_num, HM.out, HR2.out, HS.out.alloc _, HB2.out.alloc (by omega) _⟩
                  case measure => simp [intOf]; omega
            · obtain rfl : q = k := by omega
              have HRN : Hid (Round (r + 1) 0 l m2) := by
                have := HRD.out
                rw [← HL.out] at this
                exact this.next
              clear hB2
              go_wp2_with fail
              go_roundw
              case rel => exact ⟨r + 1, m2, by omega, by go_num, HM.out, HRN.out, HS.out, HB2.out⟩
              case measure => simp [intOf]; omega
        · obtain rfl : r = M := by omega
          have hcount : m.count true ≤ r := by
            have h1 := List.count_le_length (a := true) (l := m)
            have h2 := HM.out.len
            omega
          have hcl : ∀ x ∈ l, Cl m x := by
            rcases HRD.out with h | ⟨h, _⟩ | h
            · exact h
            · omega
            · omega
          have hml := HM.out.len
          have hdec : ok = true ↔ ¬ false ∈ m := by
            rw [HO.out, netOk_of HH.out HW2.out, ← met_iff HGD.out HM.out hcl]
            constructor
            · intro h hf
              obtain ⟨i, hi, e⟩ := List.getElem_of_mem hf
              have := h i hi
              rw [List.getElem?_eq_getElem hi, e] at this
              cases this
            · intro h i hi
              rw [List.getElem?_eq_getElem hi]
              cases hv : m[i] with
              | true => rfl
              | false => exact absurd (hv ▸ List.getElem_mem hi) h
          have KC := Lib.hid (fun (w : World) r1 => containsBool wa.heap.size r r m (!ok) (by cases ok <;> simp_all) w r1)
          have RS := Lib.hid (ArgRow.own' HS.out)
          clear hdec hcl hcount
          go_wp2_with fail
          refine (KC.out _ RS.out).mono ?_
          rintro e w' ⟨rfl, rfl⟩
          go_wp2_with fail
          go_ret
          exact ⟨by simp, HB2'.out⟩
end Go.Proofs.Ytjchindjoailbaa
