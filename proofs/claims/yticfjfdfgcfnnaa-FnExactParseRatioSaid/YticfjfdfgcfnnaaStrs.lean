/- Slices of strings in the laws: compared, marked, looked at again. -/
import Derived.Test.YticfjfdfgcfnnaaRow
import Derived.Test.YticfjfdfgcfnnaaFmt
namespace Go.Proofs.Yticfjfdfgcfnnaa
set_option linter.unusedSimpArgs false
set_option linter.unusedVariables false
open Go.RowKit

/-- the strings as cells -/
def strs (l : List ByteArray) : List Value := l.map Value.string
theorem strs_len (l : List ByteArray) : (strs l).length = l.length := by simp [strs]
theorem strs_at (l : List ByteArray) (j : Nat) (h : j < l.length) : (strs l)[j]'(by simpa [strs] using h) = .string l[j] := by simp [strs]

theorem row_str {w : World} {b off n cap : Nat} {l : List ByteArray} (h : Row w (some ⟨b, off, none⟩) n cap 1 (strs l)) (j : Nat) (hj : j < l.length) : w.cell? ⟨b, off + j, none⟩ = some (.string l[j]) := by
  rw [h.at j (by simpa [strs] using hj), strs_at l j hj]

/-- the mark of number k -/
def mk (k : Int) : ByteArray := bs (109 :: Gn.dig k.toNat)
def marks (k : Int) (n : Nat) : List ByteArray := (List.range n).map fun (i : Nat) => mk (k + (i : Int))
theorem marks_len (k : Int) (n : Nat) : (marks k n).length = n := by simp [marks]
theorem marks_at (k : Int) (n i : Nat) (h : i < n) : (marks k n)[i]'(by rw [marks_len]; exact h) = mk (k + i) := by simp [marks]

/-- of number k the digits l are written, m is left -/
def Left (m : Int) (l : List UInt8) (k : Int) : Prop := (m = 0 ∧ l = Gn.dig k.toNat) ∨ (0 < m ∧ Gn.dig m.toNat ++ l = Gn.dig k.toNat)
theorem Left.le {m : Int} {l : List UInt8} {k : Int} (h : Left m l k) (hk : k ≤ 9223372036854775807) : l.length ≤ 20 := by
  have h20 := Gn.dig_len_19 k.toNat (by omega)
  rcases h with ⟨_, rfl⟩ | ⟨_, h⟩
  · omega
  · have := congrArg List.length h; simp at this; omega
theorem Left.step {m : Int} {l : List UInt8} {k : Int} (h : Left m l k) (h0 : 0 < m) : Left (m / 10) ([UInt8.ofNat (48 + m % 10).toNat] ++ l) k := by
  rcases h with ⟨h, _⟩ | ⟨_, h⟩
  · omega
  · rw [show (48 + m % 10).toNat = 48 + m.toNat % 10 from by omega]
    by_cases h10 : m < 10
    · exact .inl ⟨by omega, by rw [← h, Gn.dig_small m.toNat (by omega), show m.toNat % 10 = m.toNat from by omega]⟩
    · exact .inr ⟨by omega, by rw [← h, Gn.dig_step m.toNat (by omega), show (m / 10).toNat = m.toNat / 10 from by omega]; simp⟩

set_option maxHeartbeats 400000 in
theorem markText (k : Int) (w : World) (h1 : 1 ≤ k) (h2 : k ≤ 9223372036854775807) :
    Calls Try.prog 84 #[.int .i64 k] w fun e w' => e = .returned (.string (mk k)) ∧ Below w.heap.size w w' := by
  go_enter Try.func84, Try.ntmps84
  go_wp2_with fail
  go_loopw [0, 3] (fun v s wr => ∃ m : Int, ∃ l : List UInt8, 0 ≤ m ∧ m ≤ 9223372036854775807 ∧ v = .int .i64 m ∧ s = .string (bs l) ∧ Hid (Left m l k) ∧ Below w.heap.size w wr) (fun v _ _ => (intOf v).toNat)
  case atStart => exact ⟨k, [], by omega, h2, rfl, rfl, .inr ⟨by omega, by simp⟩, Below.refl _ _⟩
  case round =>
    obtain ⟨m, l, hm0, hm1, rfl, rfl, H, hb⟩ := hrel
    have hc := conv1
    have hl := H.out.le h2
    by_cases h9 : 0 < m
    · go_wp2_with fail
      go_roundw
      case rel => exact ⟨m / 10, _, by omega, by omega, rfl, rfl, H.out.step h9, balloc hb _⟩
      case measure => simp [intOf]; omega
    · have HE : Hid (l = Gn.dig k.toNat) := by
        rcases H.out with ⟨_, h⟩ | ⟨h, _⟩
        · exact h
        · omega
      go_wp2_with fail
      go_ret
      exact ⟨ret_str (by rw [HE.out]; first | rfl | exact bs_append [109] _), hb⟩

set_option maxHeartbeats 1000000 in
theorem eqStrs (a1 a2 : Option Addr) (n1 c1 n2 c2 : Nat) (l : List ByteArray) (w : World) (r1 : Row w a1 n1 c1 1 (strs l)) (r2 : Row w a2 n2 c2 1 (strs l)) :
    Calls Try.prog 40 #[.slice a1 n1 c1, .slice a2 n2 c2] w fun e w' => e = .returned (.bool true) ∧ ∃ n, w' = w.drewN n := by
  have e1 : l.length = n1 := by have := r1.len; simpa [strs] using this
  have e2 : l.length = n2 := by have := r2.len; simpa [strs] using this
  obtain rfl : n1 = n2 := by omega
  have hn := r1.le
  have E1 := Lib.hid e1
  clear e1 e2
  have R1 := Lib.hid r1
  have R2 := Lib.hid r2
  rcases r1.forms with ⟨rfl, rfl, rfl⟩ | ⟨b1, o1, rfl⟩
  · clear r1 r2
    go_enter Try.func40, Try.ntmps40
    go_wp2_with fail
    go_rounds 1
    go_ret
    exact ⟨rfl, 0, rfl⟩
  · by_cases h0 : n1 = 0
    · subst h0
      clear r1 r2
      go_enter Try.func40, Try.ntmps40
      go_wp2_with fail
      go_rounds 1
      go_ret
      exact ⟨rfl, 0, rfl⟩
    · obtain ⟨b2, o2, rfl⟩ := r2.form (by omega)
      clear r1 r2
      go_enter Try.func40, Try.ntmps40
      go_wp2_with fail
      go_loopw [5] (fun v wr => ∃ k : Nat, k ≤ n1 ∧ v = .int .i64 k ∧ ∃ n, wr = w.drewN n) (fun v _ => n1 - (intOf v).toNat)
      case atStart => exact ⟨0, by omega, rfl, 0, rfl⟩
      case round =>
        obtain ⟨k, hk, rfl, n, rfl⟩ := hrel
        by_cases hlt : k < n1
        · have hl : k < l.length := by rw [E1.out]; exact hlt
          have q1 := row_str R1.out k hl
          have q2 := row_str R2.out k hl
          generalize l[k] = s at q1 q2
          clear hl
          go_wp2_with fail
          go_quiet (fail)
          go_wp2_with fail
          go_roundw
          case rel => exact ⟨k + 1, by omega, by go_num, _, rfl⟩
          case measure => simp [intOf]; omega
        · go_wp2_with fail
          go_ret
          exact ⟨rfl, n, rfl⟩

/-- i marks in front of what was there -/
def markedTo (k : Int) (i : Nat) (xs : List Value) : List Value := strs (marks k i) ++ xs.drop i
theorem marked_zero (k : Int) (xs : List Value) : markedTo k 0 xs = xs := by simp [markedTo, marks, strs]
theorem marked_all (k : Int) (xs : List Value) (n : Nat) (h : xs.length = n) : markedTo k n xs = strs (marks k n) := by
  unfold markedTo; rw [List.drop_of_length_le (by omega)]; simp
theorem marked_step (k : Int) (i : Nat) (xs : List Value) (h : i < xs.length) : (markedTo k i xs).set i (.string (mk (k + i))) = markedTo k (i + 1) xs := by
  have hl : (strs (marks k i)).length = i := by simp [strs, marks_len]
  unfold markedTo
  rw [List.set_append_right _ _ (by omega), hl, Nat.sub_self, List.drop_eq_getElem_cons h, List.set_cons_zero]
  have : marks k (i + 1) = marks k i ++ [mk (k + i)] := by simp [marks, List.range_succ]
  rw [this]; simp [strs]
theorem marked_len (k : Int) (i : Nat) (xs : List Value) (h : i ≤ xs.length) : (markedTo k i xs).length = xs.length := by
  simp [markedTo, strs, marks_len]; omega

set_option maxHeartbeats 1000000 in
theorem markStrs (base : Nat) (a : Option Addr) (n c : Nat) (xs : List Value) (k : Int) (w : World) (hown : w.ownsRow base 9 1 (.slice a n c) n xs) (hbase : base ≤ w.heap.size)
    (h1 : 1 ≤ k) (h2 : k + n ≤ 9223372036854775807) :
    Calls Try.prog 41 #[.slice a n c, .int .i64 k] w fun e w' => e = .returned (.int .i64 (k + n)) ∧ w'.ownsRow base 9 1 (.slice a n c) n (strs (marks k n)) ∧ Below base w w' := by
  have hxl : xs.length = n := by have := hown.1; omega
  have hn := (own_row hown).le
  rcases (own_row hown).forms with ⟨rfl, rfl, rfl⟩ | ⟨g, o, rfl⟩
  · have hx : xs = [] := List.length_eq_zero_iff.1 hxl
    have HO := Lib.hid hown
    have HX := Lib.hid hx
    clear hown hx hxl
    go_enter Try.func41, Try.ntmps41
    go_wp2_with fail
    go_rounds 1
    go_ret
    exact ⟨ret_int (by omega), by have := HO.out; rw [HX.out] at this; exact this, Below.refl _ _⟩
  · have ho : o = 0 := by
      obtain ⟨_, h⟩ := hown
      rcases h with ⟨h, _⟩ | ⟨g', c', cur, h, _⟩
      · cases h
      · cases h; rfl
    subst ho
    have HX := Lib.hid hxl
    have HO := Lib.hid hown
    have hgb : base ≤ g := (own_base hown _ rfl).1
    clear hown hxl
    go_enter Try.func41, Try.ntmps41
    go_wp2_with fail
    go_loopw [1, 5] (fun v u wr => ∃ i : Nat, i ≤ n ∧ v = .int .i64 (k + i) ∧ u = .int .i64 i ∧ Hid (wr.ownsRow base 9 1 (.slice (some ⟨g, 0, none⟩) n c) n (markedTo k i xs)) ∧ Hid (Below base w wr)) (fun _ u _ => n - (intOf u).toNat)
    case atStart => exact ⟨0, by omega, int_eq (by simp), rfl, by rw [marked_zero]; exact HO.out, Below.refl _ _⟩
    case round =>
      obtain ⟨i, hi, rfl, rfl, H, HB⟩ := hrel
      by_cases hlt : i < n
      · have hbs : Hid (base ≤ wr.heap.size) := Nat.le_trans hbase HB.out.size
        go_wp2_with fail
        refine (markText (k + i) _ (by omega) (by omega)).mono ?_
        rintro e w1 ⟨rfl, hb1⟩
        have h1 := own_below H.out hb1
        have hc1 : w1.cell? ⟨g, i, none⟩ = some ((markedTo k i xs)[i]'(by rw [marked_len] <;> (have := HX.out; omega))) := by
          rw [h1.cellAt i (by omega)]; simp
        have hf1 := h1.frozenAt i
        have h2' := (h1.stored i (.string (mk (k + i)))).1
        rw [marked_step k i xs (by have := HX.out; omega)] at h2'
        have h3 : Below base w (w1.setCell ⟨g, i, none⟩ (.string (mk (k + i)))) := (HB.out.trans (hb1.mono hbs.out)).setCell hgb _
        have H2 := Lib.hid h2'
        have H3 := Lib.hid h3
        clear h1 h2' h3 hb1
        go_wp2_with fail
        go_roundw
        case rel => exact ⟨i + 1, by omega, int_eq (by simp; omega), by go_num, H2.out, H3.out⟩
        case measure => simp [intOf]; omega
      · obtain rfl : i = n := by omega
        go_wp2_with fail
        go_ret
        exact ⟨rfl, by rw [← marked_all k xs i HX.out]; exact H.out, HB.out⟩

set_option maxRecDepth 100000 in
set_option maxHeartbeats 1000000 in
theorem heldStrs (a : Option Addr) (n c : Nat) (k : Int) (w : World) (hr : Row w a n c 1 (strs (marks k n))) (h1 : 1 ≤ k) (h2 : k + n ≤ 9223372036854775807) :
    Calls Try.prog 42 #[.slice a n c, .int .i64 k] w fun e w' => e = .returned (.int .i64 (k + n)) ∧ Below w.heap.size w w' := by
  have hn := hr.le
  rcases hr.forms with ⟨rfl, rfl, rfl⟩ | ⟨g, o, rfl⟩
  · clear hr
    go_enter Try.func42, Try.ntmps42
    go_wp2_with fail
    go_rounds 1
    go_ret
    exact ⟨ret_int (by omega), Below.refl _ _⟩
  · have R := Lib.hid hr
    have hg : g < w.heap.size := hr.lt
    clear hr
    go_enter Try.func42, Try.ntmps42
    go_wp2_with fail
    go_loopw [1, 5] (fun v u wr => ∃ i : Nat, i ≤ n ∧ v = .int .i64 (k + i) ∧ u = .int .i64 i ∧ Hid (Below w.heap.size w wr)) (fun _ u _ => n - (intOf u).toNat)
    case atStart => exact ⟨0, by omega, int_eq (by simp), rfl, Below.refl _ _⟩
    case round =>
      obtain ⟨i, hi, rfl, rfl, HB⟩ := hrel
      by_cases hlt : i < n
      · have q := row_str (R.out.below HB.out) i (by rw [marks_len]; exact hlt)
        rw [marks_at k n i hlt] at q
        have hgr : g < wr.heap.size := Nat.lt_of_lt_of_le hg HB.out.size
        have C := Lib.hid (fun w => markText (k + i) w (by omega) (by omega))
        have hw1 : IntKind.i64.wrap (k + (i : Int)) = k + (i : Int) := IntWalk.i64_in _ (by omega)
        go_wp2_with fail
        go_region_with ((go_at_call 84; ((with_reducible refine (C.out _).mono ?_); rintro e w1 ⟨rfl, hb1⟩); (try (replace hb1 := bdrew hb1)); obtain ⟨hc1, hf1⟩ := bcell hb1))
        all_goals
          go_wp2_with fail
          go_roundw
          case rel => exact ⟨i + 1, by omega, int_eq (by simp; omega), by go_num, bstep HB.out hb1⟩
          case measure => simp [intOf]; omega
      · obtain rfl : i = n := by omega
        go_wp2_with fail
        go_ret
        exact ⟨rfl, HB.out⟩

end Go.Proofs.Yticfjfdfgcfnnaa
