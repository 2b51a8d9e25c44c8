/- Slices of strings in the laws: compared, marked, looked at again. -/
import Derived.Test.YtjchindjoailbaaRow
import Derived.Test.YtjchindjoailbaaFmt
namespace Go.Proofs.Ytjchindjoailbaa
set_option linter.unusedSimpArgs false
set_option linter.unusedVariables false
open Go.RowKit

/-- the strings as cells -/
def strs (l : List ByteArray) : List Value := l.map Value.string
theorem strs_len (l : List ByteArray) : (strs l).length = l.length := by simp [strs]
theorem strs_at (l : List ByteArray) (j : Nat) (h : j < l.length) : (strs l)[j]'(by simpa [strs] using h) = .string l[j] := by simp [strs]

theorem row_str {w : World} {b off n cap : Nat} {l : List ByteArray} (h : Row w (some ⟨b, off, none⟩) n cap 1 (strs l)) (j : Nat) (hj : j < l.length) : w.cell? ⟨b, off + j, none⟩ = some (.string l[j]) := by
  rw [h.at j (by simpa [strs] using hj), strs_at l j hj]

/-- the mark of number k -/
def mk (k : Int) : ByteArray := bs (109 :: Gn.dig k.toNat)
def marksS (k : Int) (n : Nat) : List ByteArray := (List.range n).map fun (i : Nat) => mk (k + (i : Int))
theorem marksS_len (k : Int) (n : Nat) : (marksS k n).length = n := by simp [marksS]
theorem marksS_at (k : Int) (n i : Nat) (h : i < n) : (marksS k n)[i]'(by rw [marksS_len]; exact h) = mk (k + i) := by simp [marksS]

/-- of number k the digits l are written, m is left -/
def Left (m : Int) (l : List UInt8) (k : Int) : Prop := (m = 0 ∧ l = Gn.dig k.toNat) ∨ (0 < m ∧ Gn.dig m.toNat ++ l = Gn.dig k.toNat)
theorem Left.le {m : Int} {l : List UInt8} {k : Int} (h : Left m l k) (hk : k ≤ 9223372036854775807) : l.length ≤ 20 := by
  have h20 := Gn.dig_len_19 k.toNat (by omega)
  rcases h with ⟨_, rfl⟩ | ⟨_, h⟩
  · omega
  · have := congrArg List.length h; simp at this; omega
theorem Left.step {m : Int} {l : List UInt8} {k : Int} (h : Left m l k) (h0 : 0 < m) : Left (m / 10) ([UInt8.ofNat (48 + m % 10).toNat] ++ l) k := by
  rcases h with ⟨h, _⟩ | ⟨_, h⟩
  · omega
  · rw [show (48 + m % 10).toNat = 48 + m.toNat % 10 from by omega]
    by_cases h10 : m < 10
    · exact .inl ⟨by omega, by rw [← h, Gn.dig_small m.toNat (by omega), show m.toNat % 10 = m.toNat from by omega]⟩
    · exact .inr ⟨by omega, by rw [← h, Gn.dig_step m.toNat (by omega), show (m / 10).toNat = m.toNat / 10 from by omega]; simp⟩

set_option maxHeartbeats 1000000 in
theorem eqStrs (a1 a2 : Option Addr) (n1 c1 n2 c2 : Nat) (l : List ByteArray) (w : World) (r1 : Row w a1 n1 c1 1 (strs l)) (r2 : Row w a2 n2 c2 1 (strs l)) :
    Calls Try.prog 32 #[.slice a1 n1 c1, .slice a2 n2 c2] w fun e w' => e = .returned (.bool true) ∧ ∃ n, w' = w.drewN n := by
  have e1 : l.length = n1 := by have := r1.len; simpa [strs] using this
  have e2 : l.length = n2 := by have := r2.len; simpa [strs] using this
  obtain rfl : n1 = n2 := by omega
  have hn := r1.le
  have E1 := Lib.hid e1
  clear e1 e2
  have R1 := Lib.hid r1
  have R2 := Lib.hid r2
  rcases r1.forms with ⟨rfl, rfl, rfl⟩ | ⟨b1, o1, rfl⟩
  · clear r1 r2
    go_enter Try.func32, Try.ntmps32
    go_wp2_with fail
    go_rounds 1
    go_ret
    exact ⟨rfl, 0, rfl⟩
  · by_cases h0 : n1 = 0
    · subst h0
      clear r1 r2
      go_enter Try.func32, Try.ntmps32
      go_wp2_with fail
      go_rounds 1
      go_ret
      exact ⟨rfl, 0, rfl⟩
    · obtain ⟨b2, o2, rfl⟩ := r2.form (by omega)
      clear r1 r2
      go_enter Try.func32, Try.ntmps32
      go_wp2_with fail
      go_loopw [5] (fun v wr => ∃ k : Nat, k ≤ n1 ∧ v = .int .i64 k ∧ ∃ n, wr = w.drewN n) (fun v _ => n1 - (intOf v).toNat)
      case atStart => exact ⟨0, by omega, rfl, 0, rfl⟩
      case round =>
        obtain ⟨k, hk, rfl, n, rfl⟩ := hrel
        by_cases hlt : k < n1
        · have hl : k < l.length := by rw [E1.out]; exact hlt
          have q1 := row_str R1.out k hl
          have q2 := row_str R2.out k hl
          generalize l[k] = s at q1 q2
          clear hl
          go_wp2_with fail
          go_quiet (fail)
          go_wp2_with fail
          go_roundw
          case rel => exact ⟨k + 1, by omega, by go_num, _, rfl⟩
          case measure => simp [intOf]; omega
        · go_wp2_with fail
          go_ret
          exact ⟨rfl, n, rfl⟩

/-- i marksS in front of what was there -/
def markedTo (k : Int) (i : Nat) (xs : List Value) : List Value := strs (marksS k i) ++ xs.drop i
theorem marked_zero (k : Int) (xs : List Value) : markedTo k 0 xs = xs := by simp [markedTo, marksS, strs]
theorem marked_all (k : Int) (xs : List Value) (n : Nat) (h : xs.length = n) : markedTo k n xs = strs (marksS k n) := by
  unfold markedTo; rw [List.drop_of_length_le (by omega)]; simp
theorem marked_step (k : Int) (i : Nat) (xs : List Value) (h : i < xs.length) : (markedTo k i xs).set i (.string (mk (k + i))) = markedTo k (i + 1) xs := by
  have hl : (strs (marksS k i)).length = i := by simp [strs, marksS_len]
  unfold markedTo
  rw [List.set_append_right _ _ (by omega), hl, Nat.sub_self, List.drop_eq_getElem_cons h, List.set_cons_zero]
  have : marksS k (i + 1) = marksS k i ++ [mk (k + i)] := by simp [marksS, List.range_succ]
  rw [this]; simp [strs]
theorem marked_len (k : Int) (i : Nat) (xs : List Value) (h : i ≤ xs.length) : (markedTo k i xs).length = xs.length := by
  simp [markedTo, strs, marksS_len]; omega

end Go.Proofs.Ytjchindjoailbaa
