/- Plain facts on decimal text, with no program in sight. -/
import Derived.WalkKit
import Derived.Test.YtjchindjoailbaaG01
import Derived.Shelf.Strings.Builder1
import Derived.Shelf.Strings.Builder2
import Derived.Shelf.Strings.OnBuilder
import Derived.Test.YtjchindjoailbaaProg
import Derived.Lib.Join
import Derived.Test.YtjchindjoailbaaG14
import Derived.ProofKit
import Derived.OpenShut
import Derived.ShutString
import Derived.ChangeOld
import Derived.Below
import Derived.Lib.SmallJoins
namespace Gn

/-- the decimal digits of n -/
def dig (n : Nat) : List UInt8 := if n < 10 then [UInt8.ofNat (48 + n)] else dig (n / 10) ++ [UInt8.ofNat (48 + n % 10)]
termination_by n
decreasing_by omega

theorem dig_small (n : Nat) (h : n < 10) : dig n = [UInt8.ofNat (48 + n)] := by rw [dig, if_pos h]
theorem dig_step (n : Nat) (h : 10 ≤ n) : dig n = dig (n / 10) ++ [UInt8.ofNat (48 + n % 10)] := by rw [dig, if_neg (by omega)]

/-- the decimal text of n -/
def fmt (n : Int) : List UInt8 := if n < 0 then 45 :: dig n.natAbs else dig n.natAbs

theorem dig_len (k : Nat) : ∀ n, n < 10 ^ (k + 1) → (dig n).length ≤ k + 1 := by
  induction k with
  | zero => intro n h; rw [dig_small n (by omega)]; simp
  | succ k ih =>
    intro n h
    by_cases h10 : n < 10
    · rw [dig_small n h10]; simp
    · rw [dig_step n (by omega)]
      have := ih (n / 10) (by rw [Nat.pow_succ] at h; omega)
      simp; omega

theorem dig_len_19 (n : Nat) (h : n ≤ 9223372036854775808) : (dig n).length ≤ 19 := dig_len 18 n (by omega)

theorem fmt_len (n : Int) (h1 : -9223372036854775808 ≤ n) (h2 : n ≤ 9223372036854775807) : (fmt n).length ≤ 20 := by
  unfold fmt
  have := dig_len_19 n.natAbs (by omega)
  split <;> simp <;> omega

end Gn

/- FormatInt of the program and of the reference write one decimal text. -/
namespace Go.Proofs.Ytjchindjoailbaa
set_option linter.unusedSimpArgs false
set_option linter.unusedVariables false
open Go.RowKit


theorem enc_digit (n : Int) (h0 : 0 ≤ n) (h1 : n < 10) : Utf8.encode (48 + n) = bs (Gn.dig n.toNat) := by
  rw [Gn.dig_small _ (by omega)]
  obtain ⟨m, rfl⟩ := Int.eq_ofNat_of_zero_le h0
  have : m < 10 := by omega
  revert this
  have H : ∀ m : Nat, m < 10 → Utf8.encode (48 + (m : Int)) = bs [UInt8.ofNat (48 + m)] := by decide +kernel
  exact H m

set_option maxHeartbeats 400000 in
theorem implFmtPos (k : Nat) : ∀ (n : Int) (w : World), n ≤ k → 0 ≤ n → n ≤ 9223372036854775807 →
    Calls Try.prog 37 #[.int .i64 n] w fun e w' => e = .returned (.string (bs (Gn.dig n.toNat))) ∧ w = w' := by
  induction k with
  | zero =>
    intro n w h1 h2 h3
    obtain rfl : n = 0 := by omega
    go_enter Try.func37, Try.ntmps37
    go_wp2_with fail
    go_ret
    exact ⟨ret_str (enc_digit 0 (by omega) (by omega)), rfl⟩
  | succ k ih =>
    intro n w h1 h2 h3
    by_cases h10 : n < 10
    · go_enter Try.func37, Try.ntmps37
      go_wp2_with fail
      go_ret
      exact ⟨ret_str (enc_digit n (by omega) (by omega)), rfl⟩
    · have IH := Lib.hid ih
      clear ih
      have hl1 : (Gn.dig (n / 10).toNat).length ≤ 19 := by exact Gn.dig_len_19 _ (by omega)
      have hl2 : (Gn.dig (n % 10).toNat).length ≤ 19 := by exact Gn.dig_len_19 _ (by omega)
      have hm : 0 ≤ n % 10 ∧ n % 10 < 10 := by omega
      go_enter Try.func37, Try.ntmps37
      go_wp2_with fail
      refine (IH.out (n / 10) _ (by omega) (by omega) (by omega)).mono ?_
      rintro e w' ⟨rfl, rfl⟩
      go_wp2_with fail
      refine (IH.out (n % 10) _ (by omega) (by omega) (by omega)).mono ?_
      rintro e w' ⟨rfl, rfl⟩
      go_wp2_with fail
      go_ret
      refine ⟨ret_str ?_, rfl⟩
      rw [Gn.dig_step n.toNat (by omega), Gn.dig_small (n % 10).toNat (by omega)]
      rw [show (n / 10).toNat = n.toNat / 10 from by omega, show (n % 10).toNat = n.toNat % 10 from by omega]

theorem tdiv10 (n : Int) (h : n ≤ 0) : n.tdiv 10 = -((-n) / 10) := by
  have : (-(-n)).tdiv 10 = -((-n).tdiv 10) := Int.neg_tdiv _ _
  rw [Int.neg_neg] at this; rw [this, Int.tdiv_eq_ediv_of_nonneg (by omega)]
theorem tmod10 (n : Int) (h : n ≤ 0) : n.tmod 10 = -((-n) % 10) := by
  have : (-(-n)).tmod 10 = -((-n).tmod 10) := Int.neg_tmod _ _
  rw [Int.neg_neg] at this; rw [this, Int.tmod_eq_emod_of_nonneg (by omega)]
theorem tdm10 (n : Int) (h : n ≤ 0) : n = 10 * n.tdiv 10 + n.tmod 10 ∧ -10 < n.tmod 10 ∧ n.tmod 10 ≤ 0 ∧ n.tdiv 10 ≤ 0 := by
  rw [tdiv10 n h, tmod10 n h]; omega

theorem fmt_pos (n : Int) (h : 0 ≤ n) : Gn.fmt n = Gn.dig n.toNat := by
  unfold Gn.fmt; rw [if_neg (by omega)]; congr 1; omega
theorem fmt_neg (n : Int) (h : n < 0) : Gn.fmt n = 45 :: Gn.dig (-n).toNat := by
  unfold Gn.fmt; rw [if_pos h]; congr 2; omega
theorem fmt_neg_step (n : Int) (h : n ≤ -10) : Gn.fmt n = Gn.fmt (n.tdiv 10) ++ Gn.dig (-(n.tmod 10)).toNat := by
  have hX := tdm10 n (by omega)
  have h1 : n.tdiv 10 < 0 := by omega
  have h2 : -10 < n.tmod 10 ∧ n.tmod 10 ≤ 0 := by omega
  rw [fmt_neg n (by omega), fmt_neg _ h1, Gn.dig_step _ (by omega), Gn.dig_small (-(n.tmod 10)).toNat (by omega)]
  rw [show (-n).toNat / 10 = (-(n.tdiv 10)).toNat from by omega, show (-n).toNat % 10 = (-(n.tmod 10)).toNat from by omega]
  simp

set_option maxHeartbeats 400000 in
theorem implFmtNeg (k : Nat) : ∀ (n : Int) (w : World), -n ≤ k → n < 0 → -9223372036854775808 ≤ n →
    Calls Try.prog 37 #[.int .i64 n] w fun e w' => e = .returned (.string (bs (Gn.fmt n))) ∧ w = w' := by
  induction k with
  | zero => intro n w h1 h2 h3; omega
  | succ k ih =>
    intro n w h1 h2 h3
    by_cases h10 : -10 < n
    · have hl1 : (Gn.dig (-n).toNat).length ≤ 19 := by exact Gn.dig_len_19 _ (by omega)
      have H0 := Lib.hid (fmt_neg n h2)
      go_enter Try.func37, Try.ntmps37
      go_wp2_with fail
      refine (implFmtPos 10 (-n) _ (by omega) (by omega) (by omega)).mono ?_
      rintro e w' ⟨rfl, rfl⟩
      go_wp2_with fail
      go_ret
      refine ⟨ret_str ?_, rfl⟩
      rw [H0.out]; first | rfl | exact bs_append [45] _
    · have IH := Lib.hid ih
      clear ih
      have hX := tdm10 n (by omega)
      have hl1 : (Gn.fmt (n.tdiv 10)).length ≤ 20 := by exact Gn.fmt_len _ (by omega) (by omega)
      have hl2 : (Gn.dig (-(n.tmod 10)).toNat).length ≤ 19 := by exact Gn.dig_len_19 _ (by omega)
      have hm : -10 < n.tmod 10 ∧ n.tmod 10 ≤ 0 := by omega
      have hd : -922337203685477580 ≤ n.tdiv 10 ∧ n.tdiv 10 < 0 := by omega
      have H0 := Lib.hid (fmt_neg_step n (by omega))
      have H1 : -n.tdiv 10 ≤ (k : Int) := by omega
      clear hX
      go_enter Try.func37, Try.ntmps37
      go_wp2_with fail
      refine (IH.out (n.tdiv 10) _ H1 (by omega) (by omega)).mono ?_
      rintro e w' ⟨rfl, rfl⟩
      go_wp2_with fail
      refine (implFmtPos 10 (-(n.tmod 10)) _ (by omega) (by omega) (by omega)).mono ?_
      rintro e w' ⟨rfl, rfl⟩
      go_wp2_with fail
      go_ret
      refine ⟨ret_str ?_, rfl⟩
      rw [H0.out]

theorem implFmt (n : Int) (w : World) (h1 : -9223372036854775808 ≤ n) (h2 : n ≤ 9223372036854775807) :
    Calls Try.prog 37 #[.int .i64 n] w fun e w' => e = .returned (.string (bs (Gn.fmt n))) ∧ w = w' := by
  by_cases h : n < 0
  · exact implFmtNeg (-n).toNat n w (by omega) h h1
  · rw [fmt_pos n (by omega)]; exact implFmtPos n.toNat n w (by omega) (by omega) h2
/-- the text of one byte -/
theorem conv1 (w : World) (c : Int) :
    Sem.run Try.prog (convert 22 9 (.slice (some { block := w.heap.size, off := 0 }) 1 1)) (w.alloc (.cells #[.int .u8 c] 5)) =
      .ok (.string (bs [UInt8.ofNat c.toNat])) (w.alloc (.cells #[.int .u8 c] 5)) := by
  rw [run_convert_bytes_string _ _ _ _ _ _ _ Try.underlying22 Try.underlying5 Try.underlying9]
  rw [run_bytesToString _ _ _ _ [c] (by simp [go_sem])]
  rfl

theorem conv1_drew (w : World) (c : Int) :
    Sem.run Try.prog (convert 22 9 (.slice (some { block := w.heap.size, off := 0 }) 1 1)) (w.alloc (.cells #[.int .u8 c] 5)).drew =
      .ok (.string (bs [UInt8.ofNat c.toNat])) (w.alloc (.cells #[.int .u8 c] 5)).drew := by
  rw [run_convert_bytes_string _ _ _ _ _ _ _ Try.underlying22 Try.underlying5 Try.underlying9]
  rw [run_bytesToString _ _ _ _ [c] (by simp [go_sem])]
  rfl
theorem conv1_below {w w1 : World} {c : Int} (hb : Below (w.alloc (.cells #[.int .u8 c] 5)).drew.heap.size (w.alloc (.cells #[.int .u8 c] 5)).drew w1) :
    Sem.run Try.prog (convert 22 9 (.slice (some { block := w.heap.size, off := 0 }) 1 1)) w1 = .ok (.string (bs [UInt8.ofNat c.toNat])) w1 := by
  rw [run_convert_bytes_string _ _ _ _ _ _ _ Try.underlying22 Try.underlying5 Try.underlying9]
  have h := hb.cell (p := { block := w.heap.size, off := 0 }) (by simp)
  rw [run_bytesToString _ _ _ _ [c] (by simp [go_sem, h])]
  rfl

theorem str_ne (a : ByteArray) : ((a.toList == a.toList)) = true := by simp


end Go.Proofs.Ytjchindjoailbaa

/- Slices of strings in the laws: compared, marked, looked at again. -/
namespace Go.Proofs.Ytjchindjoailbaa
set_option linter.unusedSimpArgs false
set_option linter.unusedVariables false
open Go.RowKit

/-- the strings as cells -/
def strs (l : List ByteArray) : List Value := l.map Value.string
theorem strs_len (l : List ByteArray) : (strs l).length = l.length := by simp [strs]
theorem strs_at (l : List ByteArray) (j : Nat) (h : j < l.length) : (strs l)[j]'(by simpa [strs] using h) = .string l[j] := by simp [strs]

theorem row_str {w : World} {b off n cap : Nat} {l : List ByteArray} (h : Row w (some ⟨b, off, none⟩) n cap 1 (strs l)) (j : Nat) (hj : j < l.length) : w.cell? ⟨b, off + j, none⟩ = some (.string l[j]) := by
  rw [h.at j (by simpa [strs] using hj), strs_at l j hj]

/-- the mark of number k -/
def mk (k : Int) : ByteArray := bs (109 :: Gn.dig k.toNat)
def marks (k : Int) (n : Nat) : List ByteArray := (List.range n).map fun (i : Nat) => mk (k + (i : Int))
theorem marks_len (k : Int) (n : Nat) : (marks k n).length = n := by simp [marks]
theorem marks_at (k : Int) (n i : Nat) (h : i < n) : (marks k n)[i]'(by rw [marks_len]; exact h) = mk (k + i) := by simp [marks]

/-- of number k the digits l are written, m is left -/
def Left (m : Int) (l : List UInt8) (k : Int) : Prop := (m = 0 ∧ l = Gn.dig k.toNat) ∨ (0 < m ∧ Gn.dig m.toNat ++ l = Gn.dig k.toNat)
theorem Left.le {m : Int} {l : List UInt8} {k : Int} (h : Left m l k) (hk : k ≤ 9223372036854775807) : l.length ≤ 20 := by
  have h20 := Gn.dig_len_19 k.toNat (by omega)
  rcases h with ⟨_, rfl⟩ | ⟨_, h⟩
  · omega
  · have := congrArg List.length h; simp at this; omega
theorem Left.step {m : Int} {l : List UInt8} {k : Int} (h : Left m l k) (h0 : 0 < m) : Left (m / 10) ([UInt8.ofNat (48 + m % 10).toNat] ++ l) k := by
  rcases h with ⟨h, _⟩ | ⟨_, h⟩
  · omega
  · rw [show (48 + m % 10).toNat = 48 + m.toNat % 10 from by omega]
    by_cases h10 : m < 10
    · exact .inl ⟨by omega, by rw [← h, Gn.dig_small m.toNat (by omega), show m.toNat % 10 = m.toNat from by omega]⟩
    · exact .inr ⟨by omega, by rw [← h, Gn.dig_step m.toNat (by omega), show (m / 10).toNat = m.toNat / 10 from by omega]; simp⟩

set_option maxHeartbeats 1000000 in
theorem eqStrs (a1 a2 : Option Addr) (n1 c1 n2 c2 : Nat) (l : List ByteArray) (w : World) (r1 : Row w a1 n1 c1 1 (strs l)) (r2 : Row w a2 n2 c2 1 (strs l)) :
    Calls Try.prog 32 #[.slice a1 n1 c1, .slice a2 n2 c2] w fun e w' => e = .returned (.bool true) ∧ ∃ n, w' = w.drewN n := by
  have e1 : l.length = n1 := by have := r1.len; simpa [strs] using this
  have e2 : l.length = n2 := by have := r2.len; simpa [strs] using this
  obtain rfl : n1 = n2 := by omega
  have hn := r1.le
  have E1 := Lib.hid e1
  clear e1 e2
  have R1 := Lib.hid r1
  have R2 := Lib.hid r2
  rcases r1.forms with ⟨rfl, rfl, rfl⟩ | ⟨b1, o1, rfl⟩
  · clear r1 r2
    go_enter Try.func32, Try.ntmps32
    go_wp2_with fail
    go_rounds 1
    go_ret
    exact ⟨rfl, 0, rfl⟩
  · by_cases h0 : n1 = 0
    · subst h0
      clear r1 r2
      go_enter Try.func32, Try.ntmps32
      go_wp2_with fail
      go_rounds 1
      go_ret
      exact ⟨rfl, 0, rfl⟩
    · obtain ⟨b2, o2, rfl⟩ := r2.form (by omega)
      clear r1 r2
      go_enter Try.func32, Try.ntmps32
      go_wp2_with fail
      go_loopw [5] (fun v wr => ∃ k : Nat, k ≤ n1 ∧ v = .int .i64 k ∧ ∃ n, wr = w.drewN n) (fun v _ => n1 - (intOf v).toNat)
      case atStart => exact ⟨0, by omega, rfl, 0, rfl⟩
      case round =>
        obtain ⟨k, hk, rfl, n, rfl⟩ := hrel
        by_cases hlt : k < n1
        · have hl : k < l.length := by rw [E1.out]; exact hlt
          have q1 := row_str R1.out k hl
          have q2 := row_str R2.out k hl
          generalize l[k] = s at q1 q2
          clear hl
          go_wp2_with fail
          go_quiet (fail)
          go_wp2_with fail
          go_roundw
          case rel => exact ⟨k + 1, by omega, by go_num, _, rfl⟩
          case measure => simp [intOf]; omega
        · go_wp2_with fail
          go_ret
          exact ⟨rfl, n, rfl⟩

/-- i marks in front of what was there -/
def markedTo (k : Int) (i : Nat) (xs : List Value) : List Value := strs (marks k i) ++ xs.drop i
theorem marked_zero (k : Int) (xs : List Value) : markedTo k 0 xs = xs := by simp [markedTo, marks, strs]
theorem marked_all (k : Int) (xs : List Value) (n : Nat) (h : xs.length = n) : markedTo k n xs = strs (marks k n) := by
  unfold markedTo; rw [List.drop_of_length_le (by omega)]; simp
theorem marked_step (k : Int) (i : Nat) (xs : List Value) (h : i < xs.length) : (markedTo k i xs).set i (.string (mk (k + i))) = markedTo k (i + 1) xs := by
  have hl : (strs (marks k i)).length = i := by simp [strs, marks_len]
  unfold markedTo
  rw [List.set_append_right _ _ (by omega), hl, Nat.sub_self, List.drop_eq_getElem_cons h, List.set_cons_zero]
  have : marks k (i + 1) = marks k i ++ [mk (k + i)] := by simp [marks, List.range_succ]
  rw [this]; simp [strs]
theorem marked_len (k : Int) (i : Nat) (xs : List Value) (h : i ≤ xs.length) : (markedTo k i xs).length = xs.length := by
  simp [markedTo, strs, marks_len]; omega

end Go.Proofs.Ytjchindjoailbaa

/- A caller's strings, opened. -/
namespace Go.Proofs.Ytjchindjoailbaa
set_option linter.unusedSimpArgs false
set_option linter.unusedVariables false
set_option maxRecDepth 100000
open Go.RowKit Go.ChangeShapes Go.WideShapes Go.ChangeAt

section
variable {H : Type} {enc : TypeId × Value → H} {w : World} {base : Nat} {spare : Nat → Bool} {held : Bool}
theorem open_strs {r : Reach} {b0 : Nat} {v : Value} {d : DataW H} {p : List MemPlace} (hv : Value.okWide Try.prog w r b0 42 v) (h : DataW.Trod enc Try.prog w base spare held 42 v d p) :
    ∃ (a : Option Addr) (n c : Nat) (l : List ByteArray), v = .slice a n c ∧ l.length = n ∧ ArgRow w a n c 1 (strs l) ∧ ∀ s ∈ l, s.size ≤ maxLen := by
  obtain ⟨a, n, c, rfl⟩ := okWide_slice Try.underlying42 hv
  obtain ⟨fuel, hf⟩ := h
  obtain ⟨a', n', c', l, e, hl, hr, hp⟩ := open_rows Try.underlying42 (by kernel_rfl) (Nat.zero_lt_one) (fun s : ByteArray => [.string s]) (fun s => s.size ≤ maxLen) (fun _ => rfl)
    (fun n cs y h => by obtain ⟨s, h1, _, h2⟩ := DataW.trod_string Try.underlying9 h; exact ⟨s, h1, h2⟩) hf
  simp [Value.cells] at e
  obtain ⟨rfl, rfl, rfl⟩ := e
  refine ⟨_, _, _, l, rfl, hl, ?_, hp⟩
  have : l.flatMap (fun s => [Value.string s]) = strs l := by
    clear hr hl hp; unfold strs; induction l with
    | nil => rfl
    | cons a l ih => rw [List.flatMap_cons, ih]; rfl
  rw [← this]; exact hr

end
end Go.Proofs.Ytjchindjoailbaa

/- What strings.Repeat and strings.Join of the library give: the contracts of the shelf, laid at this program. -/
namespace Go.Proofs
set_option maxRecDepth 100000
open Go.Shelf
def Try.lays156_ren : Go.Shelf.Ren := ⟨fun | 156 => 85 | 165 => 128 | 166 => 129 | 169 => 130 | 240 => 156 | 241 => 157 | 276 => 169 | 277 => 170 | n => n, fun | 31 => 42 | 9 => 9 | 3 => 3 | 4 => 4 | 0 => 0 | 20 => 20 | 72 => 135 | 76 => 139 | 70 => 133 | 37 => 22 | 75 => 138 | 127 => 157 | 164 => 167 | 5 => 5 | 80 => 141 | n => n, fun | n => n⟩
theorem Try.lays156 : Go.Proofs.Lays.n156 Try.prog Try.lays156_ren := {
  mixed := by kernel_rfl
  f156 := Try.func85.trans (congrArg some (by kernel_rfl))
  f165 := Try.func128.trans (congrArg some (by kernel_rfl))
  f166 := Try.func129.trans (congrArg some (by kernel_rfl))
  f169 := Try.func130.trans (congrArg some (by kernel_rfl))
  f240 := Try.func156.trans (congrArg some (by kernel_rfl))
  f241 := Try.func157.trans (congrArg some (by kernel_rfl))
  f276 := Try.func169.trans (congrArg some (by kernel_rfl))
  f277 := Try.func170.trans (congrArg some (by kernel_rfl))
  t0 := Try.underlying0
  a0 := Try.isAgg0
  z0 := Try.sizeOf0
  v0 := Try.zeroValue0
  t3 := Try.underlying3
  a3 := Try.isAgg3
  z3 := Try.sizeOf3
  v3 := Try.zeroValue3
  t4 := Try.underlying4
  a4 := Try.isAgg4
  z4 := Try.sizeOf4
  v4 := Try.zeroValue4
  t9 := Try.underlying9
  a9 := Try.isAgg9
  z9 := Try.sizeOf9
  v9 := Try.zeroValue9
  t20 := Try.underlying20
  a20 := Try.isAgg20
  z20 := Try.sizeOf20
  v20 := Try.zeroValue20
  t31 := Try.underlying42
  a31 := Try.isAgg42
  z31 := Try.sizeOf42
  v31 := Try.zeroValue42
  t37 := Try.underlying22
  a37 := Try.isAgg22
  z37 := Try.sizeOf22
  v37 := Try.zeroValue22
  t70 := Try.underlying133
  a70 := Try.isAgg133
  z70 := Try.sizeOf133
  v70 := Try.zeroValue133
  t72 := Try.underlying135
  a72 := Try.isAgg135
  z72 := Try.sizeOf135
  v72 := Try.zeroValue135
  t75 := Try.underlying138
  a75 := Try.isAgg138
  z75 := Try.sizeOf138
  v75 := Try.zeroValue138
  t76 := Try.underlying139
  a76 := Try.isAgg139
  z76 := Try.sizeOf139
  v76 := Try.zeroValue139
  t127 := Try.underlying157
  a127 := Try.isAgg157
  z127 := Try.sizeOf157
  v127 := Try.zeroValue157
  t164 := Try.underlying167
  a164 := Try.isAgg167
  z164 := Try.sizeOf167
  v164 := Try.zeroValue167 }
theorem Try.Builder_Extra_156 : Builder.Extra Try.prog Try.lays156_ren := {
  sizeBuilder := by kernel_rfl
  liesBuilder := by kernel_rfl
  t5 := Try.underlying5
  a5 := Try.isAgg5
  z5 := Try.sizeOf5
  v5 := Try.zeroValue5
  infoByte := by kernel_rfl
  cellsByte := by kernel_rfl
  sizeByte := by kernel_rfl
  neB5 := by decide }
open Go.RowKit in
/-- No element: the empty string; the world is as it was. (Whatever the slice's address and capacity: a nil slice too.) (LAID: no walk: one application.) -/
theorem Try.strings_Join_none (a : Option Addr) (c : Nat) (sep : ByteArray) (w : World) :
    Calls Try.prog 85 #[.slice a 0 c, .string sep] w fun e w' => e = .returned (.string ⟨#[]⟩) ∧ w' = w := Any.strings_Join_none Try.lays156 Try.Builder_Extra_156 a c sep w
open Go.RowKit in
/-- strings.Join: "Join concatenates the elements of its first argument to create a single string. The separator string sep is placed between elements in the resulting string.": HOWEVER MANY ELEMENTS. Below the heap's end the world is as it was. (LAID: no walk: one application.) -/
theorem Try.strings_Join (bk o c : Nat) (xs : List ByteArray) (sep : ByteArray) (w : World) (hcells : ∀ (j : Nat) x, xs[j]? = some x → w.cell? ⟨bk, o + j, none⟩ = some (.string x)) (hbk : bk < w.heap.size) (hN : xs.length ≤ 140737488355328) (hcap : xs.length ≤ c) (hlen : (Lib.join (xs.map (·.data.toList)) sep.data.toList).length ≤ 140737488355328) :
    Calls Try.prog 85 #[.slice (some ⟨bk, o, none⟩) xs.length c, .string sep] w fun e w' => e = .returned (.string ⟨(Lib.join (xs.map (·.data.toList)) sep.data.toList).toArray⟩) ∧ Below w.heap.size w w' := Any.strings_Join Try.lays156 Try.Builder_Extra_156 bk o c xs sep w hcells hbk hN hcap hlen
end Go.Proofs

/- Join: the program's, by the library's contract, and the reference's, by a loop; the law's walk. -/
namespace Go.Proofs.Ytjchindjoailbaa
set_option linter.unusedSimpArgs false
set_option linter.unusedVariables false
open Go.RowKit

/-- the strings joined -/
def JW (sep : ByteArray) (l : List ByteArray) : ByteArray := ⟨(Lib.join (l.map (·.data.toList)) sep.data.toList).toArray⟩
theorem joinTail_snoc (sep : List UInt8) (r : List (List UInt8)) (y : List UInt8) : Lib.joinTail sep (r ++ [y]) = Lib.joinTail sep r ++ (sep ++ y) := by simp [Lib.joinTail]
theorem JW_nil (sep : ByteArray) : JW sep [] = ⟨#[]⟩ := by simp [JW, Lib.join_nil]
theorem JW_one (sep : ByteArray) (l : List ByteArray) (h : 0 < l.length) : JW sep (l.take 1) = ⟨#[]⟩ ++ l[0] := by
  rw [show l.take 1 = [l[0]] by
    cases l with
    | nil => simp at h
    | cons a t => simp]
  simp only [JW, List.map_cons, List.map_nil, Lib.join_one]
  apply ByteArray.ext
  simp
theorem JW_more (sep : ByteArray) (l : List ByteArray) (i : Nat) (h0 : 0 < i) (h : i < l.length) : JW sep (l.take (i + 1)) = JW sep (l.take i) ++ sep ++ l[i] := by
  rw [List.take_succ_eq_append_getElem h]
  obtain ⟨x, r, e⟩ : ∃ x r, l.take i = x :: r := by
    cases hq : l.take i with
    | nil => have := congrArg List.length hq; rw [List.length_take, List.length_nil] at this; omega
    | cons x r => exact ⟨x, r, rfl⟩
  rw [e]
  simp only [JW, List.cons_append, List.map_cons, List.map_append, List.map_nil, Lib.join_cons, joinTail_snoc]
  apply ByteArray.ext
  simp
/-- the sizes together -/
def tot (l : List ByteArray) : Nat := (l.map ByteArray.size).sum
theorem tot_snoc (l : List ByteArray) (i : Nat) (h : i < l.length) : tot (l.take (i + 1)) = tot (l.take i) + l[i].size := by
  rw [List.take_succ_eq_append_getElem h]; unfold tot; rw [List.map_append, List.sum_append]
  simp only [List.map_cons, List.map_nil, List.sum_cons, List.sum_nil]; omega
theorem tot_mem (l : List ByteArray) (i : Nat) (h : i < l.length) : l[i].size ≤ tot l := by
  have h1 := tot_snoc l i h
  have h2 : tot (l.take (i + 1)) ≤ tot l := by
    have e : tot l = tot (l.take (i + 1)) + tot (l.drop (i + 1)) := by
      conv => lhs; rw [← List.take_append_drop (i + 1) l]
      unfold tot; rw [List.map_append, List.sum_append]
    omega
  omega
theorem tot_lens (l : List ByteArray) : Lib.lens (l.map (·.data.toList)) = tot l := by
  induction l with
  | nil => rfl
  | cons a l ih =>
    simp only [tot, List.map_cons, List.sum_cons, Lib.lens] at ih ⊢
    rw [ih]; rfl
theorem tot_take (l : List ByteArray) (i : Nat) : tot (l.take i) ≤ tot l := by
  have e : tot l = tot (l.take i) + tot (l.drop i) := by
    conv => lhs; rw [← List.take_append_drop i l]
    unfold tot; rw [List.map_append, List.sum_append]
  omega
theorem JW_len (sep : ByteArray) (l : List ByteArray) (hs : sep.size ≤ 1048576) (hl : l.length ≤ 1048576) (ht : tot l ≤ 1048576) : (Lib.join (l.map (·.data.toList)) sep.data.toList).length ≤ 1099512676352 := by
  cases l with
  | nil => simp [Lib.join_nil]
  | cons a l =>
    have h1 := tot_lens (a :: l)
    rw [List.map_cons] at h1
    rw [List.map_cons, Lib.join_length, h1, List.length_map]
    have h2 : sep.data.toList.length ≤ 1048576 := hs
    have h3 : l.length ≤ 1048576 := by simp at hl; omega
    have h4 := Nat.mul_le_mul h2 h3
    omega
theorem JW_size (sep : ByteArray) (l : List ByteArray) (hs : sep.size ≤ 1048576) (hl : l.length ≤ 1048576) (ht : tot l ≤ 1048576) : (JW sep l).size ≤ 1099512676352 := by
  have := JW_len sep l hs hl ht
  simpa [JW, ByteArray.size] using this
theorem own_arg {w : World} {base : Nat} {e : TypeId} {size : Nat} {a : Option Addr} {n cap : Nat} {xs : List Value} (h : w.ownsRow base e size (.slice a n cap) n xs) : ArgRow w a n cap size xs := .of (own_row h)
theorem ArgRow.strs_len {w : World} {a : Option Addr} {n c : Nat} {l : List ByteArray} (h : ArgRow w a n c 1 (strs l)) : l.length = n := by
  have h1 := h.1
  rw [Proofs.Ytjchindjoailbaa.strs_len] at h1; omega
theorem str_cell {w : World} {b o n c : Nat} {l : List ByteArray} (h : ArgRow w (some ⟨b, o, none⟩) n c 1 (strs l)) (i : Nat) (hi : i < l.length) : w.cell? ⟨b, o + i, none⟩ = some (.string l[i]) := by
  have hl := Proofs.Ytjchindjoailbaa.strs_len l
  have hn : 0 < n := by have := h.1; omega
  obtain ⟨b', o', e, _, hc⟩ := h.form hn
  cases e
  rw [hc i (by omega), strs_at]

set_option maxHeartbeats 2000000 in
theorem szStrs (a : Option Addr) (n c : Nat) (l : List ByteArray) (w : World) (hr : ArgRow w a n c 1 (strs l)) (hs : ∀ s ∈ l, s.size ≤ maxLen) :
    Calls Try.prog 28 #[.slice a n c, .int .i64 1048576] w fun e w' => ∃ z : Int, e = .returned (.int .i64 z) ∧ (z < 0 ∨ (n ≤ 1048576 ∧ tot l ≤ 1048576)) ∧ w = w' := by
  have hn := hr.le
  have hl := hr.strs_len
  unfold maxLen at hn
  by_cases h : 1048576 < n
  · clear hr
    go_enter Try.func28, Try.ntmps28
    go_wp2_with fail
    go_ret
    exact ⟨-1, rfl, .inl (by omega), rfl⟩
  · have HR := Lib.hid hr
    have HL := Lib.hid hl
    have HS := Lib.hid hs
    clear hr hl hs
    go_enter Try.func28, Try.ntmps28
    go_wp2_with fail
    go_loopw [1, 5] (fun v u wr => ∃ (i : Nat) (z : Int), i ≤ n ∧ u = .int .i64 i ∧ v = .int .i64 z ∧ 0 ≤ z ∧ z ≤ 1048576 ∧ Hid (z + n + tot (l.take i) = 1048576) ∧ wr = w) (fun _ u _ => n - (intOf u).toNat)
    case atStart => exact ⟨0, 1048576 - n, by omega, rfl, by go_num, by omega, by omega, by show _ = _; simp [tot], rfl⟩
    case round =>
      obtain ⟨i, z, hi, rfl, rfl, hz0, hz1, HZ, rfl⟩ := hrel
      by_cases hlt : i < n
      · have hli : i < l.length := by rw [HL.out]; exact hlt
        obtain ⟨b, o, rfl, _, _⟩ := HR.out.form (by omega)
        have c0 := str_cell HR.out i hli
        have HT := Lib.hid (tot_snoc l i hli)
        have hmx : (l[i]).size ≤ tot l := tot_mem l i hli
        have hbig := HS.out l[i] (List.getElem_mem _)
        unfold maxLen at hbig
        generalize l[i] = s at c0 HT hmx hbig
        by_cases hq : z < s.size
        · clear hli hmx
          go_wp2_with fail
          go_ret
          exact ⟨-1, rfl, .inl (by omega), rfl⟩
        · have HZ2 : Hid ((z - s.size) + n + tot (l.take (i + 1)) = 1048576) := by show _ = _; rw [HT.out]; have := HZ.out; omega
          clear hli hmx
          go_wp2_with fail
          go_roundw
          case rel => exact ⟨i + 1, z - s.size, by omega, by go_num, by go_num, by omega, by omega, HZ2.out, by trivial⟩
          case measure => simp [intOf]; omega
      · obtain rfl : i = n := by omega
        go_wp2_with fail
        go_ret
        refine ⟨z, rfl, .inr ⟨by omega, ?_⟩, rfl⟩
        have := HZ.out
        rw [List.take_of_length_le (by rw [HL.out]; omega)] at this
        omega
set_option maxHeartbeats 1000000 in
theorem eqStrsA (a1 a2 : Option Addr) (n c1 c2 : Nat) (l : List ByteArray) (w : World) (r1 : ArgRow w a1 n c1 1 (strs l)) (r2 : ArgRow w a2 n c2 1 (strs l)) :
    Calls Try.prog 32 #[.slice a1 n c1, .slice a2 n c2] w fun e w' => e = .returned (.bool true) ∧ Below w.heap.size w w' := by
  have hl := r1.strs_len
  have hn := r1.le
  unfold maxLen at hn
  by_cases h0 : n = 0
  · subst h0
    clear r1 r2
    go_enter Try.func32, Try.ntmps32
    go_wp2_with fail
    go_rounds 1
    go_ret
    exact ⟨rfl, Below.refl _ _⟩
  · obtain ⟨b1, o1, rfl, hb1, _⟩ := r1.form (by omega)
    obtain ⟨b2, o2, rfl, hb2, _⟩ := r2.form (by omega)
    have R1 := Lib.hid r1
    have R2 := Lib.hid r2
    have HL := Lib.hid hl
    clear r1 r2 hl
    go_enter Try.func32, Try.ntmps32
    go_wp2_with fail
    go_loopw [5] (fun v wr => ∃ k : Nat, k ≤ n ∧ v = .int .i64 k ∧ ∃ m, wr = w.drewN m) (fun v _ => n - (intOf v).toNat)
    case atStart => exact ⟨0, by omega, rfl, 0, rfl⟩
    case round =>
      obtain ⟨k, hk, rfl, m, rfl⟩ := hrel
      by_cases hlt : k < n
      · have hli : k < l.length := by rw [HL.out]; exact hlt
        have q1 := str_cell R1.out k hli
        have q2 := str_cell R2.out k hli
        generalize l[k] = s at q1 q2
        clear hli
        go_wp2_with fail
        go_quiet (fail)
        go_wp2_with fail
        go_roundw
        case rel => exact ⟨k + 1, by omega, by go_num, _, rfl⟩
        case measure => simp [intOf]; omega
      · go_wp2_with fail
        go_ret
        exact ⟨rfl, below_drewN (Below.refl _ _) _⟩
theorem strs_take (l : List ByteArray) (zs : List Value) (i : Nat) (h : i < l.length) (hz : zs.length = l.length) :
    (strs (l.take i) ++ zs.drop i).set i (.string l[i]) = strs (l.take (i + 1)) ++ zs.drop (i + 1) := by
  have hl : (strs (l.take i)).length = i := by rw [strs_len, List.length_take]; omega
  rw [List.set_append_right _ _ (by omega), hl, Nat.sub_self, List.drop_eq_getElem_cons (by omega), List.set_cons_zero, List.take_succ_eq_append_getElem h]
  simp only [strs, List.map_append, List.map_cons, List.map_nil, List.append_assoc, List.singleton_append]
set_option maxHeartbeats 2000000 in
theorem toStrs (a : Option Addr) (n c : Nat) (l : List ByteArray) (w : World) (hr : ArgRow w a n c 1 (strs l)) (hn : n ≤ 1048576) :
    Calls Try.prog 30 #[.slice a n c] w fun e w' => ∃ g, e = .returned (.slice (some ⟨g, 0, none⟩) n n) ∧ w'.ownsRow w.heap.size 9 1 (.slice (some ⟨g, 0, none⟩) n n) n (strs l) ∧ Below w.heap.size w w' := by
  have hl := hr.strs_len
  have hmk := run_make_rows (P := Try.prog) 42 9 (.string ByteArray.empty) 1 16 Try.underlying42 (by kernel_rfl) .i64 .i64 n (by omega) (by omega)
  have HZ : Hid ((w.alloc (.cells (madeCells #[Value.string ByteArray.empty] (n * 1)) 9)).ownsRow w.heap.size 9 1 (.slice (some ⟨w.heap.size, 0, none⟩) n n) n (madeCells #[Value.string ByteArray.empty] (n * 1)).toList) :=
    World.ownsRow_lit w _ n (Nat.le_refl _) (by unfold maxLen; omega) (size_madeCells _ _)
  have hzl : (madeCells #[Value.string ByteArray.empty] (n * 1)).toList.length = l.length := by rw [Array.length_toList, size_madeCells, hl, Nat.mul_one]
  obtain ⟨zs, hzs⟩ : ∃ zs, madeCells #[Value.string ByteArray.empty] (n * 1) = zs := ⟨_, rfl⟩
  have hmk' : ∀ (w : World), Sem.run Try.prog (Instr.makeSlice 42 (Value.int IntKind.i64 ↑n) (Value.int IntKind.i64 ↑n)) w = Result.ok (Value.slice (some { block := w.heap.size, off := 0 }) n n) (w.alloc (Obj.cells zs 9)) := by
    intro w; rw [← hzs]; exact hmk w
  rw [hzs] at HZ hzl
  clear hmk hzs
  have HR := Lib.hid hr
  have HL := Lib.hid hl
  have HZL := Lib.hid hzl
  clear hr hl hzl
  go_enter Try.func30, Try.ntmps30
  go_wp2_with fail
  go_loopw [4] (fun u wr => ∃ i : Nat, i ≤ n ∧ u = .int .i64 i ∧ Hid (wr.ownsRow w.heap.size 9 1 (.slice (some ⟨w.heap.size, 0, none⟩) n n) n (strs (l.take i) ++ zs.toList.drop i)) ∧ Hid (Below w.heap.size w wr)) (fun u _ => n - (intOf u).toNat)
  case atStart => exact ⟨0, by omega, rfl, by simpa [Hid, strs] using HZ.out, balloc (Below.refl _ _) _⟩
  case round =>
    obtain ⟨i, hi, rfl, H, HB⟩ := hrel
    by_cases hlt : i < n
    · have hli : i < l.length := by rw [HL.out]; exact hlt
      obtain ⟨b, o, rfl, hb, hcell⟩ := HR.out.form (by omega)
      have hbl : b < wr.heap.size := Nat.lt_of_lt_of_le hb HB.out.size
      have hgl : w.heap.size < wr.heap.size := (own_base H.out _ rfl).2
      have c0 := str_cell HR.out i hli
      rw [← HB.out.cell (p := ⟨b, _, none⟩) hb] at c0
      have hlen : (strs (l.take i) ++ zs.toList.drop i).length = n := by have := H.out.1; omega
      have t0 : wr.cell? ⟨w.heap.size, i, none⟩ = some ((strs (l.take i) ++ zs.toList.drop i)[i]'(by omega)) := by
        rw [H.out.cellAt i (by omega), List.getElem?_eq_getElem (by omega)]
      have f0 := H.out.frozenAt i
      have H2 : Hid ((wr.setCell ⟨w.heap.size, i, none⟩ (.string l[i])).ownsRow w.heap.size 9 1 (.slice (some ⟨w.heap.size, 0, none⟩) n n) n (strs (l.take (i + 1)) ++ zs.toList.drop (i + 1))) := by
        show World.ownsRow _ _ _ _ _ _ _
        rw [← strs_take l zs.toList i hli HZL.out]; exact (H.out.stored i _).1
      have H3 : Hid (Below w.heap.size w (wr.setCell ⟨w.heap.size, i, none⟩ (.string l[i]))) := HB.out.setCell (Nat.le_refl _) _
      generalize l[i] = x at c0 H2 H3
      generalize (strs (l.take i) ++ zs.toList.drop i)[i]'(by omega) = y at t0
      clear hcell hlen
      go_wp2_with fail
      go_roundw
      case rel => exact ⟨i + 1, by omega, by go_num, H2.out, H3.out⟩
      case measure => simp [intOf]; omega
    · obtain rfl : i = n := by omega
      go_wp2_with fail
      go_ret
      refine ⟨_, rfl, ?_, HB.out⟩
      have := H.out
      rw [List.take_of_length_le (by rw [HL.out]; omega), List.drop_eq_nil_of_le (by rw [HZL.out, HL.out]; omega), List.append_nil] at this
      exact this

set_option maxHeartbeats 2000000 in
theorem implJoin (g n c : Nat) (l : List ByteArray) (sep : ByteArray) (w : World) (hr : ArgRow w (some ⟨g, 0, none⟩) n c 1 (strs l)) (hg : g < w.heap.size) (hs : sep.size ≤ 1048576) (hn : n ≤ 1048576) (ht : tot l ≤ 1048576) :
    Calls Try.prog 31 #[.slice (some ⟨g, 0, none⟩) n c, .string sep] w fun e w' => e = .returned (.string (JW sep l)) ∧ Below w.heap.size w w' := by
  obtain rfl := hr.strs_len
  have hc := hr.2.1
  have HR := Lib.hid hr
  have KJ := Lib.hid (fun (w : World) (h1 : ∀ (j : Nat) x, l[j]? = some x → w.cell? ⟨g, 0 + j, none⟩ = some (.string x)) (h2 : g < w.heap.size) => Try.strings_Join g 0 c l sep w h1 h2 (by omega) hc (by have := JW_len sep l hs hn ht; omega))
  clear hr
  go_enter Try.func31, Try.ntmps31
  go_wp2_with fail
  refine (KJ.out _ (fun j x hx => ?_) hg).mono ?_
  · obtain ⟨hj, e⟩ := List.getElem?_eq_some_iff.1 hx
    have := str_cell HR.out j hj
    rw [e] at this; exact this
  rintro e w1 ⟨rfl, hb1⟩
  go_wp2_with fail
  go_ret
  exact ⟨rfl, hb1⟩

set_option maxHeartbeats 2000000 in
theorem specJoin (g n c : Nat) (l : List ByteArray) (sep : ByteArray) (w : World) (hr : ArgRow w (some ⟨g, 0, none⟩) n c 1 (strs l)) (hs : sep.size ≤ 1048576) (hn : n ≤ 1048576) (ht : tot l ≤ 1048576) :
    Calls Try.prog 29 #[.slice (some ⟨g, 0, none⟩) n c, .string sep] w fun e w' => e = .returned (.string (JW sep l)) ∧ Below w.heap.size w w' := by
  have hl := hr.strs_len
  have HR := Lib.hid hr
  have HL := Lib.hid hl
  have HSZ := Lib.hid (fun i => JW_size sep (l.take i) hs (by rw [List.length_take]; omega) (Nat.le_trans (tot_take l i) ht))
  have HMX := Lib.hid (fun i (h : i < l.length) => Nat.le_trans (tot_mem l i h) ht)
  have HJ0 := Lib.hid (JW_nil sep)
  have HJ1 := Lib.hid (JW_one sep l)
  have HJM := Lib.hid (JW_more sep l)
  clear hr hl ht
  go_enter Try.func29, Try.ntmps29
  go_wp2_with fail
  go_loopw [5, 10] (fun v u wr => ∃ i : Nat, i ≤ n ∧ u = .int .i64 i ∧ v = .string (JW sep (l.take i)) ∧ Hid (Below w.heap.size w wr)) (fun _ u _ => n - (intOf u).toNat)
  case atStart => exact ⟨0, by omega, rfl, by rw [List.take_zero, HJ0.out], Below.refl _ _⟩
  case round =>
    obtain ⟨i, hi, rfl, rfl, HB⟩ := hrel
    by_cases hlt : i < n
    · have hli : i < l.length := by rw [HL.out]; exact hlt
      have c0 := str_cell (HR.out.below HB.out) i hli
      rw [Nat.zero_add] at c0
      have hgl : g < wr.heap.size := World.block_lt_of_cell? wr _ c0
      have hx := HMX.out i hli
      have hz := HSZ.out i
      by_cases h0 : i = 0
      · subst h0
        have HS : Hid (JW sep (l.take (0 + 1)) = ⟨#[]⟩ ++ l[0]) := HJ1.out hli
        have HE : Hid (JW sep (l.take 0) = ⟨#[]⟩) := HJ0.out
        rw [HE.out]
        generalize l[0] = x at c0 hx HS
        clear hli hz
        go_wp2_with fail
        go_roundw
        case rel => exact ⟨0 + 1, by omega, by go_num, by rw [HS.out], HB.out⟩
        case measure => simp [intOf]; omega
      · have HS : Hid (JW sep (l.take (i + 1)) = JW sep (l.take i) ++ sep ++ l[i]) := HJM.out i (by omega) hli
        generalize JW sep (l.take i) = s at hz HS
        generalize l[i] = x at c0 hx HS
        have hi0 : 0 < i := by omega
        clear hli
        go_wp2_with fail
        go_roundw
        case rel => exact ⟨i + 1, by omega, by go_num, by rw [HS.out], HB.out⟩
        case measure => simp [intOf]; omega
    · obtain rfl : i = n := by omega
      go_wp2_with fail
      go_ret
      exact ⟨ret_str (by rw [List.take_of_length_le (by rw [HL.out]; omega)]), HB.out⟩

set_option maxRecDepth 100000 in
set_option maxHeartbeats 4000000 in
theorem walk_FnExactJoin (a : Option Addr) (n c : Nat) (l : List ByteArray) (sep : ByteArray) (w : World) (hr : ArgRow w a n c 1 (strs l)) (hx : ∀ s ∈ l, s.size ≤ maxLen) (hsz : sep.size ≤ maxLen) :
    Calls Try.prog 5 #[.slice a n c, .string sep] w fun e w' => e = .returned (.bool true) ∧ Below w.heap.size w w' := by
  unfold maxLen at hsz
  by_cases hb : 1048576 < sep.size
  · clear hr hx
    go_enter Try.func5, Try.ntmps5
    go_wp2_with fail
    go_ret
    exact ⟨rfl, Below.refl _ _⟩
  have hb' : sep.size ≤ 1048576 := by omega
  have KZ := Lib.hid (szStrs a n c l w hr hx)
  have HR := Lib.hid hr
  clear hr hx hb
  go_enter Try.func5, Try.ntmps5
  go_wp2_with fail
  refine KZ.out.mono ?_
  rintro e w0 ⟨z, rfl, hz, rfl⟩
  by_cases hz0 : z < 0
  · clear hz
    go_wp2_with fail
    go_ret
    exact ⟨rfl, Below.refl _ _⟩
  obtain ⟨hn, ht⟩ := hz.resolve_left hz0
  have HT := Lib.hid ht
  clear hz ht
  go_wp2_with fail
  refine (toStrs a n c l _ HR.out hn).mono ?_
  rintro e w1 ⟨g1, rfl, o1, hb1⟩
  have R1 := Lib.hid (own_arg o1)
  have B1 := Lib.hid hb1
  clear o1 hb1
  go_wp2_with fail
  refine (specJoin g1 n n l sep _ R1.out hb' hn HT.out).mono ?_
  rintro e w2 ⟨rfl, hb2⟩
  have B2 : Hid (Below w.heap.size w w2) := B1.out.trans (hb2.mono B1.out.size)
  clear hb2
  go_wp2_with fail
  refine (toStrs a n c l _ (HR.out.below B2.out) hn).mono ?_
  rintro e w3 ⟨g3, rfl, o3, hb3⟩
  have hg3 := (own_base o3 _ rfl).2
  have R3 := Lib.hid (own_arg o3)
  have B3 : Hid (Below w.heap.size w w3) := B2.out.trans (hb3.mono B2.out.size)
  clear o3 hb3
  go_wp2_with fail
  refine (implJoin g3 n n l sep _ R3.out hg3 hb' hn HT.out).mono ?_
  rintro e w4 ⟨rfl, hb4⟩
  have R4 := Lib.hid (R3.out.below hb4)
  have B4 : Hid (Below w.heap.size w w4) := B3.out.trans (hb4.mono B3.out.size)
  clear hb4
  generalize JW sep l = J
  go_wp2_with fail
  refine (toStrs a n c l _ (HR.out.below B4.out) hn).mono ?_
  rintro e w5 ⟨g5, rfl, o5, hb5⟩
  have R5 := Lib.hid (own_arg o5)
  have R45 := Lib.hid (R4.out.below hb5)
  have B5 : Hid (Below w.heap.size w w5) := B4.out.trans (hb5.mono B4.out.size)
  clear o5 hb5
  go_wp2_with fail
  refine (eqStrsA (some ⟨g3, 0, none⟩) (some ⟨g5, 0, none⟩) n n n l _ R45.out R5.out).mono ?_
  rintro e w6 ⟨rfl, hb6⟩
  go_wp2_with fail
  go_ret
  exact ⟨rfl, B5.out.trans (hb6.mono B5.out.size)⟩
end Go.Proofs.Ytjchindjoailbaa

/- For every input the program's Join returns what the reference's Join returns: the law FnExactJoin answers true and leaves its arguments as they were. -/
namespace Go.Proofs.Ytjchindjoailbaa
set_option linter.unusedSimpArgs false
set_option linter.unusedVariables false
open Go.ChangeShapes Go.WideShapes Go.ChangeAt Go.RowKit
open Go.ChangeMaps (open_string shut_string)
set_option linter.unusedVariables false

set_option maxRecDepth 100000 in
theorem lifted_FnExactJoin (os : Os) (started : os.Started) (H : Type) (enc : TypeId × Value → H) :
    ReturnsInHanded {} Try.checked os 5 .any (Rows.fnExactJoinSpec.pre6 enc Try.prog Try.f5 Rows.fnExactJoinRow.domain false) (Rows.fnExactJoinSpec.post enc Try.prog Try.f5 false true false false) := by
  refine returnsInHanded_of_change (C := Try.checked) own started (by kernel_rfl) Try.func5
    (ChangeSpec.witness6 (enc := enc) (C := Try.checked) false ⟨#[], #[.slice none 0 0, .string ByteArray.empty], []⟩ 8 (by kernel_rfl) (by kernel_rfl) (by kernel_rfl) (by kernel_rfl)) ?_
  intro W base args ds gs before hval0 hW hcnd _
  have hval : ∀ (j : Nat) t v, Try.f5.params[j]? = some t → args[j]? = some v → Value.okWide Try.prog W .any base t v := hval0
  have hW' := hW
  obtain ⟨p, q, hA0, hV, rfl, hfz, hnd⟩ := hW
  have hA : DataW.TrodAll enc Try.prog W 0 (fun _ => true) true Try.f5.params.toList args.toList ds p := hA0
  rw [Try.params5] at hA hval
  obtain ⟨v0, vs0, d0, ds0, p0, q0, hargs, rfl, rfl, h0, r0⟩ := trodAll_cons hA
  obtain ⟨v1, vs1, d1, ds1, p1, q1, rfl, rfl, rfl, h1, r1⟩ := trodAll_cons r0
  obtain ⟨rfl, rfl, rfl⟩ := trodAll_nil r1
  obtain rfl : args = #[v0, v1] := by cases args; simp_all
  obtain ⟨rfl, rfl⟩ := trodVars_none hV
  have k0 := h0
  have lt0 : ∀ x ∈ p0, x.block < W.heap.size := by obtain ⟨m, hm⟩ := k0; exact DataW.trod_lt m _ _ _ hm
  obtain ⟨a0, n0, c0, l0, e0a, -, w0, x0⟩ := open_strs (hval 0 42 v0 rfl rfl) h0
  subst e0a
  have k1 := h1
  have lt1 : ∀ x ∈ p1, x.block < W.heap.size := by obtain ⟨m, hm⟩ := k1; exact DataW.trod_lt m _ _ _ hm
  obtain ⟨a1, e1a, e1b, e1c, w1⟩ := open_string Try.underlying9 (hval 1 9 v1 rfl rfl) h1
  subst e1a
  clear hA0 hval0
  refine (walk_FnExactJoin a0 n0 c0 l0 a1 W w0 x0 w1).mono fun e W' ⟨he, bel⟩ => ?_
  subst he
  exact ⟨_, rfl, _, _, _, [], _, [], hW', trodAll_mk1 (shut_bool Try.underlying4 _), (trodAll_cons_mk (Below.trod laidOut (by kernel_rfl) (of_decide_eq_true (by kernel_rfl)) k0 bel lt0) (trodAll_cons_mk (Below.trod laidOut (by kernel_rfl) (of_decide_eq_true (by kernel_rfl)) k1 bel lt1) trodAll_mk0)), rfl, bel.frame _, fun h => by cases h⟩

set_option maxRecDepth 100000 in
set_option maxHeartbeats 8000000 in
theorem closed_FnExactJoin : joinedFacts Try.pinned.checked.prog 5 Try.f5 Rows.fnExactJoinSpec Rows.fnExactJoinRow = true := by
  unfold joinedFacts
  repeat' (with_reducible refine band ?_ ?_)
  all_goals first | (with_reducible exact mayEnter_p) | ((with_reducible refine bmake (finals_p.trans ?_)); rfl) | ((with_reducible refine beq_iff_eq.2 (make_p.trans ?_)); rfl) | (as_aux_lemma => kernel_rfl)

theorem fnExactJoin_holds : Rows.FnExactJoinSaid :=
  OpenClaim.holds_of_wide 5 Try.f5 rfl rfl rfl rfl rfl rfl rfl ⟨rfl, rfl, rfl, rfl, rfl⟩ rfl rfl rfl rfl rfl (by kernel_rfl) Try.func5 closed_FnExactJoin
    (of_decide_eq_true (by kernel_rfl)) (by unfold Func.isWrapper; first | (rw [if_pos (by decide +kernel)]; kernel_rfl) | (rw [if_neg (by decide +kernel)]; exact ⟨rfl, rfl⟩))
    (fun os started H enc _ => lifted_FnExactJoin os started H enc)

end Go.Proofs.Ytjchindjoailbaa
