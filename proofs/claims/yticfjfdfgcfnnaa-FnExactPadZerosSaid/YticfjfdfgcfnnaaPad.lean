/- PadZeros of the program and of the reference give one text. -/
import Derived.Test.YticfjfdfgcfnnaaFmt
import Derived.Test.YticfjfdfgcfnnaaShelf
namespace Go.Proofs.Yticfjfdfgcfnnaa
set_option linter.unusedSimpArgs false
set_option linter.unusedVariables false
open Go.RowKit

def zs (k : Nat) : ByteArray := ⟨(Lib.repeatL ({ data := #[48] } : ByteArray).data.toList k).toArray⟩
theorem zs_size (k : Nat) : (zs k).size = k := by
  have := Lib.repeatL_length ({ data := #[48] } : ByteArray).data.toList k
  show (Lib.repeatL ({ data := #[48] } : ByteArray).data.toList k).toArray.size = k
  rw [List.size_toArray, this]; simp
theorem zs_succ (k : Nat) : zs (k + 1) = { data := #[48] } ++ zs k := by
  apply Go.WideShapes.bytes_inj
  simp [zs, Lib.repeatL]
def szOf : Value → Nat | .string b => b.size | _ => 0
theorem zs_step (k : Nat) (s : ByteArray) : ({ data := #[48] } : ByteArray) ++ (zs k ++ s) = zs (k + 1) ++ s := by
  rw [zs_succ, ByteArray.append_assoc]

theorem one_size (t : ByteArray) : (({ data := #[48] } : ByteArray) ++ t).size = 1 + t.size := by rw [ByteArray.size_append]; rfl
set_option maxHeartbeats 1000000 in
theorem specPad (s : ByteArray) (k : Nat) (w : World) (hs : s.size ≤ 1048576) (hk : s.size + k ≤ 2000) :
    Calls Try.prog 72 #[.string s, .int .i64 ((s.size + k : Nat) : Int)] w fun e w' => e = .returned (.string (zs k ++ s)) ∧ w = w' := by
  go_enter Try.func72, Try.ntmps72
  go_wp2_with fail
  go_loop [0] (fun u => ∃ t : ByteArray, ∃ j : Nat, u = .string t ∧ j ≤ k ∧ t.size = j + s.size ∧ Hid (t = zs j ++ s)) (fun u => s.size + k - szOf u)
  case atStart => exact ⟨s, 0, rfl, by omega, by omega, by
    show s = zs 0 ++ s
    apply Go.WideShapes.bytes_inj
    simp [zs, Lib.repeatL]⟩
  case round =>
    obtain ⟨t, j, rfl, hj, ht, HT⟩ := hrel
    by_cases hjk : j = k
    · subst hjk
      go_wp2_with fail
      go_ret
      exact ⟨ret_str HT.out, rfl⟩
    · go_wp2_with fail
      go_round
      case rel => exact ⟨_, j + 1, rfl, by omega, by rw [one_size]; omega, by
        show _ = _
        rw [HT.out, zs_step]⟩
      case measure => simp only [szOf, one_size]; omega
set_option maxHeartbeats 1000000 in
theorem implPad (s : ByteArray) (k : Nat) (w : World) (hs : s.size ≤ 1048576) (hk : s.size + k ≤ 2000) (h0 : 0 < k) :
    Calls Try.prog 73 #[.string s, .int .i64 ((s.size + k : Nat) : Int)] w fun e w' => e = .returned (.string (zs k ++ s)) ∧ Below w.heap.size w w' := by
  have C := fun w => Try.strings_Repeat { data := #[48] } k w (by omega) (by show 1 * k ≤ _; omega)
  have K := Lib.hid (fun w (x : Int) (hx : x = (k : Int)) => (show Calls Try.prog 95 #[.string { data := #[48] }, .int .i64 x] w fun e w' => e = .returned (.string (zs k)) ∧ Below w.heap.size w w' from hx ▸ C w))
  clear C
  have hT := zs_size k
  generalize zs k = T at K hT ⊢
  have e1 : ((s.size + k : Nat) : Int) - s.size = (k : Int) := by omega
  go_enter Try.func73, Try.ntmps73
  go_wp2_with fail
  refine (K.out _ _ (by omega)).mono ?_
  rintro e wx ⟨rfl, hbx⟩
  obtain ⟨hcx, hfx⟩ := bcell hbx
  have hzx := bsize hbx
  go_wp2_with fail
  go_ret
  exact ⟨rfl, hbx⟩

set_option maxHeartbeats 1000000 in
theorem keepPad (s : ByteArray) (n : Int) (w : World) (hs : s.size ≤ 1048576) (hn : -9223372036854775808 ≤ n ∧ n ≤ 9223372036854775807) (h : n ≤ s.size ∨ 2000 < n) :
    (Calls Try.prog 73 #[.string s, .int .i64 n] w fun e w' => e = .returned (.string s) ∧ w = w') ∧ (Calls Try.prog 72 #[.string s, .int .i64 n] w fun e w' => e = .returned (.string s) ∧ w = w') := by
  by_cases h1 : 2000 < n
  · constructor
    · by_cases h3 : n ≤ s.size
      all_goals
        go_enter Try.func73, Try.ntmps73
        go_wp2_with fail
        go_ret
        exact ⟨rfl, rfl⟩
    · go_enter Try.func72, Try.ntmps72
      go_wp2_with fail
      go_ret
      exact ⟨rfl, rfl⟩
  · have h2 : n ≤ s.size := by omega
    constructor
    · go_enter Try.func73, Try.ntmps73
      go_wp2_with fail
      go_ret
      exact ⟨rfl, rfl⟩
    · go_enter Try.func72, Try.ntmps72
      go_wp2_with fail
      go_loop [0] (fun u => u = .string s) (fun u => 0)
      case atStart => exact rfl
      case round =>
        subst hrel
        go_wp2_with fail
        go_ret
        exact ⟨rfl, rfl⟩

set_option maxHeartbeats 1000000 in
theorem walk_FnExactPadZeros (s : ByteArray) (n : Int) (w : World) (hs : s.size ≤ maxLen) (hn : (Lit.int .i64 n).wf = true) :
    Calls Try.prog 23 #[.string s, .int .i64 n] w fun e w' => e = .returned (.bool true) ∧ Below w.heap.size w w' := by
  have hn' : -9223372036854775808 ≤ n ∧ n ≤ 9223372036854775807 := by simpa [Lit.wf, IntKind.min, IntKind.max, IntKind.signed, IntKind.bits] using hn
  have hs' : s.size ≤ 9223372036854775807 := by unfold maxLen at hs; omega
  by_cases hb : 1048576 < s.size
  · go_enter Try.func23, Try.ntmps23
    go_wp2_with fail
    go_ret
    exact ⟨rfl, Below.refl _ _⟩
  by_cases hk : n ≤ s.size ∨ 2000 < n
  · have K := Lib.hid (fun w => keepPad s n w (by omega) hn' hk)
    clear hk
    go_enter Try.func23, Try.ntmps23
    go_wp2_with fail
    refine ((K.out _).2).mono ?_
    rintro e w' ⟨rfl, rfl⟩
    go_wp2_with fail
    refine ((K.out _).1).mono ?_
    rintro e w' ⟨rfl, rfl⟩
    go_wp2_with fail
    go_ret
    exact ⟨rfl, Below.refl _ _⟩
  · obtain ⟨k, rfl⟩ : ∃ k : Nat, n = ((s.size + k : Nat) : Int) := ⟨(n - s.size).toNat, by omega⟩
    have K1 := Lib.hid (fun w => specPad s k w (by omega) (by omega))
    have K2 := Lib.hid (fun w => implPad s k w (by omega) (by omega) (by omega))
    generalize zs k ++ s = T at K1 K2
    clear hk
    go_enter Try.func23, Try.ntmps23
    go_wp2_with fail
    refine (K1.out _).mono ?_
    rintro e w' ⟨rfl, rfl⟩
    go_wp2_with fail
    refine (K2.out _).mono ?_
    rintro e wx ⟨rfl, hbx⟩
    obtain ⟨hcx, hfx⟩ := bcell hbx
    have hzx := bsize hbx
    go_wp2_with fail
    go_ret
    exact ⟨rfl, hbx⟩

end Go.Proofs.Yticfjfdfgcfnnaa
