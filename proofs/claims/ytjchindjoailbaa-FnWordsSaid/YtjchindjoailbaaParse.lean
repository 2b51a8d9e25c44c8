/- ParseInt of the program and of the reference accept the same texts. -/
import Derived.Test.YtjchindjoailbaaIsDigits
import Derived.Test.YtjchindjoailbaaFmt
namespace Go.Proofs.Ytjchindjoailbaa
set_option linter.unusedSimpArgs false
set_option linter.unusedVariables false
open Go.RowKit

/-- the text without a leading minus -/
def body (s : ByteArray) : ByteArray := if s.data.toList.head? = some 45 then s.extract 1 s.size else s

theorem body_neg {s : ByteArray} (h : s.data.toList.head? = some 45) : body s = s.extract 1 s.size := by unfold body; rw [if_pos h]
theorem body_pos {s : ByteArray} (h : ¬ s.data.toList.head? = some 45) : body s = s := by unfold body; rw [if_neg h]

theorem head_take (s : ByteArray) (h0 : s.size ≠ 0) : ((s.extract 0 1).toList == [45]) = true ↔ s.data.toList.head? = some 45 := by
  rw [ByteArray.toList_eq]
  have e : (s.extract 0 1).data.toList = s.data.toList.take 1 := by simp [ByteArray.data_extract]
  rw [e]
  have hl : s.data.toList.length = s.size := by simp
  cases hd : s.data.toList with
  | nil => rw [hd] at hl; simp at hl; omega
  | cons a l => simp

set_option maxHeartbeats 400000 in
theorem trimMinus (s : ByteArray) (w : World) (hs : s.size ≤ maxLen) :
    Calls Try.prog 88 #[.string s, .string { data := #[45] }] w fun e w' => e = .returned (.string (body s)) ∧ w = w' := by
  unfold maxLen at hs
  by_cases h0 : s.size = 0
  · have HB := Lib.hid (body_pos (s := s) (by
      have hl : s.data.toList.length = s.size := by simp
      cases hd : s.data.toList with
      | nil => simp
      | cons a l => rw [hd] at hl; simp at hl; omega))
    have h1 : s.size < 1 := by omega
    clear h0
    go_enter Try.func88, Try.ntmps88
    go_wp2
    go_ret
    exact ⟨ret_str HB.out.symm, rfl⟩
  · have ht := head_take s h0
    have h1 : 0 < s.size := by omega
    by_cases h2 : s.data.toList.head? = some 45
    · have HB := Lib.hid (body_neg h2)
      have hq := ht.2 h2
      clear ht h2
      go_enter Try.func88, Try.ntmps88
      go_wp2
      go_ret
      exact ⟨ret_str HB.out.symm, rfl⟩
    · have HB := Lib.hid (body_pos h2)
      have hq : ((s.extract 0 1).toList == [45]) = false := by
        cases hc : ((s.extract 0 1).toList == [45]) with
        | false => rfl
        | true => exact absurd (ht.1 hc) h2
      clear ht h2
      go_enter Try.func88, Try.ntmps88
      go_wp2
      go_ret
      exact ⟨ret_str HB.out.symm, rfl⟩

/-! ### the numbers -/
/-- minus the decimal number that the digits spell -/
def acc (l : List UInt8) : Int := l.foldl (fun n c => 10 * n - ((c.toNat : Int) - 48)) 0
theorem acc_snoc (l : List UInt8) (c : UInt8) : acc (l ++ [c]) = 10 * acc l - ((c.toNat : Int) - 48) := by simp [acc]
theorem acc_dig (k : Nat) : ∀ n, n < k → acc (Gn.dig n) = -(n : Int) := by
  induction k with
  | zero => intro n h; omega
  | succ k ih =>
    intro n h
    by_cases h10 : n < 10
    · rw [Gn.dig_small n h10]
      have : (UInt8.ofNat (48 + n)).toNat = 48 + n := by simp; omega
      simp only [acc, List.foldl_cons, List.foldl_nil, this]; omega
    · rw [Gn.dig_step n (by omega), acc_snoc, ih (n / 10) (by omega)]
      have : (UInt8.ofNat (48 + n % 10)).toNat = 48 + n % 10 := by simp; omega
      rw [this]; omega
theorem acc_dig' (n : Nat) : acc (Gn.dig n) = -(n : Int) := acc_dig (n + 1) n (by omega)
theorem dig_digs (k : Nat) : ∀ n, n < k → (Gn.dig n).all digB = true := by
  induction k with
  | zero => intro n h; omega
  | succ k ih =>
    intro n h
    by_cases h10 : n < 10
    · rw [Gn.dig_small n h10]
      have : (UInt8.ofNat (48 + n)).toNat = 48 + n := by simp; omega
      simp only [List.all_cons, List.all_nil, digB, this]; simp; omega
    · rw [Gn.dig_step n (by omega), List.all_append, ih (n / 10) (by omega)]
      have : (UInt8.ofNat (48 + n % 10)).toNat = 48 + n % 10 := by simp; omega
      simp only [List.all_cons, List.all_nil, digB, this]; simp; omega
theorem dig_ne (n : Nat) : Gn.dig n ≠ [] := by
  rw [Gn.dig]; split <;> simp
theorem dig_isDig (n : Nat) : isDig (Gn.dig n) = true := by
  unfold isDig
  rw [dig_digs (n + 1) n (by omega)]
  cases h : Gn.dig n with
  | nil => exact absurd h (dig_ne n)
  | cons a l => rfl
theorem acc_neg_from (l : List UInt8) : ∀ n : Int, n ≤ 0 → l.all digB = true → l.foldl (fun n c => 10 * n - ((c.toNat : Int) - 48)) n ≤ 0 := by
  induction l with
  | nil => intro n hn _; simpa using hn
  | cons a l ih =>
    intro n hn h
    rw [List.foldl_cons]
    simp only [List.all_cons, Bool.and_eq_true] at h
    have hd := h.1
    simp [digB] at hd
    exact ih _ (by omega) h.2
theorem acc_neg (l : List UInt8) (h : l.all digB = true) : acc l ≤ 0 := acc_neg_from l 0 (by omega) h
/-- digits before k spell a number that is no smaller than the whole -/
theorem acc_mono (l r : List UInt8) (h : (l ++ r).all digB = true) : acc (l ++ r) ≤ acc l := by
  induction r generalizing l with
  | nil => simp
  | cons c r ih =>
    have h2 := ih (l ++ [c]) (by simpa using h)
    have hd : digB c = true := by simp at h; exact h.2.1
    have hp : acc l ≤ 0 := acc_neg l (by simp at h ⊢; exact h.1)
    rw [acc_snoc] at h2
    simp [digB] at hd
    rw [show l ++ c :: r = l ++ [c] ++ r from by simp]
    omega

/-- what ParseInt gives: the number whose text it is, or nothing -/
def Parsed (s : ByteArray) (v : Int) (ok : Bool) : Prop :=
  (ok = true ∧ (-9223372036854775808 ≤ v ∧ v ≤ 9223372036854775807) ∧ s = bs (Gn.fmt v)) ∨
  (ok = false ∧ v = 0 ∧ ∀ n : Int, -9223372036854775808 ≤ n → n ≤ 9223372036854775807 → s ≠ bs (Gn.fmt n))
theorem parsed_ex (s : ByteArray) : ∃ v ok, Parsed s v ok := by
  by_cases h : ∃ n : Int, -9223372036854775808 ≤ n ∧ n ≤ 9223372036854775807 ∧ s = bs (Gn.fmt n)
  · obtain ⟨n, h1, h2, h3⟩ := h
    exact ⟨n, true, .inl ⟨rfl, ⟨h1, h2⟩, h3⟩⟩
  · exact ⟨0, false, .inr ⟨rfl, rfl, fun n h1 h2 h3 => h ⟨n, h1, h2, h3⟩⟩⟩

theorem bs_data (l : List UInt8) : (bs l).data.toList = l := by simp [bs]
theorem dig_head (n : Nat) : ¬ (Gn.dig n).head? = some 45 := by
  have h := dig_digs (n + 1) n (by omega)
  cases hd : Gn.dig n with
  | nil => simp
  | cons a l =>
    rw [hd] at h
    simp only [List.all_cons, Bool.and_eq_true] at h
    intro h2; simp at h2; subst h2
    have := h.1; simp [digB] at this
/-- of the text of a number: its digits, its sign -/
theorem fmt_body (n : Int) : (body (bs (Gn.fmt n))).data.toList = Gn.dig n.natAbs ∧ ((body (bs (Gn.fmt n))).size = (bs (Gn.fmt n)).size ↔ 0 ≤ n) ∧ ((bs (Gn.fmt n)).data.toList.head? = some 45 ↔ n < 0) := by
  by_cases h : n < 0
  · have hf : Gn.fmt n = 45 :: Gn.dig n.natAbs := by unfold Gn.fmt; rw [if_pos h]
    have hh : (bs (Gn.fmt n)).data.toList.head? = some 45 := by rw [bs_data, hf]; rfl
    have hb := body_neg hh
    have hs : (bs (Gn.fmt n)).size = (Gn.dig n.natAbs).length + 1 := by rw [bs_size, hf]; simp
    refine ⟨?_, ?_, by simp [hh, h]⟩
    · rw [hb, hs]
      have : ((bs (Gn.fmt n)).extract 1 ((Gn.dig n.natAbs).length + 1)).data.toList = ((bs (Gn.fmt n)).data.toList.take ((Gn.dig n.natAbs).length + 1)).drop 1 := by
        simp [ByteArray.data_extract, List.take_drop]; rw [Nat.add_comm]
      rw [this, bs_data, hf]; simp
    · rw [hb]; simp only [ByteArray.size_extract]; rw [hs]; omega
  · have hf : Gn.fmt n = Gn.dig n.natAbs := by unfold Gn.fmt; rw [if_neg h]
    have hh : ¬ (bs (Gn.fmt n)).data.toList.head? = some 45 := by rw [bs_data, hf]; exact dig_head _
    have hb := body_pos hh
    refine ⟨by rw [hb, bs_data, hf], by rw [hb]; simp; omega, by simp [hh]; omega⟩
theorem fmt_inj {a b : Int} (h : Gn.fmt a = Gn.fmt b) : a = b := by
  have ha := fmt_body a
  have hb := fmt_body b
  rw [h] at ha
  have e : Gn.dig a.natAbs = Gn.dig b.natAbs := by rw [← ha.1, ← hb.1]
  have e2 := congrArg acc e
  rw [acc_dig', acc_dig'] at e2
  have e3 : a < 0 ↔ b < 0 := by rw [← ha.2.2, ← hb.2.2]
  omega
theorem str_eq_of {a b : ByteArray} (h : (a.toList == b.toList) = true) : a = b := by
  rw [ByteArray.toList_eq, ByteArray.toList_eq] at h
  exact Go.WideShapes.bytes_inj (eq_of_beq h)
theorem parsed_true {s : ByteArray} {v n : Int} {ok : Bool} (h : Parsed s v ok) (h1 : -9223372036854775808 ≤ n) (h2 : n ≤ 9223372036854775807) (e : s = bs (Gn.fmt n)) : ok = true ∧ v = n := by
  rcases h with ⟨h, _, h3⟩ | ⟨_, _, h3⟩
  · exact ⟨h, fmt_inj (bs_inj (h3.symm.trans e))⟩
  · exact absurd e (h3 n h1 h2)
theorem parsed_false {s : ByteArray} {v : Int} {ok : Bool} (h : Parsed s v ok) (hn : ∀ n : Int, -9223372036854775808 ≤ n → n ≤ 9223372036854775807 → s = bs (Gn.fmt n) → False) : ok = false ∧ v = 0 := by
  rcases h with ⟨_, h2, h3⟩ | ⟨h, h2, _⟩
  · exact (hn v h2.1 h2.2 h3).elim
  · exact ⟨h, h2⟩

end Go.Proofs.Ytjchindjoailbaa
