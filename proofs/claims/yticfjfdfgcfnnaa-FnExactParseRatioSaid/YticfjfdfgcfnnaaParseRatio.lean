/- ParseRatio: what it computes, and the walks of the program and of the reference. -/
import Derived.Test.YticfjfdfgcfnnaaParseInt
import Derived.Test.YticfjfdfgcfnnaaSplit
import Derived.Test.YticfjfdfgcfnnaaRatioArith2
import Derived.Test.YticfjfdfgcfnnaaFmtRatio
namespace Go.Proofs.Yticfjfdfgcfnnaa
set_option linter.unusedSimpArgs false
set_option linter.unusedVariables false
open Go.RowKit

theorem parts_skip (s y : ByteArray) (k m : Nat) (hkm : k ≤ m) (hm : m ≤ s.size) (h : ∀ j (hj : j < s.size), k ≤ j → j < m → sepB y s[j] = false) : parts s y m = parts s y k := by
  induction m with
  | zero => rw [show k = 0 from by omega]
  | succ m ih =>
    by_cases e : k = m + 1
    · rw [e]
    · rw [parts_no s y m (by omega) (h m (by omega) (by omega) (by omega))]
      exact ih (by omega) (by omega) (fun j hj h1 h2 => h j hj h1 (by omega))
theorem sep_slash (c : UInt8) : sepB { data := #[47] } c = decide (c = 47) := by
  simp only [sepB, List.any_cons, List.any_nil, Bool.or_false]
  by_cases h : c = 47
  · subst h; rfl
  · rw [decide_eq_false h]; simp; exact fun e => h e.symm
theorem bs_get (l : List UInt8) (j : Nat) (hj : j < (bs l).size) : (bs l)[j] = l[j]'(by rw [bs_size] at hj; exact hj) := by
  show (bs l).data[j]'_ = _
  simp [bs]
theorem bs_extract (l : List UInt8) (i j : Nat) (hj : j ≤ l.length) : (bs l).extract i j = bs ((l.take j).drop i) := by
  apply Go.WideShapes.bytes_inj
  simp [bs, ByteArray.data_extract, List.take_drop]
  by_cases h : i ≤ j
  · rw [show i + (j - i) = j from by omega]
  · rw [List.drop_eq_nil_of_le (by simp; omega), List.drop_eq_nil_of_le (by simp; omega)]
theorem split_none (l : List UInt8) (h : ¬ 47 ∈ l) : splitL (bs l) { data := #[47] } = [bs l] := by
  have hp := parts_skip (bs l) { data := #[47] } 0 (bs l).size (by omega) (by omega) (fun j hj _ _ => by
    rw [sep_slash, bs_get]
    simp only [decide_eq_false_iff_not]
    intro e; exact h (e ▸ List.getElem_mem _))
  rw [split_eq (l := []) (f := 0) _ _ (by rw [hp]; rfl), bs_size, bs_extract _ _ _ (by omega)]
  simp
theorem split_two (a c : List UInt8) (ha : ¬ 47 ∈ a) (hc : ¬ 47 ∈ c) : splitL (bs (a ++ [47] ++ c)) { data := #[47] } = [bs a, bs c] := by
  have hsz : (bs (a ++ [47] ++ c)).size = a.length + 1 + c.length := by rw [bs_size]; simp; omega
  have hp := parts_skip (bs (a ++ [47] ++ c)) { data := #[47] } 0 a.length (by omega) (by omega) (fun j hj _ h2 => by
    rw [sep_slash, bs_get]
    simp only [decide_eq_false_iff_not]
    rw [List.getElem_append_left (by simp; omega), List.getElem_append_left (by omega)]
    intro e; exact ha (e ▸ List.getElem_mem _))
  have hq := parts_yes' (l := []) (f := 0) (bs (a ++ [47] ++ c)) { data := #[47] } a.length (by omega) (by
    rw [sep_slash, bs_get]
    simp) (by rw [hp]; rfl)
  have hr := parts_skip (bs (a ++ [47] ++ c)) { data := #[47] } (a.length + 1) (bs (a ++ [47] ++ c)).size (by omega) (by omega) (fun j hj h1 h2 => by
    rw [sep_slash, bs_get]
    simp only [decide_eq_false_iff_not]
    rw [List.getElem_append_right (by simp; omega)]
    intro e; exact hc (e ▸ List.getElem_mem _))
  rw [split_eq _ _ (hr.trans hq), bs_extract _ _ _ (by simp), hsz, bs_extract _ _ _ (by simp; omega)]
  rw [List.take_of_length_le (i := a.length + 1 + c.length) (by simp; omega)]
  simp [List.drop_append, List.take_append]
  rw [List.drop_eq_nil_of_le (by omega)]; rfl
theorem parts_size (s y : ByteArray) (k : Nat) (hk : k ≤ s.size) : ∀ x ∈ (parts s y k).1, x.size ≤ s.size := by
  induction k with
  | zero => intro x hx; simp [parts] at hx
  | succ k ih =>
    cases hs : sepB y s[k] with
    | true =>
      rw [parts_yes s y k (by omega) hs]
      intro x hx
      simp only [List.mem_append, List.mem_cons, List.not_mem_nil, or_false] at hx
      rcases hx with hx | rfl
      · exact ih (by omega) x hx
      · simp only [ByteArray.size_extract]; omega
    | false => rw [parts_no s y k (by omega) hs]; exact ih (by omega)
theorem split_size (s y : ByteArray) : ∀ x ∈ splitL s y, x.size ≤ s.size := by
  intro x hx
  unfold splitL at hx
  simp only [List.mem_append, List.mem_cons, List.not_mem_nil, or_false] at hx
  rcases hx with hx | rfl
  · exact parts_size s y s.size (by omega) x hx
  · simp only [ByteArray.size_extract]; omega
theorem split_ne (s y : ByteArray) : splitL s y ≠ [] := by unfold splitL; simp

theorem fmt_noslash (n : Int) : ¬ 47 ∈ Gn.fmt n := by
  have h := dig_digs (n.natAbs + 1) n.natAbs (by omega)
  rw [List.all_eq_true] at h
  unfold Gn.fmt
  intro hm
  split at hm
  · simp only [List.mem_cons] at hm
    rcases hm with hm | hm
    · exact absurd hm (by decide)
    · have := h _ hm; simp [digB] at this
  · have := h _ hm; simp [digB] at this
theorem fmt_ne (n : Int) : Gn.fmt n ≠ [] := by unfold Gn.fmt; split; simp; exact dig_ne _
theorem fmtR_nil (n d : Int) : fmtR n d ≠ [] := by unfold fmtR; split; exact fmt_ne _; simp

/-- what ParseRatio gives: the fraction whose text it is, or nothing -/
def ParsedR (s : ByteArray) (n d : Int) (ok : Bool) : Prop :=
  (ok = true ∧ okZ n d ∧ s = bs (fmtR n d)) ∨ (ok = false ∧ n = 0 ∧ d = 0 ∧ ∀ n d : Int, okZ n d → s ≠ bs (fmtR n d))
theorem parsedR_ex (s : ByteArray) : ∃ n d ok, ParsedR s n d ok := by
  by_cases h : ∃ n d : Int, okZ n d ∧ s = bs (fmtR n d)
  · obtain ⟨n, d, h1, h2⟩ := h
    exact ⟨n, d, true, .inl ⟨rfl, h1, h2⟩⟩
  · exact ⟨0, 0, false, .inr ⟨rfl, rfl, rfl, fun n d h1 h2 => h ⟨n, d, h1, h2⟩⟩⟩
theorem split_fmtR (n d : Int) : (d = 1 ∧ splitL (bs (fmtR n d)) { data := #[47] } = [bs (Gn.fmt n)]) ∨ (d ≠ 1 ∧ splitL (bs (fmtR n d)) { data := #[47] } = [bs (Gn.fmt n), bs (Gn.fmt d)]) := by
  by_cases h : d = 1
  · refine .inl ⟨h, ?_⟩
    rw [h, fmtR_one]; exact split_none _ (fmt_noslash n)
  · refine .inr ⟨h, ?_⟩
    rw [fmtR_ne _ _ h]; exact split_two _ _ (fmt_noslash n) (fmt_noslash d)
theorem parsed_self {n v : Int} {ok : Bool} (h : Parsed (bs (Gn.fmt n)) v ok) (h1 : -9223372036854775808 ≤ n) (h2 : n ≤ 9223372036854775807) : ok = true ∧ v = n := parsed_true h h1 h2 rfl
theorem fmtR_inj {n d n' d' : Int} (h : fmtR n d = fmtR n' d') : n = n' ∧ d = d' := by
  have h1 := split_fmtR n d
  have h2 := split_fmtR n' d'
  rw [h] at h1
  rcases h1 with ⟨e1, h1⟩ | ⟨e1, h1⟩ <;> rcases h2 with ⟨e2, h2⟩ | ⟨e2, h2⟩ <;> rw [h2] at h1 <;> simp at h1
  · exact ⟨fmt_inj (bs_inj h1.symm), e1.trans e2.symm⟩
  · exact ⟨fmt_inj (bs_inj h1.1.symm), fmt_inj (bs_inj h1.2.symm)⟩

/-- the outcome, told from the parts -/
theorem parsedR_yes {s : ByteArray} {n d m e : Int} {ok : Bool} (h : ParsedR s n d ok) (h2 : okZ m e) (h3 : s = bs (fmtR m e)) : ok = true ∧ n = m ∧ d = e := by
  rcases h with ⟨h, _, h4⟩ | ⟨_, _, _, h4⟩
  · have := fmtR_inj (bs_inj (h4.symm.trans h3)); exact ⟨h, this.1, this.2⟩
  · exact absurd h3 (h4 _ _ h2)
theorem parsedR_no {s : ByteArray} {n d : Int} {ok : Bool} (h : ParsedR s n d ok) (hn : ∀ m e : Int, okZ m e → s = bs (fmtR m e) → False) : ok = false ∧ n = 0 ∧ d = 0 := by
  rcases h with ⟨_, h2, h3⟩ | ⟨h, h2, h3, _⟩
  · exact (hn _ _ h2 h3).elim
  · exact ⟨h, h2, h3⟩
end Go.Proofs.Yticfjfdfgcfnnaa
