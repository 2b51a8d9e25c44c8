/- Slices that the caller gives, read. -/
import Derived.Test.YtjchindjoailbaaRow
import Derived.Deep.Slices
import Derived.DataElems
import Derived.ChangeOld
import Derived.Deep.OwnRows
namespace Go.Proofs.Ytjchindjoailbaa
set_option linter.unusedSimpArgs false
set_option linter.unusedVariables false
open Go.RowKit

/-- a caller's slice of elements of 'size' cells reads as the cells xs -/
def ArgRow (w : World) (a : Option Addr) (n cap size : Nat) (xs : List Value) : Prop :=
  xs.length = n * size ∧ n ≤ cap ∧ cap ≤ maxLen ∧
  (n = 0 ∨ ∃ b off, a = some ⟨b, off, none⟩ ∧ b < w.heap.size ∧ ∀ j (h : j < xs.length), w.cell? ⟨b, off + j, none⟩ = some xs[j])

theorem ArgRow.below {w w' : World} {a : Option Addr} {n cap size : Nat} {xs : List Value} (h : ArgRow w a n cap size xs) (hb : Below w.heap.size w w') : ArgRow w' a n cap size xs := by
  obtain ⟨h1, h2, h3, h4⟩ := h
  refine ⟨h1, h2, h3, ?_⟩
  rcases h4 with h4 | ⟨b, off, rfl, h5, h6⟩
  · exact .inl h4
  · exact .inr ⟨b, off, rfl, Nat.lt_of_lt_of_le h5 hb.size, fun j hj => by rw [hb.cell (p := ⟨b, off + j, none⟩) h5]; exact h6 j hj⟩
theorem ArgRow.of {w : World} {a : Option Addr} {n cap size : Nat} {xs : List Value} (h : Row w a n cap size xs) : ArgRow w a n cap size xs := by
  obtain ⟨h1, h2, h3, h4⟩ := h
  refine ⟨h1, h2, h3, ?_⟩
  rcases h4 with ⟨_, h4, _⟩ | h4
  · exact .inl h4
  · exact .inr h4
theorem ArgRow.le {w : World} {a : Option Addr} {n cap size : Nat} {xs : List Value} (h : ArgRow w a n cap size xs) : n ≤ maxLen := Nat.le_trans h.2.1 h.2.2.1
theorem ArgRow.form {w : World} {a : Option Addr} {n cap size : Nat} {xs : List Value} (h : ArgRow w a n cap size xs) (hn : 0 < n) : ∃ b off, a = some ⟨b, off, none⟩ ∧ b < w.heap.size ∧ ∀ j (h : j < xs.length), w.cell? ⟨b, off + j, none⟩ = some xs[j] := by
  rcases h.2.2.2 with h4 | h4
  · omega
  · exact h4

/-- 'make([]T, n)' -/
theorem run_make_rows {P : Program} (t e : TypeId) (z : Value) (size bytes : Nat) (ht : P.underlying t = some (.slice e)) (hinfo : (P.info? e).map (fun i => (i.zero, i.size, i.bytes)) = some (some z, size, bytes))
    (kl kc : IntKind) (n : Nat) (hbytes : bytes * n ≤ 281474976710656) (h63 : n ≤ 9223372036854775807) (w : World) :
    (Instr.makeSlice t (.int kl (n : Int)) (.int kc (n : Int))).run P w = .ok (.slice (some ⟨w.heap.size, 0, none⟩) n n) (w.alloc (.cells (madeCells z.cells (n * size)) e)) := by
  obtain ⟨i, hi, hzz⟩ := Option.map_eq_some_iff.1 hinfo
  simp only [Prod.mk.injEq] at hzz
  obtain ⟨hz, hs, hb⟩ := hzz
  have hb' : (i.bytes : Int) * (n : Int) ≤ 281474976710656 := by
    have h : ((i.bytes * n : Nat) : Int) ≤ 281474976710656 := by rw [hb]; omega
    rwa [Int.natCast_mul] at h
  have hr := run_make (P := P) w t e i z ht hi hz kl kc n n (by omega) (Int.le_refl _) hb' (by omega)
  simp only [Int.toNat_natCast, hs] at hr
  exact hr
theorem flat_len {α : Type} (f : α → List Value) (c : Nat) (hf : ∀ z, (f z).length = c) (l : List α) : (l.flatMap f).length = l.length * c := by
  induction l with
  | nil => simp
  | cons a l ih => rw [List.flatMap_cons, List.length_append, ih, hf, List.length_cons, Nat.succ_mul]; omega
section
variable {H : Type} {enc : TypeId × Value → H} {P : Program} {w : World} {base : Nat} {spare : Nat → Bool} {held : Bool}

theorem open_rows {α : Type} {t e : TypeId} {fuel c : Nat} {cs : List Value} {x : DataW H × List MemPlace} (ht : P.underlying t = some (.slice e)) (hc : P.cellsOf e = c) (hc0 : 0 < c)
    (f : α → List Value) (p : α → Prop) (hf : ∀ z, (f z).length = c)
    (dec : ∀ n cs y, DataW.trod enc P w base spare held n e cs = some y → ∃ z, cs = f z ∧ p z)
    (h : DataW.trod enc P w base spare held fuel t cs = some x) :
    ∃ (a : Option Addr) (n cap : Nat) (l : List α), cs = [.slice a n cap] ∧ l.length = n ∧ ArgRow w a n cap c (l.flatMap f) ∧ ∀ z ∈ l, p z := by
  rcases Go.Deep.open_slice ht h with ⟨rfl, _⟩ | ⟨a, len, cap, m, n, D, Pl, rfl, hb, hl, hm, hmm, _, hall⟩
  · exact ⟨none, 0, 0, [], rfl, rfl, ⟨by simp, by omega, by unfold maxLen; omega, .inl rfl⟩, by simp⟩
  · rw [hc] at hall
    have key : ∀ k, k ≤ len → ∃ l : List α, l.length = k ∧ (∀ z ∈ l, p z) ∧ ∀ j (hj : j < (l.flatMap f).length), w.cell? (a.add j) = some ((l.flatMap f)[j]) := by
      intro k
      induction k with
      | zero => intro _; exact ⟨[], rfl, by simp, by intro j hj; simp at hj⟩
      | succ k ih =>
        intro hk
        obtain ⟨l, h1, h2, h3⟩ := ih (by omega)
        obtain ⟨cs', h4, h5⟩ := hall k (by rw [hmm]; split <;> omega)
        obtain ⟨z, rfl, hz⟩ := dec _ _ _ h5
        have hlen : (l.flatMap f).length = k * c := by
          rw [flat_len f c hf, h1]
        refine ⟨l ++ [z], by simp [h1], by intro y hy; simp at hy; rcases hy with hy | rfl; exact h2 y hy; exact hz, ?_⟩
        intro j hj
        by_cases hjl : j < (l.flatMap f).length
        · rw [h3 j hjl]; simp [List.getElem_append_left hjl]
        · have hj2 : j - k * c < c := by simp [hf] at hj hlen; omega
          have h6 := (World.cells?_some h4).2.2 (j - k * c) hj2
          rw [Go.Addr.add_add, show k * c + (j - k * c) = j from by omega] at h6
          rw [h6]
          simp [List.getElem?_eq_getElem, hf, hj2, List.getElem_append_right (Nat.le_of_not_lt hjl), hlen]
    obtain ⟨l, h1, h2, h3⟩ := key len (Nat.le_refl _)
    have hlen : (l.flatMap f).length = len * c := by
      rw [flat_len f c hf, h1]
    refine ⟨some a, len, cap, l, rfl, h1, ⟨hlen, hl, hm, ?_⟩, h2⟩
    by_cases h0 : len = 0
    · exact .inl h0
    · have hpos : 0 < len * c := Nat.mul_pos (by omega) hc0
      have h4 := h3 0 (by omega)
      obtain ⟨b, off, spot⟩ := a
      have hspot : spot = none := by simpa [Addr.add] using World.cell?_spot h4
      subst hspot
      refine .inr ⟨b, off, rfl, ?_, ?_⟩
      · obtain ⟨cs', h5, _⟩ := hall 0 (by rw [hmm]; split <;> omega)
        simpa [Addr.add] using World.cells?_block h5 hc0
      · intro j hj
        have := h3 j hj
        rw [← this]
        by_cases hj0 : j = 0
        · subst hj0; rfl
        · simp [Addr.add, hj0]
end
end Go.Proofs.Ytjchindjoailbaa
