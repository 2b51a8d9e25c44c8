/- Slices in memory: 'Row' for reading, 'ownsRow' for a slice of the call's own. -/
import Derived.Test.YtjchindjoailbaaBase
import Derived.Lib.SmallJoins
import Derived.Deep.Onto
namespace Go.Proofs.Ytjchindjoailbaa
set_option linter.unusedSimpArgs false
set_option linter.unusedVariables false
open Go.RowKit

/-- the slice a[:n:cap] of elements of 'size' cells reads as the cells xs -/
def Row (w : World) (a : Option Addr) (n cap size : Nat) (xs : List Value) : Prop :=
  xs.length = n * size ∧ n ≤ cap ∧ cap ≤ maxLen ∧
  ((a = none ∧ n = 0 ∧ cap = 0) ∨ ∃ b off, a = some ⟨b, off, none⟩ ∧ b < w.heap.size ∧ ∀ j (h : j < xs.length), w.cell? ⟨b, off + j, none⟩ = some xs[j])

theorem Row.len {w : World} {a : Option Addr} {n cap size : Nat} {xs : List Value} (h : Row w a n cap size xs) : xs.length = n * size := h.1
theorem Row.le {w : World} {a : Option Addr} {n cap size : Nat} {xs : List Value} (h : Row w a n cap size xs) : n ≤ 9223372036854775807 := by
  have h1 := h.2.1; have h2 := h.2.2.1; unfold maxLen at h2; omega
theorem Row.same {w w' : World} {a : Option Addr} {n cap size : Nat} {xs : List Value} (h : Row w a n cap size xs) (hs : w.heap.size ≤ w'.heap.size)
    (hb : ∀ ad : Addr, a = some ad → ∀ o, w'.cell? ⟨ad.block, o, none⟩ = w.cell? ⟨ad.block, o, none⟩) : Row w' a n cap size xs := by
  obtain ⟨h1, h2, h3, h4⟩ := h
  refine ⟨h1, h2, h3, ?_⟩
  rcases h4 with h4 | ⟨b, off, rfl, h5, h6⟩
  · exact .inl h4
  · exact .inr ⟨b, off, rfl, Nat.lt_of_lt_of_le h5 hs, fun j hj => by rw [hb _ rfl]; exact h6 j hj⟩
theorem Row.below {w w' : World} {a : Option Addr} {n cap size : Nat} {xs : List Value} (h : Row w a n cap size xs) (hb : Below w.heap.size w w') : Row w' a n cap size xs := by
  obtain ⟨h1, h2, h3, h4⟩ := h
  refine ⟨h1, h2, h3, ?_⟩
  rcases h4 with h4 | ⟨b, off, rfl, h5, h6⟩
  · exact .inl h4
  · exact .inr ⟨b, off, rfl, Nat.lt_of_lt_of_le h5 hb.size, fun j hj => by rw [hb.cell h5]; exact h6 j hj⟩
/-- kept where only blocks from B on have turned -/
theorem Row.under {w w' : World} {B : Nat} {a : Option Addr} {n cap size : Nat} {xs : List Value} (h : Row w a n cap size xs) (hb : Below B w w') (hB : ∀ ad, a = some ad → ad.block < B) : Row w' a n cap size xs := by
  obtain ⟨h1, h2, h3, h4⟩ := h
  refine ⟨h1, h2, h3, ?_⟩
  rcases h4 with h4 | ⟨b, off, rfl, h5, h6⟩
  · exact .inl h4
  · exact .inr ⟨b, off, rfl, Nat.lt_of_lt_of_le h5 hb.size, fun j hj => by rw [hb.cell (p := ⟨b, off + j, none⟩) (hB ⟨b, off, none⟩ rfl)]; exact h6 j hj⟩
theorem Row.at {w : World} {b off n cap size : Nat} {xs : List Value} (h : Row w (some ⟨b, off, none⟩) n cap size xs) (j : Nat) (hj : j < xs.length) : w.cell? ⟨b, off + j, none⟩ = some xs[j] := by
  obtain ⟨_, _, _, h4⟩ := h
  rcases h4 with ⟨h4, _⟩ | ⟨b', off', h4, h5, h6⟩
  · cases h4
  · cases h4; exact h6 j hj
theorem Row.lt {w : World} {ad : Addr} {n cap size : Nat} {xs : List Value} (h : Row w (some ad) n cap size xs) : ad.block < w.heap.size := by
  obtain ⟨_, _, _, h4⟩ := h
  rcases h4 with ⟨h4, _⟩ | ⟨b', off', h4, h5, h6⟩
  · cases h4
  · cases h4; exact h5
theorem Row.form {w : World} {a : Option Addr} {n cap size : Nat} {xs : List Value} (h : Row w a n cap size xs) (hn : 0 < n) : ∃ b off, a = some ⟨b, off, none⟩ := by
  obtain ⟨_, _, _, h4⟩ := h
  rcases h4 with ⟨_, h4, _⟩ | ⟨b', off', h4, h5, h6⟩
  · omega
  · exact ⟨b', off', h4⟩
theorem Row.forms {w : World} {a : Option Addr} {n cap size : Nat} {xs : List Value} (h : Row w a n cap size xs) : (a = none ∧ n = 0 ∧ cap = 0) ∨ ∃ b off, a = some ⟨b, off, none⟩ := by
  obtain ⟨_, _, _, h4⟩ := h
  rcases h4 with h4 | ⟨b', off', h4, h5, h6⟩
  · exact .inl h4
  · exact .inr ⟨b', off', h4⟩

/-- a row of the call's own can be read -/
theorem own_row {w : World} {base : Nat} {e : TypeId} {size : Nat} {a : Option Addr} {n cap : Nat} {xs : List Value} (h : w.ownsRow base e size (.slice a n cap) n xs) : Row w a n cap size xs := by
  obtain ⟨h1, h2⟩ := h
  rcases h2 with ⟨h2, h3⟩ | ⟨g, c, cur, h2, h3, h4, h5, h6, h7, h8⟩
  · cases h2; exact ⟨h1, Nat.le_refl _, Nat.zero_le _, .inl ⟨rfl, rfl, rfl⟩⟩
  · cases h2
    have hg : g < w.heap.size := by
      rcases Nat.lt_or_ge g w.heap.size with h | h
      · exact h
      · rw [Array.getElem?_eq_none h] at h4; cases h4
    refine ⟨h1, h5, h6, .inr ⟨g, 0, rfl, hg, fun j hj => ?_⟩⟩
    have := World.ownsRow.cellAt (w := w) (base := base) (e := e) (size := size) (g := g) (n := n) (cap := cap) (xs := xs) ⟨h1, .inr ⟨g, cap, cur, rfl, h3, h4, h5, h6, h7, h8⟩⟩ j (by omega)
    rw [Nat.zero_add, this]; simp [hj]
theorem own_base {w : World} {base : Nat} {e : TypeId} {size : Nat} {a : Option Addr} {n cap : Nat} {xs : List Value} (h : w.ownsRow base e size (.slice a n cap) n xs) : ∀ ad, a = some ad → base ≤ ad.block ∧ ad.block < w.heap.size := by
  intro ad ha; subst ha
  exact h.lt ad.block rfl
theorem own_slice {w : World} {base : Nat} {e : TypeId} {size : Nat} {v : Value} {n : Nat} {xs : List Value} (h : w.ownsRow base e size v n xs) : ∃ a c, v = .slice a n c := by
  obtain ⟨_, h⟩ := h
  rcases h with ⟨h, h0⟩ | ⟨g, c, cur, h, _⟩
  · subst h0; exact ⟨_, _, h⟩
  · exact ⟨_, _, h⟩
theorem own_drewN {w : World} {k : Nat} {base : Nat} {e : TypeId} {size : Nat} {v : Value} {n : Nat} {xs : List Value} (h : w.ownsRow base e size v n xs) : (w.drewN k).ownsRow base e size v n xs := h
/-- an owned row stays owned where only blocks below it or above it turn -/
theorem own_under {w w' : World} {B base : Nat} {e : TypeId} {size : Nat} {a : Option Addr} {n cap : Nat} {xs : List Value} (h : w.ownsRow base e size (.slice a n cap) n xs) (hb : Below B w w') (hB : ∀ ad, a = some ad → ad.block < B) : w'.ownsRow base e size (.slice a n cap) n xs := by
  obtain ⟨h1, h2⟩ := h
  refine ⟨h1, ?_⟩
  rcases h2 with h2 | ⟨g, c, cur, h2, h3, h4, r⟩
  · exact .inl h2
  · cases h2
    exact .inr ⟨g, cap, cur, rfl, h3, by rw [hb.block g (hB _ rfl)]; exact h4, r⟩
theorem own_below {w w' : World} {base : Nat} {e : TypeId} {size : Nat} {a : Option Addr} {n cap : Nat} {xs : List Value} (h : w.ownsRow base e size (.slice a n cap) n xs) (hb : Below w.heap.size w w') : w'.ownsRow base e size (.slice a n cap) n xs :=
  own_under h hb fun ad ha => (own_base h ad ha).2

end Go.Proofs.Ytjchindjoailbaa
