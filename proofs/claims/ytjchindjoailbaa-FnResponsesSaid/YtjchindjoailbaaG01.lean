/- Small facts that all walks of this seat use. -/
import Derived.Test.YtjchindjoailbaaRows
import Derived.WalkKit
import Derived.WalkSpells
import Derived.WalkLawsBesides
import Derived.Handy
import Derived.Lib.Hide
import Derived.Deep.QuietTactic
import Derived.BigQuiet
import Derived.Deep.RegionWith
import Derived.Lib.SmallJoins
import Derived.Deep.Onto
import Derived.Deep.Slices
import Derived.DataElems
import Derived.ChangeOld
import Derived.Deep.OwnRows
import Derived.Deep.Strs
import Derived.Deep.RegionHeld3
import Derived.Deep.DeepCutAuto
namespace Go.Proofs.Ytjchindjoailbaa
set_option linter.unusedSimpArgs false
set_option linter.unusedVariables false
open Go.RowKit

theorem ret_val {a b : Value} (h : a = b) : Ending.returned a = .returned b := by rw [h]
theorem ret_int {k : IntKind} {a b : Int} (h : a = b) : Ending.returned (.int k a) = .returned (.int k b) := by rw [h]
theorem ret_bool {a b : Bool} (h : a = b) : Ending.returned (.bool a) = .returned (.bool b) := by rw [h]
theorem ret_str {a b : ByteArray} (h : a = b) : Ending.returned (.string a) = .returned (.string b) := by rw [h]
theorem int_eq {k : IntKind} {a b : Int} (h : a = b) : Value.int k a = .int k b := by rw [h]

theorem i64_bd {n : Int} (h : (Lit.int .i64 n).wf = true) : -9223372036854775808 ≤ n ∧ n ≤ 9223372036854775807 := by
  simpa [Lit.wf, IntKind.min, IntKind.max, IntKind.signed, IntKind.bits] using h

theorem bfalse {b : Bool} {p : Prop} (h : b = true ↔ p) (hn : ¬ p) : b = false := by
  cases b with
  | false => rfl
  | true => exact absurd (h.1 rfl) hn
theorem bool_of (p : Prop) : ∃ b : Bool, b = true ↔ p := by
  by_cases h : p
  · exact ⟨true, by simp [h]⟩
  · exact ⟨false, by simp [h]⟩

/-- what lay below a 'Below' reads as it did (rules for the walk) -/
theorem bcell {W w1 : World} (hb : Below W.heap.size W w1) : (∀ b o, b < W.heap.size → w1.cell? ⟨b, o, none⟩ = W.cell? ⟨b, o, none⟩) ∧ (∀ b o, b < W.heap.size → w1.frozen? ⟨b, o, none⟩ = W.frozen? ⟨b, o, none⟩) :=
  ⟨fun b o h => hb.cell (p := ⟨b, o, none⟩) h, fun b o h => hb.frozen (p := ⟨b, o, none⟩) h⟩
theorem bsize {B : Nat} {W w1 : World} (hb : Below B W w1) : ∀ x, x < W.heap.size → x < w1.heap.size := fun _ h => Nat.lt_of_lt_of_le h hb.size
theorem bdrew {w w1 : World} (hb : Below w.drew.heap.size w.drew w1) : Below w.heap.size w w1 := ((Below.refl _ _).drew).trans hb
theorem bdrewN {w w1 : World} {n : Nat} (hb : Below (w.drewN n).heap.size (w.drewN n) w1) : Below w.heap.size w w1 := (below_drewN (Below.refl _ _) n).trans hb
/-- of one block below: it reads as it did, and is there still -/
theorem blt {W w1 : World} (hb : Below W.heap.size W w1) {b : Nat} (h : b < W.heap.size) :
    (∀ o, w1.cell? ⟨b, o, none⟩ = W.cell? ⟨b, o, none⟩) ∧ (∀ o, w1.frozen? ⟨b, o, none⟩ = W.frozen? ⟨b, o, none⟩) ∧ b < w1.heap.size :=
  ⟨fun o => hb.cell (p := ⟨b, o, none⟩) h, fun o => hb.frozen (p := ⟨b, o, none⟩) h, Nat.lt_of_lt_of_le h hb.size⟩
theorem bstep {w W w1 : World} (h : Below w.heap.size w W) (hb : Below W.heap.size W w1) : Below w.heap.size w w1 := h.trans (hb.mono h.size)
theorem bjoin {W0 w1 W w2 : World} (g : Below W0.heap.size W0 w1) (h : Below w1.heap.size w1 W) (hb : Below W.heap.size W w2) : Below W0.heap.size W0 w2 := g.trans ((h.trans (hb.mono h.size)).mono g.size)
theorem balloc {w W : World} (h : Below w.heap.size w W) (o : Obj) : Below w.heap.size w (W.alloc o) := h.alloc h.size o
theorem bset {w W : World} (h : Below w.heap.size w W) {p : Addr} (hp : w.heap.size ≤ p.block) (u : Value) : Below w.heap.size w (W.setCell p u) := h.setCell hp u

/-- a Go string's bytes, from a list -/
def bs (l : List UInt8) : ByteArray := ⟨l.toArray⟩
@[go_sem] theorem bs_size (l : List UInt8) : (bs l).size = l.length := by simp [bs, ByteArray.size]
@[go_sem] theorem bs_append (a b : List UInt8) : bs a ++ bs b = bs (a ++ b) := by unfold bs; exact ByteArray.mk_append_mk a b
theorem bs_inj {a b : List UInt8} (h : bs a = bs b) : a = b := by
  have := congrArg (fun x : ByteArray => x.data.toList) h; simpa [bs] using this

theorem take_snoc (s : ByteArray) (k : Nat) (h : k < s.size) : s.data.toList.take (k + 1) = s.data.toList.take k ++ [s[k]] := by
  rw [List.take_succ_eq_append_getElem (by simpa using h)]; rfl

end Go.Proofs.Ytjchindjoailbaa

/- Slices in memory: 'Row' for reading, 'ownsRow' for a slice of the call's own. -/
namespace Go.Proofs.Ytjchindjoailbaa
set_option linter.unusedSimpArgs false
set_option linter.unusedVariables false
open Go.RowKit

/-- the slice a[:n:cap] of elements of 'size' cells reads as the cells xs -/
def Row (w : World) (a : Option Addr) (n cap size : Nat) (xs : List Value) : Prop :=
  xs.length = n * size ∧ n ≤ cap ∧ cap ≤ maxLen ∧
  ((a = none ∧ n = 0 ∧ cap = 0) ∨ ∃ b off, a = some ⟨b, off, none⟩ ∧ b < w.heap.size ∧ ∀ j (h : j < xs.length), w.cell? ⟨b, off + j, none⟩ = some xs[j])

theorem Row.len {w : World} {a : Option Addr} {n cap size : Nat} {xs : List Value} (h : Row w a n cap size xs) : xs.length = n * size := h.1
theorem Row.le {w : World} {a : Option Addr} {n cap size : Nat} {xs : List Value} (h : Row w a n cap size xs) : n ≤ 9223372036854775807 := by
  have h1 := h.2.1; have h2 := h.2.2.1; unfold maxLen at h2; omega
theorem Row.same {w w' : World} {a : Option Addr} {n cap size : Nat} {xs : List Value} (h : Row w a n cap size xs) (hs : w.heap.size ≤ w'.heap.size)
    (hb : ∀ ad : Addr, a = some ad → ∀ o, w'.cell? ⟨ad.block, o, none⟩ = w.cell? ⟨ad.block, o, none⟩) : Row w' a n cap size xs := by
  obtain ⟨h1, h2, h3, h4⟩ := h
  refine ⟨h1, h2, h3, ?_⟩
  rcases h4 with h4 | ⟨b, off, rfl, h5, h6⟩
  · exact .inl h4
  · exact .inr ⟨b, off, rfl, Nat.lt_of_lt_of_le h5 hs, fun j hj => by rw [hb _ rfl]; exact h6 j hj⟩
theorem Row.below {w w' : World} {a : Option Addr} {n cap size : Nat} {xs : List Value} (h : Row w a n cap size xs) (hb : Below w.heap.size w w') : Row w' a n cap size xs := by
  obtain ⟨h1, h2, h3, h4⟩ := h
  refine ⟨h1, h2, h3, ?_⟩
  rcases h4 with h4 | ⟨b, off, rfl, h5, h6⟩
  · exact .inl h4
  · exact .inr ⟨b, off, rfl, Nat.lt_of_lt_of_le h5 hb.size, fun j hj => by rw [hb.cell h5]; exact h6 j hj⟩
/-- kept where only blocks from B on have turned -/
theorem Row.under {w w' : World} {B : Nat} {a : Option Addr} {n cap size : Nat} {xs : List Value} (h : Row w a n cap size xs) (hb : Below B w w') (hB : ∀ ad, a = some ad → ad.block < B) : Row w' a n cap size xs := by
  obtain ⟨h1, h2, h3, h4⟩ := h
  refine ⟨h1, h2, h3, ?_⟩
  rcases h4 with h4 | ⟨b, off, rfl, h5, h6⟩
  · exact .inl h4
  · exact .inr ⟨b, off, rfl, Nat.lt_of_lt_of_le h5 hb.size, fun j hj => by rw [hb.cell (p := ⟨b, off + j, none⟩) (hB ⟨b, off, none⟩ rfl)]; exact h6 j hj⟩
theorem Row.at {w : World} {b off n cap size : Nat} {xs : List Value} (h : Row w (some ⟨b, off, none⟩) n cap size xs) (j : Nat) (hj : j < xs.length) : w.cell? ⟨b, off + j, none⟩ = some xs[j] := by
  obtain ⟨_, _, _, h4⟩ := h
  rcases h4 with ⟨h4, _⟩ | ⟨b', off', h4, h5, h6⟩
  · cases h4
  · cases h4; exact h6 j hj
theorem Row.lt {w : World} {ad : Addr} {n cap size : Nat} {xs : List Value} (h : Row w (some ad) n cap size xs) : ad.block < w.heap.size := by
  obtain ⟨_, _, _, h4⟩ := h
  rcases h4 with ⟨h4, _⟩ | ⟨b', off', h4, h5, h6⟩
  · cases h4
  · cases h4; exact h5
theorem Row.form {w : World} {a : Option Addr} {n cap size : Nat} {xs : List Value} (h : Row w a n cap size xs) (hn : 0 < n) : ∃ b off, a = some ⟨b, off, none⟩ := by
  obtain ⟨_, _, _, h4⟩ := h
  rcases h4 with ⟨_, h4, _⟩ | ⟨b', off', h4, h5, h6⟩
  · omega
  · exact ⟨b', off', h4⟩
theorem Row.forms {w : World} {a : Option Addr} {n cap size : Nat} {xs : List Value} (h : Row w a n cap size xs) : (a = none ∧ n = 0 ∧ cap = 0) ∨ ∃ b off, a = some ⟨b, off, none⟩ := by
  obtain ⟨_, _, _, h4⟩ := h
  rcases h4 with h4 | ⟨b', off', h4, h5, h6⟩
  · exact .inl h4
  · exact .inr ⟨b', off', h4⟩

/-- a row of the call's own can be read -/
theorem own_row {w : World} {base : Nat} {e : TypeId} {size : Nat} {a : Option Addr} {n cap : Nat} {xs : List Value} (h : w.ownsRow base e size (.slice a n cap) n xs) : Row w a n cap size xs := by
  obtain ⟨h1, h2⟩ := h
  rcases h2 with ⟨h2, h3⟩ | ⟨g, c, cur, h2, h3, h4, h5, h6, h7, h8⟩
  · cases h2; exact ⟨h1, Nat.le_refl _, Nat.zero_le _, .inl ⟨rfl, rfl, rfl⟩⟩
  · cases h2
    have hg : g < w.heap.size := by
      rcases Nat.lt_or_ge g w.heap.size with h | h
      · exact h
      · rw [Array.getElem?_eq_none h] at h4; cases h4
    refine ⟨h1, h5, h6, .inr ⟨g, 0, rfl, hg, fun j hj => ?_⟩⟩
    have := World.ownsRow.cellAt (w := w) (base := base) (e := e) (size := size) (g := g) (n := n) (cap := cap) (xs := xs) ⟨h1, .inr ⟨g, cap, cur, rfl, h3, h4, h5, h6, h7, h8⟩⟩ j (by omega)
    rw [Nat.zero_add, this]; simp [hj]
theorem own_base {w : World} {base : Nat} {e : TypeId} {size : Nat} {a : Option Addr} {n cap : Nat} {xs : List Value} (h : w.ownsRow base e size (.slice a n cap) n xs) : ∀ ad, a = some ad → base ≤ ad.block ∧ ad.block < w.heap.size := by
  intro ad ha; subst ha
  exact h.lt ad.block rfl
theorem own_slice {w : World} {base : Nat} {e : TypeId} {size : Nat} {v : Value} {n : Nat} {xs : List Value} (h : w.ownsRow base e size v n xs) : ∃ a c, v = .slice a n c := by
  obtain ⟨_, h⟩ := h
  rcases h with ⟨h, h0⟩ | ⟨g, c, cur, h, _⟩
  · subst h0; exact ⟨_, _, h⟩
  · exact ⟨_, _, h⟩
theorem own_drewN {w : World} {k : Nat} {base : Nat} {e : TypeId} {size : Nat} {v : Value} {n : Nat} {xs : List Value} (h : w.ownsRow base e size v n xs) : (w.drewN k).ownsRow base e size v n xs := h
/-- an owned row stays owned where only blocks below it or above it turn -/
theorem own_under {w w' : World} {B base : Nat} {e : TypeId} {size : Nat} {a : Option Addr} {n cap : Nat} {xs : List Value} (h : w.ownsRow base e size (.slice a n cap) n xs) (hb : Below B w w') (hB : ∀ ad, a = some ad → ad.block < B) : w'.ownsRow base e size (.slice a n cap) n xs := by
  obtain ⟨h1, h2⟩ := h
  refine ⟨h1, ?_⟩
  rcases h2 with h2 | ⟨g, c, cur, h2, h3, h4, r⟩
  · exact .inl h2
  · cases h2
    exact .inr ⟨g, cap, cur, rfl, h3, by rw [hb.block g (hB _ rfl)]; exact h4, r⟩
theorem own_below {w w' : World} {base : Nat} {e : TypeId} {size : Nat} {a : Option Addr} {n cap : Nat} {xs : List Value} (h : w.ownsRow base e size (.slice a n cap) n xs) (hb : Below w.heap.size w w') : w'.ownsRow base e size (.slice a n cap) n xs :=
  own_under h hb fun ad ha => (own_base h ad ha).2

end Go.Proofs.Ytjchindjoailbaa

/- Slices that the caller gives, read. -/
namespace Go.Proofs.Ytjchindjoailbaa
set_option linter.unusedSimpArgs false
set_option linter.unusedVariables false
open Go.RowKit

/-- a caller's slice of elements of 'size' cells reads as the cells xs -/
def ArgRow (w : World) (a : Option Addr) (n cap size : Nat) (xs : List Value) : Prop :=
  xs.length = n * size ∧ n ≤ cap ∧ cap ≤ maxLen ∧
  (n = 0 ∨ ∃ b off, a = some ⟨b, off, none⟩ ∧ b < w.heap.size ∧ ∀ j (h : j < xs.length), w.cell? ⟨b, off + j, none⟩ = some xs[j])

theorem ArgRow.below {w w' : World} {a : Option Addr} {n cap size : Nat} {xs : List Value} (h : ArgRow w a n cap size xs) (hb : Below w.heap.size w w') : ArgRow w' a n cap size xs := by
  obtain ⟨h1, h2, h3, h4⟩ := h
  refine ⟨h1, h2, h3, ?_⟩
  rcases h4 with h4 | ⟨b, off, rfl, h5, h6⟩
  · exact .inl h4
  · exact .inr ⟨b, off, rfl, Nat.lt_of_lt_of_le h5 hb.size, fun j hj => by rw [hb.cell (p := ⟨b, off + j, none⟩) h5]; exact h6 j hj⟩
theorem ArgRow.of {w : World} {a : Option Addr} {n cap size : Nat} {xs : List Value} (h : Row w a n cap size xs) : ArgRow w a n cap size xs := by
  obtain ⟨h1, h2, h3, h4⟩ := h
  refine ⟨h1, h2, h3, ?_⟩
  rcases h4 with ⟨_, h4, _⟩ | h4
  · exact .inl h4
  · exact .inr h4
theorem ArgRow.le {w : World} {a : Option Addr} {n cap size : Nat} {xs : List Value} (h : ArgRow w a n cap size xs) : n ≤ maxLen := Nat.le_trans h.2.1 h.2.2.1
theorem ArgRow.form {w : World} {a : Option Addr} {n cap size : Nat} {xs : List Value} (h : ArgRow w a n cap size xs) (hn : 0 < n) : ∃ b off, a = some ⟨b, off, none⟩ ∧ b < w.heap.size ∧ ∀ j (h : j < xs.length), w.cell? ⟨b, off + j, none⟩ = some xs[j] := by
  rcases h.2.2.2 with h4 | h4
  · omega
  · exact h4

/-- 'make([]T, n)' -/
theorem run_make_rows {P : Program} (t e : TypeId) (z : Value) (size bytes : Nat) (ht : P.underlying t = some (.slice e)) (hinfo : (P.info? e).map (fun i => (i.zero, i.size, i.bytes)) = some (some z, size, bytes))
    (kl kc : IntKind) (n : Nat) (hbytes : bytes * n ≤ 281474976710656) (h63 : n ≤ 9223372036854775807) (w : World) :
    (Instr.makeSlice t (.int kl (n : Int)) (.int kc (n : Int))).run P w = .ok (.slice (some ⟨w.heap.size, 0, none⟩) n n) (w.alloc (.cells (madeCells z.cells (n * size)) e)) := by
  obtain ⟨i, hi, hzz⟩ := Option.map_eq_some_iff.1 hinfo
  simp only [Prod.mk.injEq] at hzz
  obtain ⟨hz, hs, hb⟩ := hzz
  have hb' : (i.bytes : Int) * (n : Int) ≤ 281474976710656 := by
    have h : ((i.bytes * n : Nat) : Int) ≤ 281474976710656 := by rw [hb]; omega
    rwa [Int.natCast_mul] at h
  have hr := run_make (P := P) w t e i z ht hi hz kl kc n n (by omega) (Int.le_refl _) hb' (by omega)
  simp only [Int.toNat_natCast, hs] at hr
  exact hr
theorem flat_len {α : Type} (f : α → List Value) (c : Nat) (hf : ∀ z, (f z).length = c) (l : List α) : (l.flatMap f).length = l.length * c := by
  induction l with
  | nil => simp
  | cons a l ih => rw [List.flatMap_cons, List.length_append, ih, hf, List.length_cons, Nat.succ_mul]; omega
section
variable {H : Type} {enc : TypeId × Value → H} {P : Program} {w : World} {base : Nat} {spare : Nat → Bool} {held : Bool}

theorem open_rows {α : Type} {t e : TypeId} {fuel c : Nat} {cs : List Value} {x : DataW H × List MemPlace} (ht : P.underlying t = some (.slice e)) (hc : P.cellsOf e = c) (hc0 : 0 < c)
    (f : α → List Value) (p : α → Prop) (hf : ∀ z, (f z).length = c)
    (dec : ∀ n cs y, DataW.trod enc P w base spare held n e cs = some y → ∃ z, cs = f z ∧ p z)
    (h : DataW.trod enc P w base spare held fuel t cs = some x) :
    ∃ (a : Option Addr) (n cap : Nat) (l : List α), cs = [.slice a n cap] ∧ l.length = n ∧ ArgRow w a n cap c (l.flatMap f) ∧ ∀ z ∈ l, p z := by
  rcases Go.Deep.open_slice ht h with ⟨rfl, _⟩ | ⟨a, len, cap, m, n, D, Pl, rfl, hb, hl, hm, hmm, _, hall⟩
  · exact ⟨none, 0, 0, [], rfl, rfl, ⟨by simp, by omega, by unfold maxLen; omega, .inl rfl⟩, by simp⟩
  · rw [hc] at hall
    have key : ∀ k, k ≤ len → ∃ l : List α, l.length = k ∧ (∀ z ∈ l, p z) ∧ ∀ j (hj : j < (l.flatMap f).length), w.cell? (a.add j) = some ((l.flatMap f)[j]) := by
      intro k
      induction k with
      | zero => intro _; exact ⟨[], rfl, by simp, by intro j hj; simp at hj⟩
      | succ k ih =>
        intro hk
        obtain ⟨l, h1, h2, h3⟩ := ih (by omega)
        obtain ⟨cs', h4, h5⟩ := hall k (by rw [hmm]; split <;> omega)
        obtain ⟨z, rfl, hz⟩ := dec _ _ _ h5
        have hlen : (l.flatMap f).length = k * c := by
          rw [flat_len f c hf, h1]
        refine ⟨l ++ [z], by simp [h1], by intro y hy; simp at hy; rcases hy with hy | rfl; exact h2 y hy; exact hz, ?_⟩
        intro j hj
        by_cases hjl : j < (l.flatMap f).length
        · rw [h3 j hjl]; simp [List.getElem_append_left hjl]
        · have hj2 : j - k * c < c := by simp [hf] at hj hlen; omega
          have h6 := (World.cells?_some h4).2.2 (j - k * c) hj2
          rw [Go.Addr.add_add, show k * c + (j - k * c) = j from by omega] at h6
          rw [h6]
          simp [List.getElem?_eq_getElem, hf, hj2, List.getElem_append_right (Nat.le_of_not_lt hjl), hlen]
    obtain ⟨l, h1, h2, h3⟩ := key len (Nat.le_refl _)
    have hlen : (l.flatMap f).length = len * c := by
      rw [flat_len f c hf, h1]
    refine ⟨some a, len, cap, l, rfl, h1, ⟨hlen, hl, hm, ?_⟩, h2⟩
    by_cases h0 : len = 0
    · exact .inl h0
    · have hpos : 0 < len * c := Nat.mul_pos (by omega) hc0
      have h4 := h3 0 (by omega)
      obtain ⟨b, off, spot⟩ := a
      have hspot : spot = none := by simpa [Addr.add] using World.cell?_spot h4
      subst hspot
      refine .inr ⟨b, off, rfl, ?_, ?_⟩
      · obtain ⟨cs', h5, _⟩ := hall 0 (by rw [hmm]; split <;> omega)
        simpa [Addr.add] using World.cells?_block h5 hc0
      · intro j hj
        have := h3 j hj
        rw [← this]
        by_cases hj0 : j = 0
        · subst hj0; rfl
        · simp [Addr.add, hj0]
end
end Go.Proofs.Ytjchindjoailbaa

/- The arguments of the laws, opened. -/
namespace Go.Proofs.Ytjchindjoailbaa
set_option linter.unusedSimpArgs false
set_option linter.unusedVariables false
open Go.RowKit Go.ChangeShapes Go.WideShapes Go.ChangeAt

section
variable {H : Type} {enc : TypeId × Value → H} {w : World} {base : Nat} {spare : Nat → Bool} {held : Bool}

theorem one_int : Try.prog.cellsOf 3 = 1 := by kernel_rfl
def ints (l : List Int) : List Value := l.flatMap fun z => [.int .i64 z]
theorem ints_len (l : List Int) : (ints l).length = l.length := by rw [ints, flat_len _ 1 (fun _ => rfl)]; omega
theorem ints_at (l : List Int) (j : Nat) (h : j < l.length) : (ints l)[j]'(by rw [ints_len]; exact h) = .int .i64 l[j] := by
  have : ints l = l.map (Value.int .i64) := by
    clear h
    unfold ints
    induction l with
    | nil => rfl
    | cons a l ih => rw [List.flatMap_cons, ih]; rfl
  simp [this]
theorem dec_int (n : Nat) (cs : List Value) (y : DataW H × List MemPlace) (h : DataW.trod enc Try.prog w base spare held n 3 cs = some y) : ∃ z : Int, cs = [.int .i64 z] ∧ (Lit.int .i64 z).wf = true := by
  obtain ⟨z, h1, _, h2⟩ := DataW.trod_int Try.underlying3 h
  exact ⟨z, h1, h2⟩

abbrev Wz := Int × Int × Int
def wireV (x : Wz) : List Value := [.int .i64 x.1, .int .i64 x.2.1, .int .i64 x.2.2]
def wires (l : List Wz) : List Value := l.flatMap wireV
theorem wires_len (l : List Wz) : (wires l).length = l.length * 3 := flat_len wireV 3 (fun _ => rfl) l
def wfW (x : Wz) : Prop := (Lit.int .i64 x.1).wf = true ∧ (Lit.int .i64 x.2.1).wf = true ∧ (Lit.int .i64 x.2.2).wf = true
theorem list3 (cs : List Value) (h : cs.length = 3) : ∃ a b c, cs = [a, b, c] := by
  match cs, h with
  | [a, b, c], _ => exact ⟨a, b, c, rfl⟩
set_option maxRecDepth 100000 in
theorem dec_wire (n : Nat) (cs : List Value) (y : DataW H × List MemPlace) (h : DataW.trod enc Try.prog w base spare held n 145 cs = some y) : ∃ z : Wz, cs = wireV z ∧ wfW z := by
  obtain ⟨y0, y1, y2, m, _, hl, h0, h1, h2⟩ := Go.Deep.trod_struct3 Try.underlying145 h
  have hl : cs.length = 3 := hl.trans (by kernel_rfl)
  obtain ⟨a, b, c, rfl⟩ := list3 cs hl
  obtain ⟨z0, e0, _, w0⟩ := DataW.trod_int Try.underlying3 h0
  obtain ⟨z1, e1, _, w1⟩ := DataW.trod_int Try.underlying3 h1
  obtain ⟨z2, e2, _, w2⟩ := DataW.trod_int Try.underlying3 h2
  simp [one_int] at e0 e1 e2
  exact ⟨(z0, z1, z2), by simp [wireV, e0, e1, e2], w0, w1, w2⟩
/-- a caller's network: its numbers, its wires -/
structure NetArg (w : World) (N E S : Int) (a : Option Addr) (n c : Nat) (l : List Wz) : Prop where
  wN : (Lit.int .i64 N).wf = true
  wE : (Lit.int .i64 E).wf = true
  wS : (Lit.int .i64 S).wf = true
  len : l.length = n
  row : ArgRow w a n c 3 (wires l)
  wl : ∀ x ∈ l, wfW x
set_option maxRecDepth 100000 in
theorem open_net {r : Reach} {b0 : Nat} {v : Value} {d : DataW H} {p : List MemPlace} (hv : Value.okWide Try.prog w r b0 60 v) (h : DataW.Trod enc Try.prog w base spare held 60 v d p) :
    ∃ (N E S : Int) (a : Option Addr) (n c : Nat) (l : List Wz), v = .agg #[.int .i64 N, .int .i64 E, .int .i64 S, .slice a n c] ∧ NetArg w N E S a n c l := by
  obtain ⟨v0, v1, v2, v3, y0, y1, y2, y3, m, rfl, _, _, h0, h1, h2, h3⟩ := Joins.open_agg4 Try.underlying60 (by kernel_rfl) (by kernel_rfl) hv h
  obtain ⟨z0, e0, _, w0⟩ := DataW.trod_int Try.underlying3 h0
  obtain ⟨z1, e1, _, w1⟩ := DataW.trod_int Try.underlying3 h1
  obtain ⟨z2, e2, _, w2⟩ := DataW.trod_int Try.underlying3 h2
  obtain ⟨a, n, c, l, e, hl, hr, hp⟩ := open_rows Try.underlying58 (by kernel_rfl : Try.prog.cellsOf _ = 3) (by omega) wireV wfW (fun _ => rfl) dec_wire h3
  simp at e0 e1 e2 e
  subst e0 e1 e2 e
  exact ⟨_, _, _, a, n, c, l, rfl, w0, w1, w2, hl, hr, hp⟩
end
end Go.Proofs.Ytjchindjoailbaa

/- Determinants by the first row, as far as the machine holds them. -/
namespace Go.Proofs.Ytjchindjoailbaa
set_option linter.unusedSimpArgs false
set_option linter.unusedVariables false
open Go.RowKit

/-- a table's entry -/
def ent (M : List (List Int)) (r c : Int) : Int := (M.getD r.toNat []).getD c.toNat 0
def sgn (k : Nat) : Int := if k % 2 = 0 then 1 else -1
theorem sgn_next (k : Nat) : sgn (k + 1) = -sgn k := by unfold sgn; split <;> split <;> omega
theorem sgn_cases (k : Nat) : sgn k = 1 ∨ sgn k = -1 := by unfold sgn; split <;> simp
/-- the first k columns' part -/
def dsum (e : Int → Int → Int) (f : List Int → Int) (r : Int) (cols : List Int) : Nat → Int
  | 0 => 0
  | k + 1 => if e r (cols.getD k 0) = 0 then dsum e f r cols k else wrap64 (dsum e f r cols k + wrap64 (wrap64 (sgn k * e r (cols.getD k 0)) * f (cols.eraseIdx k)))
def detW (e : Int → Int → Int) : List Int → List Int → Int
  | [], _ => 1
  | r :: rs, cols => dsum e (detW e rs) r cols cols.length
theorem dsum_zero {e : Int → Int → Int} {f : List Int → Int} {r : Int} {cols : List Int} {k : Nat} {x : Int} (hx : e r (cols.getD k 0) = x) (h : x = 0) : dsum e f r cols (k + 1) = dsum e f r cols k := by
  rw [dsum, if_pos (hx.trans h)]
theorem dsum_step {e : Int → Int → Int} {f : List Int → Int} {r : Int} {cols : List Int} {k : Nat} {x : Int} (hx : e r (cols.getD k 0) = x) (h : ¬ x = 0) : dsum e f r cols (k + 1) = wrap64 (dsum e f r cols k + wrap64 (wrap64 (sgn k * x) * f (cols.eraseIdx k))) := by
  rw [dsum, if_neg (by rw [hx]; exact h), hx]

/-! a table in memory, to be read: rows of elements of 's' cells, 'f' an element's cells -/
section
variable {α : Type} {f : α → List Value} {s : Nat}
def slV (x : Option Addr × Nat × List α) : Value := .slice x.1 x.2.2.length x.2.1
def Grid (f : α → List Value) (s : Nat) (w : World) (a : Option Addr) (n c : Nat) (M : List (List α)) : Prop :=
  ∃ rs : List (Option Addr × Nat × List α), rs.map (fun x => x.2.2) = M ∧ ArgRow w a n c 1 (rs.map slV) ∧ ∀ x ∈ rs, ArgRow w x.1 x.2.2.length x.2.1 s (x.2.2.flatMap f)
theorem Grid.below {w w' : World} {a : Option Addr} {n c : Nat} {M : List (List α)} (h : Grid f s w a n c M) (hb : Below w.heap.size w w') : Grid f s w' a n c M := by
  obtain ⟨rs, h1, h2, h3⟩ := h
  exact ⟨rs, h1, h2.below hb, fun x hx => (h3 x hx).below hb⟩
theorem Grid.len {w : World} {a : Option Addr} {n c : Nat} {M : List (List α)} (h : Grid f s w a n c M) : M.length = n := by
  obtain ⟨rs, h1, h2, h3⟩ := h
  have := h2.1
  rw [← h1]; simp at this ⊢; omega
theorem Grid.le {w : World} {a : Option Addr} {n c : Nat} {M : List (List α)} (h : Grid f s w a n c M) : n ≤ maxLen := by
  obtain ⟨rs, h1, h2, h3⟩ := h; exact h2.le
theorem Grid.form {w : World} {a : Option Addr} {n c : Nat} {M : List (List α)} (h : Grid f s w a n c M) (hn : 0 < n) : ∃ b o, a = some ⟨b, o, none⟩ ∧ b < w.heap.size := by
  obtain ⟨rs, h1, h2, h3⟩ := h
  obtain ⟨b, o, h4, h5, _⟩ := h2.form hn
  exact ⟨b, o, h4, h5⟩
/-- row i of a table: where it lies -/
theorem Grid.row {w : World} {b o n c : Nat} {M : List (List α)} (h : Grid f s w (some ⟨b, o, none⟩) n c M) (i : Nat) (hi : i < M.length) :
    ∃ a' c', w.cell? ⟨b, o + i, none⟩ = some (.slice a' M[i].length c') ∧ ArgRow w a' M[i].length c' s (M[i].flatMap f) := by
  have hl := h.len
  obtain ⟨rs, h1, h2, h3⟩ := h
  subst h1
  simp only [List.length_map] at hi
  have hlen := h2.1
  simp at hlen
  obtain ⟨b', o', e, _, hc⟩ := h2.form (by omega)
  cases e
  have hx := hc i (by simpa using hi)
  simp only [List.getElem_map] at hx ⊢
  exact ⟨rs[i].1, rs[i].2.1, hx, h3 _ (List.getElem_mem _)⟩
end
abbrev intV (z : Int) : List Value := [.int .i64 z]
abbrev IGrid := Grid intV 1
/-- one cell of a row of numbers -/
theorem int_cell {w : World} {b o n c : Nat} {l : List Int} (h : ArgRow w (some ⟨b, o, none⟩) n c 1 (ints l)) (i : Nat) (hi : i < l.length) : w.cell? ⟨b, o + i, none⟩ = some (.int .i64 l[i]) := by
  have hl := ints_len l
  have hn : 0 < n := by have := h.1; omega
  obtain ⟨b', o', e, _, hc⟩ := h.form hn
  cases e
  rw [hc i (by omega), ints_at]
theorem ArgRow.ints_len {w : World} {a : Option Addr} {n c : Nat} {l : List Int} (h : ArgRow w a n c 1 (ints l)) : l.length = n := by
  have h1 := h.1
  rw [Proofs.Ytjchindjoailbaa.ints_len] at h1; omega
theorem ints_cons (x : Int) (l : List Int) : ints (x :: l) = .int .i64 x :: ints l := rfl
theorem ints_append (l m : List Int) : ints (l ++ m) = ints l ++ ints m := by simp [ints]
/-- the row behind its first element -/
theorem ArgRow.tail {w : World} {b o n c : Nat} {x : Int} {l : List Int} (h : ArgRow w (some ⟨b, o, none⟩) (n + 1) c 1 (ints (x :: l))) : ArgRow w (some ⟨b, o + 1, none⟩) n (c - 1) 1 (ints l) := by
  obtain ⟨h1, h2, h3, h4⟩ := h
  rw [ints_cons] at h1 h4
  refine ⟨by simpa using h1, by omega, by omega, ?_⟩
  rcases h4 with h4 | ⟨b', o', e, h5, h6⟩
  · omega
  · cases e
    refine .inr ⟨b, o + 1, rfl, h5, fun j hj => ?_⟩
    have := h6 (j + 1) (by simpa using hj)
    rw [show o + 1 + j = o + (j + 1) from by omega, this]; rfl
end Go.Proofs.Ytjchindjoailbaa

/- Networks of the laws' own make: copied, weighed, compared. -/
namespace Go.Proofs.Ytjchindjoailbaa
set_option linter.unusedSimpArgs false
set_option linter.unusedVariables false
open Go.RowKit

abbrev wireA (x : Wz) : Value := .agg #[.int .i64 x.1, .int .i64 x.2.1, .int .i64 x.2.2]

set_option maxHeartbeats 1000000 in
theorem toWire (p q r : Int) (w : World) :
    Calls Try.prog 137 #[.agg #[.int .i64 p, .int .i64 q, .int .i64 r]] w fun e w' => e = .returned (.agg #[.int .i64 p, .int .i64 q, .int .i64 r]) ∧ Below w.heap.size w w' := by
  go_enter Try.func137, Try.ntmps137
  go_wp2_with fail
  go_returns
  exact ⟨rfl, by (repeat' (first | (with_reducible exact Below.refl _ _) | (with_reducible assumption) | (with_reducible refine balloc ?_ _) | (with_reducible refine Below.drew ?_) | (with_reducible refine below_drewN ?_ _) | (with_reducible refine bset ?_ ?_ _) | (with_reducible refine bstep ?_ (by assumption)) | go_size))⟩

set_option maxHeartbeats 1000000 in
theorem szWires (a : Option Addr) (n c : Nat) (k : Nat) (w : World) (hn : n ≤ maxLen) (hk : k ≤ 1048576) :
    Calls Try.prog 92 #[.slice a n c, .int .i64 k] w fun e w' => (e = .returned (.int .i64 (if k < n then -1 else (k : Int) - n))) ∧ w = w' := by
  unfold maxLen at hn
  by_cases h : k < n
  · rw [if_pos h]
    go_enter Try.func92, Try.ntmps92
    go_wp2_with fail
    go_ret
    exact ⟨rfl, rfl⟩
  · rw [if_neg h]
    go_enter Try.func92, Try.ntmps92
    go_wp2_with fail
    go_ret
    exact ⟨rfl, rfl⟩

theorem szNet (N E S : Int) (a : Option Addr) (n c : Nat) (w : World) (hn : n ≤ maxLen) :
    Calls Try.prog 42 #[.agg #[.int .i64 N, .int .i64 E, .int .i64 S, .slice a n c], .int .i64 1048576] w fun e w' => (e = .returned (.int .i64 (if 1048576 < n then -1 else (1048576 : Int) - n))) ∧ Below w.heap.size w w' := by
  have K := Lib.hid (fun w => szWires a n c 1048576 w hn (by omega))
  unfold maxLen at hn
  by_cases h : 1048576 < n
  · rw [if_pos h] at K ⊢
    go_enter Try.func42, Try.ntmps42
    go_wp2_with fail
    refine (K.out _).mono ?_
    rintro e w' ⟨rfl, rfl⟩
    go_wp2_with fail
    go_ret
    exact ⟨rfl, by (repeat' (first | (with_reducible exact Below.refl _ _) | (with_reducible assumption) | (with_reducible refine balloc ?_ _) | (with_reducible refine Below.drew ?_) | (with_reducible refine below_drewN ?_ _) | (with_reducible refine bset ?_ ?_ _) | (with_reducible refine bstep ?_ (by assumption)) | go_size))⟩
  · rw [if_neg h] at K ⊢
    go_enter Try.func42, Try.ntmps42
    go_wp2_with fail
    refine (K.out _).mono ?_
    rintro e w' ⟨rfl, rfl⟩
    go_wp2_with fail
    go_ret
    exact ⟨rfl, by (repeat' (first | (with_reducible exact Below.refl _ _) | (with_reducible assumption) | (with_reducible refine balloc ?_ _) | (with_reducible refine Below.drew ?_) | (with_reducible refine below_drewN ?_ _) | (with_reducible refine bset ?_ ?_ _) | (with_reducible refine bstep ?_ (by assumption)) | go_size))⟩

theorem wires_get (l : List Wz) : ∀ (i : Nat) (h : i < l.length), (wires l)[i * 3]? = some (.int .i64 l[i].1) ∧ (wires l)[i * 3 + 1]? = some (.int .i64 l[i].2.1) ∧ (wires l)[i * 3 + 2]? = some (.int .i64 l[i].2.2) := by
  induction l with
  | nil => intro i h; simp at h
  | cons a l ih =>
    intro i h
    have e : wires (a :: l) = .int .i64 a.1 :: .int .i64 a.2.1 :: .int .i64 a.2.2 :: wires l := rfl
    cases i with
    | zero => rw [e]; simp
    | succ i =>
      have := ih i (by simpa using h)
      rw [e, show (i + 1) * 3 = i * 3 + 1 + 1 + 1 from by omega]
      simpa using this
/-- the cells of one wire -/
theorem wire_cells {w : World} {b o n c : Nat} {l : List Wz} (h : ArgRow w (some ⟨b, o, none⟩) n c 3 (wires l)) (i : Nat) (hi : i < l.length) :
    w.cell? ⟨b, o + i * 3, none⟩ = some (.int .i64 l[i].1) ∧ w.cell? ⟨b, o + i * 3 + 1, none⟩ = some (.int .i64 l[i].2.1) ∧ w.cell? ⟨b, o + i * 3 + 2, none⟩ = some (.int .i64 l[i].2.2) := by
  have hl := wires_len l
  have hn : 0 < n := by have := h.1; omega
  obtain ⟨b', o', e, _, hc⟩ := h.form hn
  cases e
  obtain ⟨g0, g1, g2⟩ := wires_get l i hi
  rw [List.getElem?_eq_getElem (by omega)] at g0 g1 g2
  simp only [Option.some.injEq] at g0 g1 g2
  refine ⟨?_, ?_, ?_⟩
  · rw [hc (i * 3) (by omega), g0]
  · rw [show o + i * 3 + 1 = o + (i * 3 + 1) from by omega, hc (i * 3 + 1) (by omega), g1]
  · rw [show o + i * 3 + 2 = o + (i * 3 + 2) from by omega, hc (i * 3 + 2) (by omega), g2]
theorem wires_take (l : List Wz) (zs : List Value) (i : Nat) (h : i < l.length) (hz : zs.length = l.length * 3) :
    (((wires (l.take i) ++ zs.drop (i * 3)).set (i * 3) (.int .i64 l[i].1)).set (i * 3 + 1) (.int .i64 l[i].2.1)).set (i * 3 + 2) (.int .i64 l[i].2.2) = wires (l.take (i + 1)) ++ zs.drop ((i + 1) * 3) := by
  have hl : (wires (l.take i)).length = i * 3 := by rw [wires_len, List.length_take]; omega
  obtain ⟨z0, z1, z2, r, hd⟩ : ∃ z0 z1 z2 r, zs.drop (i * 3) = z0 :: z1 :: z2 :: r := by
    have : 3 ≤ (zs.drop (i * 3)).length := by rw [List.length_drop]; omega
    match hd : zs.drop (i * 3), this with
    | z0 :: z1 :: z2 :: r, _ => exact ⟨z0, z1, z2, r, rfl⟩
  have hr : zs.drop ((i + 1) * 3) = r := by
    rw [show (i + 1) * 3 = i * 3 + 3 from by omega, ← List.drop_drop, hd]; rfl
  rw [hd, hr, List.take_succ_eq_append_getElem h]
  rw [List.set_append_right _ _ (by omega), hl, List.set_append_right _ _ (by omega), hl, List.set_append_right _ _ (by omega), hl]
  rw [show wires (l.take i ++ [l[i]]) = wires (l.take i) ++ wireV l[i] from by simp only [wires, List.flatMap_append, List.flatMap_cons, List.flatMap_nil, List.append_nil]]
  generalize wires (l.take i) = x
  simp [wireV]

/-- a struct of three cells stored into an owned row -/
theorem own_store3 {w : World} {base g n c : Nat} {e : TypeId} {xs : List Value} (h : w.ownsRow base e 3 (.slice (some ⟨g, 0, none⟩) n c) n xs) (i : Nat) (hi : i < n) (u0 u1 u2 : Value) :
    ∃ v0 v1 v2, w.cell? ⟨g, i * 3, none⟩ = some v0 ∧ w.cell? ⟨g, i * 3 + 1, none⟩ = some v1 ∧ w.cell? ⟨g, i * 3 + 2, none⟩ = some v2 ∧
    w.frozen? ⟨g, i * 3, none⟩ = false ∧ w.frozen? ⟨g, i * 3 + 1, none⟩ = false ∧ w.frozen? ⟨g, i * 3 + 2, none⟩ = false ∧
    (((w.setCell ⟨g, i * 3, none⟩ u0).setCell ⟨g, i * 3 + 1, none⟩ u1).setCell ⟨g, i * 3 + 2, none⟩ u2).ownsRow base e 3 (.slice (some ⟨g, 0, none⟩) n c) n (((xs.set (i * 3) u0).set (i * 3 + 1) u1).set (i * 3 + 2) u2) := by
  have hl : xs.length = n * 3 := h.1
  refine ⟨xs[i * 3]'(by omega), xs[i * 3 + 1]'(by omega), xs[i * 3 + 2]'(by omega), ?_, ?_, ?_, h.frozenAt _, h.frozenAt _, h.frozenAt _, ((((h.stored _ u0).1).stored _ u1).1.stored _ u2).1⟩
  · rw [h.cellAt _ (by omega), List.getElem?_eq_getElem (by omega)]
  · rw [h.cellAt _ (by omega), List.getElem?_eq_getElem (by omega)]
  · rw [h.cellAt _ (by omega), List.getElem?_eq_getElem (by omega)]
set_option maxHeartbeats 2000000 in
theorem toWires (a : Option Addr) (n c : Nat) (l : List Wz) (w : World) (hr : ArgRow w a n c 3 (wires l)) (hl : l.length = n) (hn : n ≤ 1048576) :
    Calls Try.prog 98 #[.slice a n c] w fun e w' => ∃ g, e = .returned (.slice (some ⟨g, 0, none⟩) n n) ∧ w'.ownsRow w.heap.size 102 3 (.slice (some ⟨g, 0, none⟩) n n) n (wires l) ∧ Below w.heap.size w w' := by
  have hmk := run_make_rows (P := Try.prog) 23 102 (.agg #[.int .i64 0, .int .i64 0, .int .i64 0]) 3 24 Try.underlying23 (by kernel_rfl) .i64 .i64 n (by omega) (by omega)
  have HZ : Hid ((w.alloc (.cells (madeCells #[Value.int .i64 0, Value.int .i64 0, Value.int .i64 0] (n * 3)) 102)).ownsRow w.heap.size 102 3 (.slice (some ⟨w.heap.size, 0, none⟩) n n) n (madeCells #[Value.int .i64 0, Value.int .i64 0, Value.int .i64 0] (n * 3)).toList) :=
    World.ownsRow_lit w _ n (Nat.le_refl _) (by unfold maxLen; omega) (size_madeCells _ _)
  have hzl : (madeCells #[Value.int .i64 0, Value.int .i64 0, Value.int .i64 0] (n * 3)).toList.length = l.length * 3 := by rw [Array.length_toList, size_madeCells, hl]
  obtain ⟨zs, hzs⟩ : ∃ zs, madeCells #[Value.int .i64 0, Value.int .i64 0, Value.int .i64 0] (n * 3) = zs := ⟨_, rfl⟩
  have hmk' : ∀ (w : World), Sem.run Try.prog (Instr.makeSlice 23 (Value.int IntKind.i64 ↑n) (Value.int IntKind.i64 ↑n)) w = Result.ok (Value.slice (some { block := w.heap.size, off := 0 }) n n) (w.alloc (Obj.cells zs 102)) := by
    intro w; rw [← hzs]; exact hmk w
  rw [hzs] at HZ hzl
  clear hmk hzs
  have HR := Lib.hid hr
  have HL := Lib.hid hl
  have HZL := Lib.hid hzl
  clear hr hl hzl
  go_enter Try.func98, Try.ntmps98
  go_wp2_with fail
  go_loopw [4] (fun u wr => ∃ i : Nat, i ≤ n ∧ u = .int .i64 i ∧ Hid (wr.ownsRow w.heap.size 102 3 (.slice (some ⟨w.heap.size, 0, none⟩) n n) n (wires (l.take i) ++ zs.toList.drop (i * 3))) ∧ Hid (Below w.heap.size w wr)) (fun u _ => n - (intOf u).toNat)
  case atStart => exact ⟨0, by omega, rfl, by simpa [Hid, wires] using HZ.out, balloc (Below.refl _ _) _⟩
  case round =>
    obtain ⟨i, hi, rfl, H, HB⟩ := hrel
    by_cases hlt : i < n
    · have hli : i < l.length := by rw [HL.out]; exact hlt
      obtain ⟨b, o, rfl, hb, hcell⟩ := HR.out.form (by omega)
      have hbl : b < wr.heap.size := Nat.lt_of_lt_of_le hb HB.out.size
      have hgl : w.heap.size < wr.heap.size := (own_base H.out _ rfl).2
      obtain ⟨c0, c1, c2⟩ := wire_cells HR.out i hli
      rw [← HB.out.cell (p := ⟨b, _, none⟩) hb] at c0 c1 c2
      generalize hxx : l[i] = x at c0 c1 c2
      obtain ⟨x0, x1, x2⟩ := x
      have HX := Lib.hid hxx
      clear hcell hxx
      go_wp2_with fail
      refine (toWire x0 x1 x2 _).mono ?_
      rintro e w1 ⟨rfl, hb1⟩
      obtain ⟨t0, t1, t2, d0, d1, d2, f0, f1, f2, h2⟩ := own_store3 (own_below H.out hb1) i hlt (.int .i64 x0) (.int .i64 x1) (.int .i64 x2)
      have hgl1 : w.heap.size < w1.heap.size := Nat.lt_of_lt_of_le hgl hb1.size
      have H2 : Hid ((((w1.setCell ⟨w.heap.size, i * 3, none⟩ (.int .i64 x0)).setCell ⟨w.heap.size, i * 3 + 1, none⟩ (.int .i64 x1)).setCell ⟨w.heap.size, i * 3 + 2, none⟩ (.int .i64 x2)).ownsRow w.heap.size 102 3 (.slice (some ⟨w.heap.size, 0, none⟩) n n) n (wires (l.take (i + 1)) ++ zs.toList.drop ((i + 1) * 3))) := by
        have e := wires_take l zs.toList i hli HZL.out
        rw [HX.out] at e
        show World.ownsRow _ _ _ _ _ _ _
        rw [← e]; exact h2
      have H3 : Hid (Below w.heap.size w (((w1.setCell ⟨w.heap.size, i * 3, none⟩ (.int .i64 x0)).setCell ⟨w.heap.size, i * 3 + 1, none⟩ (.int .i64 x1)).setCell ⟨w.heap.size, i * 3 + 2, none⟩ (.int .i64 x2))) :=
        (((bstep HB.out hb1).setCell (Nat.le_refl _) _).setCell (Nat.le_refl _) _).setCell (Nat.le_refl _) _
      clear h2 hb1
      go_wp2_with fail
      go_roundw
      case rel => exact ⟨i + 1, by omega, by go_num, H2.out, H3.out⟩
      case measure => simp [intOf]; omega
    · obtain rfl : i = n := by omega
      go_wp2_with fail
      go_ret
      refine ⟨_, rfl, ?_, HB.out⟩
      have := H.out
      rw [List.take_of_length_le (by rw [HL.out]; omega), List.drop_eq_nil_of_le (by rw [HZL.out, HL.out]; omega), List.append_nil] at this
      exact this
abbrev netV (N E S : Int) (a : Option Addr) (n c : Nat) : Value := .agg #[.int .i64 N, .int .i64 E, .int .i64 S, .slice a n c]

set_option maxRecDepth 100000 in
set_option maxHeartbeats 2000000 in
theorem toNet (N E S : Int) (a : Option Addr) (n c : Nat) (l : List Wz) (w : World) (hr : ArgRow w a n c 3 (wires l)) (hl : l.length = n) (hn : n ≤ 1048576) :
    Calls Try.prog 45 #[netV N E S a n c] w fun e w' => ∃ g, e = .returned (netV N E S (some ⟨g, 0, none⟩) n n) ∧ w'.ownsRow w.heap.size 102 3 (.slice (some ⟨g, 0, none⟩) n n) n (wires l) ∧ Below w.heap.size w w' := by
  have HR := Lib.hid hr
  have HL := Lib.hid hl
  clear hr hl
  go_enter Try.func45, Try.ntmps45
  go_wp2_with fail
  refine (toWires a n c l _ (HR.out.below (by (repeat' (first | (with_reducible exact Below.refl _ _) | (with_reducible assumption) | (with_reducible refine balloc ?_ _) | (with_reducible refine Below.drew ?_) | (with_reducible refine below_drewN ?_ _) | (with_reducible refine bset ?_ ?_ _) | (with_reducible refine bstep ?_ (by assumption)) | go_size)))) HL.out hn).mono ?_
  rintro e w1 ⟨g, rfl, o1, b1⟩
  obtain ⟨u0, v0, l0⟩ := blt b1 (b := w.heap.size) (by (first | omega | (simp only [World.size_alloc, World.size_setCell, World.size_drew, World.heap_drewN]; omega)))
  obtain ⟨u1, v1, l1⟩ := blt b1 (b := w.heap.size + 1) (by (first | omega | (simp only [World.size_alloc, World.size_setCell, World.size_drew, World.heap_drewN]; omega)))
  obtain ⟨u2, v2, l2⟩ := blt b1 (b := w.heap.size + 1 + 1) (by (first | omega | (simp only [World.size_alloc, World.size_setCell, World.size_drew, World.heap_drewN]; omega)))
  have hg := own_base o1 _ rfl
  have B1 : Below w.heap.size w w1 := bstep (by (repeat' (first | (with_reducible exact Below.refl _ _) | (with_reducible assumption) | (with_reducible refine balloc ?_ _) | (with_reducible refine Below.drew ?_) | (with_reducible refine below_drewN ?_ _) | (with_reducible refine bset ?_ ?_ _) | (with_reducible refine bstep ?_ (by assumption)) | go_size))) b1
  have O1 := Lib.hid o1
  clear o1 b1
  go_wp2_with fail
  have rs0 : (w1.cell? { block := w.heap.size + 1, off := 0 }).isSome = true := by simp [go_sem, u1]
  have rs1 : (w1.cell? { block := w.heap.size + 1, off := 1 }).isSome = true := by simp [go_sem, u1]
  have rs2 : (w1.cell? { block := w.heap.size + 1, off := 2 }).isSome = true := by simp [go_sem, u1]
  have rs3 : (w1.cell? { block := w.heap.size + 1, off := 3 }).isSome = true := by simp [go_sem, u1]
  refine bodyPost_ret (v := _) (by simp [results, Try.results45, go_sem, rs0, rs1, rs2, rs3]; try rfl) rfl ?_
  refine ⟨g, rfl, World.ownsRow.mono (base := w.heap.size + 1 + 1 + 1) ?_ (by omega), by (repeat' (first | (with_reducible exact Below.refl _ _) | (with_reducible assumption) | (with_reducible refine balloc ?_ _) | (with_reducible refine Below.drew ?_) | (with_reducible refine below_drewN ?_ _) | (with_reducible refine bset ?_ ?_ _) | (with_reducible refine bstep ?_ (by assumption)) | go_size))⟩
  have o2 := O1.out
  simp only [World.size_alloc] at o2
  repeat' (first | with_reducible exact o2 | (with_reducible refine ownsRow_setCell_below ?_ ?_ _) | (dsimp only; omega) | omega)
end Go.Proofs.Ytjchindjoailbaa

/- Networks compared. -/
namespace Go.Proofs.Ytjchindjoailbaa
set_option linter.unusedSimpArgs false
set_option linter.unusedVariables false
open Go.RowKit

set_option maxHeartbeats 1000000 in
theorem eqWire (p q r : Int) (w : World) :
    Calls Try.prog 138 #[.agg #[.int .i64 p, .int .i64 q, .int .i64 r], .agg #[.int .i64 p, .int .i64 q, .int .i64 r]] w fun e w' => e = .returned (.bool true) ∧ Below w.heap.size w w' := by
  go_enter Try.func138, Try.ntmps138
  go_wp2_with fail
  go_ret
  exact ⟨rfl, by (repeat' (first | (with_reducible exact Below.refl _ _) | (with_reducible assumption) | (with_reducible refine balloc ?_ _) | (with_reducible refine Below.drew ?_) | (with_reducible refine below_drewN ?_ _) | (with_reducible refine bset ?_ ?_ _) | (with_reducible refine bstep ?_ (by assumption)) | go_size))⟩

set_option maxHeartbeats 2000000 in
theorem eqWires (a1 a2 : Option Addr) (n c1 c2 : Nat) (l : List Wz) (w : World) (r1 : ArgRow w a1 n c1 3 (wires l)) (r2 : ArgRow w a2 n c2 3 (wires l)) (hl : l.length = n) :
    Calls Try.prog 100 #[.slice a1 n c1, .slice a2 n c2] w fun e w' => e = .returned (.bool true) ∧ Below w.heap.size w w' := by
  have hn := r1.le
  unfold maxLen at hn
  by_cases h0 : n = 0
  · subst h0
    clear r1 r2
    go_enter Try.func100, Try.ntmps100
    go_wp2_with fail
    go_rounds 1
    go_ret
    exact ⟨rfl, Below.refl _ _⟩
  · obtain ⟨b1, o1, rfl, hb1, _⟩ := r1.form (by omega)
    obtain ⟨b2, o2, rfl, hb2, _⟩ := r2.form (by omega)
    have R1 := Lib.hid r1
    have R2 := Lib.hid r2
    have HL := Lib.hid hl
    clear r1 r2 hl
    go_enter Try.func100, Try.ntmps100
    go_wp2_with fail
    go_loopw [5] (fun v wr => ∃ k : Nat, k ≤ n ∧ v = .int .i64 k ∧ Hid (Below w.heap.size w wr)) (fun v _ => n - (intOf v).toNat)
    case atStart => exact ⟨0, by omega, rfl, Below.refl _ _⟩
    case round =>
      obtain ⟨k, hk, rfl, HB⟩ := hrel
      by_cases hlt : k < n
      · have hli : k < l.length := by rw [HL.out]; exact hlt
        obtain ⟨p0, p1, p2⟩ := wire_cells R1.out k hli
        obtain ⟨q0, q1, q2⟩ := wire_cells R2.out k hli
        rw [← HB.out.cell (p := ⟨b1, _, none⟩) hb1] at p0 p1 p2
        rw [← HB.out.cell (p := ⟨b2, _, none⟩) hb2] at q0 q1 q2
        generalize l[k] = x at p0 p1 p2 q0 q1 q2
        obtain ⟨x0, x1, x2⟩ := x
        clear hli
        go_wp2_with fail
        go_region_with (go_at_call 138; ((with_reducible refine (eqWire _ _ _ _).mono ?_); rintro e w2 ⟨rfl, hb3⟩))
        all_goals
          have HB3 : Hid (Below w.heap.size w w2) := bstep (by first | exact HB.out | exact below_drewN HB.out _ | exact HB.out.drew) hb3
          clear hb3
          go_wp2_with fail
          go_roundw
          case rel => exact ⟨k + 1, by omega, by go_num, by first | exact HB3.out | exact below_drewN HB3.out _ | exact HB3.out.drew⟩
          case measure => simp [intOf]; omega
      · go_wp2_with fail
        go_ret
        exact ⟨rfl, HB.out⟩
end Go.Proofs.Ytjchindjoailbaa

/- WeightAt: the weights at a node. -/
namespace Go.Proofs.Ytjchindjoailbaa
set_option linter.unusedSimpArgs false
set_option linter.unusedVariables false
open Go.RowKit

set_option maxHeartbeats 1000000 in
theorem eqNet (N E S : Int) (a1 a2 : Option Addr) (n c1 c2 : Nat) (l : List Wz) (w : World) (r1 : ArgRow w a1 n c1 3 (wires l)) (r2 : ArgRow w a2 n c2 3 (wires l)) (hl : l.length = n) :
    Calls Try.prog 48 #[netV N E S a1 n c1, netV N E S a2 n c2] w fun e w' => e = .returned (.bool true) ∧ Below w.heap.size w w' := by
  go_enter Try.func48, Try.ntmps48
  go_wp2_with fail
  refine (eqWires a1 a2 n c1 c2 l _ (r1.below (by (repeat' (first | (with_reducible exact Below.refl _ _) | (with_reducible assumption) | (with_reducible refine balloc ?_ _) | (with_reducible refine Below.drew ?_) | (with_reducible refine below_drewN ?_ _) | (with_reducible refine bset ?_ ?_ _) | (with_reducible refine bstep ?_ (by assumption)) | go_size)))) (r2.below (by (repeat' (first | (with_reducible exact Below.refl _ _) | (with_reducible assumption) | (with_reducible refine balloc ?_ _) | (with_reducible refine Below.drew ?_) | (with_reducible refine below_drewN ?_ _) | (with_reducible refine bset ?_ ?_ _) | (with_reducible refine bstep ?_ (by assumption)) | go_size)))) hl).mono ?_
  rintro e wx ⟨rfl, hbx⟩
  obtain ⟨hcx, hfx⟩ := bcell hbx
  have hzx := bsize hbx
  go_wp2_with fail
  go_ret
  exact ⟨rfl, by (repeat' (first | (with_reducible exact Below.refl _ _) | (with_reducible assumption) | (with_reducible refine balloc ?_ _) | (with_reducible refine Below.drew ?_) | (with_reducible refine below_drewN ?_ _) | (with_reducible refine bset ?_ ?_ _) | (with_reducible refine bstep ?_ (by assumption)) | go_size))⟩

/-- the sum of the weights at v, as far as the machine holds it -/
def atStep (v s : Int) (x : Wz) : Int := if x.1 = v ∨ x.2.1 = v then wrap64 (s + x.2.2) else s
def atSum (l : List Wz) (v : Int) : Int := l.foldl (atStep v) 0
theorem at_take (l : List Wz) (v : Int) (k : Nat) (h : k < l.length) : atSum (l.take (k + 1)) v = atStep v (atSum (l.take k) v) l[k] := by
  unfold atSum; rw [List.take_succ_eq_append_getElem h, List.foldl_append]; rfl
theorem atStep_yes {v s : Int} {x : Wz} (h : x.1 = v ∨ x.2.1 = v) : atStep v s x = wrap64 (s + x.2.2) := if_pos h
theorem atStep_no {v s : Int} {x : Wz} (h1 : ¬ x.1 = v) (h2 : ¬ x.2.1 = v) : atStep v s x = s := if_neg (by simp [h1, h2])

set_option maxHeartbeats 4000000 in
theorem implWeightAt (N E S : Int) (a : Option Addr) (n c : Nat) (l : List Wz) (v : Int) (w : World) (hr : ArgRow w a n c 3 (wires l)) (hl : l.length = n) :
    Calls Try.prog 55 #[netV N E S a n c, .int .i64 v] w fun e w' => e = .returned (.int .i64 (atSum l v)) ∧ Below w.heap.size w w' := by
  have hn := hr.le
  unfold maxLen at hn
  by_cases h0 : n = 0
  · subst h0
    have hnil := List.length_eq_zero_iff.1 hl
    subst hnil
    clear hr
    go_enter Try.func55, Try.ntmps55
    go_wp2_with fail
    go_rounds 1
    go_ret
    exact ⟨rfl, by (repeat' (first | (with_reducible exact Below.refl _ _) | (with_reducible assumption) | (with_reducible refine balloc ?_ _) | (with_reducible refine Below.drew ?_) | (with_reducible refine below_drewN ?_ _) | (with_reducible refine bset ?_ ?_ _) | (with_reducible refine bstep ?_ (by assumption)) | go_size))⟩
  · obtain ⟨b, o, rfl, hb, _⟩ := hr.form (by omega)
    have HR := Lib.hid hr
    have HL := Lib.hid hl
    clear hr hl
    go_enter Try.func55, Try.ntmps55
    go_wp2_with fail
    go_loopw [5, 11] (fun s u wr => ∃ k : Nat, k ≤ n ∧ u = .int .i64 k ∧ s = .int .i64 (atSum (l.take k) v) ∧ Hid (Below w.heap.size w wr)) (fun _ u _ => n - (intOf u).toNat)
    case atStart => exact ⟨0, by omega, rfl, rfl, by show Below _ _ _; (repeat' (first | (with_reducible exact Below.refl _ _) | (with_reducible assumption) | (with_reducible refine balloc ?_ _) | (with_reducible refine Below.drew ?_) | (with_reducible refine below_drewN ?_ _) | (with_reducible refine bset ?_ ?_ _) | (with_reducible refine bstep ?_ (by assumption)) | go_size))⟩
    case round =>
      obtain ⟨k, hk, rfl, rfl, HB⟩ := hrel
      by_cases hlt : k < n
      · have hli : k < l.length := by rw [HL.out]; exact hlt
        obtain ⟨p0, p1, p2⟩ := wire_cells HR.out k hli
        have hbl : b < wr.heap.size := Nat.lt_of_lt_of_le hb HB.out.size
        rw [← HB.out.cell (p := ⟨b, _, none⟩) hb] at p0 p1 p2
        have HT := Lib.hid (at_take l v k hli)
        generalize l[k] = x at p0 p1 p2 HT
        obtain ⟨x0, x1, x2⟩ := x
        generalize atSum (l.take k) v = s0 at HT
        clear hli
        by_cases q0 : x0 = v
        · have HE := Lib.hid (atStep_yes (s := s0) (x := (x0, x1, x2)) (.inl q0))
          subst q0
          go_wp2_with fail
          go_roundw
          case rel => exact ⟨k + 1, by omega, by go_num, by rw [HT.out, HE.out], by show Below _ _ _; exact balloc HB.out _⟩
          case measure => simp [intOf]; omega
        · by_cases q1 : x1 = v
          · have HE := Lib.hid (atStep_yes (s := s0) (x := (x0, x1, x2)) (.inr q1))
            have HQ : (x0 == v) = false := by simp [q0]
            subst q1
            go_wp2_with fail
            go_roundw
            case rel => exact ⟨k + 1, by omega, by go_num, by rw [HT.out, HE.out], by show Below _ _ _; exact balloc HB.out _⟩
            case measure => simp [intOf]; omega
          · have HE := Lib.hid (atStep_no (s := s0) (x := (x0, x1, x2)) q0 q1)
            have HQ : (x0 == v) = false := by simp [q0]
            have HQ1 : (x1 == v) = false := by simp [q1]
            clear q0 q1
            go_wp2_with fail
            go_roundw
            case rel => exact ⟨k + 1, by omega, by go_num, by rw [HT.out, HE.out], by show Below _ _ _; exact balloc HB.out _⟩
            case measure => simp [intOf]; omega
      · obtain rfl : k = n := by omega
        go_wp2_with fail
        go_ret
        exact ⟨by rw [List.take_of_length_le (by rw [HL.out]; omega)]; rfl, HB.out⟩

set_option maxHeartbeats 4000000 in
theorem specWeightAt (N E S : Int) (a : Option Addr) (n c : Nat) (l : List Wz) (v : Int) (w : World) (hr : ArgRow w a n c 3 (wires l)) (hl : l.length = n) :
    Calls Try.prog 167 #[netV N E S a n c, .int .i64 v] w fun e w' => e = .returned (.int .i64 (atSum l v)) ∧ Below w.heap.size w w' := by
  have hn := hr.le
  unfold maxLen at hn
  by_cases h0 : n = 0
  · subst h0
    have hnil := List.length_eq_zero_iff.1 hl
    subst hnil
    clear hr
    go_enter Try.func167, Try.ntmps167
    go_wp2_with fail
    go_rounds 1
    go_ret
    exact ⟨rfl, by (repeat' (first | (with_reducible exact Below.refl _ _) | (with_reducible assumption) | (with_reducible refine balloc ?_ _) | (with_reducible refine Below.drew ?_) | (with_reducible refine below_drewN ?_ _) | (with_reducible refine bset ?_ ?_ _) | (with_reducible refine bstep ?_ (by assumption)) | go_size))⟩
  · obtain ⟨b, o, rfl, hb, _⟩ := hr.form (by omega)
    have HR := Lib.hid hr
    have HL := Lib.hid hl
    clear hr hl
    go_enter Try.func167, Try.ntmps167
    go_wp2_with fail
    go_loopw [5, 11] (fun s u wr => ∃ k : Nat, k ≤ n ∧ u = .int .i64 k ∧ s = .int .i64 (atSum (l.take k) v) ∧ Hid (Below w.heap.size w wr)) (fun _ u _ => n - (intOf u).toNat)
    case atStart => exact ⟨0, by omega, rfl, rfl, by show Below _ _ _; (repeat' (first | (with_reducible exact Below.refl _ _) | (with_reducible assumption) | (with_reducible refine balloc ?_ _) | (with_reducible refine Below.drew ?_) | (with_reducible refine below_drewN ?_ _) | (with_reducible refine bset ?_ ?_ _) | (with_reducible refine bstep ?_ (by assumption)) | go_size))⟩
    case round =>
      obtain ⟨k, hk, rfl, rfl, HB⟩ := hrel
      by_cases hlt : k < n
      · have hli : k < l.length := by rw [HL.out]; exact hlt
        obtain ⟨p0, p1, p2⟩ := wire_cells HR.out k hli
        have hbl : b < wr.heap.size := Nat.lt_of_lt_of_le hb HB.out.size
        rw [← HB.out.cell (p := ⟨b, _, none⟩) hb] at p0 p1 p2
        have HT := Lib.hid (at_take l v k hli)
        generalize l[k] = x at p0 p1 p2 HT
        obtain ⟨x0, x1, x2⟩ := x
        generalize atSum (l.take k) v = s0 at HT
        clear hli
        by_cases q0 : x0 = v
        · have HE := Lib.hid (atStep_yes (s := s0) (x := (x0, x1, x2)) (.inl q0))
          subst q0
          go_wp2_with fail
          go_roundw
          case rel => exact ⟨k + 1, by omega, by go_num, by rw [HT.out, HE.out], by show Below _ _ _; exact balloc HB.out _⟩
          case measure => simp [intOf]; omega
        · by_cases q1 : x1 = v
          · have HE := Lib.hid (atStep_yes (s := s0) (x := (x0, x1, x2)) (.inr q1))
            have HQ : (x0 == v) = false := by simp [q0]
            subst q1
            go_wp2_with fail
            go_roundw
            case rel => exact ⟨k + 1, by omega, by go_num, by rw [HT.out, HE.out], by show Below _ _ _; exact balloc HB.out _⟩
            case measure => simp [intOf]; omega
          · have HE := Lib.hid (atStep_no (s := s0) (x := (x0, x1, x2)) q0 q1)
            have HQ : (x0 == v) = false := by simp [q0]
            have HQ1 : (x1 == v) = false := by simp [q1]
            clear q0 q1
            go_wp2_with fail
            go_roundw
            case rel => exact ⟨k + 1, by omega, by go_num, by rw [HT.out, HE.out], by show Below _ _ _; exact balloc HB.out _⟩
            case measure => simp [intOf]; omega
      · obtain rfl : k = n := by omega
        go_wp2_with fail
        go_ret
        exact ⟨by rw [List.take_of_length_le (by rw [HL.out]; omega)]; rfl, HB.out⟩

end Go.Proofs.Ytjchindjoailbaa

/- Regions that draw their order and hold calls that make memory: what each call leaves of the blocks that were there. -/
namespace Go.Proofs.Ytjchindjoailbaa
set_option linter.unusedSimpArgs false
set_option linter.unusedVariables false
open Go.RowKit

/-- of one block below: it reads as it did, is there still, and is not the next one -/
theorem bltn {W w1 : World} (hb : Below W.heap.size W w1) {b : Nat} (h : b < W.heap.size) :
    (∀ o, w1.cell? ⟨b, o, none⟩ = W.cell? ⟨b, o, none⟩) ∧ (∀ o, w1.frozen? ⟨b, o, none⟩ = W.frozen? ⟨b, o, none⟩) ∧ b < w1.heap.size ∧ ¬ b = w1.heap.size ∧ ¬ w1.heap.size = b :=
  have h1 := Nat.lt_of_lt_of_le h hb.size
  ⟨fun o => hb.cell (p := ⟨b, o, none⟩) h, fun o => hb.frozen (p := ⟨b, o, none⟩) h, h1, Nat.ne_of_lt h1, Nat.ne_of_gt h1⟩

end Go.Proofs.Ytjchindjoailbaa

/- WeightAt: the law's walk. -/
namespace Go.Proofs.Ytjchindjoailbaa
set_option linter.unusedSimpArgs false
set_option linter.unusedVariables false
open Go.RowKit

theorem ArgRow.own {w : World} {base : Nat} {e : TypeId} {size : Nat} {a : Option Addr} {n cap : Nat} {xs : List Value} (h : w.ownsRow base e size (.slice a n cap) n xs) : ArgRow w a n cap size xs := .of (own_row h)

end Go.Proofs.Ytjchindjoailbaa
