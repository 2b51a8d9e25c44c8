/- The arguments of the laws, opened. -/
import Derived.Test.YtjchindjoailbaaArg
import Derived.Lib.SmallJoins
import Derived.Deep.Strs
namespace Go.Proofs.Ytjchindjoailbaa
set_option linter.unusedSimpArgs false
set_option linter.unusedVariables false
open Go.RowKit Go.ChangeShapes Go.WideShapes Go.ChangeAt

section
variable {H : Type} {enc : TypeId × Value → H} {w : World} {base : Nat} {spare : Nat → Bool} {held : Bool}

theorem one_int : Try.prog.cellsOf 3 = 1 := by kernel_rfl
def ints (l : List Int) : List Value := l.flatMap fun z => [.int .i64 z]
theorem ints_len (l : List Int) : (ints l).length = l.length := by rw [ints, flat_len _ 1 (fun _ => rfl)]; omega
theorem ints_at (l : List Int) (j : Nat) (h : j < l.length) : (ints l)[j]'(by rw [ints_len]; exact h) = .int .i64 l[j] := by
  have : ints l = l.map (Value.int .i64) := by
    clear h
    unfold ints
    induction l with
    | nil => rfl
    | cons a l ih => rw [List.flatMap_cons, ih]; rfl
  simp [this]
theorem dec_int (n : Nat) (cs : List Value) (y : DataW H × List MemPlace) (h : DataW.trod enc Try.prog w base spare held n 3 cs = some y) : ∃ z : Int, cs = [.int .i64 z] ∧ (Lit.int .i64 z).wf = true := by
  obtain ⟨z, h1, _, h2⟩ := DataW.trod_int Try.underlying3 h
  exact ⟨z, h1, h2⟩

abbrev Wz := Int × Int × Int
def wireV (x : Wz) : List Value := [.int .i64 x.1, .int .i64 x.2.1, .int .i64 x.2.2]
def wires (l : List Wz) : List Value := l.flatMap wireV
theorem wires_len (l : List Wz) : (wires l).length = l.length * 3 := flat_len wireV 3 (fun _ => rfl) l
def wfW (x : Wz) : Prop := (Lit.int .i64 x.1).wf = true ∧ (Lit.int .i64 x.2.1).wf = true ∧ (Lit.int .i64 x.2.2).wf = true
theorem list3 (cs : List Value) (h : cs.length = 3) : ∃ a b c, cs = [a, b, c] := by
  match cs, h with
  | [a, b, c], _ => exact ⟨a, b, c, rfl⟩
set_option maxRecDepth 100000 in
theorem dec_wire (n : Nat) (cs : List Value) (y : DataW H × List MemPlace) (h : DataW.trod enc Try.prog w base spare held n 145 cs = some y) : ∃ z : Wz, cs = wireV z ∧ wfW z := by
  obtain ⟨y0, y1, y2, m, _, hl, h0, h1, h2⟩ := Go.Deep.trod_struct3 Try.underlying145 h
  have hl : cs.length = 3 := hl.trans (by kernel_rfl)
  obtain ⟨a, b, c, rfl⟩ := list3 cs hl
  obtain ⟨z0, e0, _, w0⟩ := DataW.trod_int Try.underlying3 h0
  obtain ⟨z1, e1, _, w1⟩ := DataW.trod_int Try.underlying3 h1
  obtain ⟨z2, e2, _, w2⟩ := DataW.trod_int Try.underlying3 h2
  simp [one_int] at e0 e1 e2
  exact ⟨(z0, z1, z2), by simp [wireV, e0, e1, e2], w0, w1, w2⟩
/-- a caller's network: its numbers, its wires -/
structure NetArg (w : World) (N E S : Int) (a : Option Addr) (n c : Nat) (l : List Wz) : Prop where
  wN : (Lit.int .i64 N).wf = true
  wE : (Lit.int .i64 E).wf = true
  wS : (Lit.int .i64 S).wf = true
  len : l.length = n
  row : ArgRow w a n c 3 (wires l)
  wl : ∀ x ∈ l, wfW x
set_option maxRecDepth 100000 in
theorem open_net {r : Reach} {b0 : Nat} {v : Value} {d : DataW H} {p : List MemPlace} (hv : Value.okWide Try.prog w r b0 60 v) (h : DataW.Trod enc Try.prog w base spare held 60 v d p) :
    ∃ (N E S : Int) (a : Option Addr) (n c : Nat) (l : List Wz), v = .agg #[.int .i64 N, .int .i64 E, .int .i64 S, .slice a n c] ∧ NetArg w N E S a n c l := by
  obtain ⟨v0, v1, v2, v3, y0, y1, y2, y3, m, rfl, _, _, h0, h1, h2, h3⟩ := Joins.open_agg4 Try.underlying60 (by kernel_rfl) (by kernel_rfl) hv h
  obtain ⟨z0, e0, _, w0⟩ := DataW.trod_int Try.underlying3 h0
  obtain ⟨z1, e1, _, w1⟩ := DataW.trod_int Try.underlying3 h1
  obtain ⟨z2, e2, _, w2⟩ := DataW.trod_int Try.underlying3 h2
  obtain ⟨a, n, c, l, e, hl, hr, hp⟩ := open_rows Try.underlying58 (by kernel_rfl : Try.prog.cellsOf _ = 3) (by omega) wireV wfW (fun _ => rfl) dec_wire h3
  simp at e0 e1 e2 e
  subst e0 e1 e2 e
  exact ⟨_, _, _, a, n, c, l, rfl, w0, w1, w2, hl, hr, hp⟩
end
end Go.Proofs.Ytjchindjoailbaa
