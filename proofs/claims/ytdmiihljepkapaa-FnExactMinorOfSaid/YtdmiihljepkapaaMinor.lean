/- MinorOf of the program and of the reference. -/
import Derived.Test.YtdmiihljepkapaaSquare
namespace Go.Proofs.Ytdmiihljepkapaa
set_option linter.unusedSimpArgs false
set_option linter.unusedVariables false
open Go.RowKit

/-- a minor can be taken -/
def MinOk (M : List (List Int)) (rows cols : List Int) (n nr nc : Nat) : Prop := nr = nc ∧ nr ≤ 5 ∧ Sq M ∧ Idx rows n ∧ Idx cols n
theorem Idx.all {l : List Int} {n : Nat} (h : Idx l n) : ∀ x ∈ l, 0 ≤ x ∧ x < n := by
  intro x hx
  obtain ⟨k, hk, rfl⟩ := List.getElem_of_mem hx
  exact (h k hk).1
set_option maxRecDepth 100000 in
set_option maxHeartbeats 4000000 in
theorem implMinorOf (am ar ac : Option Addr) (n cm nr cr nc cc : Nat) (M : List (List Int)) (rows cols : List Int) (hg : MinOk M rows cols n nr nc) (w : World) (hM : IGrid w am n cm M) (h1 : ArgRow w ar nr cr 1 (ints rows)) (h2 : ArgRow w ac nc cc 1 (ints cols)) :
    Calls Try.prog 59 #[.slice am n cm, .slice ar nr cr, .slice ac nc cc] w fun e w' => e = .returned (.tuple #[.int .i64 (detW (ent M) rows cols), .bool true]) ∧ Below w.heap.size w w' := by
  have hl1 := h1.ints_len
  have hl2 := h2.ints_len
  have hlm := hM.len
  have hmx1 := h1.le
  have hmx2 := h2.le
  unfold maxLen at hmx1 hmx2
  have HM := Lib.hid hM
  have H1 := Lib.hid h1
  have H2 := Lib.hid h2
  obtain ⟨rfl, g2, g3, g4, g5⟩ := hg
  have hn5 : n ≤ 5 := by have := g3.1; omega
  have KS := Lib.hid (fun (w : World) rr => implSquareOk am n cm M true ⟨fun _ => g3, fun _ => rfl⟩ w rr)
  have KR := Lib.hid (fun (w : World) rr => implIndices ar nr cr n rows true ⟨fun _ => g4, fun _ => rfl⟩ (by omega) w rr)
  have KC := Lib.hid (fun (w : World) rr => implIndices ac nr cc n cols true ⟨fun _ => g5, fun _ => rfl⟩ (by omega) w rr)
  have KD := Lib.hid (fun (w : World) r0 r1 r2 => implDet n M hn5 (fun r hr => by have := (g3.2 r hr).1; omega) rows cols am ar ac cm nr cr nr cc w r0 r1 r2 rfl g2 g4.all g5.all)
  clear hM h1 h2 g3 g4 g5
  go_enter Try.func59, Try.ntmps59
  go_wp2_with fail
  refine (KS.out _ HM.out).mono ?_
  rintro e w9 ⟨rfl, rfl⟩
  go_wp2_with fail
  refine (KR.out _ H1.out).mono ?_
  rintro e w9 ⟨rfl, rfl⟩
  go_wp2_with fail
  refine (KC.out _ H2.out).mono ?_
  rintro e w9 ⟨rfl, rfl⟩
  go_wp2_with fail
  refine (KD.out _ HM.out H1.out H2.out).mono ?_
  rintro e w8 ⟨rfl, hb8⟩
  go_wp2_with fail
  go_returns
  exact ⟨rfl, hb8⟩
set_option maxRecDepth 100000 in
set_option maxHeartbeats 4000000 in
theorem implMinorOf0 (am ar ac : Option Addr) (n cm nr cr nc cc : Nat) (M : List (List Int)) (rows cols : List Int) (hg : ¬ MinOk M rows cols n nr nc) (w : World) (hM : IGrid w am n cm M) (h1 : ArgRow w ar nr cr 1 (ints rows)) (h2 : ArgRow w ac nc cc 1 (ints cols)) :
    Calls Try.prog 59 #[.slice am n cm, .slice ar nr cr, .slice ac nc cc] w fun e w' => e = .returned (.tuple #[.int .i64 0, .bool false]) ∧ Below w.heap.size w w' := by
  have hl1 := h1.ints_len
  have hl2 := h2.ints_len
  have hlm := hM.len
  have hmx1 := h1.le
  have hmx2 := h2.le
  unfold maxLen at hmx1 hmx2
  have HM := Lib.hid hM
  have H1 := Lib.hid h1
  have H2 := Lib.hid h2
  by_cases e1 : nr = nc
  rotate_left
  · have q1 : ((nr : Int) != (nc : Int)) = true := by simp; omega
    have q2 : (nr != nc) = true := by simp; omega
    clear hg
    go_enter Try.func59, Try.ntmps59
    go_wp2_with fail
    go_returns
    exact ⟨rfl, Below.refl _ _⟩
  obtain rfl : nr = nc := e1
  by_cases e2 : nr ≤ 5
  rotate_left
  · clear hg
    go_enter Try.func59, Try.ntmps59
    go_wp2_with fail
    go_returns
    exact ⟨rfl, Below.refl _ _⟩
  by_cases e3 : Sq M
  rotate_left
  · have KS := Lib.hid (fun (w : World) rr => implSquareOk am n cm M false ⟨(fun h => by cases h), fun h => absurd h e3⟩ w rr)
    clear hg hM h1 h2 e3
    go_enter Try.func59, Try.ntmps59
    go_wp2_with fail
    refine (KS.out _ HM.out).mono ?_
    rintro e w9 ⟨rfl, rfl⟩
    go_wp2_with fail
    go_returns
    exact ⟨rfl, Below.refl _ _⟩
  have hn5 : n ≤ 5 := by have := e3.1; omega
  by_cases e4 : Idx rows n
  rotate_left
  · have KS := Lib.hid (fun (w : World) rr => implSquareOk am n cm M true ⟨fun _ => e3, fun _ => rfl⟩ w rr)
    have KR := Lib.hid (fun (w : World) rr => implIndices ar nr cr n rows false ⟨(fun h => by cases h), fun h => absurd h e4⟩ (by omega) w rr)
    clear hg hM h1 h2 e3 e4
    go_enter Try.func59, Try.ntmps59
    go_wp2_with fail
    refine (KS.out _ HM.out).mono ?_
    rintro e w9 ⟨rfl, rfl⟩
    go_wp2_with fail
    refine (KR.out _ H1.out).mono ?_
    rintro e w9 ⟨rfl, rfl⟩
    go_wp2_with fail
    go_returns
    exact ⟨rfl, Below.refl _ _⟩
  have e5 : ¬ Idx cols n := fun h => hg ⟨rfl, e2, e3, e4, h⟩
  have KS := Lib.hid (fun (w : World) rr => implSquareOk am n cm M true ⟨fun _ => e3, fun _ => rfl⟩ w rr)
  have KR := Lib.hid (fun (w : World) rr => implIndices ar nr cr n rows true ⟨fun _ => e4, fun _ => rfl⟩ (by omega) w rr)
  have KC := Lib.hid (fun (w : World) rr => implIndices ac nr cc n cols false ⟨(fun h => by cases h), fun h => absurd h e5⟩ (by omega) w rr)
  clear hg hM h1 h2 e3 e4 e5
  go_enter Try.func59, Try.ntmps59
  go_wp2_with fail
  refine (KS.out _ HM.out).mono ?_
  rintro e w9 ⟨rfl, rfl⟩
  go_wp2_with fail
  refine (KR.out _ H1.out).mono ?_
  rintro e w9 ⟨rfl, rfl⟩
  go_wp2_with fail
  refine (KC.out _ H2.out).mono ?_
  rintro e w9 ⟨rfl, rfl⟩
  go_wp2_with fail
  go_returns
  exact ⟨rfl, Below.refl _ _⟩
set_option maxRecDepth 100000 in
set_option maxHeartbeats 4000000 in
theorem specMinorOf (am ar ac : Option Addr) (n cm nr cr nc cc : Nat) (M : List (List Int)) (rows cols : List Int) (hg : MinOk M rows cols n nr nc) (w : World) (hM : IGrid w am n cm M) (h1 : ArgRow w ar nr cr 1 (ints rows)) (h2 : ArgRow w ac nc cc 1 (ints cols)) :
    Calls Try.prog 56 #[.slice am n cm, .slice ar nr cr, .slice ac nc cc] w fun e w' => e = .returned (.tuple #[.int .i64 (detW (ent M) rows cols), .bool true]) ∧ Below w.heap.size w w' := by
  have hl1 := h1.ints_len
  have hl2 := h2.ints_len
  have hlm := hM.len
  have hmx1 := h1.le
  have hmx2 := h2.le
  unfold maxLen at hmx1 hmx2
  have HM := Lib.hid hM
  have H1 := Lib.hid h1
  have H2 := Lib.hid h2
  obtain ⟨rfl, g2, g3, g4, g5⟩ := hg
  have hn5 : n ≤ 5 := by have := g3.1; omega
  have KS := Lib.hid (fun (w : World) rr => specMatrix am n cm M true ⟨fun _ => g3, fun _ => rfl⟩ w rr)
  have KR := Lib.hid (fun (w : World) rr => specList ar nr cr n rows true ⟨fun _ => ⟨g4, by omega⟩, fun _ => rfl⟩ (by omega) w rr)
  have KC := Lib.hid (fun (w : World) rr => specList ac nr cc n cols true ⟨fun _ => ⟨g5, by omega⟩, fun _ => rfl⟩ (by omega) w rr)
  have KD := Lib.hid (fun (w : World) r0 r1 r2 => specDet n M hn5 (fun r hr => by have := (g3.2 r hr).1; omega) rows cols am ar ac cm nr cr nr cc w r0 r1 r2 rfl g2 g4.all g5.all)
  clear hM h1 h2 g3 g4 g5
  go_enter Try.func56, Try.ntmps56
  go_wp2_with fail
  refine (KS.out _ HM.out).mono ?_
  rintro e w9 ⟨rfl, rfl⟩
  go_wp2_with fail
  refine (KR.out _ H1.out).mono ?_
  rintro e w9 ⟨rfl, rfl⟩
  go_wp2_with fail
  refine (KC.out _ H2.out).mono ?_
  rintro e w9 ⟨rfl, rfl⟩
  go_wp2_with fail
  refine (KD.out _ HM.out H1.out H2.out).mono ?_
  rintro e w8 ⟨rfl, hb8⟩
  go_wp2_with fail
  go_returns
  exact ⟨rfl, hb8⟩
set_option maxRecDepth 100000 in
set_option maxHeartbeats 4000000 in
theorem specMinorOf0 (am ar ac : Option Addr) (n cm nr cr nc cc : Nat) (M : List (List Int)) (rows cols : List Int) (hg : ¬ MinOk M rows cols n nr nc) (w : World) (hM : IGrid w am n cm M) (h1 : ArgRow w ar nr cr 1 (ints rows)) (h2 : ArgRow w ac nc cc 1 (ints cols)) :
    Calls Try.prog 56 #[.slice am n cm, .slice ar nr cr, .slice ac nc cc] w fun e w' => e = .returned (.tuple #[.int .i64 0, .bool false]) ∧ Below w.heap.size w w' := by
  have hl1 := h1.ints_len
  have hl2 := h2.ints_len
  have hlm := hM.len
  have hmx1 := h1.le
  have hmx2 := h2.le
  unfold maxLen at hmx1 hmx2
  have HM := Lib.hid hM
  have H1 := Lib.hid h1
  have H2 := Lib.hid h2
  by_cases e3 : Sq M
  rotate_left
  · have KS := Lib.hid (fun (w : World) rr => specMatrix am n cm M false ⟨(fun h => by cases h), fun h => absurd h e3⟩ w rr)
    clear hg hM h1 h2 e3
    go_enter Try.func56, Try.ntmps56
    go_wp2_with fail
    refine (KS.out _ HM.out).mono ?_
    rintro e w9 ⟨rfl, rfl⟩
    go_wp2_with fail
    go_returns
    exact ⟨rfl, Below.refl _ _⟩
  have hn5 : n ≤ 5 := by have := e3.1; omega
  by_cases e1 : nr = nc
  rotate_left
  · have KS := Lib.hid (fun (w : World) rr => specMatrix am n cm M true ⟨fun _ => e3, fun _ => rfl⟩ w rr)
    have q1 : ((nr : Int) != (nc : Int)) = true := by simp; omega
    have q2 : (nr != nc) = true := by simp; omega
    clear hg hM h1 h2 e3
    go_enter Try.func56, Try.ntmps56
    go_wp2_with fail
    refine (KS.out _ HM.out).mono ?_
    rintro e w9 ⟨rfl, rfl⟩
    go_wp2_with fail
    go_returns
    exact ⟨rfl, Below.refl _ _⟩
  obtain rfl : nr = nc := e1
  by_cases e4 : Idx rows n ∧ rows.length ≤ 5
  rotate_left
  · have KS := Lib.hid (fun (w : World) rr => specMatrix am n cm M true ⟨fun _ => e3, fun _ => rfl⟩ w rr)
    have KR := Lib.hid (fun (w : World) rr => specList ar nr cr n rows false ⟨(fun h => by cases h), fun h => absurd h e4⟩ (by omega) w rr)
    clear hg hM h1 h2 e3 e4
    go_enter Try.func56, Try.ntmps56
    go_wp2_with fail
    refine (KS.out _ HM.out).mono ?_
    rintro e w9 ⟨rfl, rfl⟩
    go_wp2_with fail
    refine (KR.out _ H1.out).mono ?_
    rintro e w9 ⟨rfl, rfl⟩
    go_wp2_with fail
    go_returns
    exact ⟨rfl, Below.refl _ _⟩
  have e5 : ¬ (Idx cols n ∧ cols.length ≤ 5) := fun h => hg ⟨rfl, by omega, e3, e4.1, h.1⟩
  have KS := Lib.hid (fun (w : World) rr => specMatrix am n cm M true ⟨fun _ => e3, fun _ => rfl⟩ w rr)
  have KR := Lib.hid (fun (w : World) rr => specList ar nr cr n rows true ⟨fun _ => e4, fun _ => rfl⟩ (by omega) w rr)
  have KC := Lib.hid (fun (w : World) rr => specList ac nr cc n cols false ⟨(fun h => by cases h), fun h => absurd h e5⟩ (by omega) w rr)
  clear hg hM h1 h2 e3 e4 e5
  go_enter Try.func56, Try.ntmps56
  go_wp2_with fail
  refine (KS.out _ HM.out).mono ?_
  rintro e w9 ⟨rfl, rfl⟩
  go_wp2_with fail
  refine (KR.out _ H1.out).mono ?_
  rintro e w9 ⟨rfl, rfl⟩
  go_wp2_with fail
  refine (KC.out _ H2.out).mono ?_
  rintro e w9 ⟨rfl, rfl⟩
  go_wp2_with fail
  go_returns
  exact ⟨rfl, Below.refl _ _⟩
end Go.Proofs.Ytdmiihljepkapaa
