/- When a table and lists of numbers of rows are in order: the program's and the reference's tests. -/
import Derived.Test.YtdmiihljepkapaaDetS
import Derived.Test.YtdmiihljepkapaaOthers
namespace Go.Proofs.Ytdmiihljepkapaa
set_option linter.unusedSimpArgs false
set_option linter.unusedVariables false
open Go.RowKit

def RowOk (n : Nat) (r : List Int) : Prop := r.length = n ∧ ∀ x ∈ r, -1000 ≤ x ∧ x ≤ 1000
def Sq (M : List (List Int)) : Prop := M.length ≤ 5 ∧ ∀ r ∈ M, RowOk M.length r
theorem take_ok {α : Type} {P : α → Prop} {l : List α} {k : Nat} (h : ∀ x ∈ l.take k, P x) (hk : k < l.length) (hp : P l[k]) : ∀ x ∈ l.take (k + 1), P x := by
  intro x hx
  rw [List.take_succ_eq_append_getElem hk] at hx
  rcases List.mem_append.1 hx with hx | hx
  · exact h x hx
  · simp at hx; subst hx; exact hp

set_option maxRecDepth 100000 in
set_option maxHeartbeats 4000000 in
theorem implSquareOk (a : Option Addr) (n c : Nat) (M : List (List Int)) (b : Bool) (hb : b = true ↔ Sq M) (w : World) (hM : IGrid w a n c M) :
    Calls Try.prog 131 #[.slice a n c] w fun e w' => e = .returned (.bool b) ∧ w = w' := by
  have hl := hM.len
  have hn := hM.le
  unfold maxLen at hn
  have HM := Lib.hid hM
  have HL := Lib.hid hl
  have HO := Lib.hid hb
  clear hM hb hl
  by_cases h5 : 5 < n
  · have : b = false := bfalse HO.out (fun h => by have := h.1; rw [HL.out] at this; omega)
    subst this
    go_enter Try.func131, Try.ntmps131
    go_wp2_with fail
    go_ret
    exact ⟨rfl, rfl⟩
  go_enter Try.func131, Try.ntmps131
  go_wp2_with fail
  go_loopw [12] (fun v wr => ∃ k : Nat, k ≤ n ∧ v = .int .i64 k ∧ Hid (∀ r ∈ M.take k, RowOk n r) ∧ wr = w) (fun v _ => n - (intOf v).toNat)
  case atStart => exact ⟨0, by omega, rfl, by simp [Hid], rfl⟩
  case round =>
    obtain ⟨k, hk, rfl, HT, rfl⟩ := hrel
    by_cases hlt : k < n
    · obtain ⟨bm, om, rfl, _⟩ := HM.out.form (by omega)
      have hlk : k < M.length := by rw [HL.out]; exact hlt
      obtain ⟨a', c', hcell, hrow⟩ := HM.out.row k hlk
      have HMEM : Hid (M[k] ∈ M) := List.getElem_mem _
      have HST : Hid (RowOk n M[k] → ∀ r ∈ M.take (k + 1), RowOk n r) := fun h => take_ok HT.out hlk h
      have HRW : Hid (ArgRow wr a' M[k].length c' 1 (ints M[k])) := hrow
      have hrl := hrow.le
      unfold maxLen at hrl
      clear hrow
      generalize M[k] = r at hcell HRW HMEM HST hrl
      clear hlk
      by_cases hr : r.length = n
      rotate_left
      · have : b = false := bfalse HO.out (fun h => hr (by have := (h.2 r HMEM.out).1; rw [HL.out] at this; exact this))
        subst this
        have q1 : ((r.length : Int) != (n : Int)) = true := by simp; omega
        have q2 : (r.length != n) = true := by simp; omega
        generalize r.length = rl at hcell hr q1 q2 hrl
        clear hr
        go_wp2_with fail
        go_ret
        exact ⟨rfl, rfl⟩
      · rw [hr] at hcell
        have HRW2 : Hid (ArgRow wr a' n c' 1 (ints r)) := by have := HRW.out; rw [hr] at this; exact this
        have HRL := Lib.hid hr
        clear hr HRW hrl
        go_wp2_with fail
        go_loopw [23] (fun v wr2 => ∃ j : Nat, j ≤ n ∧ v = .int .i64 j ∧ Hid (∀ x ∈ r.take j, -1000 ≤ x ∧ x ≤ 1000) ∧ wr2 = wr) (fun v _ => n - (intOf v).toNat)
        case atStart => exact ⟨0, by omega, rfl, by simp [Hid], rfl⟩
        case round =>
          obtain ⟨j, hj, rfl, HX, rfl⟩ := hrel
          by_cases hlj : j < n
          · obtain ⟨br, or', rfl, _, _⟩ := HRW2.out.form (by omega)
            have hli : j < r.length := by rw [HRL.out]; exact hlj
            have p0 := int_cell HRW2.out j hli
            have HMX : Hid (r[j] ∈ r) := List.getElem_mem _
            have HSX : Hid ((-1000 ≤ r[j] ∧ r[j] ≤ 1000) → ∀ x ∈ r.take (j + 1), -1000 ≤ x ∧ x ≤ 1000) := fun h => take_ok HX.out hli h
            generalize r[j] = x at p0 HMX HSX
            clear hli
            by_cases hx : -1000 ≤ x ∧ x ≤ 1000
            · have HX2 := Lib.hid (HSX.out hx)
              have d1 : decide (x < -1000) = false := decide_eq_false (by omega)
              have d2 : decide (1000 < x) = false := decide_eq_false (by omega)
              obtain ⟨x1, x2⟩ := hx
              go_wp2_with fail
              go_roundw
              case rel => exact ⟨j + 1, by omega, by go_num, HX2.out, by trivial⟩
              case measure => simp [intOf]; omega
            · have : b = false := bfalse HO.out (fun h => hx ((h.2 r HMEM.out).2 x HMX.out))
              subst this
              by_cases x1 : x < -1000
              · go_wp2_with fail
                go_ret
                exact ⟨rfl, rfl⟩
              · have x2 : 1000 < x := by omega
                go_wp2_with fail
                go_ret
                exact ⟨rfl, rfl⟩
          · obtain rfl : j = n := by omega
            have HT2 : Hid (∀ r ∈ M.take (k + 1), RowOk j r) := HST.out ⟨HRL.out, by have := HX.out; rw [List.take_of_length_le (by rw [HRL.out]; omega)] at this; exact this⟩
            go_wp2_with fail
            go_roundw
            case rel => exact ⟨k + 1, by omega, by go_num, HT2.out, by trivial⟩
            case measure => simp [intOf]; omega
    · obtain rfl : k = n := by omega
      have : b = true := HO.out.2 ⟨by rw [HL.out]; omega, by have := HT.out; rw [List.take_of_length_le (by rw [HL.out]; omega)] at this; rw [HL.out]; exact this⟩
      subst this
      go_wp2_with fail
      go_ret
      exact ⟨rfl, rfl⟩
set_option maxRecDepth 100000 in
set_option maxHeartbeats 4000000 in
theorem specMatrix (a : Option Addr) (n c : Nat) (M : List (List Int)) (b : Bool) (hb : b = true ↔ Sq M) (w : World) (hM : IGrid w a n c M) :
    Calls Try.prog 128 #[.slice a n c] w fun e w' => e = .returned (.bool b) ∧ w = w' := by
  have hl := hM.len
  have hn := hM.le
  unfold maxLen at hn
  have HM := Lib.hid hM
  have HL := Lib.hid hl
  have HO := Lib.hid hb
  clear hM hb hl
  by_cases h5 : 5 < n
  · have : b = false := bfalse HO.out (fun h => by have := h.1; rw [HL.out] at this; omega)
    subst this
    go_enter Try.func128, Try.ntmps128
    go_wp2_with fail
    go_ret
    exact ⟨rfl, rfl⟩
  go_enter Try.func128, Try.ntmps128
  go_wp2_with fail
  go_loopw [12] (fun v wr => ∃ k : Nat, k ≤ n ∧ v = .int .i64 k ∧ Hid (∀ r ∈ M.take k, RowOk n r) ∧ wr = w) (fun v _ => n - (intOf v).toNat)
  case atStart => exact ⟨0, by omega, rfl, by simp [Hid], rfl⟩
  case round =>
    obtain ⟨k, hk, rfl, HT, rfl⟩ := hrel
    by_cases hlt : k < n
    · obtain ⟨bm, om, rfl, _⟩ := HM.out.form (by omega)
      have hlk : k < M.length := by rw [HL.out]; exact hlt
      obtain ⟨a', c', hcell, hrow⟩ := HM.out.row k hlk
      have HMEM : Hid (M[k] ∈ M) := List.getElem_mem _
      have HST : Hid (RowOk n M[k] → ∀ r ∈ M.take (k + 1), RowOk n r) := fun h => take_ok HT.out hlk h
      have HRW : Hid (ArgRow wr a' M[k].length c' 1 (ints M[k])) := hrow
      have hrl := hrow.le
      unfold maxLen at hrl
      clear hrow
      generalize M[k] = r at hcell HRW HMEM HST hrl
      clear hlk
      by_cases hr : r.length = n
      rotate_left
      · have : b = false := bfalse HO.out (fun h => hr (by have := (h.2 r HMEM.out).1; rw [HL.out] at this; exact this))
        subst this
        have q1 : ((r.length : Int) != (n : Int)) = true := by simp; omega
        have q2 : (r.length != n) = true := by simp; omega
        generalize r.length = rl at hcell hr q1 q2 hrl
        clear hr
        go_wp2_with fail
        go_ret
        exact ⟨rfl, rfl⟩
      · rw [hr] at hcell
        have HRW2 : Hid (ArgRow wr a' n c' 1 (ints r)) := by have := HRW.out; rw [hr] at this; exact this
        have HRL := Lib.hid hr
        clear hr HRW hrl
        go_wp2_with fail
        go_loopw [23] (fun v wr2 => ∃ j : Nat, j ≤ n ∧ v = .int .i64 j ∧ Hid (∀ x ∈ r.take j, -1000 ≤ x ∧ x ≤ 1000) ∧ wr2 = wr) (fun v _ => n - (intOf v).toNat)
        case atStart => exact ⟨0, by omega, rfl, by simp [Hid], rfl⟩
        case round =>
          obtain ⟨j, hj, rfl, HX, rfl⟩ := hrel
          by_cases hlj : j < n
          · obtain ⟨br, or', rfl, _, _⟩ := HRW2.out.form (by omega)
            have hli : j < r.length := by rw [HRL.out]; exact hlj
            have p0 := int_cell HRW2.out j hli
            have HMX : Hid (r[j] ∈ r) := List.getElem_mem _
            have HSX : Hid ((-1000 ≤ r[j] ∧ r[j] ≤ 1000) → ∀ x ∈ r.take (j + 1), -1000 ≤ x ∧ x ≤ 1000) := fun h => take_ok HX.out hli h
            generalize r[j] = x at p0 HMX HSX
            clear hli
            by_cases hx : -1000 ≤ x ∧ x ≤ 1000
            · have HX2 := Lib.hid (HSX.out hx)
              have KI := Lib.hid (fun (w : World) => specIn x (-1000) 1000 true ⟨fun _ => hx, fun _ => rfl⟩ w)
              clear hx
              go_wp2_with fail
              refine (KI.out _).mono ?_
              rintro e w9 ⟨rfl, rfl⟩
              go_wp2_with fail
              go_roundw
              case rel => exact ⟨j + 1, by omega, by go_num, HX2.out, by trivial⟩
              case measure => simp [intOf]; omega
            · have : b = false := bfalse HO.out (fun h => hx ((h.2 r HMEM.out).2 x HMX.out))
              subst this
              have KI := Lib.hid (fun (w : World) => specIn x (-1000) 1000 false ⟨(fun h => by cases h), fun h => absurd h hx⟩ w)
              clear hx
              go_wp2_with fail
              refine (KI.out _).mono ?_
              rintro e w9 ⟨rfl, rfl⟩
              go_wp2_with fail
              go_ret
              exact ⟨rfl, rfl⟩
          · obtain rfl : j = n := by omega
            have HT2 : Hid (∀ r ∈ M.take (k + 1), RowOk j r) := HST.out ⟨HRL.out, by have := HX.out; rw [List.take_of_length_le (by rw [HRL.out]; omega)] at this; exact this⟩
            go_wp2_with fail
            go_roundw
            case rel => exact ⟨k + 1, by omega, by go_num, HT2.out, by trivial⟩
            case measure => simp [intOf]; omega
    · obtain rfl : k = n := by omega
      have : b = true := HO.out.2 ⟨by rw [HL.out]; omega, by have := HT.out; rw [List.take_of_length_le (by rw [HL.out]; omega)] at this; rw [HL.out]; exact this⟩
      subst this
      go_wp2_with fail
      go_ret
      exact ⟨rfl, rfl⟩
/-- the numbers are indices below n, each once -/
def Idx (l : List Int) (n : Nat) : Prop := ∀ (k : Nat) (h : k < l.length), (0 ≤ l[k] ∧ l[k] < n) ∧ ¬ l[k] ∈ l.take k
def IdxTo (l : List Int) (n m : Nat) : Prop := ∀ (k : Nat) (h : k < l.length), k < m → (0 ≤ l[k] ∧ l[k] < n) ∧ ¬ l[k] ∈ l.take k
theorem IdxTo.next {l : List Int} {n m : Nat} (h : IdxTo l n m) (hm : m < l.length) (hp : (0 ≤ l[m] ∧ l[m] < n) ∧ ¬ l[m] ∈ l.take m) : IdxTo l n (m + 1) := by
  intro k hk hkm
  by_cases e : k = m
  · subst e; exact hp
  · exact h k hk (by omega)
theorem ArgRow.cut {w : World} {b o n c : Nat} {l : List Int} (h : ArgRow w (some ⟨b, o, none⟩) n c 1 (ints l)) (k : Nat) (hk : k ≤ n) : ArgRow w (some ⟨b, o, none⟩) k c 1 (ints (l.take k)) := by
  have hl := h.ints_len
  refine ⟨by rw [Proofs.Ytdmiihljepkapaa.ints_len, List.length_take]; omega, by have := h.2.1; omega, h.2.2.1, ?_⟩
  by_cases h0 : k = 0
  · exact .inl h0
  · obtain ⟨b', o', e, hb, _⟩ := h.form (by omega)
    cases e
    refine .inr ⟨b, o, rfl, hb, fun j hj => ?_⟩
    rw [Proofs.Ytdmiihljepkapaa.ints_len, List.length_take] at hj
    rw [int_cell h j (by omega), ints_at _ j (by rw [List.length_take]; omega), List.getElem_take]
set_option maxRecDepth 100000 in
set_option maxHeartbeats 4000000 in
theorem implIndices (a : Option Addr) (m c n : Nat) (l : List Int) (b : Bool) (hb : b = true ↔ Idx l n) (hn5 : n ≤ 5) (w : World) (hr : ArgRow w a m c 1 (ints l)) :
    Calls Try.prog 132 #[.slice a m c, .int .i64 n] w fun e w' => e = .returned (.bool b) ∧ w = w' := by
  have hl := hr.ints_len
  have hn := hr.le
  unfold maxLen at hn
  have HR := Lib.hid hr
  have HL := Lib.hid hl
  have HO := Lib.hid hb
  clear hr hb hl
  go_enter Try.func132, Try.ntmps132
  go_wp2_with fail
  go_loopw [9] (fun v wr => ∃ k : Nat, k ≤ m ∧ v = .int .i64 k ∧ Hid (IdxTo l n k) ∧ wr = w) (fun v _ => m - (intOf v).toNat)
  case atStart => exact ⟨0, by omega, rfl, fun k _ h => absurd h (by omega), rfl⟩
  case round =>
    obtain ⟨k, hk, rfl, HT, rfl⟩ := hrel
    by_cases hlt : k < m
    · obtain ⟨br, or', rfl, _, _⟩ := HR.out.form (by omega)
      have hli0 : k < l.length := by rw [HL.out]; exact hlt
      have p0 := int_cell HR.out k hli0
      have hcm := HR.out.2.1
      have hkc : (k : Int) ≤ (c : Int) := by omega
      have HCU := Lib.hid (HR.out.cut k (by omega))
      have HNX : Hid ((0 ≤ l[k] ∧ l[k] < n) → ¬ l[k] ∈ l.take k → IdxTo l n (k + 1)) := fun h1 h2 => HT.out.next hli0 ⟨h1, h2⟩
      have HF1 : Hid (¬ (0 ≤ l[k] ∧ l[k] < n) → b = false) := fun hx => bfalse HO.out (fun h => hx (h k hli0).1)
      have HF2 : Hid (l[k] ∈ l.take k → b = false) := fun hx => bfalse HO.out (fun h => (h k hli0).2 hx)
      generalize l[k] = x at p0 HNX HF1 HF2
      clear hli0
      by_cases hx : 0 ≤ x ∧ x < n
      · by_cases hin : x ∈ l.take k
        · have := HF2.out hin
          subst this
          have KC := Lib.hid (fun (w : World) rr => containsInt (some ⟨br, or', none⟩) k c (l.take k) x true ⟨fun _ => hin, fun _ => rfl⟩ w rr)
          clear hin
          obtain ⟨x1, x2⟩ := hx
          have d1 : decide (x < 0) = false := decide_eq_false (by omega)
          have d2 : decide ((n : Int) ≤ x) = false := decide_eq_false (by omega)
          go_wp2_with fail
          refine (KC.out _ HCU.out).mono ?_
          rintro e w8 ⟨rfl, rfl⟩
          go_wp2_with fail
          go_ret
          exact ⟨rfl, rfl⟩
        · have HN2 := Lib.hid (HNX.out hx hin)
          have KC := Lib.hid (fun (w : World) rr => containsInt (some ⟨br, or', none⟩) k c (l.take k) x false ⟨(fun h => by cases h), fun h => absurd h hin⟩ w rr)
          clear hin
          obtain ⟨x1, x2⟩ := hx
          have d1 : decide (x < 0) = false := decide_eq_false (by omega)
          have d2 : decide ((n : Int) ≤ x) = false := decide_eq_false (by omega)
          go_wp2_with fail
          refine (KC.out _ HCU.out).mono ?_
          rintro e w8 ⟨rfl, rfl⟩
          go_wp2_with fail
          go_roundw
          case rel => exact ⟨k + 1, by omega, by go_num, HN2.out, by trivial⟩
          case measure => simp [intOf]; omega
      · have := HF1.out hx
        subst this
        by_cases x1 : x < 0
        · go_wp2_with fail
          go_ret
          exact ⟨rfl, rfl⟩
        · have x2 : (n : Int) ≤ x := by omega
          go_wp2_with fail
          go_ret
          exact ⟨rfl, rfl⟩

    · obtain rfl : k = m := by omega
      have : b = true := HO.out.2 (by have := HT.out; rw [← HL.out] at this; exact fun k hk => this k hk hk)
      subst this
      go_wp2_with fail
      go_ret
      exact ⟨rfl, rfl⟩
set_option maxRecDepth 100000 in
set_option maxHeartbeats 4000000 in
theorem specList (a : Option Addr) (m c n : Nat) (l : List Int) (b : Bool) (hb : b = true ↔ (Idx l n ∧ l.length ≤ 5)) (hn5 : n ≤ 5) (w : World) (hr : ArgRow w a m c 1 (ints l)) :
    Calls Try.prog 129 #[.slice a m c, .int .i64 n] w fun e w' => e = .returned (.bool b) ∧ w = w' := by
  have hl := hr.ints_len
  have hn := hr.le
  unfold maxLen at hn
  have HR := Lib.hid hr
  have HL := Lib.hid hl
  have HO := Lib.hid hb
  clear hr hb hl
  go_enter Try.func129, Try.ntmps129
  go_wp2_with fail
  go_loopw [9] (fun v wr => ∃ k : Nat, k ≤ m ∧ v = .int .i64 k ∧ Hid (IdxTo l n k) ∧ wr = w) (fun v _ => m - (intOf v).toNat)
  case atStart => exact ⟨0, by omega, rfl, fun k _ h => absurd h (by omega), rfl⟩
  case round =>
    obtain ⟨k, hk, rfl, HT, rfl⟩ := hrel
    by_cases hlt : k < m
    · obtain ⟨br, or', rfl, _, _⟩ := HR.out.form (by omega)
      have hli0 : k < l.length := by rw [HL.out]; exact hlt
      have p0 := int_cell HR.out k hli0
      have hcm := HR.out.2.1
      have hkc : (k : Int) ≤ (c : Int) := by omega
      have HCU := Lib.hid (HR.out.cut k (by omega))
      have HNX : Hid ((0 ≤ l[k] ∧ l[k] < n) → ¬ l[k] ∈ l.take k → IdxTo l n (k + 1)) := fun h1 h2 => HT.out.next hli0 ⟨h1, h2⟩
      have HF1 : Hid (¬ (0 ≤ l[k] ∧ l[k] < n) → b = false) := fun hx => bfalse HO.out (fun h => hx (h.1 k hli0).1)
      have HF2 : Hid (l[k] ∈ l.take k → b = false) := fun hx => bfalse HO.out (fun h => (h.1 k hli0).2 hx)
      generalize l[k] = x at p0 HNX HF1 HF2
      clear hli0
      by_cases hx : 0 ≤ x ∧ x < n
      · by_cases hin : x ∈ l.take k
        · have := HF2.out hin
          subst this
          have KC := Lib.hid (fun (w : World) rr => specHas (some ⟨br, or', none⟩) k c (l.take k) x true ⟨fun _ => hin, fun _ => rfl⟩ w rr)
          clear hin
          have KI := Lib.hid (fun (w : World) => specIn x 0 ((n : Int) - 1) true ⟨fun _ => by omega, fun _ => rfl⟩ w)
          clear hx
          go_wp2_with fail
          refine (KI.out _).mono ?_
          rintro e w9 ⟨rfl, rfl⟩
          go_wp2_with fail
          refine (KC.out _ HCU.out).mono ?_
          rintro e w8 ⟨rfl, rfl⟩
          go_wp2_with fail
          go_ret
          exact ⟨rfl, rfl⟩
        · have HN2 := Lib.hid (HNX.out hx hin)
          have KC := Lib.hid (fun (w : World) rr => specHas (some ⟨br, or', none⟩) k c (l.take k) x false ⟨(fun h => by cases h), fun h => absurd h hin⟩ w rr)
          clear hin
          have KI := Lib.hid (fun (w : World) => specIn x 0 ((n : Int) - 1) true ⟨fun _ => by omega, fun _ => rfl⟩ w)
          clear hx
          go_wp2_with fail
          refine (KI.out _).mono ?_
          rintro e w9 ⟨rfl, rfl⟩
          go_wp2_with fail
          refine (KC.out _ HCU.out).mono ?_
          rintro e w8 ⟨rfl, rfl⟩
          go_wp2_with fail
          go_roundw
          case rel => exact ⟨k + 1, by omega, by go_num, HN2.out, by trivial⟩
          case measure => simp [intOf]; omega
      · have := HF1.out hx
        subst this
        have KI := Lib.hid (fun (w : World) => specIn x 0 ((n : Int) - 1) false ⟨(fun h => by cases h), fun h => absurd h (by omega)⟩ w)
        clear hx
        go_wp2_with fail
        refine (KI.out _).mono ?_
        rintro e w9 ⟨rfl, rfl⟩
        go_wp2_with fail
        go_ret
        exact ⟨rfl, rfl⟩

    · obtain rfl : k = m := by omega
      have HV : Hid (b = decide (k ≤ 5)) := by
        have hi : Idx l n := by have := HT.out; rw [← HL.out] at this; exact fun k hk => this k hk hk
        show _ = _
        by_cases h5 : k ≤ 5
        · rw [decide_eq_true h5]; exact HO.out.2 ⟨hi, by rw [HL.out]; exact h5⟩
        · rw [decide_eq_false h5]; exact bfalse HO.out (fun h => h5 (by have := h.2; rw [HL.out] at this; exact this))
      go_wp2_with fail
      go_ret
      refine ⟨?_, rfl⟩
      rw [HV.out]
      first
        | rfl
        | (show Ending.returned (.bool (decide ((k : Int) ≤ 5))) = _; congr 2; exact decide_eq_decide.2 (by omega))
end Go.Proofs.Ytdmiihljepkapaa
