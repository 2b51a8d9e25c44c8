/- SplitLines of the program and of the reference gives the same lines. -/
import Derived.Test.YticfjfdfgcfnnaaSplit
namespace Go.Proofs.Yticfjfdfgcfnnaa
open Go.RowKit

def nl : ByteArray := bs [10]
/-- the lines: what SplitAny gives, without a last part that is empty -/
def lines (s : ByteArray) : List ByteArray := if s.size ≤ (parts s nl s.size).2 then (parts s nl s.size).1 else splitL s nl

theorem lines_drop (s : ByteArray) (h : (parts s nl s.size).2 = s.size) : lines s = (parts s nl s.size).1 := by unfold lines; rw [if_pos (by omega)]
theorem lines_keep (s : ByteArray) (h : (parts s nl s.size).2 < s.size) : lines s = splitL s nl := by unfold lines; rw [if_neg (by omega)]

/-- an owned row, cut -/
theorem own_take {w : World} {base : Nat} {e : TypeId} {a : Option Addr} {n c : Nat} {xs ys : List Value} (h : w.ownsRow base e 1 (.slice a (n + 1) c) (n + 1) (xs ++ ys)) (hx : xs.length = n) :
    w.ownsRow base e 1 (.slice a n c) n xs := by
  obtain ⟨h1, h2⟩ := h
  rcases h2 with ⟨h2, h3⟩ | ⟨g, c', cur, h2, h3, h4, h5, h6, h7, h8⟩
  · omega
  · cases h2
    refine ⟨by omega, .inr ⟨g, c, cur, rfl, h3, h4, by omega, h6, h7, ?_⟩⟩
    have := congrArg (List.take n) h8
    rw [List.take_take] at this
    rw [Nat.mul_one] at this ⊢
    rw [show min n (n + 1) = n from by omega] at this
    rw [this]; simp [hx]

set_option maxHeartbeats 1000000 in
theorem implSplitLines (s : ByteArray) (w : World) (hs : s.size ≤ 1048576) :
    Calls Try.prog 48 #[.string s] w fun e w' => ∃ a c, e = .returned (.slice a (lines s).length c) ∧ w'.ownsRow w.heap.size 9 1 (.slice a (lines s).length c) (lines s).length (strs (lines s)) ∧ Below w.heap.size w w' := by
  have hp := parts_le s nl s.size
  obtain ⟨l, f, hE⟩ : ∃ l f, parts s nl s.size = (l, f) := ⟨_, _, rfl⟩
  have hS := split_eq s nl hE
  have C := fun w => implSplitAny s nl w hs
  rw [hE] at hp
  simp only [hS] at C
  have K := Lib.hid C
  have hlen : l.length ≤ s.size := hp.1
  by_cases hf : f = s.size
  · have HL : Hid (lines s = l) := by have := lines_drop s (by rw [hE]; exact hf); rw [hE] at this; exact this
    subst hf
    clear C hS hE hp
    go_enter Try.func48, Try.ntmps48
    go_wp2_with fail
    refine (K.out _).mono ?_
    rintro e w1 ⟨a1, c1, rfl, o1, b1⟩
    have O1 := Lib.hid o1
    obtain ⟨b, o, rfl⟩ := (own_row o1).form (by simp)
    have hc := row_str (own_row o1) l.length (by simp)
    have hcap := (own_row o1).2.1
    have hcap2 := (own_row o1).2.2.1
    unfold maxLen at hcap2
    simp at hc hcap
    clear o1
    go_wp2_with fail
    go_ret
    rw [HL.out]
    refine ⟨_, _, rfl, ?_, b1⟩
    have := O1.out
    rw [strs_snoc] at this
    exact own_take (by simpa using this) (by simp [strs])
  · have hlt : f < s.size := by have := hp.2; simp at this; omega
    have HL : Hid (lines s = l ++ [s.extract f s.size]) := by rw [← hS]; exact lines_keep s (by rw [hE]; exact hlt)
    have hne : (s.extract f s.size).toList.isEmpty = false := by
      rw [ByteArray.toList_eq]
      have : (s.extract f s.size).data.toList.length = s.size - f := by simp
      cases hd : (s.extract f s.size).data.toList with
      | nil => rw [hd] at this; simp at this; omega
      | cons _ _ => rfl
    have hne2 : ((s.extract f s.size).toList == []) = false := by
      cases hd : (s.extract f s.size).toList with
      | nil => rw [hd] at hne; cases hne
      | cons _ _ => rfl
    clear C hS hE hp hf
    go_enter Try.func48, Try.ntmps48
    go_wp2_with fail
    refine (K.out _).mono ?_
    rintro e w1 ⟨a1, c1, rfl, o1, b1⟩
    have O1 := Lib.hid o1
    obtain ⟨b, o, rfl⟩ := (own_row o1).form (by simp)
    have hc := row_str (own_row o1) l.length (by simp)
    have hcap := (own_row o1).2.1
    have hcap2 := (own_row o1).2.2.1
    unfold maxLen at hcap2
    simp at hc hcap
    clear o1
    generalize s.extract f s.size = q at *
    go_wp2_with fail
    go_ret
    rw [HL.out]
    exact ⟨some ⟨b, o, none⟩, c1, ret_val (by simp), O1.out, b1⟩

set_option maxHeartbeats 1000000 in
theorem specSplitLines (s : ByteArray) (w : World) (hs : s.size ≤ 1048576) :
    Calls Try.prog 47 #[.string s] w fun e w' => ∃ a c, e = .returned (.slice a (lines s).length c) ∧ w'.ownsRow w.heap.size 9 1 (.slice a (lines s).length c) (lines s).length (strs (lines s)) ∧ Below w.heap.size w w' := by
  have hp := parts_le s nl s.size
  obtain ⟨l, f, hE⟩ : ∃ l f, parts s nl s.size = (l, f) := ⟨_, _, rfl⟩
  have hS := split_eq s nl hE
  have C := fun w => specSplitAny s nl w hs (by unfold maxLen; decide)
  rw [hE] at hp
  simp only [hS] at C
  have K := Lib.hid C
  have hlen : l.length ≤ s.size := hp.1
  by_cases hf : f = s.size
  · have HL : Hid (lines s = l) := by have := lines_drop s (by rw [hE]; exact hf); rw [hE] at this; exact this
    subst hf
    clear C hS hE hp
    go_enter Try.func47, Try.ntmps47
    go_wp2_with fail
    refine (K.out _).mono ?_
    rintro e w1 ⟨a1, c1, rfl, o1, b1⟩
    have O1 := Lib.hid o1
    obtain ⟨b, o, rfl⟩ := (own_row o1).form (by simp)
    have hc := row_str (own_row o1) l.length (by simp)
    have hcap := (own_row o1).2.1
    have hcap2 := (own_row o1).2.2.1
    unfold maxLen at hcap2
    simp at hc hcap
    clear o1
    go_wp2_with fail
    go_ret
    rw [HL.out]
    refine ⟨_, _, rfl, ?_, b1⟩
    have := O1.out
    rw [strs_snoc] at this
    exact own_take (by simpa using this) (by simp [strs])
  · have hlt : f < s.size := by have := hp.2; simp at this; omega
    have HL : Hid (lines s = l ++ [s.extract f s.size]) := by rw [← hS]; exact lines_keep s (by rw [hE]; exact hlt)
    have hne : (s.extract f s.size).toList.isEmpty = false := by
      rw [ByteArray.toList_eq]
      have : (s.extract f s.size).data.toList.length = s.size - f := by simp
      cases hd : (s.extract f s.size).data.toList with
      | nil => rw [hd] at this; simp at this; omega
      | cons _ _ => rfl
    have hne2 : ((s.extract f s.size).toList == []) = false := by
      cases hd : (s.extract f s.size).toList with
      | nil => rw [hd] at hne; cases hne
      | cons _ _ => rfl
    clear C hS hE hp hf
    go_enter Try.func47, Try.ntmps47
    go_wp2_with fail
    refine (K.out _).mono ?_
    rintro e w1 ⟨a1, c1, rfl, o1, b1⟩
    have O1 := Lib.hid o1
    obtain ⟨b, o, rfl⟩ := (own_row o1).form (by simp)
    have hc := row_str (own_row o1) l.length (by simp)
    have hcap := (own_row o1).2.1
    have hcap2 := (own_row o1).2.2.1
    unfold maxLen at hcap2
    simp at hc hcap
    clear o1
    generalize s.extract f s.size = q at *
    go_wp2_with fail
    go_ret
    rw [HL.out]
    exact ⟨some ⟨b, o, none⟩, c1, ret_val (by simp), O1.out, b1⟩

set_option maxHeartbeats 1000000 in
theorem walk_FnExactSplitLines (s : ByteArray) (w : World) (hs : s.size ≤ maxLen) :
    Calls Try.prog 12 #[.string s] w fun e w' => e = .returned (.bool true) ∧ Below w.heap.size w w' := by
  have hs' : s.size ≤ 9223372036854775807 := by unfold maxLen at hs; omega
  by_cases hb : 1048576 < s.size
  · go_enter Try.func12, Try.ntmps12
    go_wp2_with fail
    go_ret
    exact ⟨rfl, Below.refl _ _⟩
  have hl : (lines s).length ≤ 1048577 := by
    have := (parts_le s nl s.size).1
    unfold lines splitL; split <;> simp <;> omega
  obtain ⟨l, hE⟩ : ∃ l, lines s = l := ⟨_, rfl⟩
  have C1 := fun w => specSplitLines s w (by omega)
  have C2 := fun w => implSplitLines s w (by omega)
  rw [hE] at hl
  simp only [hE] at C1 C2
  have K1 := Lib.hid C1
  have K2 := Lib.hid C2
  clear C1 C2 hE
  go_enter Try.func12, Try.ntmps12
  go_wp2_with fail
  refine (K1.out _).mono ?_
  rintro e w1 ⟨a1, c1, rfl, o1, b1⟩
  have O1 := Lib.hid o1
  have B1 := Lib.hid b1
  clear o1 b1
  go_wp2_with fail
  refine (K2.out _).mono ?_
  rintro e w2 ⟨a2, c2, rfl, o2, b2⟩
  have O2 := Lib.hid o2
  have B2 := Lib.hid (bstep B1.out b2)
  have R1 := Lib.hid ((own_row O1.out).below b2)
  have Q1 : Hid (∀ ad, a1 = some ad → ad.block < w1.heap.size) := fun ad h => (own_base O1.out ad h).2
  have Z2 : Hid (w1.heap.size ≤ w2.heap.size) := b2.size
  clear o2 b2
  go_wp2_with fail
  refine (eqStrs a2 a1 _ _ _ _ l _ (own_row O2.out) R1.out).mono ?_
  rintro e w3 ⟨rfl, n3, rfl⟩
  go_wp2_with fail
  refine (markStrs w1.heap.size a2 _ _ _ 1 _ (own_drewN O2.out) Z2.out (by omega) (by omega)).mono ?_
  rintro e w4 ⟨rfl, o4, b4⟩
  have O4 := Lib.hid o4
  have B4 : Hid (Below w1.heap.size w2 w4) := (below_drewN (Below.refl _ _) _).trans b4
  clear o4 b4
  go_wp2_with fail
  refine (heldStrs a2 _ _ 1 _ (own_row O4.out) (by omega) (by omega)).mono ?_
  rintro e w5 ⟨rfl, b5⟩
  have B5 := Lib.hid b5
  clear b5
  go_wp2_with fail
  refine (K2.out _).mono ?_
  rintro e w6 ⟨a6, c6, rfl, o6, b6⟩
  have O6 := Lib.hid o6
  have B6 := Lib.hid b6
  clear o6 b6
  go_wp2_with fail
  have R6 : Hid (Row w6 a1 l.length c1 1 (strs l)) := (((R1.out.under B4.out Q1.out).below B5.out).below B6.out)
  refine (eqStrs a6 a1 _ _ _ _ l _ (own_row O6.out) R6.out).mono ?_
  rintro e w7 ⟨rfl, n7, rfl⟩
  go_wp2_with fail
  refine (heldStrs a2 _ _ 1 _ ((((own_row O4.out).below B5.out).below B6.out).below (below_drewN (Below.refl _ _) _)) (by omega) (by omega)).mono ?_
  rintro e w8 ⟨rfl, b8⟩
  go_wp2_with fail
  go_ret
  refine ⟨rfl, ?_⟩
  have g4 : Below w.heap.size w w4 := B2.out.trans (B4.out.mono B1.out.size)
  exact bstep (below_drewN (bstep (bstep g4 B5.out) B6.out) _) b8

end Go.Proofs.Yticfjfdfgcfnnaa
