/- SplitLines of the program and of the reference gives the same lines. -/
import Derived.Test.YtjchindjoailbaaSplit
namespace Go.Proofs.Ytjchindjoailbaa
set_option linter.unusedSimpArgs false
set_option linter.unusedVariables false
open Go.RowKit

def nl : ByteArray := bs [10]
/-- the lines: what SplitAny gives, without a last part that is empty -/
def lines (s : ByteArray) : List ByteArray := if s.size ≤ (parts s nl s.size).2 then (parts s nl s.size).1 else splitL s nl

theorem lines_drop (s : ByteArray) (h : (parts s nl s.size).2 = s.size) : lines s = (parts s nl s.size).1 := by unfold lines; rw [if_pos (by omega)]
theorem lines_keep (s : ByteArray) (h : (parts s nl s.size).2 < s.size) : lines s = splitL s nl := by unfold lines; rw [if_neg (by omega)]

/-- an owned row, cut -/
theorem own_take {w : World} {base : Nat} {e : TypeId} {a : Option Addr} {n c : Nat} {xs ys : List Value} (h : w.ownsRow base e 1 (.slice a (n + 1) c) (n + 1) (xs ++ ys)) (hx : xs.length = n) :
    w.ownsRow base e 1 (.slice a n c) n xs := by
  obtain ⟨h1, h2⟩ := h
  rcases h2 with ⟨h2, h3⟩ | ⟨g, c', cur, h2, h3, h4, h5, h6, h7, h8⟩
  · omega
  · cases h2
    refine ⟨by omega, .inr ⟨g, c, cur, rfl, h3, h4, by omega, h6, h7, ?_⟩⟩
    have := congrArg (List.take n) h8
    rw [List.take_take] at this
    rw [Nat.mul_one] at this ⊢
    rw [show min n (n + 1) = n from by omega] at this
    rw [this]; simp [hx]

set_option maxHeartbeats 1000000 in
theorem implSplitLines (s : ByteArray) (w : World) (hs : s.size ≤ 1048576) :
    Calls Try.prog 41 #[.string s] w fun e w' => ∃ a c, e = .returned (.slice a (lines s).length c) ∧ w'.ownsRow w.heap.size 9 1 (.slice a (lines s).length c) (lines s).length (strs (lines s)) ∧ Below w.heap.size w w' := by
  have hp := parts_le s nl s.size
  obtain ⟨l, f, hE⟩ : ∃ l f, parts s nl s.size = (l, f) := ⟨_, _, rfl⟩
  have hS := split_eq s nl hE
  have C := fun w => implSplitAny s nl w hs
  rw [hE] at hp
  simp only [hS] at C
  have K := Lib.hid C
  have hlen : l.length ≤ s.size := hp.1
  by_cases hf : f = s.size
  · have HL : Hid (lines s = l) := by have := lines_drop s (by rw [hE]; exact hf); rw [hE] at this; exact this
    subst hf
    clear C hS hE hp
    go_enter Try.func41, Try.ntmps41
    go_wp2_with fail
    refine (K.out _).mono ?_
    rintro e w1 ⟨a1, c1, rfl, o1, b1⟩
    have O1 := Lib.hid o1
    obtain ⟨b, o, rfl⟩ := (own_row o1).form (by simp)
    have hc := row_str (own_row o1) l.length (by simp)
    have hcap := (own_row o1).2.1
    have hcap2 := (own_row o1).2.2.1
    unfold maxLen at hcap2
    simp at hc hcap
    clear o1
    go_wp2_with fail
    go_ret
    rw [HL.out]
    refine ⟨_, _, rfl, ?_, b1⟩
    have := O1.out
    rw [strs_snoc] at this
    exact own_take (by simpa using this) (by simp [strs])
  · have hlt : f < s.size := by have := hp.2; simp at this; omega
    have HL : Hid (lines s = l ++ [s.extract f s.size]) := by rw [← hS]; exact lines_keep s (by rw [hE]; exact hlt)
    have hne : (s.extract f s.size).toList.isEmpty = false := by
      rw [ByteArray.toList_eq]
      have : (s.extract f s.size).data.toList.length = s.size - f := by simp
      cases hd : (s.extract f s.size).data.toList with
      | nil => rw [hd] at this; simp at this; omega
      | cons _ _ => rfl
    have hne2 : ((s.extract f s.size).toList == []) = false := by
      cases hd : (s.extract f s.size).toList with
      | nil => rw [hd] at hne; cases hne
      | cons _ _ => rfl
    clear C hS hE hp hf
    go_enter Try.func41, Try.ntmps41
    go_wp2_with fail
    refine (K.out _).mono ?_
    rintro e w1 ⟨a1, c1, rfl, o1, b1⟩
    have O1 := Lib.hid o1
    obtain ⟨b, o, rfl⟩ := (own_row o1).form (by simp)
    have hc := row_str (own_row o1) l.length (by simp)
    have hcap := (own_row o1).2.1
    have hcap2 := (own_row o1).2.2.1
    unfold maxLen at hcap2
    simp at hc hcap
    clear o1
    generalize s.extract f s.size = q at *
    go_wp2_with fail
    go_ret
    rw [HL.out]
    exact ⟨some ⟨b, o, none⟩, c1, ret_val (by simp), O1.out, b1⟩


end Go.Proofs.Ytjchindjoailbaa
