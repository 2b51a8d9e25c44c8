/- SplitAny and SplitLines of the program and of the reference give the same parts. -/
import Derived.Test.YtjchindjoailbaaStrs
import Derived.Lib.OthersKept
import Derived.Lib.Bytealg
namespace Go.Proofs.Ytjchindjoailbaa
set_option linter.unusedSimpArgs false
set_option linter.unusedVariables false
open Go.RowKit

theorem run_index (s : ByteArray) (c : Int) (w : World) : (callFunc 160 #[.string s, .int .u8 c]).run Try.prog w = .ok (.value (.int .i64 (Lib.indexByte s.data.toList c.toNat.toUInt8))) w := by
  rw [run_callFunc_extern Try.func160 (e := Extern.BytealgIndexByte.indexByte) (by kernel_rfl) (by kernel_rfl) (by kernel_rfl) (by kernel_rfl)]
  rw [Lib.run_indexByteString]; rfl

set_option maxHeartbeats 400000 in
theorem indexByte (s : ByteArray) (c : UInt8) (w : World) :
    Calls Try.prog 91 #[.string s, .int .u8 c.toNat] w fun e w' => e = .returned (.int .i64 (Lib.indexByte s.data.toList c)) ∧ w = w' := by
  have hr := fun w => run_index s c.toNat w
  simp only [Int.toNat_natCast] at hr
  go_enter Try.func91, Try.ntmps91
  go_wp2
  go_ret
  exact ⟨rfl, rfl⟩

/-- the byte is among those at which it is split -/
def sepB (y : ByteArray) (c : UInt8) : Bool := y.data.toList.any (· == c)
theorem index_nonneg (y : ByteArray) (c : UInt8) : decide (0 ≤ Lib.indexByte y.data.toList c) = sepB y c := by
  rw [← Lib.firstIdx_eq]; exact firstIdx_nonneg y c

/-- the parts in front of place k, and where the open part begins -/
def parts (s y : ByteArray) : Nat → List ByteArray × Nat
  | 0 => ([], 0)
  | k + 1 => if sepB y (s[k]!) then ((parts s y k).1 ++ [s.extract (parts s y k).2 k], k + 1) else parts s y k
def splitL (s y : ByteArray) : List ByteArray := (parts s y s.size).1 ++ [s.extract (parts s y s.size).2 s.size]

theorem parts_le (s y : ByteArray) (k : Nat) : (parts s y k).1.length ≤ k ∧ (parts s y k).2 ≤ k := by
  induction k with
  | zero => simp [parts]
  | succ k ih =>
    unfold parts
    split
    · simp; omega
    · omega
theorem bang (s : ByteArray) (k : Nat) (h : k < s.size) : s[k]! = s[k] := by
  simp [h]
theorem parts_yes (s y : ByteArray) (k : Nat) (h : k < s.size) (hs : sepB y s[k] = true) : parts s y (k + 1) = ((parts s y k).1 ++ [s.extract (parts s y k).2 k], k + 1) := by
  rw [parts, bang s k h, if_pos hs]
theorem parts_no (s y : ByteArray) (k : Nat) (h : k < s.size) (hs : sepB y s[k] = false) : parts s y (k + 1) = parts s y k := by
  rw [parts, bang s k h, hs]; simp
theorem parts_yes' (s y : ByteArray) (k : Nat) (h : k < s.size) (hs : sepB y s[k] = true) {l : List ByteArray} {f : Nat} (e : parts s y k = (l, f)) : parts s y (k + 1) = (l ++ [s.extract f k], k + 1) := by
  rw [parts_yes s y k h hs, e]
theorem parts_no' (s y : ByteArray) (k : Nat) (h : k < s.size) (hs : sepB y s[k] = false) {l : List ByteArray} {f : Nat} (e : parts s y k = (l, f)) : parts s y (k + 1) = (l, f) := by
  rw [parts_no s y k h hs, e]
theorem parts_le' (s y : ByteArray) (k : Nat) {l : List ByteArray} {f : Nat} (e : parts s y k = (l, f)) : l.length ≤ k ∧ f ≤ k := by
  have := parts_le s y k; rw [e] at this; exact this
theorem split_eq (s y : ByteArray) {l : List ByteArray} {f : Nat} (e : parts s y s.size = (l, f)) : splitL s y = l ++ [s.extract f s.size] := by
  unfold splitL; rw [e]
theorem strs_snoc (l : List ByteArray) (x : ByteArray) : strs (l ++ [x]) = strs l ++ [.string x] := by simp [strs]

theorem infoStr : (Try.prog.info? 9).map (fun i => (i.zero, i.size, i.bytes)) = some (some (.string ByteArray.empty), 1, 16) := by kernel_rfl

set_option maxHeartbeats 1000000 in
theorem implSplitAny (s y : ByteArray) (w : World) (hs : s.size ≤ 1048576) :
    Calls Try.prog 39 #[.string s, .string y] w fun e w' => ∃ a c, e = .returned (.slice a (splitL s y).length c) ∧ w'.ownsRow w.heap.size 9 1 (.slice a (splitL s y).length c) (splitL s y).length (strs (splitL s y)) ∧ Below w.heap.size w w' := by
  obtain ⟨i0, hi, hz0, hz1, hz2⟩ := info_parts infoStr
  have HI := Lib.hid (And.intro hi (And.intro hz0 (And.intro hz1 hz2)))
  clear hi hz0 hz1 hz2
  go_enter Try.func39, Try.ntmps39
  go_wp2_with fail
  go_loopw [5, 6, 11] (fun v f u wr => ∃ i : Nat, ∃ l : List ByteArray, ∃ g : Nat, i ≤ s.size ∧ u = .int .i64 i ∧ f = .int .i64 g ∧ Hid (parts s y i = (l, g)) ∧ Hid (wr.ownsRow w.heap.size 9 1 v l.length (strs l)) ∧ Hid (Below w.heap.size w wr)) (fun _ _ u _ => s.size - (intOf u).toNat)
  case atStart => exact ⟨0, [], 0, by omega, rfl, rfl, rfl, World.ownsRow_lit (base := w.heap.size) (size := 1) w #[] 0 (Nat.le_refl _) (by simp) rfl, balloc (Below.refl _ _) _⟩
  case round =>
    obtain ⟨i, l, g, hi, rfl, rfl, HP, H, HB⟩ := hrel
    have hle := parts_le' s y i HP.out
    have hbs : w.heap.size ≤ wr.heap.size := HB.out.size
    have hown := H.out
    by_cases hlt : i < s.size
    · cases hsep : sepB y s[i]
      · have HP' := Lib.hid (parts_no' s y i hlt hsep HP.out)
        have ht : decide (0 ≤ Lib.indexByte y.data.toList s[i]) = false := by rw [index_nonneg]; exact hsep
        clear hsep hown
        go_wp2_with fail
        refine (indexByte _ _ _).mono ?_
        rintro e w' ⟨rfl, rfl⟩
        go_wp2_with fail
        go_roundw
        case rel => exact ⟨i + 1, l, g, by omega, by go_num, rfl, HP'.out, H.out, HB.out⟩
        case measure => simp [intOf]; omega
      · have HP' := Lib.hid (parts_yes' s y i hlt hsep HP.out)
        have ht : decide (0 ≤ Lib.indexByte y.data.toList s[i]) = true := by rw [index_nonneg]; exact hsep
        clear hsep
        go_wp2_with fail
        refine (indexByte _ _ _).mono ?_
        rintro e w' ⟨rfl, rfl⟩
        go_wp2_with (at_builtin; refine wpList_append_own _ rfl _ _ 42 rfl w.heap.size 9 i0 (.string ByteArray.empty) 1 16 Try.underlying42 HI.out.1 HI.out.2.1 HI.out.2.2.1 HI.out.2.2.2 rfl (by decide) _ _ _ rfl (hown.alloc _) ⟨wr.heap.size, 0, none⟩ 1 1 [.string (s.extract g i)] rfl rfl ?c1 ?c2 ?c3 ?c4 ?c5 ?_)
        case c1 => exact cell_one_new _ _ _
        case c2 => intro u hu; simp at hu; subst hu; rfl
        case c3 => unfold maxLen; omega
        case c4 => omega
        case c5 => simp; omega
        intro v' w1 hown' hgrow _
        have HO : Hid (w1.ownsRow w.heap.size 9 1 v' (l ++ [s.extract g i]).length (strs (l ++ [s.extract g i]))) := by
          show World.ownsRow _ _ _ _ _ _ _; rw [strs_snoc]; simpa using hown'
        have HB1 : Hid (Below w.heap.size w w1) := (balloc HB.out _).grown hgrow (by simp; omega) (fun k hk => (hown.lt k hk).1)
        clear hown' hgrow hown
        go_wp2_with fail
        go_roundw
        case rel => exact ⟨i + 1, _, i + 1, by omega, by go_num, by go_num, HP'.out, HO.out, HB1.out⟩
        case measure => simp [intOf]; omega
    · obtain rfl : i = s.size := by omega
      go_wp2_with (at_builtin; refine wpList_append_own _ rfl _ _ 42 rfl w.heap.size 9 i0 (.string ByteArray.empty) 1 16 Try.underlying42 HI.out.1 HI.out.2.1 HI.out.2.2.1 HI.out.2.2.2 rfl (by decide) _ _ _ rfl (hown.alloc _) ⟨wr.heap.size, 0, none⟩ 1 1 [.string (s.extract g s.size)] rfl rfl ?c1 ?c2 ?c3 ?c4 ?c5 ?_)
      case c1 => exact cell_one_new _ _ _
      case c2 => intro u hu; simp at hu; subst hu; rfl
      case c3 => unfold maxLen; omega
      case c4 => omega
      case c5 => simp; omega
      intro v' w1 hown' hgrow _
      have HO : Hid (w1.ownsRow w.heap.size 9 1 v' (splitL s y).length (strs (splitL s y))) := by
        show World.ownsRow _ _ _ _ _ _ _; rw [split_eq s y HP.out, strs_snoc]; simpa using hown'
      have HB1 : Hid (Below w.heap.size w w1) := (balloc HB.out _).grown hgrow (by simp; omega) (fun k hk => (hown.lt k hk).1)
      obtain ⟨a, c, hv⟩ := own_slice HO.out
      have HV := Lib.hid hv
      clear hown' hgrow hown hv
      go_wp2_with fail
      go_ret
      have e1 := HO.out
      rw [HV.out] at e1
      exact ⟨a, c, ret_val HV.out, e1, HB1.out⟩


end Go.Proofs.Ytjchindjoailbaa
