/- The law on words: integers are recovered from their text, and strings from their parts. -/
import Derived.Test.YtjchindjoailbaaCode
import Derived.Test.YtjchindjoailbaaJoinW
import Derived.Test.YtjchindjoailbaaSplitLines
import Derived.Test.YtjchindjoailbaaParseInt
import Derived.Test.YtjchindjoailbaaIsName
namespace Go.Proofs.Ytjchindjoailbaa
set_option linter.unusedSimpArgs false
set_option linter.unusedVariables false
open Go.RowKit

theorem ext_list (s : ByteArray) (f k : Nat) : (s.extract f k).data.toList = (s.data.toList.take k).drop f := by
  rw [ByteArray.data_extract, Array.toList_extract, List.extract_eq_take_drop, List.drop_take]
theorem join_end (sep : List UInt8) (l : List (List UInt8)) (x z : List UInt8) : Lib.join (l ++ [x ++ z]) sep = Lib.join (l ++ [x]) sep ++ z := by
  cases l with
  | nil => simp [Lib.join_one]
  | cons a r => simp only [List.cons_append, Lib.join_cons, joinTail_snoc, List.append_assoc]
theorem join_next (sep : List UInt8) (l : List (List UInt8)) (x z : List UInt8) : Lib.join ((l ++ [x]) ++ [z]) sep = Lib.join (l ++ [x]) sep ++ sep ++ z := by
  cases l with
  | nil => simp [Lib.join_cons, Lib.join_one, Lib.joinTail]
  | cons a r =>
    rw [List.cons_append, List.cons_append, Lib.join_cons, Lib.join_cons, joinTail_snoc, joinTail_snoc]
    simp only [List.append_assoc]
theorem split_inv (s : ByteArray) (c : UInt8) : ∀ (k : Nat), k ≤ s.size → (parts s (bs [c]) k).2 ≤ k ∧ Lib.join ((parts s (bs [c]) k).1.map (·.data.toList) ++ [(s.data.toList.take k).drop (parts s (bs [c]) k).2]) [c] = s.data.toList.take k
  | 0, _ => by simp [parts, Lib.join_one]
  | k + 1, h => by
    obtain ⟨h1, h2⟩ := split_inv s c k (by omega)
    have hk : k < s.size := by omega
    have ht := take_snoc s k hk
    have hl : (s.data.toList.take k).length = k := by
      have hsz : s.data.toList.length = s.size := rfl
      rw [List.length_take]; omega
    by_cases hs : sepB (bs [c]) s[k] = true
    · have hc : s[k] = c := by
        unfold sepB at hs; simp [bs] at hs; exact hs.symm
      rw [parts_yes s _ k hk hs]
      refine ⟨Nat.le_refl _, ?_⟩
      rw [List.map_append, List.map_cons, List.map_nil, ext_list, join_next, h2, List.drop_eq_nil_of_le (by rw [ht, List.length_append, hl]; simp), List.append_nil, ht, hc]
    · rw [parts_no s _ k hk (by simpa using hs)]
      refine ⟨by omega, ?_⟩
      rw [ht, List.drop_append_of_le_length (by omega), join_end, h2]
theorem split_join (s : ByteArray) (c : UInt8) : JW (bs [c]) (splitL s (bs [c])) = s := by
  obtain ⟨h1, h2⟩ := split_inv s c s.size (Nat.le_refl _)
  unfold JW splitL
  rw [List.map_append, List.map_cons, List.map_nil, ext_list]
  have e1 : (bs [c]).data.toList = [c] := by simp [bs]
  rw [e1, h2]
  have hsz : s.data.toList.length = s.size := rfl
  rw [List.take_of_length_le (by omega)]
theorem tot_append (l m : List ByteArray) : tot (l ++ m) = tot l + tot m := by unfold tot; rw [List.map_append, List.sum_append]
theorem split_tot (s y : ByteArray) : ∀ k, k ≤ s.size → tot (parts s y k).1 + (parts s y k).2 ≤ 2 * k ∧ tot (parts s y k).1 ≤ (parts s y k).2
  | 0, _ => by simp [parts, tot]
  | k + 1, h => by
    obtain ⟨h1, h2⟩ := split_tot s y k (by omega)
    have hk : k < s.size := by omega
    have hle := (parts_le s y k).2
    by_cases hs : sepB y s[k] = true
    · rw [parts_yes s y k hk hs]
      have : (s.extract (parts s y k).2 k).size = k - (parts s y k).2 := by rw [ByteArray.size_extract]; omega
      rw [tot_append]
      have e : tot [s.extract (parts s y k).2 k] = k - (parts s y k).2 := by simp [tot, this]
      rw [e]; simp only; omega
    · rw [parts_no s y k hk (by simpa using hs)]; omega
theorem split_tot' (s y : ByteArray) : tot (splitL s y) ≤ s.size ∧ (splitL s y).length ≤ s.size + 1 := by
  have h := split_tot s y s.size (Nat.le_refl _)
  have hle := parts_le s y s.size
  unfold splitL
  rw [tot_append, List.length_append]
  have e : tot [s.extract (parts s y s.size).2 s.size] = s.size - (parts s y s.size).2 := by
    simp only [tot, List.map_cons, List.map_nil, List.sum_cons, List.sum_nil, ByteArray.size_extract]; omega
  rw [e]; simp only [List.length_cons, List.length_nil]; omega

set_option maxRecDepth 100000 in
set_option maxHeartbeats 4000000 in
theorem specStr (g : Nat) (a : Option Addr) (n c : Nat) (zs : List Int) (gl nl : Nat) (l : List ByteArray) (w : World) (hc : Curs w g a n c zs) (hl : ArgRow w (some ⟨gl, 0, none⟩) nl nl 1 (strs l)) (hn1 : 1 ≤ nl) (hn2 : nl ≤ 256) (hs : ∀ s ∈ l, s.size ≤ 10) (hne : gl ≠ g) :
    Calls Try.prog 90 #[.pointer (some ⟨g, 0, none⟩), .slice (some ⟨gl, 0, none⟩) nl nl] w fun e w' => ∃ s : ByteArray, e = .returned (.string s) ∧ s.size ≤ 10 ∧ Curs w' g a n c zs ∧ w.grownBy w' (some g) := by
  have HC := Lib.hid hc
  have HL := Lib.hid hl
  have HS := Lib.hid hs
  have HLen := Lib.hid hl.strs_len
  clear hc hl hs
  go_enter Try.func90, Try.ntmps90
  go_wp2_with fail
  refine (specDraw nl (by omega) g a n c zs _ HC.out).mono ?_
  rintro e w1 ⟨x, rfl, hx, hc1, hg1⟩
  have C1 := Lib.hid hc1
  have G1 := Lib.hid hg1
  obtain ⟨i, rfl⟩ : ∃ i : Nat, x = i := ⟨x.toNat, by omega⟩
  have hil : i < l.length := by rw [HLen.out]; omega
  have c0 := str_cell (HL.out.grown hg1 (fun ad e _ => by cases e; simpa using hne)) i hil
  rw [Nat.zero_add] at c0
  have hz := HS.out _ (List.getElem_mem hil)
  generalize l[i] = s at c0 hz
  clear hc1 hg1 hil
  go_wp2_with fail
  go_ret
  exact ⟨s, rfl, hz, C1.out, G1.out⟩

def lits : List ByteArray := [⟨#[97]⟩, ⟨#[98, 99]⟩, ⟨#[32]⟩, ⟨#[44]⟩, ⟨#[120, 49]⟩]
theorem lits_size : ∀ s ∈ lits, s.size ≤ 10 := by
  intro s hs
  simp only [lits, List.mem_cons, List.not_mem_nil, or_false] at hs
  rcases hs with rfl | rfl | rfl | rfl | rfl <;> decide
theorem lit_row (w : World) : ArgRow (w.alloc (.cells #[.string ⟨#[97]⟩, .string ⟨#[98, 99]⟩, .string ⟨#[32]⟩, .string ⟨#[44]⟩, .string ⟨#[120, 49]⟩] 9)) (some ⟨w.heap.size, 0, none⟩) 5 5 1 (strs lits) :=
  own_arg (base := w.heap.size) (e := 9) (World.ownsRow_lit (base := w.heap.size) (size := 1) w #[.string ⟨#[97]⟩, .string ⟨#[98, 99]⟩, .string ⟨#[32]⟩, .string ⟨#[44]⟩, .string ⟨#[120, 49]⟩] 5 (Nat.le_refl _) (by unfold maxLen; omega) rfl)

set_option maxRecDepth 100000 in
set_option maxHeartbeats 4000000 in
theorem specText (a : Option Addr) (n c : Nat) (zs : List Int) (w : World) (hr : ArgRow w a n c 1 (u8s zs)) (hn : n ≤ 1048576) :
    Calls Try.prog 38 #[.slice a n c] w fun e w' => ∃ s : ByteArray, e = .returned (.string s) ∧ s.size ≤ 70 ∧ Below w.heap.size w w' := by
  have HR := Lib.hid hr
  clear hr
  go_enter Try.func38, Try.ntmps38
  go_wp2_with fail
  refine (specNew a n c zs _ HR.out hn).mono ?_
  rintro e w1 ⟨g, rfl, hg, hc1, hb1⟩
  have C1 := Lib.hid hc1
  have B1 := Lib.hid hb1
  clear hc1 hb1
  go_wp2_with fail
  refine (specDraw 8 (by omega) g a n c zs _ C1.out).mono ?_
  rintro e w2 ⟨x, rfl, hx, hc2, hg2⟩
  obtain ⟨k0, rfl⟩ : ∃ k : Nat, x = k := ⟨x.toNat, by omega⟩
  have C2 := Lib.hid hc2
  have B2 := Lib.hid (below_grown B1.out B1.out.size hg2 hg)
  clear hc2 hg2 C1 B1
  go_wp2_with fail
  go_loopw [4, 5] (fun v u wr => ∃ (k : Nat) (s : ByteArray), k ≤ 7 ∧ u = .int .i64 k ∧ v = .string s ∧ s.size + 10 * k ≤ 70 ∧ Hid (Curs wr g a n c zs) ∧ Hid (Below w.heap.size w wr)) (fun _ u _ => (intOf u).toNat)
  case atStart => exact ⟨k0, ⟨#[]⟩, by omega, rfl, rfl, by show 0 + 10 * k0 ≤ 70; omega, C2.out, B2.out⟩
  case round =>
    clear C2 B2 hx
    obtain ⟨k, s, hk, rfl, rfl, hs, C, B⟩ := hrel
    by_cases h0 : 0 < k
    · have hgl := C.out.lt
      have RL := Lib.hid (lit_row wr)
      go_wp2_with fail
      refine (specStr g a n c zs wr.heap.size 5 lits _ (C.out.below (balloc (Below.refl _ _) _)) RL.out (by omega) (by omega) lits_size (by omega)).mono ?_
      rintro e w3 ⟨t, rfl, ht, hc3, hg3⟩
      have C3 := Lib.hid hc3
      have B3 := Lib.hid (below_grown (balloc B.out _) (by have := B.out.size; simp; omega) hg3 hg)
      have hst : (s ++ t).size = s.size + t.size := ByteArray.size_append
      have HST : Hid ((s ++ t).size + 10 * (k - 1) ≤ 70) := by show _ ≤ _; rw [hst]; omega
      clear hc3 hg3 hst
      go_wp2_with fail
      go_roundw
      case rel => exact ⟨k - 1, s ++ t, by omega, by (rw [show ((k - 1 : Nat) : Int) = (k : Int) - 1 by omega]), rfl, HST.out, C3.out, B3.out⟩
      case measure => simp [intOf]; omega
    · obtain rfl : k = 0 := by omega
      go_wp2_with fail
      go_ret
      exact ⟨s, rfl, by omega, B.out⟩

theorem own_some' {w : World} {base : Nat} {e : TypeId} {size : Nat} {a : Option Addr} {n c : Nat} {xs : List Value} (h : w.ownsRow base e size (.slice a n c) n xs) (hn : 1 ≤ n) : ∃ g, a = some ⟨g, 0, none⟩ := by
  obtain ⟨_, h⟩ := h
  rcases h with ⟨_, h0⟩ | ⟨g, c', cur, h, _⟩
  · omega
  · cases h; exact ⟨g, rfl⟩
theorem fmt_len' (n : Int) (h1 : -9223372036854775808 ≤ n) (h2 : n ≤ 9223372036854775807) : (bs (Gn.fmt n)).size ≤ maxLen := by
  have := Gn.fmt_len n h1 h2
  unfold maxLen; rw [bs_size]; omega
theorem good_x1 : Good ⟨#[120, 49]⟩ := by
  refine ⟨by decide, fun i hi h => ?_⟩
  have h2 : i < 2 := h
  have : i = 0 ∨ i = 1 := by omega
  rcases this with rfl | rfl
  · exact .inl (by show 97 ≤ (120 : Nat) ∧ (120 : Nat) ≤ 122; omega)
  · exact .inr (by show (1 : Nat) ≠ 0 ∧ 48 ≤ (49 : Nat) ∧ (49 : Nat) ≤ 57; omega)
theorem lines_two : (lines ⟨#[97, 10, 98, 10]⟩).length = 2 := by decide +kernel

set_option maxRecDepth 100000 in
set_option maxHeartbeats 8000000 in
theorem walk_FnWords (a : Option Addr) (n c : Nat) (zs : List Int) (w : World) (hr : ArgRow w a n c 1 (u8s zs)) :
    Calls Try.prog 7 #[.slice a n c] w fun e w' => e = .returned (.bool true) ∧ Below w.heap.size w w' := by
  have hn := hr.le
  unfold maxLen at hn
  by_cases hb : 1048576 < n
  · clear hr
    go_enter Try.func7, Try.ntmps7
    go_wp2_with fail
    go_ret
    exact ⟨rfl, Below.refl _ _⟩
  have HR := Lib.hid hr
  have hn' : n ≤ 1048576 := by omega
  clear hr hb hn
  go_enter Try.func7, Try.ntmps7
  go_wp2_with fail
  refine (specNum 1 (by omega) a n c zs _ HR.out hn').mono ?_
  rintro e w1 ⟨x, rfl, hx, hb1⟩
  have B1 := Lib.hid hb1
  clear hb1
  go_wp2_with fail
  refine (implFmt (x - 30000) _ (by omega) (by omega)).mono ?_
  rintro e w9 ⟨rfl, rfl⟩
  have hfl := fmt_len' (x - 30000) (by omega) (by omega)
  have hP : Parsed (bs (Gn.fmt (x - 30000))) (x - 30000) true := .inl ⟨rfl, ⟨by omega, by omega⟩, rfl⟩
  have KP := Lib.hid (fun w => implParse (bs (Gn.fmt (x - 30000))) w hfl (x - 30000) true hP)
  generalize bs (Gn.fmt (x - 30000)) = S at KP ⊢
  clear hP hfl
  go_wp2_with fail
  refine (KP.out _).mono ?_
  rintro e w9 ⟨rfl, rfl⟩
  go_wp2_with fail
  refine (specText a n c zs _ (HR.out.below B1.out) hn').mono ?_
  rintro e w2 ⟨s, rfl, hs, hb2⟩
  have B2 : Hid (Below w.heap.size w w2) := B1.out.trans (hb2.mono B1.out.size)
  clear hb2
  have HJ := Lib.hid (split_join s 32)
  have HT := Lib.hid (split_tot' s (bs [32]))
  have KS := Lib.hid (fun w => implSplitAny s (bs [32]) w (by omega))
  have hne : Hid (1 ≤ (splitL s (bs [32])).length) := by show 1 ≤ _; unfold splitL; simp
  have KN := Lib.hid (fun w => implIsName ⟨#[120, 49]⟩ w (by decide) true ⟨fun _ => good_x1, fun _ => rfl⟩)
  have KL := Lib.hid (fun w => implSplitLines ⟨#[97, 10, 98, 10]⟩ w (by decide))
  rw [lines_two] at KL
  generalize splitL s (bs [32]) = P at HJ HT KS hne
  go_wp2_with fail
  refine (KS.out _).mono ?_
  rintro e w3 ⟨a3, c3, rfl, o3, hb3⟩
  obtain ⟨g3, rfl⟩ := own_some' o3 hne.out
  have R3 := Lib.hid (own_arg o3)
  have hg3 := (own_base o3 _ rfl).2
  have B3 : Hid (Below w.heap.size w w3) := B2.out.trans (hb3.mono B2.out.size)
  have KJ := Lib.hid (fun (w : World) r hg => implJoin g3 P.length c3 P (bs [32]) w r hg (by decide) (by have := HT.out.2; omega) (by have := HT.out.1; omega))
  rw [HJ.out] at KJ
  clear o3 hb3
  go_wp2_with fail
  refine (KJ.out _ R3.out hg3).mono ?_
  rintro e w4 ⟨rfl, hb4⟩
  have B4 : Hid (Below w.heap.size w w4) := B3.out.trans (hb4.mono B3.out.size)
  clear hb4
  go_wp2_with fail
  refine (KN.out _).mono ?_
  rintro e w9 ⟨rfl, rfl⟩
  go_wp2_with fail
  refine (KL.out _).mono ?_
  rintro e w5 ⟨a5, c5, rfl, _, hb5⟩
  have B5 : Hid (Below w.heap.size w w5) := B4.out.trans (hb5.mono B4.out.size)
  clear hb5
  go_wp2_with fail
  go_ret
  exact ⟨rfl, B5.out⟩
end Go.Proofs.Ytjchindjoailbaa
