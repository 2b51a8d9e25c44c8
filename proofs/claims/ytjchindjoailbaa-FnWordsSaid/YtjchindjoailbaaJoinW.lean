/- Join: the program's, by the library's contract, and the reference's, by a loop; the law's walk. -/
import Derived.Test.YtjchindjoailbaaOpenS
import Derived.Test.YtjchindjoailbaaShelf
import Derived.Lib.Join
namespace Go.Proofs.Ytjchindjoailbaa
set_option linter.unusedSimpArgs false
set_option linter.unusedVariables false
open Go.RowKit

/-- the strings joined -/
def JW (sep : ByteArray) (l : List ByteArray) : ByteArray := ⟨(Lib.join (l.map (·.data.toList)) sep.data.toList).toArray⟩
theorem joinTail_snoc (sep : List UInt8) (r : List (List UInt8)) (y : List UInt8) : Lib.joinTail sep (r ++ [y]) = Lib.joinTail sep r ++ (sep ++ y) := by simp [Lib.joinTail]
theorem JW_nil (sep : ByteArray) : JW sep [] = ⟨#[]⟩ := by simp [JW, Lib.join_nil]
theorem JW_one (sep : ByteArray) (l : List ByteArray) (h : 0 < l.length) : JW sep (l.take 1) = ⟨#[]⟩ ++ l[0] := by
  rw [show l.take 1 = [l[0]] by
    cases l with
    | nil => simp at h
    | cons a t => simp]
  simp only [JW, List.map_cons, List.map_nil, Lib.join_one]
  apply ByteArray.ext
  simp
theorem JW_more (sep : ByteArray) (l : List ByteArray) (i : Nat) (h0 : 0 < i) (h : i < l.length) : JW sep (l.take (i + 1)) = JW sep (l.take i) ++ sep ++ l[i] := by
  rw [List.take_succ_eq_append_getElem h]
  obtain ⟨x, r, e⟩ : ∃ x r, l.take i = x :: r := by
    cases hq : l.take i with
    | nil => have := congrArg List.length hq; rw [List.length_take, List.length_nil] at this; omega
    | cons x r => exact ⟨x, r, rfl⟩
  rw [e]
  simp only [JW, List.cons_append, List.map_cons, List.map_append, List.map_nil, Lib.join_cons, joinTail_snoc]
  apply ByteArray.ext
  simp
/-- the sizes together -/
def tot (l : List ByteArray) : Nat := (l.map ByteArray.size).sum
theorem tot_snoc (l : List ByteArray) (i : Nat) (h : i < l.length) : tot (l.take (i + 1)) = tot (l.take i) + l[i].size := by
  rw [List.take_succ_eq_append_getElem h]; unfold tot; rw [List.map_append, List.sum_append]
  simp only [List.map_cons, List.map_nil, List.sum_cons, List.sum_nil]; omega
theorem tot_mem (l : List ByteArray) (i : Nat) (h : i < l.length) : l[i].size ≤ tot l := by
  have h1 := tot_snoc l i h
  have h2 : tot (l.take (i + 1)) ≤ tot l := by
    have e : tot l = tot (l.take (i + 1)) + tot (l.drop (i + 1)) := by
      conv => lhs; rw [← List.take_append_drop (i + 1) l]
      unfold tot; rw [List.map_append, List.sum_append]
    omega
  omega
theorem tot_lens (l : List ByteArray) : Lib.lens (l.map (·.data.toList)) = tot l := by
  induction l with
  | nil => rfl
  | cons a l ih =>
    simp only [tot, List.map_cons, List.sum_cons, Lib.lens] at ih ⊢
    rw [ih]; rfl
theorem tot_take (l : List ByteArray) (i : Nat) : tot (l.take i) ≤ tot l := by
  have e : tot l = tot (l.take i) + tot (l.drop i) := by
    conv => lhs; rw [← List.take_append_drop i l]
    unfold tot; rw [List.map_append, List.sum_append]
  omega
theorem JW_len (sep : ByteArray) (l : List ByteArray) (hs : sep.size ≤ 1048576) (hl : l.length ≤ 1048576) (ht : tot l ≤ 1048576) : (Lib.join (l.map (·.data.toList)) sep.data.toList).length ≤ 1099512676352 := by
  cases l with
  | nil => simp [Lib.join_nil]
  | cons a l =>
    have h1 := tot_lens (a :: l)
    rw [List.map_cons] at h1
    rw [List.map_cons, Lib.join_length, h1, List.length_map]
    have h2 : sep.data.toList.length ≤ 1048576 := hs
    have h3 : l.length ≤ 1048576 := by simp at hl; omega
    have h4 := Nat.mul_le_mul h2 h3
    omega
theorem JW_size (sep : ByteArray) (l : List ByteArray) (hs : sep.size ≤ 1048576) (hl : l.length ≤ 1048576) (ht : tot l ≤ 1048576) : (JW sep l).size ≤ 1099512676352 := by
  have := JW_len sep l hs hl ht
  simpa [JW, ByteArray.size] using this
theorem own_arg {w : World} {base : Nat} {e : TypeId} {size : Nat} {a : Option Addr} {n cap : Nat} {xs : List Value} (h : w.ownsRow base e size (.slice a n cap) n xs) : ArgRow w a n cap size xs := .of (own_row h)
theorem ArgRow.strs_len {w : World} {a : Option Addr} {n c : Nat} {l : List ByteArray} (h : ArgRow w a n c 1 (strs l)) : l.length = n := by
  have h1 := h.1
  rw [Proofs.Ytjchindjoailbaa.strs_len] at h1; omega
theorem str_cell {w : World} {b o n c : Nat} {l : List ByteArray} (h : ArgRow w (some ⟨b, o, none⟩) n c 1 (strs l)) (i : Nat) (hi : i < l.length) : w.cell? ⟨b, o + i, none⟩ = some (.string l[i]) := by
  have hl := Proofs.Ytjchindjoailbaa.strs_len l
  have hn : 0 < n := by have := h.1; omega
  obtain ⟨b', o', e, _, hc⟩ := h.form hn
  cases e
  rw [hc i (by omega), strs_at]

set_option maxHeartbeats 2000000 in
theorem szStrs (a : Option Addr) (n c : Nat) (l : List ByteArray) (w : World) (hr : ArgRow w a n c 1 (strs l)) (hs : ∀ s ∈ l, s.size ≤ maxLen) :
    Calls Try.prog 28 #[.slice a n c, .int .i64 1048576] w fun e w' => ∃ z : Int, e = .returned (.int .i64 z) ∧ (z < 0 ∨ (n ≤ 1048576 ∧ tot l ≤ 1048576)) ∧ w = w' := by
  have hn := hr.le
  have hl := hr.strs_len
  unfold maxLen at hn
  by_cases h : 1048576 < n
  · clear hr
    go_enter Try.func28, Try.ntmps28
    go_wp2_with fail
    go_ret
    exact ⟨-1, rfl, .inl (by omega), rfl⟩
  · have HR := Lib.hid hr
    have HL := Lib.hid hl
    have HS := Lib.hid hs
    clear hr hl hs
    go_enter Try.func28, Try.ntmps28
    go_wp2_with fail
    go_loopw [1, 5] (fun v u wr => ∃ (i : Nat) (z : Int), i ≤ n ∧ u = .int .i64 i ∧ v = .int .i64 z ∧ 0 ≤ z ∧ z ≤ 1048576 ∧ Hid (z + n + tot (l.take i) = 1048576) ∧ wr = w) (fun _ u _ => n - (intOf u).toNat)
    case atStart => exact ⟨0, 1048576 - n, by omega, rfl, by go_num, by omega, by omega, by show _ = _; simp [tot], rfl⟩
    case round =>
      obtain ⟨i, z, hi, rfl, rfl, hz0, hz1, HZ, rfl⟩ := hrel
      by_cases hlt : i < n
      · have hli : i < l.length := by rw [HL.out]; exact hlt
        obtain ⟨b, o, rfl, _, _⟩ := HR.out.form (by omega)
        have c0 := str_cell HR.out i hli
        have HT := Lib.hid (tot_snoc l i hli)
        have hmx : (l[i]).size ≤ tot l := tot_mem l i hli
        have hbig := HS.out l[i] (List.getElem_mem _)
        unfold maxLen at hbig
        generalize l[i] = s at c0 HT hmx hbig
        by_cases hq : z < s.size
        · clear hli hmx
          go_wp2_with fail
          go_ret
          exact ⟨-1, rfl, .inl (by omega), rfl⟩
        · have HZ2 : Hid ((z - s.size) + n + tot (l.take (i + 1)) = 1048576) := by show _ = _; rw [HT.out]; have := HZ.out; omega
          clear hli hmx
          go_wp2_with fail
          go_roundw
          case rel => exact ⟨i + 1, z - s.size, by omega, by go_num, by go_num, by omega, by omega, HZ2.out, by trivial⟩
          case measure => simp [intOf]; omega
      · obtain rfl : i = n := by omega
        go_wp2_with fail
        go_ret
        refine ⟨z, rfl, .inr ⟨by omega, ?_⟩, rfl⟩
        have := HZ.out
        rw [List.take_of_length_le (by rw [HL.out]; omega)] at this
        omega
set_option maxHeartbeats 1000000 in
theorem eqStrsA (a1 a2 : Option Addr) (n c1 c2 : Nat) (l : List ByteArray) (w : World) (r1 : ArgRow w a1 n c1 1 (strs l)) (r2 : ArgRow w a2 n c2 1 (strs l)) :
    Calls Try.prog 32 #[.slice a1 n c1, .slice a2 n c2] w fun e w' => e = .returned (.bool true) ∧ Below w.heap.size w w' := by
  have hl := r1.strs_len
  have hn := r1.le
  unfold maxLen at hn
  by_cases h0 : n = 0
  · subst h0
    clear r1 r2
    go_enter Try.func32, Try.ntmps32
    go_wp2_with fail
    go_rounds 1
    go_ret
    exact ⟨rfl, Below.refl _ _⟩
  · obtain ⟨b1, o1, rfl, hb1, _⟩ := r1.form (by omega)
    obtain ⟨b2, o2, rfl, hb2, _⟩ := r2.form (by omega)
    have R1 := Lib.hid r1
    have R2 := Lib.hid r2
    have HL := Lib.hid hl
    clear r1 r2 hl
    go_enter Try.func32, Try.ntmps32
    go_wp2_with fail
    go_loopw [5] (fun v wr => ∃ k : Nat, k ≤ n ∧ v = .int .i64 k ∧ ∃ m, wr = w.drewN m) (fun v _ => n - (intOf v).toNat)
    case atStart => exact ⟨0, by omega, rfl, 0, rfl⟩
    case round =>
      obtain ⟨k, hk, rfl, m, rfl⟩ := hrel
      by_cases hlt : k < n
      · have hli : k < l.length := by rw [HL.out]; exact hlt
        have q1 := str_cell R1.out k hli
        have q2 := str_cell R2.out k hli
        generalize l[k] = s at q1 q2
        clear hli
        go_wp2_with fail
        go_quiet (fail)
        go_wp2_with fail
        go_roundw
        case rel => exact ⟨k + 1, by omega, by go_num, _, rfl⟩
        case measure => simp [intOf]; omega
      · go_wp2_with fail
        go_ret
        exact ⟨rfl, below_drewN (Below.refl _ _) _⟩
theorem strs_take (l : List ByteArray) (zs : List Value) (i : Nat) (h : i < l.length) (hz : zs.length = l.length) :
    (strs (l.take i) ++ zs.drop i).set i (.string l[i]) = strs (l.take (i + 1)) ++ zs.drop (i + 1) := by
  have hl : (strs (l.take i)).length = i := by rw [strs_len, List.length_take]; omega
  rw [List.set_append_right _ _ (by omega), hl, Nat.sub_self, List.drop_eq_getElem_cons (by omega), List.set_cons_zero, List.take_succ_eq_append_getElem h]
  simp only [strs, List.map_append, List.map_cons, List.map_nil, List.append_assoc, List.singleton_append]
set_option maxHeartbeats 2000000 in
theorem toStrs (a : Option Addr) (n c : Nat) (l : List ByteArray) (w : World) (hr : ArgRow w a n c 1 (strs l)) (hn : n ≤ 1048576) :
    Calls Try.prog 30 #[.slice a n c] w fun e w' => ∃ g, e = .returned (.slice (some ⟨g, 0, none⟩) n n) ∧ w'.ownsRow w.heap.size 9 1 (.slice (some ⟨g, 0, none⟩) n n) n (strs l) ∧ Below w.heap.size w w' := by
  have hl := hr.strs_len
  have hmk := run_make_rows (P := Try.prog) 42 9 (.string ByteArray.empty) 1 16 Try.underlying42 (by kernel_rfl) .i64 .i64 n (by omega) (by omega)
  have HZ : Hid ((w.alloc (.cells (madeCells #[Value.string ByteArray.empty] (n * 1)) 9)).ownsRow w.heap.size 9 1 (.slice (some ⟨w.heap.size, 0, none⟩) n n) n (madeCells #[Value.string ByteArray.empty] (n * 1)).toList) :=
    World.ownsRow_lit w _ n (Nat.le_refl _) (by unfold maxLen; omega) (size_madeCells _ _)
  have hzl : (madeCells #[Value.string ByteArray.empty] (n * 1)).toList.length = l.length := by rw [Array.length_toList, size_madeCells, hl, Nat.mul_one]
  obtain ⟨zs, hzs⟩ : ∃ zs, madeCells #[Value.string ByteArray.empty] (n * 1) = zs := ⟨_, rfl⟩
  have hmk' : ∀ (w : World), Sem.run Try.prog (Instr.makeSlice 42 (Value.int IntKind.i64 ↑n) (Value.int IntKind.i64 ↑n)) w = Result.ok (Value.slice (some { block := w.heap.size, off := 0 }) n n) (w.alloc (Obj.cells zs 9)) := by
    intro w; rw [← hzs]; exact hmk w
  rw [hzs] at HZ hzl
  clear hmk hzs
  have HR := Lib.hid hr
  have HL := Lib.hid hl
  have HZL := Lib.hid hzl
  clear hr hl hzl
  go_enter Try.func30, Try.ntmps30
  go_wp2_with fail
  go_loopw [4] (fun u wr => ∃ i : Nat, i ≤ n ∧ u = .int .i64 i ∧ Hid (wr.ownsRow w.heap.size 9 1 (.slice (some ⟨w.heap.size, 0, none⟩) n n) n (strs (l.take i) ++ zs.toList.drop i)) ∧ Hid (Below w.heap.size w wr)) (fun u _ => n - (intOf u).toNat)
  case atStart => exact ⟨0, by omega, rfl, by simpa [Hid, strs] using HZ.out, balloc (Below.refl _ _) _⟩
  case round =>
    obtain ⟨i, hi, rfl, H, HB⟩ := hrel
    by_cases hlt : i < n
    · have hli : i < l.length := by rw [HL.out]; exact hlt
      obtain ⟨b, o, rfl, hb, hcell⟩ := HR.out.form (by omega)
      have hbl : b < wr.heap.size := Nat.lt_of_lt_of_le hb HB.out.size
      have hgl : w.heap.size < wr.heap.size := (own_base H.out _ rfl).2
      have c0 := str_cell HR.out i hli
      rw [← HB.out.cell (p := ⟨b, _, none⟩) hb] at c0
      have hlen : (strs (l.take i) ++ zs.toList.drop i).length = n := by have := H.out.1; omega
      have t0 : wr.cell? ⟨w.heap.size, i, none⟩ = some ((strs (l.take i) ++ zs.toList.drop i)[i]'(by omega)) := by
        rw [H.out.cellAt i (by omega), List.getElem?_eq_getElem (by omega)]
      have f0 := H.out.frozenAt i
      have H2 : Hid ((wr.setCell ⟨w.heap.size, i, none⟩ (.string l[i])).ownsRow w.heap.size 9 1 (.slice (some ⟨w.heap.size, 0, none⟩) n n) n (strs (l.take (i + 1)) ++ zs.toList.drop (i + 1))) := by
        show World.ownsRow _ _ _ _ _ _ _
        rw [← strs_take l zs.toList i hli HZL.out]; exact (H.out.stored i _).1
      have H3 : Hid (Below w.heap.size w (wr.setCell ⟨w.heap.size, i, none⟩ (.string l[i]))) := HB.out.setCell (Nat.le_refl _) _
      generalize l[i] = x at c0 H2 H3
      generalize (strs (l.take i) ++ zs.toList.drop i)[i]'(by omega) = y at t0
      clear hcell hlen
      go_wp2_with fail
      go_roundw
      case rel => exact ⟨i + 1, by omega, by go_num, H2.out, H3.out⟩
      case measure => simp [intOf]; omega
    · obtain rfl : i = n := by omega
      go_wp2_with fail
      go_ret
      refine ⟨_, rfl, ?_, HB.out⟩
      have := H.out
      rw [List.take_of_length_le (by rw [HL.out]; omega), List.drop_eq_nil_of_le (by rw [HZL.out, HL.out]; omega), List.append_nil] at this
      exact this

set_option maxHeartbeats 2000000 in
theorem implJoin (g n c : Nat) (l : List ByteArray) (sep : ByteArray) (w : World) (hr : ArgRow w (some ⟨g, 0, none⟩) n c 1 (strs l)) (hg : g < w.heap.size) (hs : sep.size ≤ 1048576) (hn : n ≤ 1048576) (ht : tot l ≤ 1048576) :
    Calls Try.prog 31 #[.slice (some ⟨g, 0, none⟩) n c, .string sep] w fun e w' => e = .returned (.string (JW sep l)) ∧ Below w.heap.size w w' := by
  obtain rfl := hr.strs_len
  have hc := hr.2.1
  have HR := Lib.hid hr
  have KJ := Lib.hid (fun (w : World) (h1 : ∀ (j : Nat) x, l[j]? = some x → w.cell? ⟨g, 0 + j, none⟩ = some (.string x)) (h2 : g < w.heap.size) => Try.strings_Join g 0 c l sep w h1 h2 (by omega) hc (by have := JW_len sep l hs hn ht; omega))
  clear hr
  go_enter Try.func31, Try.ntmps31
  go_wp2_with fail
  refine (KJ.out _ (fun j x hx => ?_) hg).mono ?_
  · obtain ⟨hj, e⟩ := List.getElem?_eq_some_iff.1 hx
    have := str_cell HR.out j hj
    rw [e] at this; exact this
  rintro e w1 ⟨rfl, hb1⟩
  go_wp2_with fail
  go_ret
  exact ⟨rfl, hb1⟩

set_option maxHeartbeats 2000000 in
theorem specJoin (g n c : Nat) (l : List ByteArray) (sep : ByteArray) (w : World) (hr : ArgRow w (some ⟨g, 0, none⟩) n c 1 (strs l)) (hs : sep.size ≤ 1048576) (hn : n ≤ 1048576) (ht : tot l ≤ 1048576) :
    Calls Try.prog 29 #[.slice (some ⟨g, 0, none⟩) n c, .string sep] w fun e w' => e = .returned (.string (JW sep l)) ∧ Below w.heap.size w w' := by
  have hl := hr.strs_len
  have HR := Lib.hid hr
  have HL := Lib.hid hl
  have HSZ := Lib.hid (fun i => JW_size sep (l.take i) hs (by rw [List.length_take]; omega) (Nat.le_trans (tot_take l i) ht))
  have HMX := Lib.hid (fun i (h : i < l.length) => Nat.le_trans (tot_mem l i h) ht)
  have HJ0 := Lib.hid (JW_nil sep)
  have HJ1 := Lib.hid (JW_one sep l)
  have HJM := Lib.hid (JW_more sep l)
  clear hr hl ht
  go_enter Try.func29, Try.ntmps29
  go_wp2_with fail
  go_loopw [5, 10] (fun v u wr => ∃ i : Nat, i ≤ n ∧ u = .int .i64 i ∧ v = .string (JW sep (l.take i)) ∧ Hid (Below w.heap.size w wr)) (fun _ u _ => n - (intOf u).toNat)
  case atStart => exact ⟨0, by omega, rfl, by rw [List.take_zero, HJ0.out], Below.refl _ _⟩
  case round =>
    obtain ⟨i, hi, rfl, rfl, HB⟩ := hrel
    by_cases hlt : i < n
    · have hli : i < l.length := by rw [HL.out]; exact hlt
      have c0 := str_cell (HR.out.below HB.out) i hli
      rw [Nat.zero_add] at c0
      have hgl : g < wr.heap.size := World.block_lt_of_cell? wr _ c0
      have hx := HMX.out i hli
      have hz := HSZ.out i
      by_cases h0 : i = 0
      · subst h0
        have HS : Hid (JW sep (l.take (0 + 1)) = ⟨#[]⟩ ++ l[0]) := HJ1.out hli
        have HE : Hid (JW sep (l.take 0) = ⟨#[]⟩) := HJ0.out
        rw [HE.out]
        generalize l[0] = x at c0 hx HS
        clear hli hz
        go_wp2_with fail
        go_roundw
        case rel => exact ⟨0 + 1, by omega, by go_num, by rw [HS.out], HB.out⟩
        case measure => simp [intOf]; omega
      · have HS : Hid (JW sep (l.take (i + 1)) = JW sep (l.take i) ++ sep ++ l[i]) := HJM.out i (by omega) hli
        generalize JW sep (l.take i) = s at hz HS
        generalize l[i] = x at c0 hx HS
        have hi0 : 0 < i := by omega
        clear hli
        go_wp2_with fail
        go_roundw
        case rel => exact ⟨i + 1, by omega, by go_num, by rw [HS.out], HB.out⟩
        case measure => simp [intOf]; omega
    · obtain rfl : i = n := by omega
      go_wp2_with fail
      go_ret
      exact ⟨ret_str (by rw [List.take_of_length_le (by rw [HL.out]; omega)]), HB.out⟩

set_option maxRecDepth 100000 in
set_option maxHeartbeats 4000000 in
theorem walk_FnExactJoin (a : Option Addr) (n c : Nat) (l : List ByteArray) (sep : ByteArray) (w : World) (hr : ArgRow w a n c 1 (strs l)) (hx : ∀ s ∈ l, s.size ≤ maxLen) (hsz : sep.size ≤ maxLen) :
    Calls Try.prog 5 #[.slice a n c, .string sep] w fun e w' => e = .returned (.bool true) ∧ Below w.heap.size w w' := by
  unfold maxLen at hsz
  by_cases hb : 1048576 < sep.size
  · clear hr hx
    go_enter Try.func5, Try.ntmps5
    go_wp2_with fail
    go_ret
    exact ⟨rfl, Below.refl _ _⟩
  have hb' : sep.size ≤ 1048576 := by omega
  have KZ := Lib.hid (szStrs a n c l w hr hx)
  have HR := Lib.hid hr
  clear hr hx hb
  go_enter Try.func5, Try.ntmps5
  go_wp2_with fail
  refine KZ.out.mono ?_
  rintro e w0 ⟨z, rfl, hz, rfl⟩
  by_cases hz0 : z < 0
  · clear hz
    go_wp2_with fail
    go_ret
    exact ⟨rfl, Below.refl _ _⟩
  obtain ⟨hn, ht⟩ := hz.resolve_left hz0
  have HT := Lib.hid ht
  clear hz ht
  go_wp2_with fail
  refine (toStrs a n c l _ HR.out hn).mono ?_
  rintro e w1 ⟨g1, rfl, o1, hb1⟩
  have R1 := Lib.hid (own_arg o1)
  have B1 := Lib.hid hb1
  clear o1 hb1
  go_wp2_with fail
  refine (specJoin g1 n n l sep _ R1.out hb' hn HT.out).mono ?_
  rintro e w2 ⟨rfl, hb2⟩
  have B2 : Hid (Below w.heap.size w w2) := B1.out.trans (hb2.mono B1.out.size)
  clear hb2
  go_wp2_with fail
  refine (toStrs a n c l _ (HR.out.below B2.out) hn).mono ?_
  rintro e w3 ⟨g3, rfl, o3, hb3⟩
  have hg3 := (own_base o3 _ rfl).2
  have R3 := Lib.hid (own_arg o3)
  have B3 : Hid (Below w.heap.size w w3) := B2.out.trans (hb3.mono B2.out.size)
  clear o3 hb3
  go_wp2_with fail
  refine (implJoin g3 n n l sep _ R3.out hg3 hb' hn HT.out).mono ?_
  rintro e w4 ⟨rfl, hb4⟩
  have R4 := Lib.hid (R3.out.below hb4)
  have B4 : Hid (Below w.heap.size w w4) := B3.out.trans (hb4.mono B3.out.size)
  clear hb4
  generalize JW sep l = J
  go_wp2_with fail
  refine (toStrs a n c l _ (HR.out.below B4.out) hn).mono ?_
  rintro e w5 ⟨g5, rfl, o5, hb5⟩
  have R5 := Lib.hid (own_arg o5)
  have R45 := Lib.hid (R4.out.below hb5)
  have B5 : Hid (Below w.heap.size w w5) := B4.out.trans (hb5.mono B4.out.size)
  clear o5 hb5
  go_wp2_with fail
  refine (eqStrsA (some ⟨g3, 0, none⟩) (some ⟨g5, 0, none⟩) n n n l _ R45.out R5.out).mono ?_
  rintro e w6 ⟨rfl, hb6⟩
  go_wp2_with fail
  go_ret
  exact ⟨rfl, B5.out.trans (hb6.mono B5.out.size)⟩
end Go.Proofs.Ytjchindjoailbaa
