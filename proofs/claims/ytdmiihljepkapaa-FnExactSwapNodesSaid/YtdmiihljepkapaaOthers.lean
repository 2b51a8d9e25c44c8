/- The nodes that a list has not: the program's and the reference's. -/
import Derived.Test.YtdmiihljepkapaaLap
import Derived.Test.YtdmiihljepkapaaNetOk2
import Derived.Test.YtdmiihljepkapaaNBox
namespace Go.Proofs.Ytdmiihljepkapaa
set_option linter.unusedSimpArgs false
set_option linter.unusedVariables false
open Go.RowKit

set_option maxHeartbeats 1000000 in
theorem indexInt (a : Option Addr) (n c : Nat) (m : List Int) (x : Int) (w : World) (hr : ArgRow w a n c 1 (ints m)) :
    Calls Try.prog 190 #[.slice a n c, .int .i64 x] w fun e w' => ∃ i : Int, e = .returned (.int .i64 i) ∧ (0 ≤ i ↔ x ∈ m) ∧ w = w' := by
  have hl := hr.ints_len
  have hn := hr.le
  unfold maxLen at hn
  have R := Lib.hid hr
  have HL := Lib.hid hl
  clear hr hl
  go_enter Try.func190, Try.ntmps190
  go_wp2_with fail
  go_loopw [8] (fun v wr => ∃ k : Nat, k ≤ n ∧ v = .int .i64 k ∧ Hid (¬ x ∈ m.take k) ∧ wr = w) (fun v _ => n - (intOf v).toNat)
  case atStart => exact ⟨0, by omega, rfl, by simp [Hid], rfl⟩
  case round =>
    obtain ⟨k, hk, rfl, HT, rfl⟩ := hrel
    by_cases hlt : k < n
    · obtain ⟨b, o, rfl, _, _⟩ := R.out.form (by omega)
      have hli : k < m.length := by rw [HL.out]; exact hlt
      have p0 := int_cell R.out k hli
      have HM : Hid (m[k] ∈ m) := List.getElem_mem _
      have HS : Hid (m.take (k + 1) = m.take k ++ [m[k]]) := List.take_succ_eq_append_getElem hli
      generalize m[k] = y at p0 HM HS
      clear hli
      by_cases he : x = y
      · subst he
        go_wp2_with fail
        go_ret
        exact ⟨k, rfl, ⟨fun _ => HM.out, fun _ => by omega⟩, rfl⟩
      · have HT2 : Hid (¬ x ∈ m.take (k + 1)) := by
          show ¬ _
          rw [HS.out]
          have := HT.out
          simp only [List.mem_append, List.mem_singleton, not_or]
          exact ⟨this, he⟩
        have hq : (x == y) = false := by simp [he]
        clear he
        go_wp2_with fail
        go_roundw
        case rel => exact ⟨k + 1, by omega, by go_num, HT2.out, by trivial⟩
        case measure => simp [intOf]; omega
    · go_wp2_with fail
      go_ret
      have := HT.out
      rw [List.take_of_length_le (by rw [HL.out]; omega)] at this
      exact ⟨-1, rfl, ⟨fun h => by omega, fun h => absurd h this⟩, rfl⟩
theorem containsInt (a : Option Addr) (n c : Nat) (m : List Int) (x : Int) (b : Bool) (hb : b = true ↔ x ∈ m) (w : World) (hr : ArgRow w a n c 1 (ints m)) :
    Calls Try.prog 174 #[.slice a n c, .int .i64 x] w fun e w' => e = .returned (.bool b) ∧ w = w' := by
  go_enter Try.func174, Try.ntmps174
  go_wp2_with fail
  refine (indexInt a n c m x _ hr).mono ?_
  rintro e w' ⟨i, rfl, hi, rfl⟩
  by_cases h0 : 0 ≤ i
  · have : b = true := hb.2 (hi.1 h0)
    subst this
    clear hi hb
    go_wp2_with fail
    go_ret
    exact ⟨rfl, rfl⟩
  · have : b = false := bfalse hb (fun h => h0 (hi.2 h))
    subst this
    clear hi hb
    go_wp2_with fail
    go_ret
    exact ⟨by show Ending.returned (.bool (decide (0 ≤ i))) = _; rw [decide_eq_false (by omega)], rfl⟩

set_option maxRecDepth 100000 in
set_option maxHeartbeats 8000000 in
theorem implOthers (M : Nat) (E S : Int) (a : Option Addr) (n c : Nat) (al : Option Addr) (nl cl : Nat) (q : List Int) (hM : M ≤ 5) (w : World) (hr : ArgRow w al nl cl 1 (ints q)) :
    Calls Try.prog 182 #[netV M E S a n c, .slice al nl cl] w fun e w' => ∃ g c', e = .returned (.slice (some ⟨g, 0, none⟩) (others M q).length c') ∧ w'.ownsRow w.heap.size 3 1 (.slice (some ⟨g, 0, none⟩) (others M q).length c') (others M q).length (ints (others M q)) ∧ Below w.heap.size w w' := by
  obtain ⟨i0, hi, hz0, hz1, hz2⟩ := info_parts infoInt
  have HI := Lib.hid (And.intro hi (And.intro hz0 (And.intro hz1 hz2)))
  clear hi hz0 hz1 hz2
  have HR := Lib.hid hr
  clear hr
  go_enter Try.func182, Try.ntmps182
  go_wp2_with fail
  go_loopw [5, 10] (fun v u wr => ∃ (k g cq : Nat), k ≤ M ∧ u = .int .i64 k ∧ v = .slice (some ⟨g, 0, none⟩) (others k q).length cq ∧ Hid (wr.ownsRow (w.heap.size + 1) 3 1 (.slice (some ⟨g, 0, none⟩) (others k q).length cq) (others k q).length (ints (others k q))) ∧ Hid (Below (w.heap.size + 1) (NBox M E S a n c w) wr)) (fun _ u _ => M - (intOf u).toNat)
  case atStart => exact ⟨0, w.heap.size + 1, 0, by omega, rfl, rfl, by
    have := World.ownsRow_lit (base := w.heap.size + 1) (size := 1) (e := 3) (NBox M E S a n c w) #[] 0 (by simp) (by simp) rfl
    show World.ownsRow _ _ _ _ _ _ _
    simpa [others, upto, ints] using this, (Below.refl _ _).alloc (by simp) _⟩
  case round =>
    obtain ⟨k, g, cq, hk, rfl, rfl, H, HB⟩ := hrel
    obtain ⟨hB, hz1, u1, hz2, hz3⟩ := nbox_cells HB.out
    by_cases hlt : k < M
    · obtain ⟨b, hb⟩ := bool_of ((k : Int) ∈ q)
      have hsu := others_succ k q b (by cases b <;> simp_all)
      have KC := Lib.hid (fun (w : World) r => containsInt al nl cl q k b hb w r)
      have R1 := Lib.hid (HR.out.below hB)
      have HB' := Lib.hid hB
      clear hb hB
      go_wp2_with fail
      refine (KC.out _ R1.out).mono ?_
      rintro e w1 ⟨rfl, rfl⟩
      cases b with
      | true =>
        rw [if_pos rfl] at hsu
        go_wp2_with fail
        go_roundw
        case rel => exact ⟨k + 1, g, cq, by omega, by go_num, by rw [hsu], by rw [hsu]; exact H.out, HB.out⟩
        case measure => simp [intOf]; omega
      | false =>
        simp only [Bool.false_eq_true, if_false] at hsu
        have hown := H.out
        have hol := others_len k q
        go_wp2_with (at_builtin; refine wpList_append_own _ rfl _ _ 60 rfl (w.heap.size + 1) 3 i0 (.int .i64 0) 1 8 Try.underlying60 HI.out.1 HI.out.2.1 HI.out.2.2.1 HI.out.2.2.2 rfl (by decide) _ _ _ rfl (hown.alloc _) ⟨wr.heap.size, 0, none⟩ 1 1 [.int .i64 k] rfl rfl ?c1 ?c2 ?c3 ?c4 ?c5 ?_)
        case c1 => exact cell_one_new _ _ _
        case c2 => intro v hv; simp at hv; subst hv; rfl
        case c3 => unfold maxLen; omega
        case c4 => omega
        case c5 => simp; omega
        intro v' w2 hown' hgrow _
        obtain ⟨g3, c3, rfl⟩ := own_some hown' (by omega)
        have e3 : (others (k + 1) q).length = (others k q).length + 1 := by rw [hsu]; simp
        have H3 : Hid (w2.ownsRow (w.heap.size + 1) 3 1 (.slice (some ⟨g3, 0, none⟩) (others (k + 1) q).length c3) (others (k + 1) q).length (ints (others (k + 1) q))) := by
          show World.ownsRow _ _ _ _ _ _ _
          rw [e3, hsu, ← ints_snoc]; exact hown'
        have HB3 : Hid (Below (w.heap.size + 1) (NBox M E S a n c w) w2) := (HB.out.alloc (by omega) _).grown hgrow (by simp; omega) (fun k hk => (hown.lt k hk).1)
        clear hown hown' hgrow
        rw [← e3]
        go_wp2_with fail
        go_roundw
        case rel => exact ⟨k + 1, g3, c3, by omega, by go_num, by rw [e3], H3.out, HB3.out⟩
        case measure => simp [intOf]; omega
    · obtain rfl : k = M := by omega
      go_wp2_with fail
      go_ret
      exact ⟨g, cq, rfl, H.out.mono (by omega), hB⟩
set_option maxRecDepth 100000 in
set_option maxHeartbeats 8000000 in
theorem specOthers (M : Nat) (al : Option Addr) (nl cl : Nat) (q : List Int) (hM : M ≤ 5) (w : World) (hr : ArgRow w al nl cl 1 (ints q)) :
    Calls Try.prog 181 #[.int .i64 M, .slice al nl cl] w fun e w' => ∃ g c', e = .returned (.slice (some ⟨g, 0, none⟩) (others M q).length c') ∧ w'.ownsRow w.heap.size 3 1 (.slice (some ⟨g, 0, none⟩) (others M q).length c') (others M q).length (ints (others M q)) ∧ Below w.heap.size w w' := by
  obtain ⟨i0, hi, hz0, hz1, hz2⟩ := info_parts infoInt
  have HI := Lib.hid (And.intro hi (And.intro hz0 (And.intro hz1 hz2)))
  clear hi hz0 hz1 hz2
  have HR := Lib.hid hr
  clear hr
  go_enter Try.func181, Try.ntmps181
  go_wp2_with fail
  go_loopw [5, 6] (fun v u wr => ∃ (k g cq : Nat), k ≤ M ∧ u = .int .i64 k ∧ v = .slice (some ⟨g, 0, none⟩) (others k q).length cq ∧ Hid (wr.ownsRow w.heap.size 3 1 (.slice (some ⟨g, 0, none⟩) (others k q).length cq) (others k q).length (ints (others k q))) ∧ Hid (Below w.heap.size w wr)) (fun _ u _ => M - (intOf u).toNat)
  case atStart => exact ⟨0, w.heap.size, 0, by omega, rfl, rfl, by
    have := World.ownsRow_lit (base := w.heap.size) (size := 1) (e := 3) w #[] 0 (by simp) (by simp) rfl
    show World.ownsRow _ _ _ _ _ _ _
    simpa [others, upto, ints] using this, (Below.refl _ _).alloc (by simp) _⟩
  case round =>
    obtain ⟨k, g, cq, hk, rfl, rfl, H, HB⟩ := hrel
    have hB := HB.out
    have hz1 := hB.size
    by_cases hlt : k < M
    · obtain ⟨b, hb⟩ := bool_of ((k : Int) ∈ q)
      have hsu := others_succ k q b (by cases b <;> simp_all)
      have KC := Lib.hid (fun (w : World) r => specHas al nl cl q k b hb w r)
      have R1 := Lib.hid (HR.out.below hB)
      have HB' := Lib.hid hB
      clear hb hB
      go_wp2_with fail
      refine (KC.out _ R1.out).mono ?_
      rintro e w1 ⟨rfl, rfl⟩
      cases b with
      | true =>
        rw [if_pos rfl] at hsu
        go_wp2_with fail
        go_roundw
        case rel => exact ⟨k + 1, g, cq, by omega, by go_num, by rw [hsu], by rw [hsu]; exact H.out, HB.out⟩
        case measure => simp [intOf]; omega
      | false =>
        simp only [Bool.false_eq_true, if_false] at hsu
        have hown := H.out
        have hol := others_len k q
        go_wp2_with (at_builtin; refine wpList_append_own _ rfl _ _ 60 rfl w.heap.size 3 i0 (.int .i64 0) 1 8 Try.underlying60 HI.out.1 HI.out.2.1 HI.out.2.2.1 HI.out.2.2.2 rfl (by decide) _ _ _ rfl (hown.alloc _) ⟨wr.heap.size, 0, none⟩ 1 1 [.int .i64 k] rfl rfl ?c1 ?c2 ?c3 ?c4 ?c5 ?_)
        case c1 => exact cell_one_new _ _ _
        case c2 => intro v hv; simp at hv; subst hv; rfl
        case c3 => unfold maxLen; omega
        case c4 => omega
        case c5 => simp; omega
        intro v' w2 hown' hgrow _
        obtain ⟨g3, c3, rfl⟩ := own_some hown' (by omega)
        have e3 : (others (k + 1) q).length = (others k q).length + 1 := by rw [hsu]; simp
        have H3 : Hid (w2.ownsRow w.heap.size 3 1 (.slice (some ⟨g3, 0, none⟩) (others (k + 1) q).length c3) (others (k + 1) q).length (ints (others (k + 1) q))) := by
          show World.ownsRow _ _ _ _ _ _ _
          rw [e3, hsu, ← ints_snoc]; exact hown'
        have HB3 : Hid (Below w.heap.size w w2) := (HB.out.alloc (by omega) _).grown hgrow (by simp; omega) (fun k hk => (hown.lt k hk).1)
        clear hown hown' hgrow
        rw [← e3]
        go_wp2_with fail
        go_roundw
        case rel => exact ⟨k + 1, g3, c3, by omega, by go_num, by rw [e3], H3.out, HB3.out⟩
        case measure => simp [intOf]; omega
    · obtain rfl : k = M := by omega
      go_wp2_with fail
      go_ret
      exact ⟨g, cq, rfl, H.out, hB⟩
end Go.Proofs.Ytdmiihljepkapaa
