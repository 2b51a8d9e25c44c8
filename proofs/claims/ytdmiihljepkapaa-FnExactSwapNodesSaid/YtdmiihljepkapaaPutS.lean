/- Wires dropped and put by the reference. -/
import Derived.Test.YtdmiihljepkapaaPut
import Derived.Test.YtdmiihljepkapaaNetOk3
import Derived.Test.YtdmiihljepkapaaCount
import Derived.Deep.AppendLies
namespace Go.Proofs.Ytdmiihljepkapaa
set_option linter.unusedSimpArgs false
set_option linter.unusedVariables false
open Go.RowKit

theorem cell_wire_new (w : World) (x : Wz) (t : TypeId) : ∀ j u, (wireV x)[j]? = some u → (w.alloc (.cells #[.int .i64 x.1, .int .i64 x.2.1, .int .i64 x.2.2] t)).cell? ((⟨w.heap.size, 0, none⟩ : Addr).add j) = some u := World.news_of_block (heap_alloc_new w _)
theorem wireV_one (x : Wz) : ∀ u ∈ wireV x, u.oneCell' = true := by
  intro u hu
  simp [wireV] at hu
  rcases hu with rfl | rfl | rfl <;> rfl
theorem wires_snoc (l : List Wz) (x : Wz) : wires l ++ wireV x = wires (l ++ [x]) := by simp [wires]
/-- a wire's own box -/
def wireAt (x : Wz) (i : Nat) : Value := if i = 0 then .int .i64 x.1 else if i = 1 then .int .i64 x.2.1 else .int .i64 x.2.2
theorem wireAt_new (w : World) (x : Wz) (t : TypeId) : (w.alloc (.cells #[.int .i64 x.1, .int .i64 x.2.1, .int .i64 x.2.2] t)).rowIs w.heap.size t 3 (wireAt x) :=
  World.rowIs_alloc w _ t _ (fun i hi => by
    have : i = 0 ∨ i = 1 ∨ i = 2 := by simp at hi; omega
    rcases this with rfl | rfl | rfl <;> rfl)

set_option maxRecDepth 100000 in
set_option maxHeartbeats 4000000 in
theorem specDrop (a : Option Addr) (n c : Nat) (l : List Wz) (w : World) (hr : ArgRow w a n c 3 (wires l)) (hl : l.length = n) (hn : n ≤ 1048576) :
    Calls Try.prog 146 #[.slice a n c] w fun e w' => ∃ g c', e = .returned (.slice (some ⟨g, 0, none⟩) (dropL l).length c') ∧ w'.ownsRow w.heap.size 104 3 (.slice (some ⟨g, 0, none⟩) (dropL l).length c') (dropL l).length (wires (dropL l)) ∧ Below w.heap.size w w' := by
  obtain ⟨i0, hi, hz0, hz1, hz2⟩ := info_parts infoWire
  have HI := Lib.hid (And.intro hi (And.intro hz0 (And.intro hz1 hz2)))
  clear hi hz0 hz1 hz2
  have HR := Lib.hid hr
  have HL := Lib.hid hl
  clear hr hl
  go_enter Try.func146, Try.ntmps146
  go_wp2_with fail
  go_loopw [3, 9] (fun v u wr => ∃ (k m g cg : Nat) (L : List Wz), k ≤ n ∧ m ≤ k ∧ u = .int .i64 k ∧ v = .slice (some ⟨g, 0, none⟩) m cg ∧ Hid (L = dropL (l.take k) ∧ L.length = m) ∧ Hid (wr.ownsRow w.heap.size 104 3 (.slice (some ⟨g, 0, none⟩) m cg) m (wires L)) ∧ Hid (Below w.heap.size w wr)) (fun _ u _ => n - (intOf u).toNat)
  case atStart => exact ⟨0, 0, w.heap.size, 0, [], by omega, by omega, rfl, rfl, ⟨rfl, rfl⟩, World.ownsRow_lit (base := w.heap.size) (size := 3) w #[] 0 (by omega) (by simp) rfl, balloc (Below.refl _ _) _⟩
  case round =>
    obtain ⟨k, m, g, cg, L, hk, hm, rfl, rfl, HE, HO, HB⟩ := hrel
    by_cases hlt : k < n
    · have hli : k < l.length := by rw [HL.out]; exact hlt
      obtain ⟨b, o, rfl, hb, _⟩ := HR.out.form (by omega)
      obtain ⟨p0, p1, p2⟩ := wire_cells HR.out k hli
      have hbl : b < wr.heap.size := Nat.lt_of_lt_of_le hb HB.out.size
      rw [← HB.out.cell (p := ⟨b, _, none⟩) hb] at p0 p1 p2
      have hgl := (own_base HO.out _ rfl).2
      simp only at hgl
      have hsz := HB.out.size
      by_cases hx : l[k].2.2 = 0
      · have HE2 : Hid (L = dropL (l.take (k + 1)) ∧ L.length = m) := ⟨by rw [dropL_yes hli hx]; exact HE.out.1, HE.out.2⟩
        generalize l[k] = x at p0 p1 p2 hx
        obtain ⟨x0, x1, x2⟩ := x
        simp only at hx
        subst hx
        clear hli
        go_wp2_with fail
        go_roundw
        case rel => exact ⟨k + 1, m, g, cg, L, by omega, by omega, by go_num, rfl, HE2.out, HO.out.alloc _, balloc HB.out _⟩
        case measure => simp [intOf]; omega
      · have HE2 : Hid (L ++ [l[k]] = dropL (l.take (k + 1)) ∧ (L ++ [l[k]]).length = m + 1) := ⟨by rw [dropL_no hli hx, HE.out.1], by simp [HE.out.2]⟩
        generalize l[k] = x at p0 p1 p2 hx HE2
        obtain ⟨x0, x1, x2⟩ := x
        simp only at hx
        have hx2 : (x2 == 0) = false := by simp [hx]
        have hx3 : (x2 != 0) = true := by simp [hx]
        clear hli
        have hown := (HO.out.alloc (.cells #[.int .i64 x0, .int .i64 x1, .int .i64 x2] 104)).alloc (.cells #[.int .i64 x0, .int .i64 x1, .int .i64 x2] 104)
        go_wp2_with (at_builtin; refine wpList_append_lies _ rfl _ _ 23 rfl w.heap.size 104 i0 (.agg #[.int .i64 0, .int .i64 0, .int .i64 0]) 3 24 Try.underlying23 HI.out.1 HI.out.2.1 HI.out.2.2.1 HI.out.2.2.2 rfl (by decide) _ _ _ rfl hown ⟨wr.heap.size + 1, 0, none⟩ 1 1 (wireV (x0, x1, x2)) rfl rfl ?c1 ?c2 (by omega) ?c3 ?c4 ?c5 _ rfl ?_)
        case c1 => first | (exact fun j u hu => hu) | (have := cell_wire_new (wr.alloc (.cells #[.int .i64 x0, .int .i64 x1, .int .i64 x2] 104)) (x0, x1, x2) 104; simp only [World.size_alloc] at this; exact this)
        case c2 => exact wireV_one _
        case c3 => unfold maxLen; omega
        case c4 => omega
        case c5 => first | omega | (simp only [World.size_alloc]; omega) | (simp; omega)
        intro g3 c3 w7 hown' hgrow hlies hlt7
        have H7 : Hid (w7.ownsRow w.heap.size 104 3 (.slice (some ⟨g3, 0, none⟩) (m + 1) c3) (m + 1) (wires (L ++ [(x0, x1, x2)]))) := by
          show World.ownsRow _ _ _ _ _ _ _
          rw [← wires_snoc]; exact hown'
        have HB7 : Hid (Below w.heap.size w w7) := (balloc (balloc HB.out _) _).grown hgrow (by simp; omega) (fun q hq => (hown.lt q hq).1)
        clear hown hown' hgrow hlies
        go_wp2_with fail
        go_roundw
        case rel => exact ⟨k + 1, m + 1, g3, c3, L ++ [(x0, x1, x2)], by omega, by omega, by go_num, rfl, HE2.out, H7.out, HB7.out⟩
        case measure => simp [intOf]; omega
    · obtain rfl : k = n := by omega
      obtain ⟨e1, e2⟩ := HE.out
      have e3 : L = dropL l := by rw [e1, List.take_of_length_le (by rw [HL.out]; omega)]
      have HE3 := Lib.hid e3
      have HE4 := Lib.hid e2
      clear e1 e2 e3
      go_wp2_with fail
      go_ret
      refine ⟨g, cg, ?_, ?_, HB.out⟩
      · rw [← HE3.out, HE4.out]; rfl
      · rw [← HE3.out, HE4.out]; exact HO.out
end Go.Proofs.Ytdmiihljepkapaa
