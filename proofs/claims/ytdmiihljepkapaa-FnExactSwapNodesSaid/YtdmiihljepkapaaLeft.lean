/- Minors of a network's table, and the sums over trees: the program's and the reference's. -/
import Derived.Test.YtdmiihljepkapaaLapI
import Derived.Test.YtdmiihljepkapaaLapS
import Derived.Test.YtdmiihljepkapaaOthers
import Derived.Test.YtdmiihljepkapaaDetI
namespace Go.Proofs.Ytdmiihljepkapaa
set_option linter.unusedSimpArgs false
set_option linter.unusedVariables false
open Go.RowKit

theorem PG.grid {w : World} {base g N : Nat} {r : Nat → Nat} {f : Int → Int → Int} (h : PG w base g N N r (fun i j => f i j)) (hN : N ≤ maxLen) : IGrid w (some ⟨g, 0, none⟩) N N (tab N f) := by
  refine ⟨(List.range N).map fun i => (some ⟨r i, 0, none⟩, N, (upto N).map fun j => f i j), ?_, ⟨?_, Nat.le_refl _, hN, ?_⟩, ?_⟩
  · simp [tab, upto, Function.comp_def]
  · simp
  · by_cases h0 : N = 0
    · exact .inl h0
    · refine .inr ⟨g, 0, rfl, h.og.lt, fun j hj => ?_⟩
      simp at hj
      rw [Nat.zero_add, h.outer hj]
      simp [slV, upto_len]
  · intro x hx
    simp only [List.mem_map, List.mem_range] at hx
    obtain ⟨i, hi, rfl⟩ := hx
    refine ⟨by show (ints _).length = _; rw [ints_len]; simp [upto_len], by simp [upto_len], hN, .inr ⟨r i, 0, rfl, (h.rows i hi).lt, fun j hj => ?_⟩⟩
    have hj' : j < N := by have : j < (ints ((upto N).map fun j => f i j)).length := hj; rw [ints_len] at this; simpa [upto_len] using this
    have e : (ints ((upto N).map fun j => f i j))[j]? = some (.int .i64 (f i j)) := by
      rw [List.getElem?_eq_getElem (by rw [ints_len]; simp [upto_len]; exact hj'), ints_at _ j (by simp [upto_len]; exact hj')]
      simp [upto_at]
    obtain ⟨h1, h2⟩ := List.getElem?_eq_some_iff.1 e
    rw [Nat.zero_add, h.cell hi hj']
    exact congrArg some h2.symm
theorem tab_sq (N : Nat) (f : Int → Int → Int) : ∀ r ∈ tab N f, r.length = N := by
  intro r hr
  simp only [tab, List.mem_map] at hr
  obtain ⟨i, _, rfl⟩ := hr
  simp [upto_len]
set_option maxRecDepth 100000 in
set_option maxHeartbeats 8000000 in
theorem implLeft (M : Nat) (E S : Int) (a : Option Addr) (n c : Nat) (l : List Wz) (g1 g2 nr cr nc cc : Nat) (rows cols : List Int) (hlen : (others M rows).length = (others M cols).length) (hok : NetOk M E S l) (w : World) (hr : ArgRow w a n c 3 (wires l)) (hl : l.length = n) (h1 : ArgRow w (some ⟨g1, 0, none⟩) nr cr 1 (ints rows)) (h2 : ArgRow w (some ⟨g2, 0, none⟩) nc cc 1 (ints cols)) :
    Calls Try.prog 150 #[netV M E S a n c, .slice (some ⟨g1, 0, none⟩) nr cr, .slice (some ⟨g2, 0, none⟩) nc cc] w fun e w' => e = .returned (.int .i64 (leftW M l rows cols)) ∧ Below w.heap.size w w' := by
  have hM5 : M ≤ 5 := by have := hok.h.n5; omega
  have hMx : M ≤ maxLen := by unfold maxLen; omega
  have HR := Lib.hid hr
  have H1 := Lib.hid h1
  have H2 := Lib.hid h2
  have KL := Lib.hid (fun (w : World) r => implLapl M E S a n c l hok w r hl)
  have KR := Lib.hid (fun (w : World) r => implOthers M E S a n c (some ⟨g1, 0, none⟩) nr cr rows hM5 w r)
  have KC := Lib.hid (fun (w : World) r => implOthers M E S a n c (some ⟨g2, 0, none⟩) nc cc cols hM5 w r)
  have KD := Lib.hid (fun am arr acc cm crr ccc (w : World) hm h1 h2 => implDet M (tab M (lapE l)) hM5 (tab_sq M _) (others M rows) (others M cols) am arr acc cm (others M rows).length crr (others M cols).length ccc w hm h1 h2 hlen.symm (by have := others_len M rows; omega) (fun x hx => others_mem hx) (fun x hx => others_mem hx))
  have HV : Hid (detW (ent (tab M (lapE l))) (others M rows) (others M cols) = leftW M l rows cols) := rfl
  generalize detW (ent (tab M (lapE l))) (others M rows) (others M cols) = D at KD HV
  clear hr h1 h2 hok hlen
  go_enter Try.func150, Try.ntmps150
  go_wp2_with fail
  go_region_held3 (fun w' => w'.cell? ⟨w.heap.size, 0, none⟩ = some (.int .i64 M) ∧ w'.cell? ⟨w.heap.size, 1, none⟩ = some (.int .i64 E) ∧ w'.cell? ⟨w.heap.size, 2, none⟩ = some (.int .i64 S) ∧ w'.cell? ⟨w.heap.size, 3, none⟩ = some (.slice a n c)) (go_keep)
    ((first
    | (go_at_call 69; ((with_reducible refine (KL.out _ (HR.out.below (by (repeat' (first | (with_reducible exact Below.refl _ _) | (with_reducible assumption) | (with_reducible refine balloc ?_ _) | (with_reducible refine Below.drew ?_) | (with_reducible refine below_drewN ?_ _) | (with_reducible refine bset ?_ ?_ _) | (with_reducible refine bstep ?_ (by assumption)) | go_size))))).mono ?_); rintro e wL ⟨gL, rL, rfl, oL, hbL⟩); (try (replace hbL := bdrew hbL)); have GL := Lib.hid (PG.grid oL hMx); clear oL; (try (have hq_ := bltn hbL (b := w.heap.size) (by (first | omega | (simp only [World.size_alloc, World.size_setCell, World.size_drew, World.heap_drewN]; omega))); obtain ⟨uu, vv, zz, nn, mm⟩ := hq_)))
    | (go_at_call_of 182 g1; ((with_reducible refine (KR.out _ (H1.out.below (by (repeat' (first | (with_reducible exact Below.refl _ _) | (with_reducible assumption) | (with_reducible refine balloc ?_ _) | (with_reducible refine Below.drew ?_) | (with_reducible refine below_drewN ?_ _) | (with_reducible refine bset ?_ ?_ _) | (with_reducible refine bstep ?_ (by assumption)) | go_size))))).mono ?_); rintro e wA ⟨gA, cA, rfl, oA, hbA⟩); (try (replace hbA := bdrew hbA)); have RA := Lib.hid (ArgRow.own oA); clear oA; (try (have hq_ := bltn hbA (b := w.heap.size) (by (first | omega | (simp only [World.size_alloc, World.size_setCell, World.size_drew, World.heap_drewN]; omega))); obtain ⟨uu, vv, zz, nn, mm⟩ := hq_)))
    | (go_at_call_of 182 g2; ((with_reducible refine (KC.out _ (H2.out.below (by (repeat' (first | (with_reducible exact Below.refl _ _) | (with_reducible assumption) | (with_reducible refine balloc ?_ _) | (with_reducible refine Below.drew ?_) | (with_reducible refine below_drewN ?_ _) | (with_reducible refine bset ?_ ?_ _) | (with_reducible refine bstep ?_ (by assumption)) | go_size))))).mono ?_); rintro e wB ⟨gB, cB, rfl, oB, hbB⟩); (try (replace hbB := bdrew hbB)); have RB := Lib.hid (ArgRow.own oB); clear oB; (try (have hq_ := bltn hbB (b := w.heap.size) (by (first | omega | (simp only [World.size_alloc, World.size_setCell, World.size_drew, World.heap_drewN]; omega))); obtain ⟨uu, vv, zz, nn, mm⟩ := hq_)))
    | (go_at_call 133; ((with_reducible refine (KD.out (some ⟨gL, 0, none⟩) (some ⟨gA, 0, none⟩) (some ⟨gB, 0, none⟩) M cA cB _
        (by first | exact GL.out | exact GL.out.below hbA | exact GL.out.below hbB | exact (GL.out.below hbA).below hbB | exact (GL.out.below hbB).below hbA)
        (by first | exact RA.out | exact RA.out.below hbL | exact RA.out.below hbB | exact (RA.out.below hbL).below hbB | exact (RA.out.below hbB).below hbL)
        (by first | exact RB.out | exact RB.out.below hbA | exact RB.out.below hbL | exact (RB.out.below hbA).below hbL | exact (RB.out.below hbL).below hbA)).mono ?_); rintro e wD ⟨rfl, hbD⟩); (try (have hq_ := bltn hbD (b := w.heap.size) (by (first | omega | (simp only [World.size_alloc, World.size_setCell, World.size_drew, World.heap_drewN]; omega))); obtain ⟨uu, vv, zz, nn, mm⟩ := hq_)))))
  all_goals
    go_wp2_with fail
    go_ret
    exact ⟨by rw [← HV.out]; rfl, by (repeat' (first | (with_reducible exact Below.refl _ _) | (with_reducible assumption) | (with_reducible refine balloc ?_ _) | (with_reducible refine Below.drew ?_) | (with_reducible refine below_drewN ?_ _) | (with_reducible refine bset ?_ ?_ _) | (with_reducible refine bstep ?_ (by assumption)) | go_size))⟩
end Go.Proofs.Ytdmiihljepkapaa
