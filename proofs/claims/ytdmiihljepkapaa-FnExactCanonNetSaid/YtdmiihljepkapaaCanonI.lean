/- CanonNet of the program. -/
import Derived.Test.YtdmiihljepkapaaNetOf
import Derived.Test.YtdmiihljepkapaaLeft
namespace Go.Proofs.Ytdmiihljepkapaa
set_option linter.unusedSimpArgs false
set_option linter.unusedVariables false
open Go.RowKit

set_option maxRecDepth 100000 in
set_option maxHeartbeats 8000000 in
theorem implCanonNet (M : Nat) (E S : Int) (a : Option Addr) (n c : Nat) (l : List Wz) (hok : NetOk M E S l) (w : World) (hr : ArgRow w a n c 3 (wires l)) (hl : l.length = n) :
    Calls Try.prog 65 #[netV M E S a n c] w fun e w' => NetRes e w w' true M E (Int.tdiv S (gL S.toNat l)) (divL (gL S.toNat l) l) ∧ Below w.heap.size w w' := by
  have HR := Lib.hid hr
  have KN := Lib.hid (fun (w : World) rr => implNetOk M E S a n c l true ⟨fun _ => hok, fun _ => rfl⟩ w rr hl)
  have hM5 : M ≤ 5 := by have := hok.h.n5; omega
  have hM1 : 1 ≤ M := by have := hok.h.n1; omega
  have hMx : M ≤ maxLen := by unfold maxLen; omega
  have KT := Lib.hid (fun (w : World) rr => implTable M E S a n c l hM5 hok.asc w rr hl)
  obtain ⟨s, rfl⟩ : ∃ s : Nat, S = s := ⟨S.toNat, by have := hok.h.s1; omega⟩
  have hs1 : 0 < s := by have := hok.h.s1; omega
  have hs2 : s ≤ 1000000000000000000 := by have := hok.h.s2; omega
  have hTL : tabL (wbF l) M M = l := hok.tabL rfl
  simp only [Int.toNat_natCast]
  obtain ⟨D, hD⟩ : ∃ D : Int, D = Int.tdiv (s : Int) (gL s l) := ⟨_, rfl⟩
  obtain ⟨L2, hL2⟩ : ∃ L2, L2 = divL (gL s l) l := ⟨_, rfl⟩
  obtain ⟨m2, hm2⟩ : ∃ m2, L2.length = m2 := ⟨_, rfl⟩
  have KO : Hid (∀ (w : World) (g : Nat), IGrid w (some ⟨g, 0, none⟩) M M (tab M (wbF l)) → Calls Try.prog 139 #[.int .i64 E, .int .i64 s, .slice (some ⟨g, 0, none⟩) M M, .bool true] w fun e w' => ∃ a' c', e = .returned (.tuple #[netV M E D a' m2 c', .bool true]) ∧ w'.ownsRow w.heap.size 104 3 (.slice a' m2 c') m2 (wires L2) ∧ Below w.heap.size w w') := by
    intro w g rr
    have h0 := implNetOf M E s (wbF l) (some ⟨g, 0, none⟩) M true true ⟨hM1, hM5⟩ hs1 hs2 (fun i j => by have := hok.wb i j; omega) (by rw [if_pos rfl, if_pos rfl, hTL]; exact ⟨fun _ => hok.canon rfl, fun _ => rfl⟩) w rr
    refine h0.mono ?_
    rintro e w' ⟨h1, h2⟩
    simp only [if_true, hTL] at h1
    rw [← hD, ← hL2] at h1
    unfold NetRes at h1
    rw [if_pos rfl, hm2] at h1
    obtain ⟨a', c', h3, h4⟩ := h1
    exact ⟨a', c', h3, h4, h2⟩
  rw [← hD, ← hL2]
  have HM2 := Lib.hid hm2
  have HSM : Hid (s ≤ 1000) := by have := hok.h.s2; show _ ≤ _; omega
  clear hr hok hTL hD hL2 hm2
  have HA0 : Hid (((w.alloc (.cells #[.int .i64 M, .int .i64 E, .int .i64 s, .slice a n c] 25)).alloc (.cells #[.int .i64 0, .int .i64 0, .int .i64 0, .slice none 0 0] 25)).rowIs (w.heap.size + 1) 25 4 (netAt (.int .i64 0) (.int .i64 0) (.int .i64 0) (.slice none 0 0))) := by
    have := netAt_new (w.alloc (.cells #[.int .i64 M, .int .i64 E, .int .i64 s, .slice a n c] 25)) (.int .i64 0) (.int .i64 0) (.int .i64 0) (.slice none 0 0) 25
    simpa [Hid] using this
  have HP0 : Hid (((w.alloc (.cells #[.int .i64 M, .int .i64 E, .int .i64 s, .slice a n c] 25)).alloc (.cells #[.int .i64 0, .int .i64 0, .int .i64 0, .slice none 0 0] 25)).rowIs w.heap.size 25 4 (netAt (.int .i64 M) (.int .i64 E) (.int .i64 s) (.slice a n c))) := (netAt_new _ _ _ _ _ _).alloc _
  go_enter Try.func65, Try.ntmps65
  go_wp2_with fail
  refine (KN.out _ (HR.out.below (by (repeat' (first | (with_reducible exact Below.refl _ _) | (with_reducible assumption) | (with_reducible refine balloc ?_ _) | (with_reducible refine Below.drew ?_) | (with_reducible refine below_drewN ?_ _) | (with_reducible refine bset ?_ ?_ _) | (with_reducible refine bstep ?_ (by assumption)) | go_size))))).mono ?_
  rintro e w1 ⟨rfl, hb1⟩
  have HA1 := Lib.hid (HA0.out.of_block (hb1.block _ HA0.out.lt))
  have HP1 := Lib.hid (HP0.out.of_block (hb1.block _ HP0.out.lt))
  have B1 : Hid (Below w.heap.size w w1) := bstep (by (repeat' (first | (with_reducible exact Below.refl _ _) | (with_reducible assumption) | (with_reducible refine balloc ?_ _) | (with_reducible refine Below.drew ?_) | (with_reducible refine below_drewN ?_ _) | (with_reducible refine bset ?_ ?_ _) | (with_reducible refine bstep ?_ (by assumption)) | go_size))) hb1
  clear HA0 HP0 hb1
  obtain ⟨t0, t1, t2, t3⟩ := netAt_cells HP1.out
  obtain ⟨r0, r1, r2, r3⟩ := netAt_cells HA1.out
  have f0 := HA1.out.frozen 0
  have f1 := HA1.out.frozen 1
  have f2 := HA1.out.frozen 2
  have f3 := HA1.out.frozen 3
  have hlA1 := HA1.out.lt
  have hlP1 := HP1.out.lt
  have B1' := B1.out
  go_wp2_with fail
  go_region_held3 (fun w' => w'.cell? ⟨w.heap.size, 0, none⟩ = some (.int .i64 M) ∧ w'.cell? ⟨w.heap.size, 1, none⟩ = some (.int .i64 E) ∧ w'.cell? ⟨w.heap.size, 2, none⟩ = some (.int .i64 s) ∧ w'.cell? ⟨w.heap.size, 3, none⟩ = some (.slice a n c)) (go_keep)
    ((first
    | (go_at_call 140; ((with_reducible refine (KT.out _ (HR.out.below (by (repeat' (first | (with_reducible exact Below.refl _ _) | (with_reducible assumption) | (with_reducible refine balloc ?_ _) | (with_reducible refine Below.drew ?_) | (with_reducible refine below_drewN ?_ _) | (with_reducible refine bset ?_ ?_ _) | (with_reducible refine bstep ?_ (by assumption)) | go_size))))).mono ?_); rintro e wT ⟨gT, rT, rfl, oT, hbT⟩); (try (replace hbT := bdrew hbT)); have GT := Lib.hid (PG.grid oT hMx); clear oT; (try (have hq_ := bltn hbT (b := w.heap.size) (by (first | omega | (simp only [World.size_alloc, World.size_setCell, World.size_drew, World.heap_drewN]; omega))); obtain ⟨uu, vv, zz, nn, mm⟩ := hq_)); (try (have hq_ := bltn hbT (b := w.heap.size + 1) (by (first | omega | (simp only [World.size_alloc, World.size_setCell, World.size_drew, World.heap_drewN]; omega))); obtain ⟨uu, vv, zz, nn, mm⟩ := hq_)))
    | (go_at_call 139; ((with_reducible refine (KO.out _ gT (by first | exact GT.out | exact GT.out.below (by (repeat' (first | (with_reducible exact Below.refl _ _) | (with_reducible assumption) | (with_reducible refine balloc ?_ _) | (with_reducible refine Below.drew ?_) | (with_reducible refine below_drewN ?_ _) | (with_reducible refine bset ?_ ?_ _) | (with_reducible refine bstep ?_ (by assumption)) | go_size))))).mono ?_); rintro e wO ⟨aO, cO, rfl, oO, hbO⟩); (try (replace hbO := bdrew hbO)); have OO := Lib.hid oO; clear oO; (try (have hq_ := bltn hbO (b := w.heap.size) (by (first | omega | (simp only [World.size_alloc, World.size_setCell, World.size_drew, World.heap_drewN]; omega))); obtain ⟨uu, vv, zz, nn, mm⟩ := hq_)); (try (have hq_ := bltn hbO (b := w.heap.size + 1) (by (first | omega | (simp only [World.size_alloc, World.size_setCell, World.size_drew, World.heap_drewN]; omega))); obtain ⟨uu, vv, zz, nn, mm⟩ := hq_)))))
  all_goals
    go_wp2_with fail
    have rs0 : (wO.cell? { block := w.heap.size + 1, off := 0 }).isSome = true := by simp [go_sem, *]
    have rs1 : (wO.cell? { block := w.heap.size + 1, off := 1 }).isSome = true := by simp [go_sem, *]
    have rs2 : (wO.cell? { block := w.heap.size + 1, off := 2 }).isSome = true := by simp [go_sem, *]
    have rs3 : (wO.cell? { block := w.heap.size + 1, off := 3 }).isSome = true := by simp [go_sem, *]
    refine bodyPost_ret (v := (.tuple #[netV M E D aO m2 cO, .bool true])) (by simp [results, Try.results65, go_sem, rs0, rs1, rs2, rs3]; try rfl) rfl ?_
    have HBO : Below w.heap.size w wO := by (repeat' (first | (with_reducible exact Below.refl _ _) | (with_reducible assumption) | (with_reducible refine balloc ?_ _) | (with_reducible refine Below.drew ?_) | (with_reducible refine below_drewN ?_ _) | (with_reducible refine bset ?_ ?_ _) | (with_reducible refine bstep ?_ (by assumption)) | go_size))
    refine ⟨?_, by (repeat' (first | (with_reducible exact Below.refl _ _) | (with_reducible assumption) | (with_reducible refine balloc ?_ _) | (with_reducible refine Below.drew ?_) | (with_reducible refine below_drewN ?_ _) | (with_reducible refine bset ?_ ?_ _) | (with_reducible refine bstep ?_ (by assumption)) | go_size))⟩
    unfold NetRes
    rw [if_pos rfl, HM2.out]
    refine ⟨aO, cO, rfl, ?_⟩
    refine World.ownsRow.mono (base := w.heap.size + 1 + 1) ?_ (by omega)
    have o9 := World.ownsRow.mono (base' := w.heap.size + 1 + 1) OO.out (by (first | omega | (simp only [World.size_alloc, World.size_setCell, World.size_drew, World.heap_drewN]; omega)))
    repeat' (first | with_reducible exact o9 | (with_reducible refine ownsRow_setCell_below ?_ ?_ _) | (dsimp only; omega) | omega)
set_option maxRecDepth 100000 in
set_option maxHeartbeats 8000000 in
theorem implCanonNet0 (N : Int) (E S : Int) (a : Option Addr) (n c : Nat) (l : List Wz) (hok : ¬ NetOk N E S l) (w : World) (hr : ArgRow w a n c 3 (wires l)) (hl : l.length = n) :
    Calls Try.prog 65 #[netV N E S a n c] w fun e w' => e = .returned (.tuple #[netV 0 0 0 none 0 0, .bool false]) ∧ Below w.heap.size w w' := by
  have HR := Lib.hid hr
  have KN := Lib.hid (fun (w : World) rr => implNetOk N E S a n c l false ⟨(fun h => by cases h), fun h => absurd h hok⟩ w rr hl)
  clear hr hok
  have HA0 : Hid (((w.alloc (.cells #[.int .i64 N, .int .i64 E, .int .i64 S, .slice a n c] 25)).alloc (.cells #[.int .i64 0, .int .i64 0, .int .i64 0, .slice none 0 0] 25)).rowIs (w.heap.size + 1) 25 4 (netAt (.int .i64 0) (.int .i64 0) (.int .i64 0) (.slice none 0 0))) := by
    have := netAt_new (w.alloc (.cells #[.int .i64 N, .int .i64 E, .int .i64 S, .slice a n c] 25)) (.int .i64 0) (.int .i64 0) (.int .i64 0) (.slice none 0 0) 25
    simpa [Hid] using this
  have HP0 : Hid (((w.alloc (.cells #[.int .i64 N, .int .i64 E, .int .i64 S, .slice a n c] 25)).alloc (.cells #[.int .i64 0, .int .i64 0, .int .i64 0, .slice none 0 0] 25)).rowIs w.heap.size 25 4 (netAt (.int .i64 N) (.int .i64 E) (.int .i64 S) (.slice a n c))) := (netAt_new _ _ _ _ _ _).alloc _
  go_enter Try.func65, Try.ntmps65
  go_wp2_with fail
  refine (KN.out _ (HR.out.below (by (repeat' (first | (with_reducible exact Below.refl _ _) | (with_reducible assumption) | (with_reducible refine balloc ?_ _) | (with_reducible refine Below.drew ?_) | (with_reducible refine below_drewN ?_ _) | (with_reducible refine bset ?_ ?_ _) | (with_reducible refine bstep ?_ (by assumption)) | go_size))))).mono ?_
  rintro e w1 ⟨rfl, hb1⟩
  have HA1 := Lib.hid (HA0.out.of_block (hb1.block _ HA0.out.lt))
  have HP1 := Lib.hid (HP0.out.of_block (hb1.block _ HP0.out.lt))
  have B1 : Hid (Below w.heap.size w w1) := bstep (by (repeat' (first | (with_reducible exact Below.refl _ _) | (with_reducible assumption) | (with_reducible refine balloc ?_ _) | (with_reducible refine Below.drew ?_) | (with_reducible refine below_drewN ?_ _) | (with_reducible refine bset ?_ ?_ _) | (with_reducible refine bstep ?_ (by assumption)) | go_size))) hb1
  clear HA0 HP0 hb1
  have hlP1 := HP1.out.lt
  obtain ⟨t0, t1, t2, t3⟩ := netAt_cells HP1.out
  obtain ⟨r0, r1, r2, r3⟩ := netAt_cells HA1.out
  have f0 := HA1.out.frozen 0
  have f1 := HA1.out.frozen 1
  have f2 := HA1.out.frozen 2
  have f3 := HA1.out.frozen 3
  have hlA1 := HA1.out.lt
  go_wp2_with fail
  have rs0 : (w1.cell? { block := w.heap.size + 1, off := 0 }).isSome = true := by simp [go_sem, *]
  have rs1 : (w1.cell? { block := w.heap.size + 1, off := 1 }).isSome = true := by simp [go_sem, *]
  have rs2 : (w1.cell? { block := w.heap.size + 1, off := 2 }).isSome = true := by simp [go_sem, *]
  have rs3 : (w1.cell? { block := w.heap.size + 1, off := 3 }).isSome = true := by simp [go_sem, *]
  refine bodyPost_ret (v := (.tuple #[netV 0 0 0 none 0 0, .bool false])) (by simp [results, Try.results65, go_sem, rs0, rs1, rs2, rs3]; try rfl) rfl ?_
  exact ⟨rfl, by have := B1.out; (repeat' (first | (with_reducible exact Below.refl _ _) | (with_reducible assumption) | (with_reducible refine balloc ?_ _) | (with_reducible refine Below.drew ?_) | (with_reducible refine below_drewN ?_ _) | (with_reducible refine bset ?_ ?_ _) | (with_reducible refine bstep ?_ (by assumption)) | go_size))⟩
end Go.Proofs.Ytdmiihljepkapaa
