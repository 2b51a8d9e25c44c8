/- ResistanceOf of the reference. -/
import Derived.Test.YtdmiihljepkapaaTreesS
import Derived.Test.YtdmiihljepkapaaResist
namespace Go.Proofs.Ytdmiihljepkapaa
set_option linter.unusedSimpArgs false
set_option linter.unusedVariables false
open Go.RowKit

theorem specForest (M : Nat) (E S : Int) (a : Option Addr) (n c : Nat) (l : List Wz) (p q : Int) (hp : 0 ≤ p ∧ p < M) (hq : 0 ≤ q ∧ q < M) (hok : NetOk M E S l) (w : World) (hr : ArgRow w a n c 3 (wires l)) (hl : l.length = n) :
    Calls Try.prog 80 #[netV M E S a n c, .int .i64 p, .int .i64 q] w fun e w' => e = .returned (.int .i64 (forestV M l p q)) ∧ Below w.heap.size w w' := by
  unfold forestV
  by_cases h : p = q
  · rw [if_pos h]; exact specForestSum1 M E S a n c l p q hok (fun h' => h'.2.2 h) w hr hl
  · rw [if_neg h]; exact specForestSum M E S a n c l p q hp hq h hok w hr hl

set_option maxRecDepth 100000 in
set_option maxHeartbeats 4000000 in
theorem specScaled (M : Nat) (E S : Int) (a : Option Addr) (n c : Nat) (l : List Wz) (x : Int) (hx : -750000000000 ≤ x ∧ x ≤ 750000000000) (hok : NetOk M E S l) (w : World) (hr : ArgRow w a n c 3 (wires l)) (hl : l.length = n) :
    Calls Try.prog 159 #[netV M E S a n c, .int .i64 x] w fun e w' => e = .returned (ratV (Gn.rat (S * x) (leftW M l [0] [0])).1 (Gn.rat (S * x) (leftW M l [0] [0])).2) ∧ Below w.heap.size w w' := by
  have HR := Lib.hid hr
  have KT := Lib.hid (fun (w : World) rr => specTreeSum M E S a n c l hok w rr hl)
  have hb2 := scale_bd hok.h.s1 hok.h.s2 hx
  have hb3 := tree_bd hok
  generalize leftW M l [0] [0] = T at KT hb3
  have KR := Lib.hid (fun (w : World) => specRatioOf (S * x) T w (by omega) (by omega) (by omega) (by omega))
  generalize (Gn.rat (S * x) T).1 = R1 at KR
  generalize (Gn.rat (S * x) T).2 = R2 at KR
  have hm1 : IntKind.i64.wrap (S * x) = S * x := IntWalk.i64_in _ (by omega)
  have hm2 : wrap64 (S * x) = S * x := by unfold wrap64; omega
  clear hr hok hb2
  go_enter Try.func159, Try.ntmps159
  go_wp2_with fail
  go_region_held3 (fun w' => w'.cell? ⟨w.heap.size, 0, none⟩ = some (.int .i64 M) ∧ w'.cell? ⟨w.heap.size, 1, none⟩ = some (.int .i64 E) ∧ w'.cell? ⟨w.heap.size, 2, none⟩ = some (.int .i64 S) ∧ w'.cell? ⟨w.heap.size, 3, none⟩ = some (.slice a n c)) (go_keep)
    ((first
    | (go_at_call 78; ((with_reducible refine (KT.out _ (HR.out.below (by (repeat' (first | (with_reducible exact Below.refl _ _) | (with_reducible assumption) | (with_reducible refine balloc ?_ _) | (with_reducible refine Below.drew ?_) | (with_reducible refine below_drewN ?_ _) | (with_reducible refine bset ?_ ?_ _) | (with_reducible refine bstep ?_ (by assumption)) | go_size))))).mono ?_); rintro e wT ⟨rfl, hbT⟩); (try (replace hbT := bdrew hbT)); (try (have hq_ := bltn hbT (b := w.heap.size) (by (first | omega | (simp only [World.size_alloc, World.size_setCell, World.size_drew, World.heap_drewN]; omega))); obtain ⟨uu, vv, zz, nn, mm⟩ := hq_)); (try (have hq_ := bltn hbT (b := w.heap.size + 1) (by (first | omega | (simp only [World.size_alloc, World.size_setCell, World.size_drew, World.heap_drewN]; omega))); obtain ⟨uu, vv, zz, nn, mm⟩ := hq_)))
    | (go_at_call 156; ((with_reducible refine (KR.out _).mono ?_); rintro e wR ⟨rfl, hbR⟩); (try (have hq_ := bltn hbR (b := w.heap.size) (by (first | omega | (simp only [World.size_alloc, World.size_setCell, World.size_drew, World.heap_drewN]; omega))); obtain ⟨uu, vv, zz, nn, mm⟩ := hq_)); (try (have hq_ := bltn hbR (b := w.heap.size + 1) (by (first | omega | (simp only [World.size_alloc, World.size_setCell, World.size_drew, World.heap_drewN]; omega))); obtain ⟨uu, vv, zz, nn, mm⟩ := hq_)))))
  all_goals
    go_wp2_with fail
    have rs0 : (wR.cell? { block := w.heap.size + 1, off := 0 }).isSome = true := by simp [go_sem, *]
    have rs1 : (wR.cell? { block := w.heap.size + 1, off := 1 }).isSome = true := by simp [go_sem, *]
    refine bodyPost_ret (v := (ratV R1 R2)) (by simp [results, Try.results159, go_sem, rs0, rs1]; try rfl) rfl ?_
    exact ⟨rfl, by (repeat' (first | (with_reducible exact Below.refl _ _) | (with_reducible assumption) | (with_reducible refine balloc ?_ _) | (with_reducible refine Below.drew ?_) | (with_reducible refine below_drewN ?_ _) | (with_reducible refine bset ?_ ?_ _) | (with_reducible refine bstep ?_ (by assumption)) | go_size))⟩

set_option maxRecDepth 100000 in
set_option maxHeartbeats 4000000 in
theorem specResistanceOf (M : Nat) (E S : Int) (a : Option Addr) (n c : Nat) (l : List Wz) (p q : Int) (hp : 0 ≤ p ∧ p < M) (hq : 0 ≤ q ∧ q < M) (hok : NetOk M E S l) (w : World) (hr : ArgRow w a n c 3 (wires l)) (hl : l.length = n) :
    Calls Try.prog 96 #[netV M E S a n c, .int .i64 p, .int .i64 q] w fun e w' => e = .returned (.tuple #[ratV (Gn.rat (S * forestV M l p q) (leftW M l [0] [0])).1 (Gn.rat (S * forestV M l p q) (leftW M l [0] [0])).2, .bool true]) ∧ Below w.heap.size w w' := by
  have HR := Lib.hid hr
  have hM1 := hok.h.n1
  have hM5 := hok.h.n5
  have KN := Lib.hid (fun (w : World) rr => specNetOk M E S a n c l true ⟨fun _ => hok, fun _ => rfl⟩ w rr hl)
  have KP := Lib.hid (fun (w : World) => specIn p 0 ((M : Int) - 1) true ⟨fun _ => by omega, fun _ => rfl⟩ w)
  have KQ := Lib.hid (fun (w : World) => specIn q 0 ((M : Int) - 1) true ⟨fun _ => by omega, fun _ => rfl⟩ w)
  have KF := Lib.hid (fun (w : World) rr => specForest M E S a n c l p q hp hq hok w rr hl)
  have hb1 := forestV_bd hok hp hq
  have KS := Lib.hid (fun (w : World) rr => specScaled M E S a n c l (forestV M l p q) hb1 hok w rr hl)
  generalize forestV M l p q = F at KF KS hb1
  generalize (Gn.rat (S * F) (leftW M l [0] [0])).1 = R1 at KS
  generalize (Gn.rat (S * F) (leftW M l [0] [0])).2 = R2 at KS
  clear hr hok hb1
  go_enter Try.func96, Try.ntmps96
  go_wp2_with fail
  refine (KN.out _ (HR.out.below (by (repeat' (first | (with_reducible exact Below.refl _ _) | (with_reducible assumption) | (with_reducible refine balloc ?_ _) | (with_reducible refine Below.drew ?_) | (with_reducible refine below_drewN ?_ _) | (with_reducible refine bset ?_ ?_ _) | (with_reducible refine bstep ?_ (by assumption)) | go_size))))).mono ?_
  rintro e w1 ⟨rfl, hb1⟩
  obtain ⟨uu1, vv1, zz1, nn1, mm1⟩ := bltn hb1 (b := w.heap.size) (by (first | omega | (simp only [World.size_alloc, World.size_setCell, World.size_drew, World.heap_drewN]; omega)))
  obtain ⟨xu1, xv1, xz1, xn1, xm1⟩ := bltn hb1 (b := w.heap.size + 1) (by (first | omega | (simp only [World.size_alloc, World.size_setCell, World.size_drew, World.heap_drewN]; omega)))
  have B1 : Hid (Below w.heap.size w w1) := bstep (by (repeat' (first | (with_reducible exact Below.refl _ _) | (with_reducible assumption) | (with_reducible refine balloc ?_ _) | (with_reducible refine Below.drew ?_) | (with_reducible refine below_drewN ?_ _) | (with_reducible refine bset ?_ ?_ _) | (with_reducible refine bstep ?_ (by assumption)) | go_size))) hb1
  go_wp2_with fail
  refine (KP.out _).mono ?_
  rintro e w9 ⟨rfl, rfl⟩
  go_wp2_with fail
  refine (KQ.out _).mono ?_
  rintro e w9 ⟨rfl, rfl⟩
  go_wp2_with fail
  go_region_held3 (fun w' => w'.cell? ⟨w.heap.size, 0, none⟩ = some (.int .i64 M) ∧ w'.cell? ⟨w.heap.size, 1, none⟩ = some (.int .i64 E) ∧ w'.cell? ⟨w.heap.size, 2, none⟩ = some (.int .i64 S) ∧ w'.cell? ⟨w.heap.size, 3, none⟩ = some (.slice a n c)) (go_keep)
    ((first
    | (go_at_call 80; ((with_reducible refine (KF.out _ (HR.out.below (by first | exact B1.out | exact B1.out.drew | (refine bstep ?_ (by assumption); first | exact B1.out | exact B1.out.drew) | (repeat' (first | (with_reducible exact Below.refl _ _) | (with_reducible assumption) | (with_reducible refine balloc ?_ _) | (with_reducible refine Below.drew ?_) | (with_reducible refine below_drewN ?_ _) | (with_reducible refine bset ?_ ?_ _) | (with_reducible refine bstep ?_ (by assumption)) | go_size))))).mono ?_); rintro e wF ⟨rfl, hbF⟩); (try (replace hbF := bdrew hbF)); (try (have hq_ := bltn hbF (b := w.heap.size) (by (first | omega | (simp only [World.size_alloc, World.size_setCell, World.size_drew, World.heap_drewN]; omega))); obtain ⟨uu, vv, zz, nn, mm⟩ := hq_)); (try (have hq_ := bltn hbF (b := w.heap.size + 1) (by (first | omega | (simp only [World.size_alloc, World.size_setCell, World.size_drew, World.heap_drewN]; omega))); obtain ⟨uu, vv, zz, nn, mm⟩ := hq_)))
    | (go_at_call 159; ((with_reducible refine (KS.out _ (HR.out.below (by first | exact B1.out | exact B1.out.drew | (refine bstep ?_ (by assumption); first | exact B1.out | exact B1.out.drew) | (repeat' (first | (with_reducible exact Below.refl _ _) | (with_reducible assumption) | (with_reducible refine balloc ?_ _) | (with_reducible refine Below.drew ?_) | (with_reducible refine below_drewN ?_ _) | (with_reducible refine bset ?_ ?_ _) | (with_reducible refine bstep ?_ (by assumption)) | go_size))))).mono ?_); rintro e wR ⟨rfl, hbR⟩); (try (have hq_ := bltn hbR (b := w.heap.size) (by (first | omega | (simp only [World.size_alloc, World.size_setCell, World.size_drew, World.heap_drewN]; omega))); obtain ⟨uu, vv, zz, nn, mm⟩ := hq_)); (try (have hq_ := bltn hbR (b := w.heap.size + 1) (by (first | omega | (simp only [World.size_alloc, World.size_setCell, World.size_drew, World.heap_drewN]; omega))); obtain ⟨uu, vv, zz, nn, mm⟩ := hq_)))))
  all_goals
    go_wp2_with fail
    have B1' := B1.out
    have rs0 : (wR.cell? { block := w.heap.size + 1, off := 0 }).isSome = true := by simp [go_sem, *]
    have rs1 : (wR.cell? { block := w.heap.size + 1, off := 1 }).isSome = true := by simp [go_sem, *]
    refine bodyPost_ret (v := (.tuple #[ratV R1 R2, .bool true])) (by simp [results, Try.results96, go_sem, rs0, rs1]; try rfl) rfl ?_
    exact ⟨rfl, by (repeat' (first | (with_reducible exact Below.refl _ _) | (with_reducible assumption) | (with_reducible refine balloc ?_ _) | (with_reducible refine Below.drew ?_) | (with_reducible refine below_drewN ?_ _) | (with_reducible refine bset ?_ ?_ _) | (with_reducible refine bstep ?_ (by assumption)) | go_size))⟩
set_option maxRecDepth 100000 in
set_option maxHeartbeats 4000000 in
theorem specResistanceOf0 (N E S : Int) (a : Option Addr) (n c : Nat) (l : List Wz) (p q : Int) (hok : ¬ NetOk N E S l) (w : World) (hr : ArgRow w a n c 3 (wires l)) (hl : l.length = n) :
    Calls Try.prog 96 #[netV N E S a n c, .int .i64 p, .int .i64 q] w fun e w' => e = .returned (.tuple #[ratV 0 0, .bool false]) ∧ Below w.heap.size w w' := by
  have HR := Lib.hid hr
  have KN := Lib.hid (fun (w : World) rr => specNetOk N E S a n c l false ⟨(fun h => by cases h), fun h => absurd h hok⟩ w rr hl)
  clear hr hok
  go_enter Try.func96, Try.ntmps96
  go_wp2_with fail
  refine (KN.out _ (HR.out.below (by (repeat' (first | (with_reducible exact Below.refl _ _) | (with_reducible assumption) | (with_reducible refine balloc ?_ _) | (with_reducible refine Below.drew ?_) | (with_reducible refine below_drewN ?_ _) | (with_reducible refine bset ?_ ?_ _) | (with_reducible refine bstep ?_ (by assumption)) | go_size))))).mono ?_
  rintro e w1 ⟨rfl, hb1⟩
  obtain ⟨xu1, xv1, xz1, xn1, xm1⟩ := bltn hb1 (b := w.heap.size + 1) (by (first | omega | (simp only [World.size_alloc, World.size_setCell, World.size_drew, World.heap_drewN]; omega)))
  have B1 : Below w.heap.size w w1 := bstep (by (repeat' (first | (with_reducible exact Below.refl _ _) | (with_reducible assumption) | (with_reducible refine balloc ?_ _) | (with_reducible refine Below.drew ?_) | (with_reducible refine below_drewN ?_ _) | (with_reducible refine bset ?_ ?_ _) | (with_reducible refine bstep ?_ (by assumption)) | go_size))) hb1
  go_wp2_with fail
  have rs0 : (w1.cell? { block := w.heap.size + 1, off := 0 }).isSome = true := by simp [go_sem, xu1]
  have rs1 : (w1.cell? { block := w.heap.size + 1, off := 1 }).isSome = true := by simp [go_sem, xu1]
  refine bodyPost_ret (v := (.tuple #[ratV 0 0, .bool false])) (by simp [results, Try.results96, go_sem, rs0, rs1]; try rfl) rfl ?_
  exact ⟨rfl, by (repeat' (first | (with_reducible exact Below.refl _ _) | (with_reducible assumption) | (with_reducible refine balloc ?_ _) | (with_reducible refine Below.drew ?_) | (with_reducible refine below_drewN ?_ _) | (with_reducible refine bset ?_ ?_ _) | (with_reducible refine bstep ?_ (by assumption)) | go_size))⟩
set_option maxRecDepth 100000 in
set_option maxHeartbeats 4000000 in
theorem specResistanceOf1 (M : Nat) (E S : Int) (a : Option Addr) (n c : Nat) (l : List Wz) (p q : Int) (hok : NetOk M E S l) (hb : ¬ ((0 ≤ p ∧ p < M) ∧ (0 ≤ q ∧ q < M))) (w : World) (hr : ArgRow w a n c 3 (wires l)) (hl : l.length = n) :
    Calls Try.prog 96 #[netV M E S a n c, .int .i64 p, .int .i64 q] w fun e w' => e = .returned (.tuple #[ratV 0 0, .bool false]) ∧ Below w.heap.size w w' := by
  have HR := Lib.hid hr
  have hM1 := hok.h.n1
  have hM5 := hok.h.n5
  have KN := Lib.hid (fun (w : World) rr => specNetOk M E S a n c l true ⟨fun _ => hok, fun _ => rfl⟩ w rr hl)
  obtain ⟨t1, ht1⟩ := bool_of (0 ≤ p ∧ p ≤ (M : Int) - 1)
  obtain ⟨t2, ht2⟩ := bool_of (0 ≤ q ∧ q ≤ (M : Int) - 1)
  have KP := Lib.hid (fun (w : World) => specIn p 0 ((M : Int) - 1) t1 ht1 w)
  have KQ := Lib.hid (fun (w : World) => specIn q 0 ((M : Int) - 1) t2 ht2 w)
  have hc : t1 = false ∨ (t1 = true ∧ t2 = false) := by
    cases t1
    · exact .inl rfl
    · cases t2
      · exact .inr ⟨rfl, rfl⟩
      · have g1 := ht1.1 rfl
        have g2 := ht2.1 rfl
        exact absurd ⟨by omega, by omega⟩ hb
  clear hr hok hb ht1 ht2
  rcases hc with rfl | ⟨rfl, rfl⟩
  · go_enter Try.func96, Try.ntmps96
    go_wp2_with fail
    refine (KN.out _ (HR.out.below (by (repeat' (first | (with_reducible exact Below.refl _ _) | (with_reducible assumption) | (with_reducible refine balloc ?_ _) | (with_reducible refine Below.drew ?_) | (with_reducible refine below_drewN ?_ _) | (with_reducible refine bset ?_ ?_ _) | (with_reducible refine bstep ?_ (by assumption)) | go_size))))).mono ?_
    rintro e w1 ⟨rfl, hb1⟩
    obtain ⟨uu1, vv1, zz1, nn1, mm1⟩ := bltn hb1 (b := w.heap.size) (by (first | omega | (simp only [World.size_alloc, World.size_setCell, World.size_drew, World.heap_drewN]; omega)))
    obtain ⟨xu1, xv1, xz1, xn1, xm1⟩ := bltn hb1 (b := w.heap.size + 1) (by (first | omega | (simp only [World.size_alloc, World.size_setCell, World.size_drew, World.heap_drewN]; omega)))
    have B1 : Below w.heap.size w w1 := bstep (by (repeat' (first | (with_reducible exact Below.refl _ _) | (with_reducible assumption) | (with_reducible refine balloc ?_ _) | (with_reducible refine Below.drew ?_) | (with_reducible refine below_drewN ?_ _) | (with_reducible refine bset ?_ ?_ _) | (with_reducible refine bstep ?_ (by assumption)) | go_size))) hb1
    go_wp2_with fail
    refine (KP.out _).mono ?_
    rintro e w9 ⟨rfl, rfl⟩
    go_wp2_with fail
    have rs0 : (w1.cell? { block := w.heap.size + 1, off := 0 }).isSome = true := by simp [go_sem, xu1]
    have rs1 : (w1.cell? { block := w.heap.size + 1, off := 1 }).isSome = true := by simp [go_sem, xu1]
    refine bodyPost_ret (v := (.tuple #[ratV 0 0, .bool false])) (by simp [results, Try.results96, go_sem, rs0, rs1]; try rfl) rfl ?_
    exact ⟨rfl, by (repeat' (first | (with_reducible exact Below.refl _ _) | (with_reducible assumption) | (with_reducible refine balloc ?_ _) | (with_reducible refine Below.drew ?_) | (with_reducible refine below_drewN ?_ _) | (with_reducible refine bset ?_ ?_ _) | (with_reducible refine bstep ?_ (by assumption)) | go_size))⟩
  · go_enter Try.func96, Try.ntmps96
    go_wp2_with fail
    refine (KN.out _ (HR.out.below (by (repeat' (first | (with_reducible exact Below.refl _ _) | (with_reducible assumption) | (with_reducible refine balloc ?_ _) | (with_reducible refine Below.drew ?_) | (with_reducible refine below_drewN ?_ _) | (with_reducible refine bset ?_ ?_ _) | (with_reducible refine bstep ?_ (by assumption)) | go_size))))).mono ?_
    rintro e w1 ⟨rfl, hb1⟩
    obtain ⟨uu1, vv1, zz1, nn1, mm1⟩ := bltn hb1 (b := w.heap.size) (by (first | omega | (simp only [World.size_alloc, World.size_setCell, World.size_drew, World.heap_drewN]; omega)))
    obtain ⟨xu1, xv1, xz1, xn1, xm1⟩ := bltn hb1 (b := w.heap.size + 1) (by (first | omega | (simp only [World.size_alloc, World.size_setCell, World.size_drew, World.heap_drewN]; omega)))
    have B1 : Below w.heap.size w w1 := bstep (by (repeat' (first | (with_reducible exact Below.refl _ _) | (with_reducible assumption) | (with_reducible refine balloc ?_ _) | (with_reducible refine Below.drew ?_) | (with_reducible refine below_drewN ?_ _) | (with_reducible refine bset ?_ ?_ _) | (with_reducible refine bstep ?_ (by assumption)) | go_size))) hb1
    go_wp2_with fail
    refine (KP.out _).mono ?_
    rintro e w9 ⟨rfl, rfl⟩
    go_wp2_with fail
    refine (KQ.out _).mono ?_
    rintro e w9 ⟨rfl, rfl⟩
    go_wp2_with fail
    have rs0 : (w1.cell? { block := w.heap.size + 1, off := 0 }).isSome = true := by simp [go_sem, xu1]
    have rs1 : (w1.cell? { block := w.heap.size + 1, off := 1 }).isSome = true := by simp [go_sem, xu1]
    refine bodyPost_ret (v := (.tuple #[ratV 0 0, .bool false])) (by simp [results, Try.results96, go_sem, rs0, rs1]; try rfl) rfl ?_
    exact ⟨rfl, by (repeat' (first | (with_reducible exact Below.refl _ _) | (with_reducible assumption) | (with_reducible refine balloc ?_ _) | (with_reducible refine Below.drew ?_) | (with_reducible refine below_drewN ?_ _) | (with_reducible refine bset ?_ ?_ _) | (with_reducible refine bstep ?_ (by assumption)) | go_size))⟩
end Go.Proofs.Ytdmiihljepkapaa
