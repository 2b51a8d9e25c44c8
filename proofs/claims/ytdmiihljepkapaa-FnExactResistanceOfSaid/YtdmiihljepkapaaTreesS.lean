/- Sums over trees: the reference's. -/
import Derived.Test.YtdmiihljepkapaaTrees
import Derived.Test.YtdmiihljepkapaaLeft2
namespace Go.Proofs.Ytdmiihljepkapaa
set_option linter.unusedSimpArgs false
set_option linter.unusedVariables false
open Go.RowKit

set_option maxRecDepth 100000 in
set_option maxHeartbeats 4000000 in
theorem specTreeSum (M : Nat) (E S : Int) (a : Option Addr) (n c : Nat) (l : List Wz) (hok : NetOk M E S l) (w : World) (hr : ArgRow w a n c 3 (wires l)) (hl : l.length = n) :
    Calls Try.prog 78 #[netV M E S a n c] w fun e w' => e = .returned (.int .i64 (leftW M l [0] [0])) ∧ Below w.heap.size w w' := by
  have HR := Lib.hid hr
  have KN := Lib.hid (fun (w : World) rr => specNetOk M E S a n c l true ⟨fun _ => hok, fun _ => rfl⟩ w rr hl)
  have KL := Lib.hid (fun (g1 g2 : Nat) (w : World) rr r1 r2 => specMinor M E S a n c l g1 g2 1 1 1 1 [0] [0] rfl hok w rr hl r1 r2)
  have hM1 := hok.h.n1
  have hM5 := hok.h.n5
  clear hr hok
  go_enter Try.func78, Try.ntmps78
  go_wp2_with fail
  refine (KN.out _ (HR.out.below (by (repeat' (first | (with_reducible exact Below.refl _ _) | (with_reducible assumption) | (with_reducible refine balloc ?_ _) | (with_reducible refine Below.drew ?_) | (with_reducible refine below_drewN ?_ _) | (with_reducible refine bset ?_ ?_ _) | (with_reducible refine bstep ?_ (by assumption)) | go_size))))).mono ?_
  rintro e w1 ⟨rfl, hb1⟩
  obtain ⟨uu1, vv1, zz1, nn1, mm1⟩ := bltn hb1 (b := w.heap.size) (by (first | omega | (simp only [World.size_alloc, World.size_setCell, World.size_drew, World.heap_drewN]; omega)))
  have B1 : Hid (Below w.heap.size w w1) := bstep (by (repeat' (first | (with_reducible exact Below.refl _ _) | (with_reducible assumption) | (with_reducible refine balloc ?_ _) | (with_reducible refine Below.drew ?_) | (with_reducible refine below_drewN ?_ _) | (with_reducible refine bset ?_ ?_ _) | (with_reducible refine bstep ?_ (by assumption)) | go_size))) hb1
  go_wp2_with fail
  have R1 := Lib.hid ((row_one w1 0).below (w' := (w1.alloc (.cells #[.int .i64 0] 3)).alloc (.cells #[.int .i64 0] 3)) (balloc (Below.refl _ _) _))
  have R2 : Hid (ArgRow ((w1.alloc (.cells #[.int .i64 0] 3)).alloc (.cells #[.int .i64 0] 3)) (some ⟨w1.heap.size + 1, 0, none⟩) 1 1 1 (ints [0])) := by
    have := row_one (w1.alloc (.cells #[.int .i64 0] 3)) 0
    simpa [Hid] using this
  refine (KL.out w1.heap.size (w1.heap.size + 1) _ (HR.out.below (balloc (balloc B1.out _) _)) R1.out R2.out).mono ?_
  rintro e wz ⟨rfl, hbz⟩
  go_wp2_with fail
  go_ret
  exact ⟨rfl, bstep (balloc (balloc B1.out _) _) hbz⟩
set_option maxRecDepth 100000 in
set_option maxHeartbeats 4000000 in
theorem specTreeSum0 (N : Int) (E S : Int) (a : Option Addr) (n c : Nat) (l : List Wz) (hok : ¬ NetOk N E S l) (w : World) (hr : ArgRow w a n c 3 (wires l)) (hl : l.length = n) :
    Calls Try.prog 78 #[netV N E S a n c] w fun e w' => e = .returned (.int .i64 0) ∧ Below w.heap.size w w' := by
  have HR := Lib.hid hr
  have KN := Lib.hid (fun (w : World) rr => specNetOk N E S a n c l false ⟨(fun h => by cases h), fun h => absurd h hok⟩ w rr hl)
  clear hr hok
  go_enter Try.func78, Try.ntmps78
  go_wp2_with fail
  refine (KN.out _ (HR.out.below (by (repeat' (first | (with_reducible exact Below.refl _ _) | (with_reducible assumption) | (with_reducible refine balloc ?_ _) | (with_reducible refine Below.drew ?_) | (with_reducible refine below_drewN ?_ _) | (with_reducible refine bset ?_ ?_ _) | (with_reducible refine bstep ?_ (by assumption)) | go_size))))).mono ?_
  rintro e w1 ⟨rfl, hb1⟩
  go_wp2_with fail
  go_ret
  exact ⟨rfl, bstep (by (repeat' (first | (with_reducible exact Below.refl _ _) | (with_reducible assumption) | (with_reducible refine balloc ?_ _) | (with_reducible refine Below.drew ?_) | (with_reducible refine below_drewN ?_ _) | (with_reducible refine bset ?_ ?_ _) | (with_reducible refine bstep ?_ (by assumption)) | go_size))) hb1⟩
set_option maxRecDepth 100000 in
set_option maxHeartbeats 4000000 in
theorem specForestSum (M : Nat) (E S : Int) (a : Option Addr) (n c : Nat) (l : List Wz) (p : Int) (q : Int) (hp : 0 ≤ p ∧ p < M) (hq : 0 ≤ q ∧ q < M) (hpq : ¬ p = q) (hok : NetOk M E S l) (w : World) (hr : ArgRow w a n c 3 (wires l)) (hl : l.length = n) :
    Calls Try.prog 80 #[netV M E S a n c, .int .i64 p, .int .i64 q] w fun e w' => e = .returned (.int .i64 (leftW M l [p, q] [p, q])) ∧ Below w.heap.size w w' := by
  have HR := Lib.hid hr
  have KN := Lib.hid (fun (w : World) rr => specNetOk M E S a n c l true ⟨fun _ => hok, fun _ => rfl⟩ w rr hl)
  have KL := Lib.hid (fun (g1 g2 : Nat) (w : World) rr r1 r2 => specMinor M E S a n c l g1 g2 2 2 2 2 [p, q] [p, q] rfl hok w rr hl r1 r2)
  have hM1 := hok.h.n1
  have hM5 := hok.h.n5
  have KI0 := Lib.hid (fun (w : World) => specIn p 0 ((M : Int) - 1) true ⟨fun _ => by omega, fun _ => rfl⟩ w)
  have KI1 := Lib.hid (fun (w : World) => specIn q 0 ((M : Int) - 1) true ⟨fun _ => by omega, fun _ => rfl⟩ w)
  have hpq' : (p == q) = false := by simp [hpq]
  clear hpq
  clear hr hok
  go_enter Try.func80, Try.ntmps80
  go_wp2_with fail
  refine (KN.out _ (HR.out.below (by (repeat' (first | (with_reducible exact Below.refl _ _) | (with_reducible assumption) | (with_reducible refine balloc ?_ _) | (with_reducible refine Below.drew ?_) | (with_reducible refine below_drewN ?_ _) | (with_reducible refine bset ?_ ?_ _) | (with_reducible refine bstep ?_ (by assumption)) | go_size))))).mono ?_
  rintro e w1 ⟨rfl, hb1⟩
  obtain ⟨uu1, vv1, zz1, nn1, mm1⟩ := bltn hb1 (b := w.heap.size) (by (first | omega | (simp only [World.size_alloc, World.size_setCell, World.size_drew, World.heap_drewN]; omega)))
  have B1 : Hid (Below w.heap.size w w1) := bstep (by (repeat' (first | (with_reducible exact Below.refl _ _) | (with_reducible assumption) | (with_reducible refine balloc ?_ _) | (with_reducible refine Below.drew ?_) | (with_reducible refine below_drewN ?_ _) | (with_reducible refine bset ?_ ?_ _) | (with_reducible refine bstep ?_ (by assumption)) | go_size))) hb1
  go_wp2_with fail
  refine (KI0.out _).mono ?_
  rintro e w9 ⟨rfl, rfl⟩
  go_wp2_with fail
  refine (KI1.out _).mono ?_
  rintro e w9 ⟨rfl, rfl⟩
  go_wp2_with fail
  have R1 := Lib.hid ((row_two w1 p q).below (w' := (w1.alloc (.cells #[.int .i64 p, .int .i64 q] 3)).alloc (.cells #[.int .i64 p, .int .i64 q] 3)) (balloc (Below.refl _ _) _))
  have R2 : Hid (ArgRow ((w1.alloc (.cells #[.int .i64 p, .int .i64 q] 3)).alloc (.cells #[.int .i64 p, .int .i64 q] 3)) (some ⟨w1.heap.size + 1, 0, none⟩) 2 2 1 (ints [p, q])) := by
    have := row_two (w1.alloc (.cells #[.int .i64 p, .int .i64 q] 3)) p q
    simpa [Hid] using this
  refine (KL.out w1.heap.size (w1.heap.size + 1) _ (HR.out.below (balloc (balloc B1.out _) _)) R1.out R2.out).mono ?_
  rintro e wz ⟨rfl, hbz⟩
  go_wp2_with fail
  go_ret
  exact ⟨rfl, bstep (balloc (balloc B1.out _) _) hbz⟩
set_option maxRecDepth 100000 in
set_option maxHeartbeats 4000000 in
theorem specForestSum0 (N : Int) (E S : Int) (a : Option Addr) (n c : Nat) (l : List Wz) (p : Int) (q : Int) (hok : ¬ NetOk N E S l) (w : World) (hr : ArgRow w a n c 3 (wires l)) (hl : l.length = n) :
    Calls Try.prog 80 #[netV N E S a n c, .int .i64 p, .int .i64 q] w fun e w' => e = .returned (.int .i64 0) ∧ Below w.heap.size w w' := by
  have HR := Lib.hid hr
  have KN := Lib.hid (fun (w : World) rr => specNetOk N E S a n c l false ⟨(fun h => by cases h), fun h => absurd h hok⟩ w rr hl)
  clear hr hok
  go_enter Try.func80, Try.ntmps80
  go_wp2_with fail
  refine (KN.out _ (HR.out.below (by (repeat' (first | (with_reducible exact Below.refl _ _) | (with_reducible assumption) | (with_reducible refine balloc ?_ _) | (with_reducible refine Below.drew ?_) | (with_reducible refine below_drewN ?_ _) | (with_reducible refine bset ?_ ?_ _) | (with_reducible refine bstep ?_ (by assumption)) | go_size))))).mono ?_
  rintro e w1 ⟨rfl, hb1⟩
  go_wp2_with fail
  go_ret
  exact ⟨rfl, bstep (by (repeat' (first | (with_reducible exact Below.refl _ _) | (with_reducible assumption) | (with_reducible refine balloc ?_ _) | (with_reducible refine Below.drew ?_) | (with_reducible refine below_drewN ?_ _) | (with_reducible refine bset ?_ ?_ _) | (with_reducible refine bstep ?_ (by assumption)) | go_size))) hb1⟩
set_option maxRecDepth 100000 in
set_option maxHeartbeats 4000000 in
theorem specForestSum1 (M : Nat) (E S : Int) (a : Option Addr) (n c : Nat) (l : List Wz) (p : Int) (q : Int) (hok : NetOk M E S l) (hb : ¬ ((0 ≤ p ∧ p < M) ∧ (0 ≤ q ∧ q < M) ∧ ¬ p = q)) (w : World) (hr : ArgRow w a n c 3 (wires l)) (hl : l.length = n) :
    Calls Try.prog 80 #[netV M E S a n c, .int .i64 p, .int .i64 q] w fun e w' => e = .returned (.int .i64 0) ∧ Below w.heap.size w w' := by
  have HR := Lib.hid hr
  have KN := Lib.hid (fun (w : World) rr => specNetOk M E S a n c l true ⟨fun _ => hok, fun _ => rfl⟩ w rr hl)
  have hM1 := hok.h.n1
  have hM5 := hok.h.n5
  by_cases t0 : 0 ≤ p ∧ p ≤ (M : Int) - 1
  rotate_left
  · have KP0 := Lib.hid (fun (w : World) => specIn p 0 ((M : Int) - 1) false ⟨(fun h => by cases h), fun h => absurd h (by omega)⟩ w)
    clear hr hok hb
    go_enter Try.func80, Try.ntmps80
    go_wp2_with fail
    refine (KN.out _ (HR.out.below (by (repeat' (first | (with_reducible exact Below.refl _ _) | (with_reducible assumption) | (with_reducible refine balloc ?_ _) | (with_reducible refine Below.drew ?_) | (with_reducible refine below_drewN ?_ _) | (with_reducible refine bset ?_ ?_ _) | (with_reducible refine bstep ?_ (by assumption)) | go_size))))).mono ?_
    rintro e w1 ⟨rfl, hb1⟩
    obtain ⟨uu1, vv1, zz1, nn1, mm1⟩ := bltn hb1 (b := w.heap.size) (by (first | omega | (simp only [World.size_alloc, World.size_setCell, World.size_drew, World.heap_drewN]; omega)))
    have B1 : Hid (Below w.heap.size w w1) := bstep (by (repeat' (first | (with_reducible exact Below.refl _ _) | (with_reducible assumption) | (with_reducible refine balloc ?_ _) | (with_reducible refine Below.drew ?_) | (with_reducible refine below_drewN ?_ _) | (with_reducible refine bset ?_ ?_ _) | (with_reducible refine bstep ?_ (by assumption)) | go_size))) hb1
    go_wp2_with fail
    refine (KP0.out _).mono ?_
    rintro e w9 ⟨rfl, rfl⟩
    go_wp2_with fail
    go_ret
    exact ⟨rfl, B1.out⟩
  by_cases t1 : 0 ≤ q ∧ q ≤ (M : Int) - 1
  rotate_left
  · have KP0 := Lib.hid (fun (w : World) => specIn p 0 ((M : Int) - 1) true ⟨fun _ => by omega, fun _ => rfl⟩ w)
    have KP1 := Lib.hid (fun (w : World) => specIn q 0 ((M : Int) - 1) false ⟨(fun h => by cases h), fun h => absurd h (by omega)⟩ w)
    clear hr hok hb
    go_enter Try.func80, Try.ntmps80
    go_wp2_with fail
    refine (KN.out _ (HR.out.below (by (repeat' (first | (with_reducible exact Below.refl _ _) | (with_reducible assumption) | (with_reducible refine balloc ?_ _) | (with_reducible refine Below.drew ?_) | (with_reducible refine below_drewN ?_ _) | (with_reducible refine bset ?_ ?_ _) | (with_reducible refine bstep ?_ (by assumption)) | go_size))))).mono ?_
    rintro e w1 ⟨rfl, hb1⟩
    obtain ⟨uu1, vv1, zz1, nn1, mm1⟩ := bltn hb1 (b := w.heap.size) (by (first | omega | (simp only [World.size_alloc, World.size_setCell, World.size_drew, World.heap_drewN]; omega)))
    have B1 : Hid (Below w.heap.size w w1) := bstep (by (repeat' (first | (with_reducible exact Below.refl _ _) | (with_reducible assumption) | (with_reducible refine balloc ?_ _) | (with_reducible refine Below.drew ?_) | (with_reducible refine below_drewN ?_ _) | (with_reducible refine bset ?_ ?_ _) | (with_reducible refine bstep ?_ (by assumption)) | go_size))) hb1
    go_wp2_with fail
    refine (KP0.out _).mono ?_
    rintro e w9 ⟨rfl, rfl⟩
    go_wp2_with fail
    refine (KP1.out _).mono ?_
    rintro e w9 ⟨rfl, rfl⟩
    go_wp2_with fail
    go_ret
    exact ⟨rfl, B1.out⟩
  have e0 : p = q := by
    by_cases e : p = q
    · exact e
    · exact absurd ⟨by omega, by omega, e⟩ hb
  subst e0
  have KP0 := Lib.hid (fun (w : World) => specIn p 0 ((M : Int) - 1) true ⟨fun _ => by omega, fun _ => rfl⟩ w)
  have KP1 := Lib.hid (fun (w : World) => specIn p 0 ((M : Int) - 1) true ⟨fun _ => by omega, fun _ => rfl⟩ w)
  clear hr hok hb
  go_enter Try.func80, Try.ntmps80
  go_wp2_with fail
  refine (KN.out _ (HR.out.below (by (repeat' (first | (with_reducible exact Below.refl _ _) | (with_reducible assumption) | (with_reducible refine balloc ?_ _) | (with_reducible refine Below.drew ?_) | (with_reducible refine below_drewN ?_ _) | (with_reducible refine bset ?_ ?_ _) | (with_reducible refine bstep ?_ (by assumption)) | go_size))))).mono ?_
  rintro e w1 ⟨rfl, hb1⟩
  obtain ⟨uu1, vv1, zz1, nn1, mm1⟩ := bltn hb1 (b := w.heap.size) (by (first | omega | (simp only [World.size_alloc, World.size_setCell, World.size_drew, World.heap_drewN]; omega)))
  have B1 : Hid (Below w.heap.size w w1) := bstep (by (repeat' (first | (with_reducible exact Below.refl _ _) | (with_reducible assumption) | (with_reducible refine balloc ?_ _) | (with_reducible refine Below.drew ?_) | (with_reducible refine below_drewN ?_ _) | (with_reducible refine bset ?_ ?_ _) | (with_reducible refine bstep ?_ (by assumption)) | go_size))) hb1
  go_wp2_with fail
  refine (KP0.out _).mono ?_
  rintro e w9 ⟨rfl, rfl⟩
  go_wp2_with fail
  refine (KP1.out _).mono ?_
  rintro e w9 ⟨rfl, rfl⟩
  go_wp2_with fail
  go_ret
  exact ⟨rfl, B1.out⟩
set_option maxRecDepth 100000 in
set_option maxHeartbeats 4000000 in
theorem specCrossSum (M : Nat) (E S : Int) (a : Option Addr) (n c : Nat) (l : List Wz) (p : Int) (q : Int) (r : Int) (s : Int) (hp : 0 ≤ p ∧ p < q ∧ q < M ∧ 0 ≤ r ∧ r < s ∧ s < M) (hok : NetOk M E S l) (w : World) (hr : ArgRow w a n c 3 (wires l)) (hl : l.length = n) :
    Calls Try.prog 76 #[netV M E S a n c, .int .i64 p, .int .i64 q, .int .i64 r, .int .i64 s] w fun e w' => e = .returned (.tuple #[.int .i64 (leftW M l [p, q] [r, s]), .bool true]) ∧ Below w.heap.size w w' := by
  have HR := Lib.hid hr
  have KN := Lib.hid (fun (w : World) rr => specNetOk M E S a n c l true ⟨fun _ => hok, fun _ => rfl⟩ w rr hl)
  obtain ⟨h1, h2, h3, h4, h5, h6⟩ := hp
  have hlen : (others M [p, q]).length = (others M [r, s]).length := by
    have h9 := hok.h.n5
    rw [others_two (by omega) (by omega) (by omega) (by omega), others_two (by omega) (by omega) (by omega) (by omega)]
  have KL := Lib.hid (fun (g1 g2 : Nat) (w : World) rr r1 r2 => specMinor M E S a n c l g1 g2 2 2 2 2 [p, q] [r, s] hlen hok w rr hl r1 r2)
  have hM1 := hok.h.n1
  have hM5 := hok.h.n5
  have KI0 := Lib.hid (fun (w : World) => specIn p 0 ((M : Int) - 1) true ⟨fun _ => by omega, fun _ => rfl⟩ w)
  have KI1 := Lib.hid (fun (w : World) => specIn q (p + 1) ((M : Int) - 1) true ⟨fun _ => by omega, fun _ => rfl⟩ w)
  have KI2 := Lib.hid (fun (w : World) => specIn r 0 ((M : Int) - 1) true ⟨fun _ => by omega, fun _ => rfl⟩ w)
  have KI3 := Lib.hid (fun (w : World) => specIn s (r + 1) ((M : Int) - 1) true ⟨fun _ => by omega, fun _ => rfl⟩ w)
  clear hr hok
  go_enter Try.func76, Try.ntmps76
  go_wp2_with fail
  refine (KN.out _ (HR.out.below (by (repeat' (first | (with_reducible exact Below.refl _ _) | (with_reducible assumption) | (with_reducible refine balloc ?_ _) | (with_reducible refine Below.drew ?_) | (with_reducible refine below_drewN ?_ _) | (with_reducible refine bset ?_ ?_ _) | (with_reducible refine bstep ?_ (by assumption)) | go_size))))).mono ?_
  rintro e w1 ⟨rfl, hb1⟩
  obtain ⟨uu1, vv1, zz1, nn1, mm1⟩ := bltn hb1 (b := w.heap.size) (by (first | omega | (simp only [World.size_alloc, World.size_setCell, World.size_drew, World.heap_drewN]; omega)))
  have B1 : Hid (Below w.heap.size w w1) := bstep (by (repeat' (first | (with_reducible exact Below.refl _ _) | (with_reducible assumption) | (with_reducible refine balloc ?_ _) | (with_reducible refine Below.drew ?_) | (with_reducible refine below_drewN ?_ _) | (with_reducible refine bset ?_ ?_ _) | (with_reducible refine bstep ?_ (by assumption)) | go_size))) hb1
  go_wp2_with fail
  refine (KI0.out _).mono ?_
  rintro e w9 ⟨rfl, rfl⟩
  go_wp2_with fail
  refine (KI1.out _).mono ?_
  rintro e w9 ⟨rfl, rfl⟩
  go_wp2_with fail
  refine (KI2.out _).mono ?_
  rintro e w9 ⟨rfl, rfl⟩
  go_wp2_with fail
  refine (KI3.out _).mono ?_
  rintro e w9 ⟨rfl, rfl⟩
  go_wp2_with fail
  have R1 := Lib.hid ((row_two w1 p q).below (w' := (w1.alloc (.cells #[.int .i64 p, .int .i64 q] 3)).alloc (.cells #[.int .i64 r, .int .i64 s] 3)) (balloc (Below.refl _ _) _))
  have R2 : Hid (ArgRow ((w1.alloc (.cells #[.int .i64 p, .int .i64 q] 3)).alloc (.cells #[.int .i64 r, .int .i64 s] 3)) (some ⟨w1.heap.size + 1, 0, none⟩) 2 2 1 (ints [r, s])) := by
    have := row_two (w1.alloc (.cells #[.int .i64 p, .int .i64 q] 3)) r s
    simpa [Hid] using this
  refine (KL.out w1.heap.size (w1.heap.size + 1) _ (HR.out.below (balloc (balloc B1.out _) _)) R1.out R2.out).mono ?_
  rintro e wz ⟨rfl, hbz⟩
  go_wp2_with fail
  go_returns
  exact ⟨rfl, bstep (balloc (balloc B1.out _) _) hbz⟩
set_option maxRecDepth 100000 in
set_option maxHeartbeats 4000000 in
theorem specCrossSum0 (N : Int) (E S : Int) (a : Option Addr) (n c : Nat) (l : List Wz) (p : Int) (q : Int) (r : Int) (s : Int) (hok : ¬ NetOk N E S l) (w : World) (hr : ArgRow w a n c 3 (wires l)) (hl : l.length = n) :
    Calls Try.prog 76 #[netV N E S a n c, .int .i64 p, .int .i64 q, .int .i64 r, .int .i64 s] w fun e w' => e = .returned (.tuple #[.int .i64 0, .bool false]) ∧ Below w.heap.size w w' := by
  have HR := Lib.hid hr
  have KN := Lib.hid (fun (w : World) rr => specNetOk N E S a n c l false ⟨(fun h => by cases h), fun h => absurd h hok⟩ w rr hl)
  clear hr hok
  go_enter Try.func76, Try.ntmps76
  go_wp2_with fail
  refine (KN.out _ (HR.out.below (by (repeat' (first | (with_reducible exact Below.refl _ _) | (with_reducible assumption) | (with_reducible refine balloc ?_ _) | (with_reducible refine Below.drew ?_) | (with_reducible refine below_drewN ?_ _) | (with_reducible refine bset ?_ ?_ _) | (with_reducible refine bstep ?_ (by assumption)) | go_size))))).mono ?_
  rintro e w1 ⟨rfl, hb1⟩
  go_wp2_with fail
  go_returns
  exact ⟨rfl, bstep (by (repeat' (first | (with_reducible exact Below.refl _ _) | (with_reducible assumption) | (with_reducible refine balloc ?_ _) | (with_reducible refine Below.drew ?_) | (with_reducible refine below_drewN ?_ _) | (with_reducible refine bset ?_ ?_ _) | (with_reducible refine bstep ?_ (by assumption)) | go_size))) hb1⟩
set_option maxRecDepth 100000 in
set_option maxHeartbeats 4000000 in
theorem specCrossSum1 (M : Nat) (E S : Int) (a : Option Addr) (n c : Nat) (l : List Wz) (p : Int) (q : Int) (r : Int) (s : Int) (hok : NetOk M E S l) (hb : ¬ (0 ≤ p ∧ p < q ∧ q < M ∧ 0 ≤ r ∧ r < s ∧ s < M)) (w : World) (hr : ArgRow w a n c 3 (wires l)) (hl : l.length = n) :
    Calls Try.prog 76 #[netV M E S a n c, .int .i64 p, .int .i64 q, .int .i64 r, .int .i64 s] w fun e w' => e = .returned (.tuple #[.int .i64 0, .bool false]) ∧ Below w.heap.size w w' := by
  have HR := Lib.hid hr
  have KN := Lib.hid (fun (w : World) rr => specNetOk M E S a n c l true ⟨fun _ => hok, fun _ => rfl⟩ w rr hl)
  have hM1 := hok.h.n1
  have hM5 := hok.h.n5
  by_cases t0 : 0 ≤ p ∧ p ≤ (M : Int) - 1
  rotate_left
  · have KP0 := Lib.hid (fun (w : World) => specIn p 0 ((M : Int) - 1) false ⟨(fun h => by cases h), fun h => absurd h (by omega)⟩ w)
    clear hr hok hb
    go_enter Try.func76, Try.ntmps76
    go_wp2_with fail
    refine (KN.out _ (HR.out.below (by (repeat' (first | (with_reducible exact Below.refl _ _) | (with_reducible assumption) | (with_reducible refine balloc ?_ _) | (with_reducible refine Below.drew ?_) | (with_reducible refine below_drewN ?_ _) | (with_reducible refine bset ?_ ?_ _) | (with_reducible refine bstep ?_ (by assumption)) | go_size))))).mono ?_
    rintro e w1 ⟨rfl, hb1⟩
    obtain ⟨uu1, vv1, zz1, nn1, mm1⟩ := bltn hb1 (b := w.heap.size) (by (first | omega | (simp only [World.size_alloc, World.size_setCell, World.size_drew, World.heap_drewN]; omega)))
    have B1 : Hid (Below w.heap.size w w1) := bstep (by (repeat' (first | (with_reducible exact Below.refl _ _) | (with_reducible assumption) | (with_reducible refine balloc ?_ _) | (with_reducible refine Below.drew ?_) | (with_reducible refine below_drewN ?_ _) | (with_reducible refine bset ?_ ?_ _) | (with_reducible refine bstep ?_ (by assumption)) | go_size))) hb1
    go_wp2_with fail
    refine (KP0.out _).mono ?_
    rintro e w9 ⟨rfl, rfl⟩
    go_wp2_with fail
    go_returns
    exact ⟨rfl, B1.out⟩
  by_cases t1 : p + 1 ≤ q ∧ q ≤ (M : Int) - 1
  rotate_left
  · have KP0 := Lib.hid (fun (w : World) => specIn p 0 ((M : Int) - 1) true ⟨fun _ => by omega, fun _ => rfl⟩ w)
    have KP1 := Lib.hid (fun (w : World) => specIn q (p + 1) ((M : Int) - 1) false ⟨(fun h => by cases h), fun h => absurd h (by omega)⟩ w)
    clear hr hok hb
    go_enter Try.func76, Try.ntmps76
    go_wp2_with fail
    refine (KN.out _ (HR.out.below (by (repeat' (first | (with_reducible exact Below.refl _ _) | (with_reducible assumption) | (with_reducible refine balloc ?_ _) | (with_reducible refine Below.drew ?_) | (with_reducible refine below_drewN ?_ _) | (with_reducible refine bset ?_ ?_ _) | (with_reducible refine bstep ?_ (by assumption)) | go_size))))).mono ?_
    rintro e w1 ⟨rfl, hb1⟩
    obtain ⟨uu1, vv1, zz1, nn1, mm1⟩ := bltn hb1 (b := w.heap.size) (by (first | omega | (simp only [World.size_alloc, World.size_setCell, World.size_drew, World.heap_drewN]; omega)))
    have B1 : Hid (Below w.heap.size w w1) := bstep (by (repeat' (first | (with_reducible exact Below.refl _ _) | (with_reducible assumption) | (with_reducible refine balloc ?_ _) | (with_reducible refine Below.drew ?_) | (with_reducible refine below_drewN ?_ _) | (with_reducible refine bset ?_ ?_ _) | (with_reducible refine bstep ?_ (by assumption)) | go_size))) hb1
    go_wp2_with fail
    refine (KP0.out _).mono ?_
    rintro e w9 ⟨rfl, rfl⟩
    go_wp2_with fail
    refine (KP1.out _).mono ?_
    rintro e w9 ⟨rfl, rfl⟩
    go_wp2_with fail
    go_returns
    exact ⟨rfl, B1.out⟩
  by_cases t2 : 0 ≤ r ∧ r ≤ (M : Int) - 1
  rotate_left
  · have KP0 := Lib.hid (fun (w : World) => specIn p 0 ((M : Int) - 1) true ⟨fun _ => by omega, fun _ => rfl⟩ w)
    have KP1 := Lib.hid (fun (w : World) => specIn q (p + 1) ((M : Int) - 1) true ⟨fun _ => by omega, fun _ => rfl⟩ w)
    have KP2 := Lib.hid (fun (w : World) => specIn r 0 ((M : Int) - 1) false ⟨(fun h => by cases h), fun h => absurd h (by omega)⟩ w)
    clear hr hok hb
    go_enter Try.func76, Try.ntmps76
    go_wp2_with fail
    refine (KN.out _ (HR.out.below (by (repeat' (first | (with_reducible exact Below.refl _ _) | (with_reducible assumption) | (with_reducible refine balloc ?_ _) | (with_reducible refine Below.drew ?_) | (with_reducible refine below_drewN ?_ _) | (with_reducible refine bset ?_ ?_ _) | (with_reducible refine bstep ?_ (by assumption)) | go_size))))).mono ?_
    rintro e w1 ⟨rfl, hb1⟩
    obtain ⟨uu1, vv1, zz1, nn1, mm1⟩ := bltn hb1 (b := w.heap.size) (by (first | omega | (simp only [World.size_alloc, World.size_setCell, World.size_drew, World.heap_drewN]; omega)))
    have B1 : Hid (Below w.heap.size w w1) := bstep (by (repeat' (first | (with_reducible exact Below.refl _ _) | (with_reducible assumption) | (with_reducible refine balloc ?_ _) | (with_reducible refine Below.drew ?_) | (with_reducible refine below_drewN ?_ _) | (with_reducible refine bset ?_ ?_ _) | (with_reducible refine bstep ?_ (by assumption)) | go_size))) hb1
    go_wp2_with fail
    refine (KP0.out _).mono ?_
    rintro e w9 ⟨rfl, rfl⟩
    go_wp2_with fail
    refine (KP1.out _).mono ?_
    rintro e w9 ⟨rfl, rfl⟩
    go_wp2_with fail
    refine (KP2.out _).mono ?_
    rintro e w9 ⟨rfl, rfl⟩
    go_wp2_with fail
    go_returns
    exact ⟨rfl, B1.out⟩
  by_cases t3 : r + 1 ≤ s ∧ s ≤ (M : Int) - 1
  rotate_left
  · have KP0 := Lib.hid (fun (w : World) => specIn p 0 ((M : Int) - 1) true ⟨fun _ => by omega, fun _ => rfl⟩ w)
    have KP1 := Lib.hid (fun (w : World) => specIn q (p + 1) ((M : Int) - 1) true ⟨fun _ => by omega, fun _ => rfl⟩ w)
    have KP2 := Lib.hid (fun (w : World) => specIn r 0 ((M : Int) - 1) true ⟨fun _ => by omega, fun _ => rfl⟩ w)
    have KP3 := Lib.hid (fun (w : World) => specIn s (r + 1) ((M : Int) - 1) false ⟨(fun h => by cases h), fun h => absurd h (by omega)⟩ w)
    clear hr hok hb
    go_enter Try.func76, Try.ntmps76
    go_wp2_with fail
    refine (KN.out _ (HR.out.below (by (repeat' (first | (with_reducible exact Below.refl _ _) | (with_reducible assumption) | (with_reducible refine balloc ?_ _) | (with_reducible refine Below.drew ?_) | (with_reducible refine below_drewN ?_ _) | (with_reducible refine bset ?_ ?_ _) | (with_reducible refine bstep ?_ (by assumption)) | go_size))))).mono ?_
    rintro e w1 ⟨rfl, hb1⟩
    obtain ⟨uu1, vv1, zz1, nn1, mm1⟩ := bltn hb1 (b := w.heap.size) (by (first | omega | (simp only [World.size_alloc, World.size_setCell, World.size_drew, World.heap_drewN]; omega)))
    have B1 : Hid (Below w.heap.size w w1) := bstep (by (repeat' (first | (with_reducible exact Below.refl _ _) | (with_reducible assumption) | (with_reducible refine balloc ?_ _) | (with_reducible refine Below.drew ?_) | (with_reducible refine below_drewN ?_ _) | (with_reducible refine bset ?_ ?_ _) | (with_reducible refine bstep ?_ (by assumption)) | go_size))) hb1
    go_wp2_with fail
    refine (KP0.out _).mono ?_
    rintro e w9 ⟨rfl, rfl⟩
    go_wp2_with fail
    refine (KP1.out _).mono ?_
    rintro e w9 ⟨rfl, rfl⟩
    go_wp2_with fail
    refine (KP2.out _).mono ?_
    rintro e w9 ⟨rfl, rfl⟩
    go_wp2_with fail
    refine (KP3.out _).mono ?_
    rintro e w9 ⟨rfl, rfl⟩
    go_wp2_with fail
    go_returns
    exact ⟨rfl, B1.out⟩
  exact absurd ⟨by omega, by omega, by omega, by omega, by omega, by omega⟩ hb
end Go.Proofs.Ytdmiihljepkapaa
