/- Sums over trees: the program's. -/
import Derived.Test.YtdmiihljepkapaaLeft
namespace Go.Proofs.Ytdmiihljepkapaa
set_option linter.unusedSimpArgs false
set_option linter.unusedVariables false
open Go.RowKit

theorem others_pair : ∀ M : Nat, M < 6 → ∀ a : Nat, a < M → ∀ b : Nat, b < M → a ≠ b → (others M [(a : Int), (b : Int)]).length = M - 2 := by decide +kernel
theorem others_two {M : Nat} {a b : Int} (hM : M ≤ 5) (ha : 0 ≤ a ∧ a < M) (hb : 0 ≤ b ∧ b < M) (hab : a ≠ b) : (others M [a, b]).length = M - 2 := by
  obtain ⟨a', rfl⟩ : ∃ a' : Nat, a = a' := ⟨a.toNat, by omega⟩
  obtain ⟨b', rfl⟩ : ∃ b' : Nat, b = b' := ⟨b.toNat, by omega⟩
  exact others_pair M (by omega) a' (by omega) b' (by omega) (by omega)
theorem row_one (w : World) (x : Int) : ArgRow (w.alloc (.cells #[.int .i64 x] 3)) (some ⟨w.heap.size, 0, none⟩) 1 1 1 (ints [x]) := by
  have := World.ownsRow_lit (base := w.heap.size) (size := 1) (e := 3) w #[.int .i64 x] 1 (Nat.le_refl _) (by unfold maxLen; omega) rfl
  exact .of (own_row this)
theorem row_two (w : World) (x y : Int) : ArgRow (w.alloc (.cells #[.int .i64 x, .int .i64 y] 3)) (some ⟨w.heap.size, 0, none⟩) 2 2 1 (ints [x, y]) := by
  have := World.ownsRow_lit (base := w.heap.size) (size := 1) (e := 3) w #[.int .i64 x, .int .i64 y] 2 (Nat.le_refl _) (by unfold maxLen; omega) rfl
  exact .of (own_row this)
set_option maxHeartbeats 1000000 in
theorem implIsNode (N E S : Int) (a : Option Addr) (n c : Nat) (v : Int) (b : Bool) (hb : b = true ↔ 0 ≤ v ∧ v < N) (w : World) :
    Calls Try.prog 108 #[netV N E S a n c, .int .i64 v] w fun e w' => e = .returned (.bool b) ∧ Below w.heap.size w w' := by
  by_cases h1 : 0 ≤ v
  · by_cases h2 : v < N
    · have : b = true := hb.2 ⟨h1, h2⟩
      subst this
      clear hb
      go_enter Try.func108, Try.ntmps108
      go_wp2_with fail
      go_ret
      exact ⟨rfl, by (repeat' (first | (with_reducible exact Below.refl _ _) | (with_reducible assumption) | (with_reducible refine balloc ?_ _) | (with_reducible refine Below.drew ?_) | (with_reducible refine below_drewN ?_ _) | (with_reducible refine bset ?_ ?_ _) | (with_reducible refine bstep ?_ (by assumption)) | go_size))⟩
    · have : b = false := bfalse hb (fun h => h2 h.2)
      subst this
      clear hb
      go_enter Try.func108, Try.ntmps108
      go_wp2_with fail
      go_ret
      exact ⟨rfl, by (repeat' (first | (with_reducible exact Below.refl _ _) | (with_reducible assumption) | (with_reducible refine balloc ?_ _) | (with_reducible refine Below.drew ?_) | (with_reducible refine below_drewN ?_ _) | (with_reducible refine bset ?_ ?_ _) | (with_reducible refine bstep ?_ (by assumption)) | go_size))⟩
  · have : b = false := bfalse hb (fun h => h1 h.1)
    subst this
    clear hb
    go_enter Try.func108, Try.ntmps108
    go_wp2_with fail
    go_ret
    exact ⟨rfl, by (repeat' (first | (with_reducible exact Below.refl _ _) | (with_reducible assumption) | (with_reducible refine balloc ?_ _) | (with_reducible refine Below.drew ?_) | (with_reducible refine below_drewN ?_ _) | (with_reducible refine bset ?_ ?_ _) | (with_reducible refine bstep ?_ (by assumption)) | go_size))⟩

set_option maxRecDepth 100000 in
set_option maxHeartbeats 4000000 in
theorem implTreeSum (M : Nat) (E S : Int) (a : Option Addr) (n c : Nat) (l : List Wz) (hok : NetOk M E S l) (w : World) (hr : ArgRow w a n c 3 (wires l)) (hl : l.length = n) :
    Calls Try.prog 79 #[netV M E S a n c] w fun e w' => e = .returned (.int .i64 (leftW M l [0] [0])) ∧ Below w.heap.size w w' := by
  have HR := Lib.hid hr
  have KN := Lib.hid (fun (w : World) r => implNetOk M E S a n c l true ⟨fun _ => hok, fun _ => rfl⟩ w r hl)
  have KL := Lib.hid (fun (g1 g2 : Nat) (w : World) r r1 r2 => implLeft M E S a n c l g1 g2 1 1 1 1 [0] [0] rfl hok w r hl r1 r2)
  clear hr hok
  go_enter Try.func79, Try.ntmps79
  go_wp2_with fail
  refine (KN.out _ (HR.out.below (by (repeat' (first | (with_reducible exact Below.refl _ _) | (with_reducible assumption) | (with_reducible refine balloc ?_ _) | (with_reducible refine Below.drew ?_) | (with_reducible refine below_drewN ?_ _) | (with_reducible refine bset ?_ ?_ _) | (with_reducible refine bstep ?_ (by assumption)) | go_size))))).mono ?_
  rintro e w1 ⟨rfl, hb1⟩
  obtain ⟨uu1, vv1, zz1, nn1, mm1⟩ := bltn hb1 (b := w.heap.size) (by (first | omega | (simp only [World.size_alloc, World.size_setCell, World.size_drew, World.heap_drewN]; omega)))
  have B1 : Hid (Below w.heap.size w w1) := bstep (by (repeat' (first | (with_reducible exact Below.refl _ _) | (with_reducible assumption) | (with_reducible refine balloc ?_ _) | (with_reducible refine Below.drew ?_) | (with_reducible refine below_drewN ?_ _) | (with_reducible refine bset ?_ ?_ _) | (with_reducible refine bstep ?_ (by assumption)) | go_size))) hb1
  have R1 := Lib.hid ((row_one w1 0).below (w' := (w1.alloc (.cells #[.int .i64 0] 3)).alloc (.cells #[.int .i64 0] 3)) (balloc (Below.refl _ _) _))
  have R2 : Hid (ArgRow ((w1.alloc (.cells #[.int .i64 0] 3)).alloc (.cells #[.int .i64 0] 3)) (some ⟨w1.heap.size + 1, 0, none⟩) 1 1 1 (ints [0])) := by
    have := row_one (w1.alloc (.cells #[.int .i64 0] 3)) 0
    simpa [Hid] using this
  go_wp2_with fail
  refine (KL.out w1.heap.size (w1.heap.size + 1) _ (HR.out.below (balloc (balloc B1.out _) _)) R1.out R2.out).mono ?_
  rintro e w2 ⟨rfl, hb2⟩
  go_wp2_with fail
  go_ret
  exact ⟨rfl, bstep (balloc (balloc B1.out _) _) hb2⟩
set_option maxRecDepth 100000 in
set_option maxHeartbeats 4000000 in
theorem implTreeSum0 (N E S : Int) (a : Option Addr) (n c : Nat) (l : List Wz) (hok : ¬ NetOk N E S l) (w : World) (hr : ArgRow w a n c 3 (wires l)) (hl : l.length = n) :
    Calls Try.prog 79 #[netV N E S a n c] w fun e w' => e = .returned (.int .i64 0) ∧ Below w.heap.size w w' := by
  have HR := Lib.hid hr
  have KN := Lib.hid (fun (w : World) r => implNetOk N E S a n c l false ⟨(fun h => by cases h), fun h => absurd h hok⟩ w r hl)
  clear hr hok
  go_enter Try.func79, Try.ntmps79
  go_wp2_with fail
  refine (KN.out _ (HR.out.below (by (repeat' (first | (with_reducible exact Below.refl _ _) | (with_reducible assumption) | (with_reducible refine balloc ?_ _) | (with_reducible refine Below.drew ?_) | (with_reducible refine below_drewN ?_ _) | (with_reducible refine bset ?_ ?_ _) | (with_reducible refine bstep ?_ (by assumption)) | go_size))))).mono ?_
  rintro e w1 ⟨rfl, hb1⟩
  go_wp2_with fail
  go_ret
  exact ⟨rfl, bstep (by (repeat' (first | (with_reducible exact Below.refl _ _) | (with_reducible assumption) | (with_reducible refine balloc ?_ _) | (with_reducible refine Below.drew ?_) | (with_reducible refine below_drewN ?_ _) | (with_reducible refine bset ?_ ?_ _) | (with_reducible refine bstep ?_ (by assumption)) | go_size))) hb1⟩

set_option maxRecDepth 100000 in
set_option maxHeartbeats 4000000 in
theorem implForestSum (M : Nat) (E S : Int) (a : Option Addr) (n c : Nat) (l : List Wz) (p q : Int) (hp : 0 ≤ p ∧ p < M) (hq : 0 ≤ q ∧ q < M) (hpq : ¬ p = q) (hok : NetOk M E S l) (w : World) (hr : ArgRow w a n c 3 (wires l)) (hl : l.length = n) :
    Calls Try.prog 81 #[netV M E S a n c, .int .i64 p, .int .i64 q] w fun e w' => e = .returned (.int .i64 (leftW M l [p, q] [p, q])) ∧ Below w.heap.size w w' := by
  have HR := Lib.hid hr
  have KN := Lib.hid (fun (w : World) r => implNetOk M E S a n c l true ⟨fun _ => hok, fun _ => rfl⟩ w r hl)
  have KP := Lib.hid (fun (w : World) => implIsNode M E S a n c p true ⟨fun _ => hp, fun _ => rfl⟩ w)
  have KQ := Lib.hid (fun (w : World) => implIsNode M E S a n c q true ⟨fun _ => hq, fun _ => rfl⟩ w)
  have KL := Lib.hid (fun (g1 g2 : Nat) (w : World) r r1 r2 => implLeft M E S a n c l g1 g2 2 2 2 2 [p, q] [p, q] rfl hok w r hl r1 r2)
  have hpq' : (p == q) = false := by simp [hpq]
  clear hr hok hpq
  go_enter Try.func81, Try.ntmps81
  go_wp2_with fail
  refine (KN.out _ (HR.out.below (by (repeat' (first | (with_reducible exact Below.refl _ _) | (with_reducible assumption) | (with_reducible refine balloc ?_ _) | (with_reducible refine Below.drew ?_) | (with_reducible refine below_drewN ?_ _) | (with_reducible refine bset ?_ ?_ _) | (with_reducible refine bstep ?_ (by assumption)) | go_size))))).mono ?_
  rintro e w1 ⟨rfl, hb1⟩
  obtain ⟨uu1, vv1, zz1, nn1, mm1⟩ := bltn hb1 (b := w.heap.size) (by (first | omega | (simp only [World.size_alloc, World.size_setCell, World.size_drew, World.heap_drewN]; omega)))
  have B1 : Hid (Below w.heap.size w w1) := bstep (by (repeat' (first | (with_reducible exact Below.refl _ _) | (with_reducible assumption) | (with_reducible refine balloc ?_ _) | (with_reducible refine Below.drew ?_) | (with_reducible refine below_drewN ?_ _) | (with_reducible refine bset ?_ ?_ _) | (with_reducible refine bstep ?_ (by assumption)) | go_size))) hb1
  go_wp2_with fail
  refine (KP.out _).mono ?_
  rintro e w2 ⟨rfl, hb2⟩
  obtain ⟨uu2, vv2, zz2, nn2, mm2⟩ := bltn hb2 (b := w.heap.size) (by (first | omega | (simp only [World.size_alloc, World.size_setCell, World.size_drew, World.heap_drewN]; omega)))
  have B2 : Hid (Below w.heap.size w w2) := bstep B1.out hb2
  go_wp2_with fail
  refine (KQ.out _).mono ?_
  rintro e w3 ⟨rfl, hb3⟩
  obtain ⟨uu3, vv3, zz3, nn3, mm3⟩ := bltn hb3 (b := w.heap.size) (by (first | omega | (simp only [World.size_alloc, World.size_setCell, World.size_drew, World.heap_drewN]; omega)))
  have B3 : Hid (Below w.heap.size w w3) := bstep B2.out hb3
  have R1 := Lib.hid ((row_two w3 p q).below (w' := (w3.alloc (.cells #[.int .i64 p, .int .i64 q] 3)).alloc (.cells #[.int .i64 p, .int .i64 q] 3)) (balloc (Below.refl _ _) _))
  have R2 : Hid (ArgRow ((w3.alloc (.cells #[.int .i64 p, .int .i64 q] 3)).alloc (.cells #[.int .i64 p, .int .i64 q] 3)) (some ⟨w3.heap.size + 1, 0, none⟩) 2 2 1 (ints [p, q])) := by
    have := row_two (w3.alloc (.cells #[.int .i64 p, .int .i64 q] 3)) p q
    simpa [Hid] using this
  go_wp2_with fail
  refine (KL.out w3.heap.size (w3.heap.size + 1) _ (HR.out.below (balloc (balloc B3.out _) _)) R1.out R2.out).mono ?_
  rintro e w4 ⟨rfl, hb4⟩
  go_wp2_with fail
  go_ret
  exact ⟨rfl, bstep (balloc (balloc B3.out _) _) hb4⟩
end Go.Proofs.Ytdmiihljepkapaa
