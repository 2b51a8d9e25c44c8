/- How great the sums over trees can be. -/
import Derived.Test.YtjchindjoailbaaG12
import Derived.Test.YtjchindjoailbaaG05
import Derived.Test.YtjchindjoailbaaG04
import Derived.Test.YtjchindjoailbaaG01
import Derived.Deep.RegionLaw
import Derived.Test.YtjchindjoailbaaRows
import Derived.WalkKit
import Derived.ProofKit
import Derived.OpenShut
import Derived.ShutString
import Derived.ChangeOld
import Derived.Below
import Derived.Lib.SmallJoins
import Derived.Test.YtjchindjoailbaaG02
import Derived.ChangeSame
namespace Go.Proofs.Ytjchindjoailbaa
set_option linter.unusedSimpArgs false
set_option linter.unusedVariables false
open Go.RowKit

theorem key_ge {N E S : Int} {l : List Wz} (h : NetOk N E S l) : ∀ (k : Nat) (hk : k < l.length), (k : Int) ≤ l[k].1 * 5 + l[k].2.1
  | 0, hk => by have := h.w 0 hk; unfold Go.Proofs.Ytjchindjoailbaa.good at this; omega
  | k + 1, hk => by
    have h1 := key_ge h k (by omega)
    have h2 := h.o k hk
    have h3 := h.w k (by omega)
    have h4 := h.w (k + 1) hk
    have h5 := h.h.n5
    unfold lexlt at h2
    unfold Go.Proofs.Ytjchindjoailbaa.good at h3 h4
    omega
theorem NetOk.few {N E S : Int} {l : List Wz} (h : NetOk N E S l) : l.length ≤ 25 := by
  by_cases h0 : l.length = 0
  · omega
  · have h1 := key_ge h (l.length - 1) (by omega)
    have h4 := h.w (l.length - 1) (by omega)
    have h5 := h.h.n5
    unfold Go.Proofs.Ytjchindjoailbaa.good at h4
    omega
theorem at_bd {N E S : Int} {l : List Wz} (h : NetOk N E S l) (v : Int) : ∀ k : Nat, k ≤ l.length → 0 ≤ atSum (l.take k) v ∧ atSum (l.take k) v ≤ 200 * k
  | 0, _ => by simp [atSum]
  | k + 1, hk => by
    have h1 := at_bd h v k (by omega)
    have h2 := h.w k (by omega)
    have h3 := h.few
    unfold Go.Proofs.Ytjchindjoailbaa.good at h2
    rw [at_take l v k (by omega)]
    unfold atStep
    split
    · unfold wrap64; omega
    · omega
theorem NetOk.at {N E S : Int} {l : List Wz} (h : NetOk N E S l) (v : Int) : 0 ≤ atSum l v ∧ atSum l v ≤ 5000 := by
  have h1 := at_bd h v l.length (Nat.le_refl _)
  have h2 := h.few
  rw [List.take_of_length_le (Nat.le_refl _)] at h1
  omega
theorem lapE_bd {N E S : Int} {l : List Wz} (h : NetOk N E S l) (i j : Int) : -5000 ≤ lapE l i j ∧ lapE l i j ≤ 5000 := by
  have h1 := h.at i
  have h2 := h.wb i j
  unfold lapE
  split <;> omega
theorem ent_bd {M : List (List Int)} {B : Int} (hB : 0 ≤ B) (h : ∀ r ∈ M, ∀ x ∈ r, -B ≤ x ∧ x ≤ B) (i j : Int) : -B ≤ ent M i j ∧ ent M i j ≤ B := by
  unfold ent
  simp only [List.getD_eq_getElem?_getD]
  cases h1 : M[i.toNat]? with
  | none => simp; omega
  | some r =>
    have hr : r ∈ M := List.mem_of_getElem? h1
    simp only [Option.getD_some]
    cases h2 : r[j.toNat]? with
    | none => simp; omega
    | some x => simpa using h r hr x (List.mem_of_getElem? h2)
theorem tab_bd {N : Nat} {f : Int → Int → Int} {B : Int} (h : ∀ i j, -B ≤ f i j ∧ f i j ≤ B) : ∀ r ∈ tab N f, ∀ x ∈ r, -B ≤ x ∧ x ≤ B := by
  intro r hr x hx
  simp only [tab, List.mem_map] at hr
  obtain ⟨i, _, rfl⟩ := hr
  simp only [List.mem_map] at hx
  obtain ⟨j, _, rfl⟩ := hx
  exact h i j
def bnd : Nat → Int
  | 0 => 1
  | n + 1 => (n + 1 : Nat) * (5000 * bnd n)
theorem bnd_pos : ∀ n, 0 ≤ bnd n
  | 0 => by decide
  | n + 1 => by unfold bnd; exact Int.mul_nonneg (by omega) (Int.mul_nonneg (by omega) (bnd_pos n))
theorem mul_bd {x y X Y : Int} (hx : -X ≤ x ∧ x ≤ X) (hy : -Y ≤ y ∧ y ≤ Y) : -(X * Y) ≤ x * y ∧ x * y ≤ X * Y := by
  have h1 : x.natAbs ≤ X.toNat := by omega
  have h2 : y.natAbs ≤ Y.toNat := by omega
  have h3 := Nat.mul_le_mul h1 h2
  rw [← Int.natAbs_mul] at h3
  have h4 : ((X.toNat * Y.toNat : Nat) : Int) = X * Y := by
    rw [Int.natCast_mul, Int.toNat_of_nonneg (by omega), Int.toNat_of_nonneg (by omega)]
  omega
theorem det_bd {e : Int → Int → Int} (he : ∀ i j, -5000 ≤ e i j ∧ e i j ≤ 5000) : ∀ (rows cols : List Int), rows.length ≤ 4 → cols.length ≤ rows.length → -(bnd rows.length) ≤ detW e rows cols ∧ detW e rows cols ≤ bnd rows.length
  | [], cols, _, _ => by simp [detW, bnd]
  | r :: rs, cols, h4, hc => by
    simp only [List.length_cons] at h4 hc
    have hbig : bnd (rs.length + 1) ≤ 20000000000000000 := by
      have : rs.length ≤ 3 := by omega
      match hq : rs.length, this with
      | 0, _ => decide
      | 1, _ => decide
      | 2, _ => decide
      | 3, _ => decide
    have hp := bnd_pos rs.length
    have hbs : bnd (rs.length + 1) = ((rs.length + 1 : Nat) : Int) * (5000 * bnd rs.length) := rfl
    have key : ∀ k : Nat, k ≤ cols.length → -((k : Int) * (5000 * bnd rs.length)) ≤ dsum e (detW e rs) r cols k ∧ dsum e (detW e rs) r cols k ≤ (k : Int) * (5000 * bnd rs.length) := by
      intro k
      induction k with
      | zero => intro _; simp [dsum]
      | succ k ih =>
        intro hk
        have h1 := ih (by omega)
        have hT : ((k + 1 : Nat) : Int) * (5000 * bnd rs.length) ≤ bnd (rs.length + 1) := by
          rw [hbs]
          exact Int.mul_le_mul_of_nonneg_right (by omega) (by omega)
        have hS : ((k + 1 : Nat) : Int) * (5000 * bnd rs.length) = (k : Int) * (5000 * bnd rs.length) + 5000 * bnd rs.length := by
          rw [show ((k + 1 : Nat) : Int) = (k : Int) + 1 from by omega, Int.add_mul, Int.one_mul]
        have h2 := he r (cols.getD k 0)
        have h3 := det_bd he rs (cols.eraseIdx k) (by omega) (by rw [List.length_eraseIdx]; split <;> omega)
        have hkp : 0 ≤ (k : Int) * (5000 * bnd rs.length) := Int.mul_nonneg (by omega) (by omega)
        rw [dsum]
        generalize e r (cols.getD k 0) = x at h2
        generalize detW e rs (cols.eraseIdx k) = y at h3
        generalize dsum e (detW e rs) r cols k = z at h1
        rw [hS]
        split
        · omega
        · have h5 : -5000 ≤ sgn k * x ∧ sgn k * x ≤ 5000 := by rcases sgn_cases k with h | h <;> rw [h] <;> omega
          have h6 : wrap64 (sgn k * x) = sgn k * x := by unfold wrap64; omega
          rw [h6]
          have h7 := mul_bd h5 h3
          generalize sgn k * x * y = t at h7
          have h8 : wrap64 t = t := by unfold wrap64; omega
          rw [h8]
          have h9 : wrap64 (z + t) = z + t := by unfold wrap64; omega
          rw [h9]
          omega
    have h1 := key cols.length (Nat.le_refl _)
    have hT : ((cols.length : Nat) : Int) * (5000 * bnd rs.length) ≤ bnd (rs.length + 1) := by
      rw [hbs]
      exact Int.mul_le_mul_of_nonneg_right (by omega) (by omega)
    simp only [detW, List.length_cons]
    omega
theorem left_bd {M : Nat} {E S : Int} {l : List Wz} (h : NetOk M E S l) (rows cols : List Int) (h4 : (others M rows).length ≤ 4) (hc : (others M cols).length ≤ (others M rows).length) : -(bnd (others M rows).length) ≤ leftW M l rows cols ∧ leftW M l rows cols ≤ bnd (others M rows).length :=
  det_bd (fun i j => ent_bd (by omega) (tab_bd (fun i j => lapE_bd h i j)) i j) _ _ h4 hc
theorem others_zero : ∀ M : Nat, M < 6 → (others M [0]).length ≤ 4 := by decide +kernel
theorem bnd_mono : ∀ n, n < 5 → bnd n ≤ 15000000000000000 := by decide
theorem tree_bd {M : Nat} {E S : Int} {l : List Wz} (h : NetOk M E S l) : -15000000000000000 ≤ leftW M l [0] [0] ∧ leftW M l [0] [0] ≤ 15000000000000000 := by
  have h5 := h.h.n5
  have h0 := others_zero M (by omega)
  have h1 := left_bd h [0] [0] h0 (Nat.le_refl _)
  have h2 := bnd_mono _ (show (others M [0]).length < 5 by omega)
  omega
theorem bnd_mono3 : ∀ n, n < 4 → bnd n ≤ 750000000000 := by decide
theorem forest_bd {M : Nat} {E S : Int} {l : List Wz} (h : NetOk M E S l) {p q r s : Int} (hp : 0 ≤ p ∧ p < M) (hq : 0 ≤ q ∧ q < M) (hr : 0 ≤ r ∧ r < M) (hs : 0 ≤ s ∧ s < M) (hpq : p ≠ q) (hrs : r ≠ s) : -750000000000 ≤ leftW M l [p, q] [r, s] ∧ leftW M l [p, q] [r, s] ≤ 750000000000 := by
  have h5 := h.h.n5
  have e1 := others_two (M := M) (by omega) hp hq hpq
  have e2 := others_two (M := M) (by omega) hr hs hrs
  have h1 := left_bd h [p, q] [r, s] (by omega) (by omega)
  have h2 := bnd_mono3 _ (show (others M [p, q]).length < 4 by omega)
  omega
end Go.Proofs.Ytjchindjoailbaa

/- Sums over trees: the program's, where they fail; CrossSum. -/
namespace Go.Proofs.Ytjchindjoailbaa
set_option linter.unusedSimpArgs false
set_option linter.unusedVariables false
open Go.RowKit

set_option maxRecDepth 100000 in
set_option maxHeartbeats 4000000 in
theorem implForestSum0 (N : Int) (E S : Int) (a : Option Addr) (n c : Nat) (l : List Wz) (p : Int) (q : Int) (hok : ¬ NetOk N E S l) (w : World) (hr : ArgRow w a n c 3 (wires l)) (hl : l.length = n) :
    Calls Try.prog 82 #[netV N E S a n c, .int .i64 p, .int .i64 q] w fun e w' => e = .returned (.int .i64 0) ∧ Below w.heap.size w w' := by
  have HR := Lib.hid hr
  have KN := Lib.hid (fun (w : World) rr => implNetOk N E S a n c l false ⟨(fun h => by cases h), fun h => absurd h hok⟩ w rr hl)
  clear hr hok
  go_enter Try.func82, Try.ntmps82
  go_wp2_with fail
  refine (KN.out _ (HR.out.below (by (repeat' (first | (with_reducible exact Below.refl _ _) | (with_reducible assumption) | (with_reducible refine balloc ?_ _) | (with_reducible refine Below.drew ?_) | (with_reducible refine below_drewN ?_ _) | (with_reducible refine bset ?_ ?_ _) | (with_reducible refine bstep ?_ (by assumption)) | go_size))))).mono ?_
  rintro e w1 ⟨rfl, hb1⟩
  go_wp2_with fail
  go_ret
  exact ⟨rfl, bstep (by (repeat' (first | (with_reducible exact Below.refl _ _) | (with_reducible assumption) | (with_reducible refine balloc ?_ _) | (with_reducible refine Below.drew ?_) | (with_reducible refine below_drewN ?_ _) | (with_reducible refine bset ?_ ?_ _) | (with_reducible refine bstep ?_ (by assumption)) | go_size))) hb1⟩
set_option maxRecDepth 100000 in
set_option maxHeartbeats 4000000 in
theorem implForestSum1 (M : Nat) (E S : Int) (a : Option Addr) (n c : Nat) (l : List Wz) (p : Int) (q : Int) (hok : NetOk M E S l) (hb : ¬ ((0 ≤ p ∧ p < M) ∧ (0 ≤ q ∧ q < M) ∧ ¬ p = q)) (w : World) (hr : ArgRow w a n c 3 (wires l)) (hl : l.length = n) :
    Calls Try.prog 82 #[netV M E S a n c, .int .i64 p, .int .i64 q] w fun e w' => e = .returned (.int .i64 0) ∧ Below w.heap.size w w' := by
  have HR := Lib.hid hr
  have KN := Lib.hid (fun (w : World) rr => implNetOk M E S a n c l true ⟨fun _ => hok, fun _ => rfl⟩ w rr hl)
  have hM1 := hok.h.n1
  have hM5 := hok.h.n5
  by_cases t0 : 0 ≤ p ∧ p ≤ (M : Int) - 1
  rotate_left
  · have KP0 := Lib.hid (fun (w : World) => implIsNode M E S a n c p false ⟨(fun h => by cases h), fun h => absurd h (by omega)⟩ w)
    clear hr hok hb
    go_enter Try.func82, Try.ntmps82
    go_wp2_with fail
    refine (KN.out _ (HR.out.below (by (repeat' (first | (with_reducible exact Below.refl _ _) | (with_reducible assumption) | (with_reducible refine balloc ?_ _) | (with_reducible refine Below.drew ?_) | (with_reducible refine below_drewN ?_ _) | (with_reducible refine bset ?_ ?_ _) | (with_reducible refine bstep ?_ (by assumption)) | go_size))))).mono ?_
    rintro e w1 ⟨rfl, hb1⟩
    obtain ⟨uu1, vv1, zz1, nn1, mm1⟩ := bltn hb1 (b := w.heap.size) (by (first | omega | (simp only [World.size_alloc, World.size_setCell, World.size_drew, World.heap_drewN]; omega)))
    have B1 : Hid (Below w.heap.size w w1) := bstep (by (repeat' (first | (with_reducible exact Below.refl _ _) | (with_reducible assumption) | (with_reducible refine balloc ?_ _) | (with_reducible refine Below.drew ?_) | (with_reducible refine below_drewN ?_ _) | (with_reducible refine bset ?_ ?_ _) | (with_reducible refine bstep ?_ (by assumption)) | go_size))) hb1
    go_wp2_with fail
    refine (KP0.out _).mono ?_
    rintro e w2 ⟨rfl, hb2⟩
    obtain ⟨uu2, vv2, zz2, nn2, mm2⟩ := bltn hb2 (b := w.heap.size) (by (first | omega | (simp only [World.size_alloc, World.size_setCell, World.size_drew, World.heap_drewN]; omega)))
    have B2 : Hid (Below w.heap.size w w2) := bstep B1.out hb2
    go_wp2_with fail
    go_ret
    exact ⟨rfl, B2.out⟩
  by_cases t1 : 0 ≤ q ∧ q ≤ (M : Int) - 1
  rotate_left
  · have KP0 := Lib.hid (fun (w : World) => implIsNode M E S a n c p true ⟨fun _ => by omega, fun _ => rfl⟩ w)
    have KP1 := Lib.hid (fun (w : World) => implIsNode M E S a n c q false ⟨(fun h => by cases h), fun h => absurd h (by omega)⟩ w)
    clear hr hok hb
    go_enter Try.func82, Try.ntmps82
    go_wp2_with fail
    refine (KN.out _ (HR.out.below (by (repeat' (first | (with_reducible exact Below.refl _ _) | (with_reducible assumption) | (with_reducible refine balloc ?_ _) | (with_reducible refine Below.drew ?_) | (with_reducible refine below_drewN ?_ _) | (with_reducible refine bset ?_ ?_ _) | (with_reducible refine bstep ?_ (by assumption)) | go_size))))).mono ?_
    rintro e w1 ⟨rfl, hb1⟩
    obtain ⟨uu1, vv1, zz1, nn1, mm1⟩ := bltn hb1 (b := w.heap.size) (by (first | omega | (simp only [World.size_alloc, World.size_setCell, World.size_drew, World.heap_drewN]; omega)))
    have B1 : Hid (Below w.heap.size w w1) := bstep (by (repeat' (first | (with_reducible exact Below.refl _ _) | (with_reducible assumption) | (with_reducible refine balloc ?_ _) | (with_reducible refine Below.drew ?_) | (with_reducible refine below_drewN ?_ _) | (with_reducible refine bset ?_ ?_ _) | (with_reducible refine bstep ?_ (by assumption)) | go_size))) hb1
    go_wp2_with fail
    refine (KP0.out _).mono ?_
    rintro e w2 ⟨rfl, hb2⟩
    obtain ⟨uu2, vv2, zz2, nn2, mm2⟩ := bltn hb2 (b := w.heap.size) (by (first | omega | (simp only [World.size_alloc, World.size_setCell, World.size_drew, World.heap_drewN]; omega)))
    have B2 : Hid (Below w.heap.size w w2) := bstep B1.out hb2
    go_wp2_with fail
    refine (KP1.out _).mono ?_
    rintro e w3 ⟨rfl, hb3⟩
    obtain ⟨uu3, vv3, zz3, nn3, mm3⟩ := bltn hb3 (b := w.heap.size) (by (first | omega | (simp only [World.size_alloc, World.size_setCell, World.size_drew, World.heap_drewN]; omega)))
    have B3 : Hid (Below w.heap.size w w3) := bstep B2.out hb3
    go_wp2_with fail
    go_ret
    exact ⟨rfl, B3.out⟩
  have e0 : p = q := by
    by_cases e : p = q
    · exact e
    · exact absurd ⟨by omega, by omega, e⟩ hb
  subst e0
  have KP0 := Lib.hid (fun (w : World) => implIsNode M E S a n c p true ⟨fun _ => by omega, fun _ => rfl⟩ w)
  have KP1 := Lib.hid (fun (w : World) => implIsNode M E S a n c p true ⟨fun _ => by omega, fun _ => rfl⟩ w)
  clear hr hok hb
  go_enter Try.func82, Try.ntmps82
  go_wp2_with fail
  refine (KN.out _ (HR.out.below (by (repeat' (first | (with_reducible exact Below.refl _ _) | (with_reducible assumption) | (with_reducible refine balloc ?_ _) | (with_reducible refine Below.drew ?_) | (with_reducible refine below_drewN ?_ _) | (with_reducible refine bset ?_ ?_ _) | (with_reducible refine bstep ?_ (by assumption)) | go_size))))).mono ?_
  rintro e w1 ⟨rfl, hb1⟩
  obtain ⟨uu1, vv1, zz1, nn1, mm1⟩ := bltn hb1 (b := w.heap.size) (by (first | omega | (simp only [World.size_alloc, World.size_setCell, World.size_drew, World.heap_drewN]; omega)))
  have B1 : Hid (Below w.heap.size w w1) := bstep (by (repeat' (first | (with_reducible exact Below.refl _ _) | (with_reducible assumption) | (with_reducible refine balloc ?_ _) | (with_reducible refine Below.drew ?_) | (with_reducible refine below_drewN ?_ _) | (with_reducible refine bset ?_ ?_ _) | (with_reducible refine bstep ?_ (by assumption)) | go_size))) hb1
  go_wp2_with fail
  refine (KP0.out _).mono ?_
  rintro e w2 ⟨rfl, hb2⟩
  obtain ⟨uu2, vv2, zz2, nn2, mm2⟩ := bltn hb2 (b := w.heap.size) (by (first | omega | (simp only [World.size_alloc, World.size_setCell, World.size_drew, World.heap_drewN]; omega)))
  have B2 : Hid (Below w.heap.size w w2) := bstep B1.out hb2
  go_wp2_with fail
  refine (KP1.out _).mono ?_
  rintro e w3 ⟨rfl, hb3⟩
  obtain ⟨uu3, vv3, zz3, nn3, mm3⟩ := bltn hb3 (b := w.heap.size) (by (first | omega | (simp only [World.size_alloc, World.size_setCell, World.size_drew, World.heap_drewN]; omega)))
  have B3 : Hid (Below w.heap.size w w3) := bstep B2.out hb3
  go_wp2_with fail
  go_ret
  exact ⟨rfl, B3.out⟩
end Go.Proofs.Ytjchindjoailbaa

/- ResistanceOf of the program. -/
namespace Go.Proofs.Ytjchindjoailbaa
set_option linter.unusedSimpArgs false
set_option linter.unusedVariables false
open Go.RowKit

/-- the forests' sum, of one node too -/
def forestV (M : Nat) (l : List Wz) (p q : Int) : Int := if p = q then 0 else leftW M l [p, q] [p, q]
theorem implForest (M : Nat) (E S : Int) (a : Option Addr) (n c : Nat) (l : List Wz) (p q : Int) (hp : 0 ≤ p ∧ p < M) (hq : 0 ≤ q ∧ q < M) (hok : NetOk M E S l) (w : World) (hr : ArgRow w a n c 3 (wires l)) (hl : l.length = n) :
    Calls Try.prog 82 #[netV M E S a n c, .int .i64 p, .int .i64 q] w fun e w' => e = .returned (.int .i64 (forestV M l p q)) ∧ Below w.heap.size w w' := by
  unfold forestV
  by_cases h : p = q
  · rw [if_pos h]; exact implForestSum1 M E S a n c l p q hok (fun h' => h'.2.2 h) w hr hl
  · rw [if_neg h]; exact implForestSum M E S a n c l p q hp hq h hok w hr hl
theorem forestV_bd {M : Nat} {E S : Int} {l : List Wz} (h : NetOk M E S l) {p q : Int} (hp : 0 ≤ p ∧ p < M) (hq : 0 ≤ q ∧ q < M) : -750000000000 ≤ forestV M l p q ∧ forestV M l p q ≤ 750000000000 := by
  unfold forestV
  by_cases e : p = q
  · rw [if_pos e]; omega
  · rw [if_neg e]; exact forest_bd h hp hq hp hq e e
theorem scale_bd {S x : Int} (h1 : 1 ≤ S) (h2 : S ≤ 1000) (hx : -750000000000 ≤ x ∧ x ≤ 750000000000) : -750000000000000 ≤ S * x ∧ S * x ≤ 750000000000000 := by
  have := mul_bd (x := S) (X := 1000) (by omega) hx
  omega

set_option maxRecDepth 100000 in
set_option maxHeartbeats 4000000 in
theorem implResistanceOf (M : Nat) (E S : Int) (a : Option Addr) (n c : Nat) (l : List Wz) (p q : Int) (hp : 0 ≤ p ∧ p < M) (hq : 0 ≤ q ∧ q < M) (hok : NetOk M E S l) (w : World) (hr : ArgRow w a n c 3 (wires l)) (hl : l.length = n) :
    Calls Try.prog 24 #[netV M E S a n c, .int .i64 p, .int .i64 q] w fun e w' => e = .returned (.tuple #[ratV (Gn.rat (S * forestV M l p q) (leftW M l [0] [0])).1 (Gn.rat (S * forestV M l p q) (leftW M l [0] [0])).2, .bool true]) ∧ Below w.heap.size w w' := by
  have HR := Lib.hid hr
  have KN := Lib.hid (fun (w : World) rr => implNetOk M E S a n c l true ⟨fun _ => hok, fun _ => rfl⟩ w rr hl)
  have KP := Lib.hid (fun (w : World) => implIsNode M E S a n c p true ⟨fun _ => hp, fun _ => rfl⟩ w)
  have KQ := Lib.hid (fun (w : World) => implIsNode M E S a n c q true ⟨fun _ => hq, fun _ => rfl⟩ w)
  have KF := Lib.hid (fun (w : World) rr => implForest M E S a n c l p q hp hq hok w rr hl)
  have KT := Lib.hid (fun (w : World) rr => implTreeSum M E S a n c l hok w rr hl)
  have hb1 := forestV_bd hok hp hq
  have hb2 := scale_bd hok.h.s1 hok.h.s2 hb1
  have hb3 := tree_bd hok
  generalize forestV M l p q = F at KF hb1 hb2
  generalize leftW M l [0] [0] = T at KT hb3
  have KR := Lib.hid (fun (w : World) => implRatioOf (S * F) T w (by omega) (by omega) (by omega) (by omega))
  generalize (Gn.rat (S * F) T).1 = R1 at KR
  generalize (Gn.rat (S * F) T).2 = R2 at KR
  have hm1 : IntKind.i64.wrap (S * F) = S * F := IntWalk.i64_in _ (by omega)
  have hm2 : wrap64 (S * F) = S * F := by unfold wrap64; omega
  clear hr hok hb2
  go_enter Try.func24, Try.ntmps24
  go_wp2_with fail
  refine (KN.out _ (HR.out.below (by (repeat' (first | (with_reducible exact Below.refl _ _) | (with_reducible assumption) | (with_reducible refine balloc ?_ _) | (with_reducible refine Below.drew ?_) | (with_reducible refine below_drewN ?_ _) | (with_reducible refine bset ?_ ?_ _) | (with_reducible refine bstep ?_ (by assumption)) | go_size))))).mono ?_
  rintro e w1 ⟨rfl, hb1⟩
  obtain ⟨uu1, vv1, zz1, nn1, mm1⟩ := bltn hb1 (b := w.heap.size) (by (first | omega | (simp only [World.size_alloc, World.size_setCell, World.size_drew, World.heap_drewN]; omega)))
  obtain ⟨xu1, xv1, xz1, xn1, xm1⟩ := bltn hb1 (b := w.heap.size + 1) (by (first | omega | (simp only [World.size_alloc, World.size_setCell, World.size_drew, World.heap_drewN]; omega)))
  have B1 : Hid (Below w.heap.size w w1) := bstep (by (repeat' (first | (with_reducible exact Below.refl _ _) | (with_reducible assumption) | (with_reducible refine balloc ?_ _) | (with_reducible refine Below.drew ?_) | (with_reducible refine below_drewN ?_ _) | (with_reducible refine bset ?_ ?_ _) | (with_reducible refine bstep ?_ (by assumption)) | go_size))) hb1
  go_wp2_with fail
  refine (KP.out _).mono ?_
  rintro e w2 ⟨rfl, hb2⟩
  obtain ⟨uu2, vv2, zz2, nn2, mm2⟩ := bltn hb2 (b := w.heap.size) (by (first | omega | (simp only [World.size_alloc, World.size_setCell, World.size_drew, World.heap_drewN]; omega)))
  obtain ⟨xu2, xv2, xz2, xn2, xm2⟩ := bltn hb2 (b := w.heap.size + 1) (by (first | omega | (simp only [World.size_alloc, World.size_setCell, World.size_drew, World.heap_drewN]; omega)))
  have B2 : Hid (Below w.heap.size w w2) := bstep B1.out hb2
  go_wp2_with fail
  refine (KQ.out _).mono ?_
  rintro e w3 ⟨rfl, hb3⟩
  obtain ⟨uu3, vv3, zz3, nn3, mm3⟩ := bltn hb3 (b := w.heap.size) (by (first | omega | (simp only [World.size_alloc, World.size_setCell, World.size_drew, World.heap_drewN]; omega)))
  obtain ⟨xu3, xv3, xz3, xn3, xm3⟩ := bltn hb3 (b := w.heap.size + 1) (by (first | omega | (simp only [World.size_alloc, World.size_setCell, World.size_drew, World.heap_drewN]; omega)))
  have B3 : Hid (Below w.heap.size w w3) := bstep B2.out hb3
  go_wp2_with fail
  go_region_held3 (fun w' => w'.cell? ⟨w.heap.size, 0, none⟩ = some (.int .i64 M) ∧ w'.cell? ⟨w.heap.size, 1, none⟩ = some (.int .i64 E) ∧ w'.cell? ⟨w.heap.size, 2, none⟩ = some (.int .i64 S) ∧ w'.cell? ⟨w.heap.size, 3, none⟩ = some (.slice a n c)) (go_keep)
    ((first
    | (go_at_call 82; ((with_reducible refine (KF.out _ (HR.out.below (by first | exact B3.out | exact B3.out.drew | (refine bstep ?_ (by assumption); first | exact B3.out | exact B3.out.drew) | (repeat' (first | (with_reducible exact Below.refl _ _) | (with_reducible assumption) | (with_reducible refine balloc ?_ _) | (with_reducible refine Below.drew ?_) | (with_reducible refine below_drewN ?_ _) | (with_reducible refine bset ?_ ?_ _) | (with_reducible refine bstep ?_ (by assumption)) | go_size))))).mono ?_); rintro e wF ⟨rfl, hbF⟩); (try (replace hbF := bdrew hbF)); (try (have hq_ := bltn hbF (b := w.heap.size) (by (first | omega | (simp only [World.size_alloc, World.size_setCell, World.size_drew, World.heap_drewN]; omega))); obtain ⟨uu, vv, zz, nn, mm⟩ := hq_)); (try (have hq_ := bltn hbF (b := w.heap.size + 1) (by (first | omega | (simp only [World.size_alloc, World.size_setCell, World.size_drew, World.heap_drewN]; omega))); obtain ⟨uu, vv, zz, nn, mm⟩ := hq_)))
    | (go_at_call 56; ((with_reducible refine (KT.out _ (HR.out.below (by first | exact B3.out | exact B3.out.drew | (refine bstep ?_ (by assumption); first | exact B3.out | exact B3.out.drew) | (repeat' (first | (with_reducible exact Below.refl _ _) | (with_reducible assumption) | (with_reducible refine balloc ?_ _) | (with_reducible refine Below.drew ?_) | (with_reducible refine below_drewN ?_ _) | (with_reducible refine bset ?_ ?_ _) | (with_reducible refine bstep ?_ (by assumption)) | go_size))))).mono ?_); rintro e wT ⟨rfl, hbT⟩); (try (replace hbT := bdrew hbT)); (try (have hq_ := bltn hbT (b := w.heap.size) (by (first | omega | (simp only [World.size_alloc, World.size_setCell, World.size_drew, World.heap_drewN]; omega))); obtain ⟨uu, vv, zz, nn, mm⟩ := hq_)); (try (have hq_ := bltn hbT (b := w.heap.size + 1) (by (first | omega | (simp only [World.size_alloc, World.size_setCell, World.size_drew, World.heap_drewN]; omega))); obtain ⟨uu, vv, zz, nn, mm⟩ := hq_)))
    | (go_at_call 21; ((with_reducible refine (KR.out _).mono ?_); rintro e wR ⟨rfl, hbR⟩); (try (have hq_ := bltn hbR (b := w.heap.size) (by (first | omega | (simp only [World.size_alloc, World.size_setCell, World.size_drew, World.heap_drewN]; omega))); obtain ⟨uu, vv, zz, nn, mm⟩ := hq_)); (try (have hq_ := bltn hbR (b := w.heap.size + 1) (by (first | omega | (simp only [World.size_alloc, World.size_setCell, World.size_drew, World.heap_drewN]; omega))); obtain ⟨uu, vv, zz, nn, mm⟩ := hq_)))))
  all_goals
    go_wp2_with fail
    have B3' := B3.out
    have rs0 : (wR.cell? { block := w.heap.size + 1, off := 0 }).isSome = true := by simp [go_sem, *]
    have rs1 : (wR.cell? { block := w.heap.size + 1, off := 1 }).isSome = true := by simp [go_sem, *]
    refine bodyPost_ret (v := (.tuple #[ratV R1 R2, .bool true])) (by simp [results, Try.results24, go_sem, rs0, rs1]; try rfl) rfl ?_
    exact ⟨rfl, by (repeat' (first | (with_reducible exact Below.refl _ _) | (with_reducible assumption) | (with_reducible refine balloc ?_ _) | (with_reducible refine Below.drew ?_) | (with_reducible refine below_drewN ?_ _) | (with_reducible refine bset ?_ ?_ _) | (with_reducible refine bstep ?_ (by assumption)) | go_size))⟩
set_option maxRecDepth 100000 in
set_option maxHeartbeats 4000000 in
theorem implResistanceOf0 (N E S : Int) (a : Option Addr) (n c : Nat) (l : List Wz) (p q : Int) (hok : ¬ NetOk N E S l) (w : World) (hr : ArgRow w a n c 3 (wires l)) (hl : l.length = n) :
    Calls Try.prog 24 #[netV N E S a n c, .int .i64 p, .int .i64 q] w fun e w' => e = .returned (.tuple #[ratV 0 0, .bool false]) ∧ Below w.heap.size w w' := by
  have HR := Lib.hid hr
  have KN := Lib.hid (fun (w : World) rr => implNetOk N E S a n c l false ⟨(fun h => by cases h), fun h => absurd h hok⟩ w rr hl)
  clear hr hok
  go_enter Try.func24, Try.ntmps24
  go_wp2_with fail
  refine (KN.out _ (HR.out.below (by (repeat' (first | (with_reducible exact Below.refl _ _) | (with_reducible assumption) | (with_reducible refine balloc ?_ _) | (with_reducible refine Below.drew ?_) | (with_reducible refine below_drewN ?_ _) | (with_reducible refine bset ?_ ?_ _) | (with_reducible refine bstep ?_ (by assumption)) | go_size))))).mono ?_
  rintro e w1 ⟨rfl, hb1⟩
  obtain ⟨xu1, xv1, xz1, xn1, xm1⟩ := bltn hb1 (b := w.heap.size + 1) (by (first | omega | (simp only [World.size_alloc, World.size_setCell, World.size_drew, World.heap_drewN]; omega)))
  have B1 : Below w.heap.size w w1 := bstep (by (repeat' (first | (with_reducible exact Below.refl _ _) | (with_reducible assumption) | (with_reducible refine balloc ?_ _) | (with_reducible refine Below.drew ?_) | (with_reducible refine below_drewN ?_ _) | (with_reducible refine bset ?_ ?_ _) | (with_reducible refine bstep ?_ (by assumption)) | go_size))) hb1
  go_wp2_with fail
  have rs0 : (w1.cell? { block := w.heap.size + 1, off := 0 }).isSome = true := by simp [go_sem, xu1]
  have rs1 : (w1.cell? { block := w.heap.size + 1, off := 1 }).isSome = true := by simp [go_sem, xu1]
  refine bodyPost_ret (v := (.tuple #[ratV 0 0, .bool false])) (by simp [results, Try.results24, go_sem, rs0, rs1]; try rfl) rfl ?_
  exact ⟨rfl, by (repeat' (first | (with_reducible exact Below.refl _ _) | (with_reducible assumption) | (with_reducible refine balloc ?_ _) | (with_reducible refine Below.drew ?_) | (with_reducible refine below_drewN ?_ _) | (with_reducible refine bset ?_ ?_ _) | (with_reducible refine bstep ?_ (by assumption)) | go_size))⟩
set_option maxRecDepth 100000 in
set_option maxHeartbeats 4000000 in
theorem implResistanceOf1 (M : Nat) (E S : Int) (a : Option Addr) (n c : Nat) (l : List Wz) (p q : Int) (hok : NetOk M E S l) (hb : ¬ ((0 ≤ p ∧ p < M) ∧ (0 ≤ q ∧ q < M))) (w : World) (hr : ArgRow w a n c 3 (wires l)) (hl : l.length = n) :
    Calls Try.prog 24 #[netV M E S a n c, .int .i64 p, .int .i64 q] w fun e w' => e = .returned (.tuple #[ratV 0 0, .bool false]) ∧ Below w.heap.size w w' := by
  have HR := Lib.hid hr
  have KN := Lib.hid (fun (w : World) rr => implNetOk M E S a n c l true ⟨fun _ => hok, fun _ => rfl⟩ w rr hl)
  clear hr hok
  by_cases t0 : 0 ≤ p ∧ p < M
  rotate_left
  · have KP := Lib.hid (fun (w : World) => implIsNode M E S a n c p false ⟨(fun h => by cases h), fun h => absurd h (by omega)⟩ w)
    clear hb
    go_enter Try.func24, Try.ntmps24
    go_wp2_with fail
    refine (KN.out _ (HR.out.below (by (repeat' (first | (with_reducible exact Below.refl _ _) | (with_reducible assumption) | (with_reducible refine balloc ?_ _) | (with_reducible refine Below.drew ?_) | (with_reducible refine below_drewN ?_ _) | (with_reducible refine bset ?_ ?_ _) | (with_reducible refine bstep ?_ (by assumption)) | go_size))))).mono ?_
    rintro e w1 ⟨rfl, hb1⟩
    obtain ⟨uu1, vv1, zz1, nn1, mm1⟩ := bltn hb1 (b := w.heap.size) (by (first | omega | (simp only [World.size_alloc, World.size_setCell, World.size_drew, World.heap_drewN]; omega)))
    obtain ⟨xu1, xv1, xz1, xn1, xm1⟩ := bltn hb1 (b := w.heap.size + 1) (by (first | omega | (simp only [World.size_alloc, World.size_setCell, World.size_drew, World.heap_drewN]; omega)))
    have B1 : Below w.heap.size w w1 := bstep (by (repeat' (first | (with_reducible exact Below.refl _ _) | (with_reducible assumption) | (with_reducible refine balloc ?_ _) | (with_reducible refine Below.drew ?_) | (with_reducible refine below_drewN ?_ _) | (with_reducible refine bset ?_ ?_ _) | (with_reducible refine bstep ?_ (by assumption)) | go_size))) hb1
    go_wp2_with fail
    refine (KP.out _).mono ?_
    rintro e w2 ⟨rfl, hb2⟩
    obtain ⟨xu2, xv2, xz2, xn2, xm2⟩ := bltn hb2 (b := w.heap.size + 1) (by (first | omega | (simp only [World.size_alloc, World.size_setCell, World.size_drew, World.heap_drewN]; omega)))
    have B2 : Below w.heap.size w w2 := bstep B1 hb2
    go_wp2_with fail
    have rs0 : (w2.cell? { block := w.heap.size + 1, off := 0 }).isSome = true := by simp [go_sem, xu2, xu1]
    have rs1 : (w2.cell? { block := w.heap.size + 1, off := 1 }).isSome = true := by simp [go_sem, xu2, xu1]
    refine bodyPost_ret (v := (.tuple #[ratV 0 0, .bool false])) (by simp [results, Try.results24, go_sem, rs0, rs1]; try rfl) rfl ?_
    exact ⟨rfl, by (repeat' (first | (with_reducible exact Below.refl _ _) | (with_reducible assumption) | (with_reducible refine balloc ?_ _) | (with_reducible refine Below.drew ?_) | (with_reducible refine below_drewN ?_ _) | (with_reducible refine bset ?_ ?_ _) | (with_reducible refine bstep ?_ (by assumption)) | go_size))⟩
  have KP := Lib.hid (fun (w : World) => implIsNode M E S a n c p true ⟨fun _ => t0, fun _ => rfl⟩ w)
  have KQ := Lib.hid (fun (w : World) => implIsNode M E S a n c q false ⟨(fun h => by cases h), fun h => absurd ⟨t0, h⟩ hb⟩ w)
  clear hb
  go_enter Try.func24, Try.ntmps24
  go_wp2_with fail
  refine (KN.out _ (HR.out.below (by (repeat' (first | (with_reducible exact Below.refl _ _) | (with_reducible assumption) | (with_reducible refine balloc ?_ _) | (with_reducible refine Below.drew ?_) | (with_reducible refine below_drewN ?_ _) | (with_reducible refine bset ?_ ?_ _) | (with_reducible refine bstep ?_ (by assumption)) | go_size))))).mono ?_
  rintro e w1 ⟨rfl, hb1⟩
  obtain ⟨uu1, vv1, zz1, nn1, mm1⟩ := bltn hb1 (b := w.heap.size) (by (first | omega | (simp only [World.size_alloc, World.size_setCell, World.size_drew, World.heap_drewN]; omega)))
  obtain ⟨xu1, xv1, xz1, xn1, xm1⟩ := bltn hb1 (b := w.heap.size + 1) (by (first | omega | (simp only [World.size_alloc, World.size_setCell, World.size_drew, World.heap_drewN]; omega)))
  have B1 : Below w.heap.size w w1 := bstep (by (repeat' (first | (with_reducible exact Below.refl _ _) | (with_reducible assumption) | (with_reducible refine balloc ?_ _) | (with_reducible refine Below.drew ?_) | (with_reducible refine below_drewN ?_ _) | (with_reducible refine bset ?_ ?_ _) | (with_reducible refine bstep ?_ (by assumption)) | go_size))) hb1
  go_wp2_with fail
  refine (KP.out _).mono ?_
  rintro e w2 ⟨rfl, hb2⟩
  obtain ⟨uu2, vv2, zz2, nn2, mm2⟩ := bltn hb2 (b := w.heap.size) (by (first | omega | (simp only [World.size_alloc, World.size_setCell, World.size_drew, World.heap_drewN]; omega)))
  obtain ⟨xu2, xv2, xz2, xn2, xm2⟩ := bltn hb2 (b := w.heap.size + 1) (by (first | omega | (simp only [World.size_alloc, World.size_setCell, World.size_drew, World.heap_drewN]; omega)))
  have B2 : Below w.heap.size w w2 := bstep B1 hb2
  go_wp2_with fail
  refine (KQ.out _).mono ?_
  rintro e w3 ⟨rfl, hb3⟩
  obtain ⟨xu3, xv3, xz3, xn3, xm3⟩ := bltn hb3 (b := w.heap.size + 1) (by (first | omega | (simp only [World.size_alloc, World.size_setCell, World.size_drew, World.heap_drewN]; omega)))
  have B3 : Below w.heap.size w w3 := bstep B2 hb3
  go_wp2_with fail
  have rs0 : (w3.cell? { block := w.heap.size + 1, off := 0 }).isSome = true := by simp [go_sem, xu3, xu2, xu1]
  have rs1 : (w3.cell? { block := w.heap.size + 1, off := 1 }).isSome = true := by simp [go_sem, xu3, xu2, xu1]
  refine bodyPost_ret (v := (.tuple #[ratV 0 0, .bool false])) (by simp [results, Try.results24, go_sem, rs0, rs1]; try rfl) rfl ?_
  exact ⟨rfl, by (repeat' (first | (with_reducible exact Below.refl _ _) | (with_reducible assumption) | (with_reducible refine balloc ?_ _) | (with_reducible refine Below.drew ?_) | (with_reducible refine below_drewN ?_ _) | (with_reducible refine bset ?_ ?_ _) | (with_reducible refine bstep ?_ (by assumption)) | go_size))⟩
end Go.Proofs.Ytjchindjoailbaa

/- Determinants of the reference. -/
namespace Go.Proofs.Ytjchindjoailbaa
set_option linter.unusedSimpArgs false
set_option linter.unusedVariables false
open Go.RowKit

/-- an append to an owned row, as a step of a region that draws -/
theorem step_append_own2 {P : Program} (w : World) {ops : Array Oper} {o : Oper} {a : Act} {K : Act → World → Prop} {Q : Exit → Act → World → Prop} {E : Prop} (hgd : o.guard = none) (s x : Operand) (t : TypeId)
    (ho : o.op = .call { callee := .builtin .append, args := #[s, x], argTypes := #[t, t] })
    (base : Nat) (e : TypeId) (i : TypeInfo) (z : Value) (size bytes : Nat) (ht : P.underlying t = some (.slice e)) (hi : P.info? e = some i) (hz : i.zero = some z)
    (hsize : i.size = size) (hby : i.bytes = bytes) (hzs : z.cells.size = size) (hsz : 0 < size)
    (v : Value) (n : Nat) (xs : List Value) (hs : a.eval s = v) (hown : w.ownsRow base e size v n xs)
    (ad : Addr) (m c : Nat) (news : List Value) (hx : a.eval x = .slice (some ad) m c) (hl : news.length = m * size) (hnews : ∀ j u, news[j]? = some u → w.cell? (ad.add j) = some u) (h1 : ∀ u ∈ news, u.oneCell' = true)
    (h63 : n + m ≤ maxLen) (hbytes : (n + m) * bytes ≤ 140737488355328) (hbase : base ≤ w.heap.size)
    (h : ∀ v' w', w'.ownsRow base e size v' (n + m) (xs ++ news) → w.grownBy w' v.ownBlock → (v' = .slice none 0 0 ↔ v = .slice none 0 0 ∧ m = 0) → K (a.put o.dst v') w') :
    if Region.wanted o (yielded ops a.tmps) = true then Oper.wp P o a w K Q else E := by
  have hw : Region.wanted o (yielded ops a.tmps) = true := by simp [Region.wanted, hgd]
  rw [if_pos hw]
  exact wp_append_own w s x t ho base e i z size bytes ht hi hz hsize hby hzs hsz v n xs hs hown ad m c news hx hl hnews h1 h63 hbytes hbase h

theorem ints_one (l : List Int) : ∀ u ∈ ints l, u.oneCell' = true := by
  intro u hu
  unfold ints at hu
  rw [List.mem_flatMap] at hu
  obtain ⟨z, _, h⟩ := hu
  simp at h
  subst h
  rfl
set_option maxRecDepth 100000 in
set_option maxHeartbeats 8000000 in
theorem specDet (n : Nat) (M : List (List Int)) (hn : n ≤ 5) (hsq : ∀ r ∈ M, r.length = n) : ∀ (rows cols : List Int) (am ar ac : Option Addr) (cm nr cr nc cc : Nat) (w : World), IGrid w am n cm M → ArgRow w ar nr cr 1 (ints rows) → ArgRow w ac nc cc 1 (ints cols) → nc = nr → nr ≤ 5 → (∀ x ∈ rows, 0 ≤ x ∧ x < n) → (∀ x ∈ cols, 0 ≤ x ∧ x < n) →
    Calls Try.prog 148 #[.slice am n cm, .slice ar nr cr, .slice ac nc cc] w fun e w' => e = .returned (.int .i64 (detW (ent M) rows cols)) ∧ Below w.heap.size w w' := by
  intro rows
  induction rows with
  | nil =>
    intro cols am ar ac cm nr cr nc cc w hM hr hc hlen h5 hrs hcs
    have hl := hr.ints_len
    simp at hl
    subst hl
    clear hM hr hc hrs hcs
    go_enter Try.func148, Try.ntmps148
    go_wp2_with fail
    go_ret
    exact ⟨rfl, Below.refl _ _⟩
  | cons r rs ih =>
    intro cols am ar ac cm nr cr nc cc w hM hr hc hlen h5 hrs hcs
    obtain rfl : nc = nr := hlen
    have hl := hr.ints_len
    simp at hl
    have hlc := hc.ints_len
    have hcr := hr.2.1
    have hml := hM.len
    obtain ⟨br, or', rfl, hbr, _⟩ := hr.form (by omega)
    obtain ⟨bc, oc, rfl, hbc, _⟩ := hc.form (by omega)
    have hr0 := hrs r (by simp)
    obtain ⟨bm, om, rfl, hbm⟩ := hM.form (by omega)
    obtain ⟨r', rfl⟩ : ∃ r' : Nat, r = r' := ⟨r.toNat, by omega⟩
    obtain ⟨a', c', hcell, hrow⟩ := hM.row r' (by omega)
    have hMr := hsq _ (List.getElem_mem (show r' < M.length by omega))
    rw [hMr] at hcell hrow
    obtain ⟨b', o', rfl, hb', _⟩ := hrow.form (by omega)
    have h0 := int_cell hr 0 (by simp)
    simp only [Nat.add_zero, List.getElem_cons_zero] at h0
    have hent : ∀ q' : Nat, q' < n → ∃ x, ent M r' q' = x ∧ w.cell? ⟨b', o' + q', none⟩ = some (.int .i64 x) := by
      intro q' hq'
      refine ⟨_, rfl, ?_⟩
      have h1 : r' < M.length := by omega
      have h2 : q' < M[r'].length := by omega
      rw [int_cell hrow q' h2]
      unfold ent
      simp [List.getD_eq_getElem?_getD, h1, h2]
    have HM := Lib.hid hM
    have HRT := Lib.hid hr.tail'
    have HC := Lib.hid hc
    have HE := Lib.hid hent
    have HCS := Lib.hid hcs
    have KD := Lib.hid (fun (k : Nat) ar' n1 c1 ac' n2 cc' (w' : World) hM' hr' hc' (h1 : n2 = n1) (h2 : n1 ≤ 5) => ih (cols.eraseIdx k) (some ⟨bm, om, none⟩) ar' ac' cm n1 c1 n2 cc' w' hM' hr' hc' h1 h2 (fun x hx => hrs x (by simp [hx])) (fun x hx => hcs x (List.mem_of_mem_eraseIdx hx)))
    have HST := Lib.hid (fun (k : Nat) (x : Int) hx h => @dsum_step (ent M) (detW (ent M) rs) r' cols k x hx h)
    have HZ := Lib.hid (fun (k : Nat) (x : Int) hx h => @dsum_zero (ent M) (detW (ent M) rs) r' cols k x hx h)
    have HD : Hid (detW (ent M) ((r' : Int) :: rs) cols = dsum (ent M) (detW (ent M) rs) r' cols nc) := by show _ = _; rw [← hlc]; rfl
    have hz : dsum (ent M) (detW (ent M) rs) r' cols 0 = 0 := rfl
    generalize dsum (ent M) (detW (ent M) rs) r' cols = ds at HST HZ HD hz
    have HZ0 := Lib.hid hz
    have HLC := Lib.hid hlc
    have hnz : ((nc : Int) == 0) = false := by simp; omega
    obtain ⟨i0, hi0, hz0, hz1, hz2⟩ := info_parts infoInt
    have HI := Lib.hid (And.intro hi0 (And.intro hz0 (And.intro hz1 hz2)))
    clear hi0 hz0 hz1 hz2
    clear hM hr hc hent hcs ih hrs hz hlc hrow hsq
    go_enter Try.func148, Try.ntmps148
    go_wp2_with fail
    go_loopw [7, 8, 18] (fun s g v wr => ∃ k : Nat, k ≤ nc ∧ v = .int .i64 k ∧ s = .int .i64 (ds k) ∧ g = .int .i64 (sgn k) ∧ Hid (Below w.heap.size w wr)) (fun _ _ v _ => nc - (intOf v).toNat)
    case atStart => exact ⟨0, by omega, rfl, by rw [HZ0.out], rfl, Below.refl _ _⟩
    case round =>
      obtain ⟨k, hk, rfl, rfl, rfl, HB⟩ := hrel
      by_cases hlt : k < nc
      · have hli : k < cols.length := by rw [HLC.out]; exact hlt
        have c1 := int_cell HC.out k hli
        have hcb := HCS.out cols[k] (List.getElem_mem _)
        have HG : Hid (cols.getD k 0 = cols[k]) := by show _ = _; rw [List.getD_eq_getElem?_getD, List.getElem?_eq_getElem hli]; rfl
        generalize cols[k] = q at c1 hcb HG
        obtain ⟨q', rfl⟩ : ∃ q' : Nat, q = q' := ⟨q.toNat, by omega⟩
        obtain ⟨x, hx, c2⟩ := HE.out q' (by omega)
        have HX : Hid (ent M r' (cols.getD k 0) = x) := by show _ = _; rw [HG.out]; exact hx
        have d0 := h0
        have d1 := hcell
        rw [← HB.out.cell (p := ⟨br, _, none⟩) hbr] at d0
        rw [← HB.out.cell (p := ⟨bm, _, none⟩) hbm] at d1
        rw [← HB.out.cell (p := ⟨bc, _, none⟩) hbc] at c1
        rw [← HB.out.cell (p := ⟨b', _, none⟩) hb'] at c2
        have hq' : q' < n := by omega
        clear hli hx hcb
        by_cases h0x : x = 0
        · have HV := Lib.hid (HZ.out k x HX.out h0x)
          have HSG := Lib.hid (sgn_wrap k)
          have hx0 : (x != 0) = false := by simp [h0x]
          clear h0x
          go_wp2_with fail
          go_roundw
          case rel => exact ⟨k + 1, by omega, by go_num, by rw [HV.out], by rw [HSG.out], HB.out⟩
          case measure => simp [intOf]; omega
        · have HV := Lib.hid (HST.out k x HX.out h0x)
          have HSG := Lib.hid (sgn_wrap k)
          have hx0 : (x != 0) = true := by simp [h0x]
          have HCW := Lib.hid (HC.out.below HB.out)
          have HMW := Lib.hid (HM.out.below HB.out)
          have HRW := Lib.hid (HRT.out.below HB.out)
          have hccb : nc ≤ cc := HC.out.2.1
          have hcb2 : bc < wr.heap.size := Nat.lt_of_lt_of_le hbc HB.out.size
          have hnr1 : 1 ≤ nc := by omega
          have hs1 : IntKind.i64.wrap ((k : Int) + 1) = (k : Int) + 1 := IntWalk.i64_in _ (by omega)
          clear h0x
          go_upto_region 10 with fail
          go_cut [12] (fun s12 wx => ∃ a9 c9, s12 = .slice a9 (nc - 1) c9 ∧ Hid (ArgRow wx a9 (nc - 1) c9 1 (ints (cols.eraseIdx k))) ∧ Hid (Below wr.heap.size wr wx))
          case first =>
            have HEM : Hid ((wr.alloc (.cells #[] 3)).drew.ownsRow wr.heap.size 3 1 (.slice (some ⟨wr.heap.size, 0, none⟩) 0 0) 0 []) := World.ownsRow_lit (base := wr.heap.size) (size := 1) wr #[] 0 (Nat.le_refl _) (by simp) rfl
            have N1 : Hid ((ints (cols.take k)).length = k * 1) := by show _ = _; rw [ints_len, List.length_take, HLC.out]; omega
            have N2 : Hid (∀ j u, (ints (cols.take k))[j]? = some u → (wr.alloc (.cells #[] 3)).drew.cell? ((⟨bc, oc, none⟩ : Addr).add j) = some u) := by
              intro j u hu
              have hj := (List.getElem?_eq_some_iff.1 hu).1
              rw [ints_len, List.length_take] at hj
              rw [Addr.add_lit]
              have h9 := int_cell HCW.out j (by omega)
              have hb9 : (wr.alloc (.cells #[] 3)).drew.cell? ⟨bc, oc + j, none⟩ = wr.cell? ⟨bc, oc + j, none⟩ := ((balloc (Below.refl _ _) _).drew).cell (p := ⟨bc, oc + j, none⟩) hcb2
              rw [hb9, h9, ← hu, List.getElem?_eq_getElem (by rw [ints_len, List.length_take]; omega), ints_at _ j (by rw [List.length_take]; omega), List.getElem_take]
            have N3 : Hid (∀ u ∈ ints (cols.take k), u.oneCell' = true) := ints_one _
            have BSTEP1 : Hid (∀ w1 : World, (wr.alloc (.cells #[] 3)).drew.grownBy w1 (Value.ownBlock (.slice (some ⟨wr.heap.size, 0, none⟩) 0 0)) → Below wr.heap.size wr w1) := fun w1 hg => ((balloc (Below.refl _ _) _).drew).grown hg (by simp) (fun q hq => by simp [Value.ownBlock] at hq; omega)
            have hk3 : (0 : Int) ≤ (k : Int) + 1 := by omega
            have hk4 : (k : Int) + 1 ≤ (nc : Int) := by omega
            have hk5 : (k : Int) ≤ (cc : Int) := by omega
            by_cases hck : cc = k + 1
            · have M1 : Hid (([] : List Value).length = 0 * 1) := rfl
              have M2 : Hid (∀ w1 : World, Below wr.heap.size wr w1 → ∀ j u, ([] : List Value)[j]? = some u → w1.cell? ((⟨bc, oc, none⟩ : Addr).add j) = some u) := fun w1 _ j u hu => by simp at hu
              have M3 : Hid (∀ u ∈ ([] : List Value), u.oneCell' = true) := fun u hu => by simp at hu
              have hck2 : (k : Int) ≤ (k : Int) + 1 := by omega
              subst hck
              go_region_law (first
              | (refine step_append_own2 _ rfl (.tmp 34) (.tmp 37) 79 rfl wr.heap.size 3 i0 (.int .i64 0) 1 8 Try.underlying79 HI.out.1 HI.out.2.1 HI.out.2.2.1 HI.out.2.2.2 rfl (by decide) (.slice (some ⟨wr.heap.size, 0, none⟩) 0 0) 0 [] (by simp [Act.eval, Act.put]) HEM.out ⟨bc, oc, none⟩ k (k + 1) (ints (cols.take k)) (by simp [Act.eval, Act.put]) N1.out N2.out N3.out (by unfold maxLen; omega) (by omega) (by simp) ?_; intro v1 w1 hown1 hgrow1 hnil1; rw [Nat.zero_add, List.nil_append] at hown1; have B1 := Lib.hid (BSTEP1.out w1 hgrow1))
              | (refine step_append_own2 _ rfl (.tmp 38) (.tmp 42) 79 rfl wr.heap.size 3 i0 (.int .i64 0) 1 8 Try.underlying79 HI.out.1 HI.out.2.1 HI.out.2.2.1 HI.out.2.2.2 rfl (by decide) v1 k (ints (cols.take k)) (by simp [Act.eval, Act.put]) hown1 ⟨bc, oc, none⟩ 0 0 [] (by simp [Act.eval, Act.put]) M1.out (M2.out w1 B1.out) M3.out (by unfold maxLen; omega) (by omega) (by have := B1.out.size; omega) ?_; intro v2 w2 hown2 hgrow2 hnil2))
              all_goals
                go_wp2_with fail
                go_meet
                have hown3 : w2.ownsRow wr.heap.size 3 1 v2 (nc - 1) (ints (cols.eraseIdx k)) := by
                  have e1 : k + 0 = nc - 1 := by omega
                  have e2 : ints (cols.take k) ++ [] = ints (cols.eraseIdx k) := by
                    rw [List.eraseIdx_eq_take_drop_succ, ints_append]; rw [List.drop_eq_nil_of_le (by rw [HLC.out]; omega)]; rfl
                  rw [← e1, ← e2]; exact hown2
                obtain ⟨a9, c9, rfl⟩ := own_slice hown3
                exact ⟨a9, c9, rfl, ArgRow.own hown3, B1.out.grown hgrow2 (by have := B1.out.size; omega) (fun q hq => (hown1.lt q hq).1)⟩
            · have M1 : Hid ((ints (cols.drop (k + 1))).length = (nc - (k + 1)) * 1) := by show _ = _; rw [ints_len, List.length_drop, HLC.out]; omega
              have M2 : Hid (∀ w1 : World, Below wr.heap.size wr w1 → ∀ j u, (ints (cols.drop (k + 1)))[j]? = some u → w1.cell? ((⟨bc, oc + (k + 1), none⟩ : Addr).add j) = some u) := by
                intro w1 hb1 j u hu
                have hj := (List.getElem?_eq_some_iff.1 hu).1
                rw [ints_len, List.length_drop] at hj
                rw [Addr.add_lit]
                have h9 := int_cell HCW.out (k + 1 + j) (by omega)
                rw [show oc + (k + 1) + j = oc + (k + 1 + j) from by omega, hb1.cell (p := ⟨bc, oc + (k + 1 + j), none⟩) hcb2, h9, ← hu, List.getElem?_eq_getElem (by rw [ints_len, List.length_drop]; omega), ints_at _ j (by rw [List.length_drop]; omega), List.getElem_drop]
              have M3 : Hid (∀ u ∈ ints (cols.drop (k + 1)), u.oneCell' = true) := ints_one _
              have hck2 : ¬ cc - (k + 1) = 0 := by omega
              go_region_law (first
              | (refine step_append_own2 _ rfl (.tmp 34) (.tmp 37) 79 rfl wr.heap.size 3 i0 (.int .i64 0) 1 8 Try.underlying79 HI.out.1 HI.out.2.1 HI.out.2.2.1 HI.out.2.2.2 rfl (by decide) (.slice (some ⟨wr.heap.size, 0, none⟩) 0 0) 0 [] (by simp [Act.eval, Act.put]) HEM.out ⟨bc, oc, none⟩ k cc (ints (cols.take k)) (by simp [Act.eval, Act.put]) N1.out N2.out N3.out (by unfold maxLen; omega) (by omega) (by simp) ?_; intro v1 w1 hown1 hgrow1 hnil1; rw [Nat.zero_add, List.nil_append] at hown1; have B1 := Lib.hid (BSTEP1.out w1 hgrow1))
              | (refine step_append_own2 _ rfl (.tmp 38) (.tmp 42) 79 rfl wr.heap.size 3 i0 (.int .i64 0) 1 8 Try.underlying79 HI.out.1 HI.out.2.1 HI.out.2.2.1 HI.out.2.2.2 rfl (by decide) v1 k (ints (cols.take k)) (by simp [Act.eval, Act.put]) hown1 ⟨bc, oc + (k + 1), none⟩ (nc - (k + 1)) (cc - (k + 1)) (ints (cols.drop (k + 1))) (by simp [Act.eval, Act.put]) M1.out (M2.out w1 B1.out) M3.out (by unfold maxLen; omega) (by omega) (by have := B1.out.size; omega) ?_; intro v2 w2 hown2 hgrow2 hnil2))
              all_goals
                go_wp2_with fail
                go_meet
                have hown3 : w2.ownsRow wr.heap.size 3 1 v2 (nc - 1) (ints (cols.eraseIdx k)) := by
                  have e1 : k + (nc - (k + 1)) = nc - 1 := by omega
                  have e2 : ints (cols.take k) ++ (ints (cols.drop (k + 1))) = ints (cols.eraseIdx k) := by
                    rw [List.eraseIdx_eq_take_drop_succ, ints_append]
                  rw [← e1, ← e2]; exact hown2
                obtain ⟨a9, c9, rfl⟩ := own_slice hown3
                exact ⟨a9, c9, rfl, ArgRow.own hown3, B1.out.grown hgrow2 (by have := B1.out.size; omega) (fun q hq => (hown1.lt q hq).1)⟩
          case rest =>
            obtain ⟨a9, c9, rfl, R9, HB9⟩ := hcut
            have HMX := Lib.hid (HMW.out.below HB9.out)
            have HRX := Lib.hid (HRW.out.below HB9.out)
            by_cases hcr1 : cr = 1
            · subst hcr1
              have hrs0 : rs = [] := List.length_eq_zero_iff.1 (by omega)
              subst hrs0
              have R0 := R9.out
              rw [show nc - 1 = 0 from by omega] at R0
              have R0 := Lib.hid R0
              go_wp2_with fail
              refine (KD.out k (some ⟨br, or', none⟩) 0 0 a9 0 c9 _ HMX.out ⟨rfl, Nat.le_refl _, Nat.zero_le _, .inl rfl⟩ R0.out rfl (by omega)).mono ?_
              rintro e w3 ⟨rfl, hb3⟩
              go_wp2_with fail
              go_roundw
              case rel => exact ⟨k + 1, by omega, by go_num, by (first | rw [HV.out] | (rw [HV.out]; simp only [wrap64, IntKind.wrap_i64])), by (first | rw [HSG.out] | (rw [← HSG.out]; simp only [wrap64, IntKind.wrap_i64])), bstep (bstep HB.out HB9.out) hb3⟩
              case measure => simp [intOf]; omega
            have hcr2 : ¬ cr - 1 = 0 := by omega
            go_wp2_with fail
            refine (KD.out k (some ⟨br, or' + 1, none⟩) (nc - 1) (cr - 1) a9 (nc - 1) c9 _ HMX.out HRX.out R9.out rfl (by omega)).mono ?_
            rintro e w3 ⟨rfl, hb3⟩
            go_wp2_with fail
            go_roundw
            case rel => exact ⟨k + 1, by omega, by go_num, by (first | rw [HV.out] | (rw [HV.out]; simp only [wrap64, IntKind.wrap_i64])), by (first | rw [HSG.out] | (rw [← HSG.out]; simp only [wrap64, IntKind.wrap_i64])), bstep (bstep HB.out HB9.out) hb3⟩
            case measure => simp [intOf]; omega
      · obtain rfl : k = nc := by omega
        go_wp2_with fail
        go_ret
        exact ⟨by rw [HD.out]; rfl, HB.out⟩
end Go.Proofs.Ytjchindjoailbaa

/- Minors of a network's table: the reference's. -/
namespace Go.Proofs.Ytjchindjoailbaa
set_option linter.unusedSimpArgs false
set_option linter.unusedVariables false
open Go.RowKit

set_option maxRecDepth 100000 in
set_option maxHeartbeats 8000000 in
theorem specMinor (M : Nat) (E S : Int) (a : Option Addr) (n c : Nat) (l : List Wz) (g1 g2 nr cr nc cc : Nat) (rows cols : List Int) (hlen : (others M rows).length = (others M cols).length) (hok : NetOk M E S l) (w : World) (hr : ArgRow w a n c 3 (wires l)) (hl : l.length = n) (h1 : ArgRow w (some ⟨g1, 0, none⟩) nr cr 1 (ints rows)) (h2 : ArgRow w (some ⟨g2, 0, none⟩) nc cc 1 (ints cols)) :
    Calls Try.prog 144 #[netV M E S a n c, .slice (some ⟨g1, 0, none⟩) nr cr, .slice (some ⟨g2, 0, none⟩) nc cc] w fun e w' => e = .returned (.int .i64 (leftW M l rows cols)) ∧ Below w.heap.size w w' := by
  have hM5 : M ≤ 5 := by have := hok.h.n5; omega
  have hMx : M ≤ maxLen := by unfold maxLen; omega
  have HR := Lib.hid hr
  have H1 := Lib.hid h1
  have H2 := Lib.hid h2
  have KL := Lib.hid (fun (w : World) r => specLapl M E S a n c l hok w r hl)
  have KR := Lib.hid (fun (w : World) r => specOthers M (some ⟨g1, 0, none⟩) nr cr rows hM5 w r)
  have KC := Lib.hid (fun (w : World) r => specOthers M (some ⟨g2, 0, none⟩) nc cc cols hM5 w r)
  have KD := Lib.hid (fun am arr acc cm crr ccc (w : World) hm h1 h2 => specDet M (tab M (lapE l)) hM5 (tab_sq M _) (others M rows) (others M cols) am arr acc cm (others M rows).length crr (others M cols).length ccc w hm h1 h2 hlen.symm (by have := others_len M rows; omega) (fun x hx => others_mem hx) (fun x hx => others_mem hx))
  have HV : Hid (detW (ent (tab M (lapE l))) (others M rows) (others M cols) = leftW M l rows cols) := rfl
  generalize detW (ent (tab M (lapE l))) (others M rows) (others M cols) = D at KD HV
  clear hr h1 h2 hok hlen
  go_enter Try.func144, Try.ntmps144
  go_wp2_with fail
  go_region_held3 (fun w' => w'.cell? ⟨w.heap.size, 0, none⟩ = some (.int .i64 M) ∧ w'.cell? ⟨w.heap.size, 1, none⟩ = some (.int .i64 E) ∧ w'.cell? ⟨w.heap.size, 2, none⟩ = some (.int .i64 S) ∧ w'.cell? ⟨w.heap.size, 3, none⟩ = some (.slice a n c)) (go_keep)
    ((first
    | (go_at_call 149; ((with_reducible refine (KL.out _ (HR.out.below (by (repeat' (first | (with_reducible exact Below.refl _ _) | (with_reducible assumption) | (with_reducible refine balloc ?_ _) | (with_reducible refine Below.drew ?_) | (with_reducible refine below_drewN ?_ _) | (with_reducible refine bset ?_ ?_ _) | (with_reducible refine bstep ?_ (by assumption)) | go_size))))).mono ?_); rintro e wL ⟨gL, rL, rfl, oL, hbL⟩); (try (replace hbL := bdrew hbL)); have GL := Lib.hid (oL); clear oL; (try (have hq_ := bltn hbL (b := w.heap.size) (by (first | omega | (simp only [World.size_alloc, World.size_setCell, World.size_drew, World.heap_drewN]; omega))); obtain ⟨uu, vv, zz, nn, mm⟩ := hq_)))
    | (go_at_call_of 166 g1; ((with_reducible refine (KR.out _ (H1.out.below (by (repeat' (first | (with_reducible exact Below.refl _ _) | (with_reducible assumption) | (with_reducible refine balloc ?_ _) | (with_reducible refine Below.drew ?_) | (with_reducible refine below_drewN ?_ _) | (with_reducible refine bset ?_ ?_ _) | (with_reducible refine bstep ?_ (by assumption)) | go_size))))).mono ?_); rintro e wA ⟨gA, cA, rfl, oA, hbA⟩); (try (replace hbA := bdrew hbA)); have RA := Lib.hid (ArgRow.own oA); clear oA; (try (have hq_ := bltn hbA (b := w.heap.size) (by (first | omega | (simp only [World.size_alloc, World.size_setCell, World.size_drew, World.heap_drewN]; omega))); obtain ⟨uu, vv, zz, nn, mm⟩ := hq_)))
    | (go_at_call_of 166 g2; ((with_reducible refine (KC.out _ (H2.out.below (by (repeat' (first | (with_reducible exact Below.refl _ _) | (with_reducible assumption) | (with_reducible refine balloc ?_ _) | (with_reducible refine Below.drew ?_) | (with_reducible refine below_drewN ?_ _) | (with_reducible refine bset ?_ ?_ _) | (with_reducible refine bstep ?_ (by assumption)) | go_size))))).mono ?_); rintro e wB ⟨gB, cB, rfl, oB, hbB⟩); (try (replace hbB := bdrew hbB)); have RB := Lib.hid (ArgRow.own oB); clear oB; (try (have hq_ := bltn hbB (b := w.heap.size) (by (first | omega | (simp only [World.size_alloc, World.size_setCell, World.size_drew, World.heap_drewN]; omega))); obtain ⟨uu, vv, zz, nn, mm⟩ := hq_)))
    | (go_at_call 148; ((with_reducible refine (KD.out (some ⟨gL, 0, none⟩) (some ⟨gA, 0, none⟩) (some ⟨gB, 0, none⟩) rL cA cB _
        (by first | exact GL.out | exact GL.out.below hbA | exact GL.out.below hbB | exact (GL.out.below hbA).below hbB | exact (GL.out.below hbB).below hbA)
        (by first | exact RA.out | exact RA.out.below hbL | exact RA.out.below hbB | exact (RA.out.below hbL).below hbB | exact (RA.out.below hbB).below hbL)
        (by first | exact RB.out | exact RB.out.below hbA | exact RB.out.below hbL | exact (RB.out.below hbA).below hbL | exact (RB.out.below hbL).below hbA)).mono ?_); rintro e wD ⟨rfl, hbD⟩); (try (have hq_ := bltn hbD (b := w.heap.size) (by (first | omega | (simp only [World.size_alloc, World.size_setCell, World.size_drew, World.heap_drewN]; omega))); obtain ⟨uu, vv, zz, nn, mm⟩ := hq_)))))
  all_goals
    go_wp2_with fail
    go_ret
    exact ⟨by rw [← HV.out]; rfl, by (repeat' (first | (with_reducible exact Below.refl _ _) | (with_reducible assumption) | (with_reducible refine balloc ?_ _) | (with_reducible refine Below.drew ?_) | (with_reducible refine below_drewN ?_ _) | (with_reducible refine bset ?_ ?_ _) | (with_reducible refine bstep ?_ (by assumption)) | go_size))⟩
end Go.Proofs.Ytjchindjoailbaa

/- Sums over trees: the reference's. -/
namespace Go.Proofs.Ytjchindjoailbaa
set_option linter.unusedSimpArgs false
set_option linter.unusedVariables false
open Go.RowKit

set_option maxRecDepth 100000 in
set_option maxHeartbeats 4000000 in
theorem specTreeSum (M : Nat) (E S : Int) (a : Option Addr) (n c : Nat) (l : List Wz) (hok : NetOk M E S l) (w : World) (hr : ArgRow w a n c 3 (wires l)) (hl : l.length = n) :
    Calls Try.prog 116 #[netV M E S a n c] w fun e w' => e = .returned (.int .i64 (leftW M l [0] [0])) ∧ Below w.heap.size w w' := by
  have HR := Lib.hid hr
  have KN := Lib.hid (fun (w : World) rr => specNetOk M E S a n c l true ⟨fun _ => hok, fun _ => rfl⟩ w rr hl)
  have KL := Lib.hid (fun (g1 g2 : Nat) (w : World) rr r1 r2 => specMinor M E S a n c l g1 g2 1 1 1 1 [0] [0] rfl hok w rr hl r1 r2)
  have hM1 := hok.h.n1
  have hM5 := hok.h.n5
  clear hr hok
  go_enter Try.func116, Try.ntmps116
  go_wp2_with fail
  refine (KN.out _ (HR.out.below (by (repeat' (first | (with_reducible exact Below.refl _ _) | (with_reducible assumption) | (with_reducible refine balloc ?_ _) | (with_reducible refine Below.drew ?_) | (with_reducible refine below_drewN ?_ _) | (with_reducible refine bset ?_ ?_ _) | (with_reducible refine bstep ?_ (by assumption)) | go_size))))).mono ?_
  rintro e w1 ⟨rfl, hb1⟩
  obtain ⟨uu1, vv1, zz1, nn1, mm1⟩ := bltn hb1 (b := w.heap.size) (by (first | omega | (simp only [World.size_alloc, World.size_setCell, World.size_drew, World.heap_drewN]; omega)))
  have B1 : Hid (Below w.heap.size w w1) := bstep (by (repeat' (first | (with_reducible exact Below.refl _ _) | (with_reducible assumption) | (with_reducible refine balloc ?_ _) | (with_reducible refine Below.drew ?_) | (with_reducible refine below_drewN ?_ _) | (with_reducible refine bset ?_ ?_ _) | (with_reducible refine bstep ?_ (by assumption)) | go_size))) hb1
  go_wp2_with fail
  have R1 := Lib.hid ((row_one w1 0).below (w' := (w1.alloc (.cells #[.int .i64 0] 3)).alloc (.cells #[.int .i64 0] 3)) (balloc (Below.refl _ _) _))
  have R2 : Hid (ArgRow ((w1.alloc (.cells #[.int .i64 0] 3)).alloc (.cells #[.int .i64 0] 3)) (some ⟨w1.heap.size + 1, 0, none⟩) 1 1 1 (ints [0])) := by
    have := row_one (w1.alloc (.cells #[.int .i64 0] 3)) 0
    simpa [Hid] using this
  refine (KL.out w1.heap.size (w1.heap.size + 1) _ (HR.out.below (balloc (balloc B1.out _) _)) R1.out R2.out).mono ?_
  rintro e wz ⟨rfl, hbz⟩
  go_wp2_with fail
  go_ret
  exact ⟨rfl, bstep (balloc (balloc B1.out _) _) hbz⟩
set_option maxRecDepth 100000 in
set_option maxHeartbeats 4000000 in
theorem specTreeSum0 (N : Int) (E S : Int) (a : Option Addr) (n c : Nat) (l : List Wz) (hok : ¬ NetOk N E S l) (w : World) (hr : ArgRow w a n c 3 (wires l)) (hl : l.length = n) :
    Calls Try.prog 116 #[netV N E S a n c] w fun e w' => e = .returned (.int .i64 0) ∧ Below w.heap.size w w' := by
  have HR := Lib.hid hr
  have KN := Lib.hid (fun (w : World) rr => specNetOk N E S a n c l false ⟨(fun h => by cases h), fun h => absurd h hok⟩ w rr hl)
  clear hr hok
  go_enter Try.func116, Try.ntmps116
  go_wp2_with fail
  refine (KN.out _ (HR.out.below (by (repeat' (first | (with_reducible exact Below.refl _ _) | (with_reducible assumption) | (with_reducible refine balloc ?_ _) | (with_reducible refine Below.drew ?_) | (with_reducible refine below_drewN ?_ _) | (with_reducible refine bset ?_ ?_ _) | (with_reducible refine bstep ?_ (by assumption)) | go_size))))).mono ?_
  rintro e w1 ⟨rfl, hb1⟩
  go_wp2_with fail
  go_ret
  exact ⟨rfl, bstep (by (repeat' (first | (with_reducible exact Below.refl _ _) | (with_reducible assumption) | (with_reducible refine balloc ?_ _) | (with_reducible refine Below.drew ?_) | (with_reducible refine below_drewN ?_ _) | (with_reducible refine bset ?_ ?_ _) | (with_reducible refine bstep ?_ (by assumption)) | go_size))) hb1⟩
end Go.Proofs.Ytjchindjoailbaa

/- ResistanceOf of the reference. -/
namespace Go.Proofs.Ytjchindjoailbaa
set_option linter.unusedSimpArgs false
set_option linter.unusedVariables false
open Go.RowKit

set_option maxRecDepth 100000 in
set_option maxHeartbeats 4000000 in
theorem specScaled (M : Nat) (E S : Int) (a : Option Addr) (n c : Nat) (l : List Wz) (x : Int) (hx : -750000000000 ≤ x ∧ x ≤ 750000000000) (hok : NetOk M E S l) (w : World) (hr : ArgRow w a n c 3 (wires l)) (hl : l.length = n) :
    Calls Try.prog 122 #[netV M E S a n c, .int .i64 x] w fun e w' => e = .returned (ratV (Gn.rat (S * x) (leftW M l [0] [0])).1 (Gn.rat (S * x) (leftW M l [0] [0])).2) ∧ Below w.heap.size w w' := by
  have HR := Lib.hid hr
  have KT := Lib.hid (fun (w : World) rr => specTreeSum M E S a n c l hok w rr hl)
  have hb2 := scale_bd hok.h.s1 hok.h.s2 hx
  have hb3 := tree_bd hok
  generalize leftW M l [0] [0] = T at KT hb3
  have KR := Lib.hid (fun (w : World) => specRatioOf (S * x) T w (by omega) (by omega) (by omega) (by omega))
  generalize (Gn.rat (S * x) T).1 = R1 at KR
  generalize (Gn.rat (S * x) T).2 = R2 at KR
  have hm1 : IntKind.i64.wrap (S * x) = S * x := IntWalk.i64_in _ (by omega)
  have hm2 : wrap64 (S * x) = S * x := by unfold wrap64; omega
  clear hr hok hb2
  go_enter Try.func122, Try.ntmps122
  go_wp2_with fail
  go_region_held3 (fun w' => w'.cell? ⟨w.heap.size, 0, none⟩ = some (.int .i64 M) ∧ w'.cell? ⟨w.heap.size, 1, none⟩ = some (.int .i64 E) ∧ w'.cell? ⟨w.heap.size, 2, none⟩ = some (.int .i64 S) ∧ w'.cell? ⟨w.heap.size, 3, none⟩ = some (.slice a n c)) (go_keep)
    ((first
    | (go_at_call 116; ((with_reducible refine (KT.out _ (HR.out.below (by (repeat' (first | (with_reducible exact Below.refl _ _) | (with_reducible assumption) | (with_reducible refine balloc ?_ _) | (with_reducible refine Below.drew ?_) | (with_reducible refine below_drewN ?_ _) | (with_reducible refine bset ?_ ?_ _) | (with_reducible refine bstep ?_ (by assumption)) | go_size))))).mono ?_); rintro e wT ⟨rfl, hbT⟩); (try (replace hbT := bdrew hbT)); (try (have hq_ := bltn hbT (b := w.heap.size) (by (first | omega | (simp only [World.size_alloc, World.size_setCell, World.size_drew, World.heap_drewN]; omega))); obtain ⟨uu, vv, zz, nn, mm⟩ := hq_)); (try (have hq_ := bltn hbT (b := w.heap.size + 1) (by (first | omega | (simp only [World.size_alloc, World.size_setCell, World.size_drew, World.heap_drewN]; omega))); obtain ⟨uu, vv, zz, nn, mm⟩ := hq_)))
    | (go_at_call 86; ((with_reducible refine (KR.out _).mono ?_); rintro e wR ⟨rfl, hbR⟩); (try (have hq_ := bltn hbR (b := w.heap.size) (by (first | omega | (simp only [World.size_alloc, World.size_setCell, World.size_drew, World.heap_drewN]; omega))); obtain ⟨uu, vv, zz, nn, mm⟩ := hq_)); (try (have hq_ := bltn hbR (b := w.heap.size + 1) (by (first | omega | (simp only [World.size_alloc, World.size_setCell, World.size_drew, World.heap_drewN]; omega))); obtain ⟨uu, vv, zz, nn, mm⟩ := hq_)))))
  all_goals
    go_wp2_with fail
    have rs0 : (wR.cell? { block := w.heap.size + 1, off := 0 }).isSome = true := by simp [go_sem, *]
    have rs1 : (wR.cell? { block := w.heap.size + 1, off := 1 }).isSome = true := by simp [go_sem, *]
    refine bodyPost_ret (v := (ratV R1 R2)) (by simp [results, Try.results122, go_sem, rs0, rs1]; try rfl) rfl ?_
    exact ⟨rfl, by (repeat' (first | (with_reducible exact Below.refl _ _) | (with_reducible assumption) | (with_reducible refine balloc ?_ _) | (with_reducible refine Below.drew ?_) | (with_reducible refine below_drewN ?_ _) | (with_reducible refine bset ?_ ?_ _) | (with_reducible refine bstep ?_ (by assumption)) | go_size))⟩

end Go.Proofs.Ytjchindjoailbaa

/- Closed facts for the rows of this seat: what the form asks of the whole program, once. -/
namespace Go.Proofs.Ytjchindjoailbaa
set_option linter.unusedSimpArgs false
set_option linter.unusedVariables false
open Go.ChangeShapes Go.WideShapes Go.ChangeAt Go.RowKit
theorem own : ownKnob Try.prog.godebug = none := by kernel_rfl
theorem laidOut : laidOutB Try.prog = true := by kernel_rfl

theorem band {a b : Bool} (ha : a = true) (hb : b = true) : (a && b) = true := by rw [ha, hb]; rfl

/-! The program's head is a string of some thousand letters. The kernel is slow at a string's letters, but quick at a list of them: so each fact on the head is asked of the list. -/
theorem headLifts_of (P : Program) (l : List Char) (h : P.initOrder = String.ofList l) (r : List String)
    (hm : (if (stripLifts liftWords (behindMainWord (wordsSigns l))).2.head? == some "cut".toList then (stripLifts liftWords (behindMainWord (wordsSigns l))).1 else []) = r) : P.headLifts = r := by
  unfold Program.headLifts
  rw [h, String.toList_ofList]
  exact hm
set_option maxRecDepth 100000 in
theorem headLifts_eq : Try.prog.headLifts = [] := headLifts_of _ _ rfl _ (by kernel_rfl)
theorem make_of (P : Program) (l : List Char) (h : P.initOrder = String.ofList l) (r : Option Make)
    (hm : (match behindMainWord (wordsSigns l) with
      | c :: rest => if c == "gc".toList || c == "spec".toList then some Make.whole else if c == "cut".toList || (c == "finals".toList && rest.head? == some "cut".toList) then some .cut else if c == "carried".toList then some .carried else if P.headLifts.isEmpty then Option.none else some (.lifted P.headLifts)
      | [] => Option.none) = r) : P.make = r := by
  unfold Program.make
  rw [h, String.toList_ofList]
  exact hm
set_option maxRecDepth 100000 in
theorem make_eq : Try.prog.make = some .cut := make_of _ _ rfl _ (by kernel_rfl)
theorem finals_of (P : Program) (l : List Char) (h : P.initOrder = String.ofList l) (hl : P.headLifts = [])
    (hm : ((behindMainWord (wordsSigns l)).head? == some "carried".toList) = false) : P.liftsFinal = false := by
  unfold Program.liftsFinal
  rw [h, String.toList_ofList, hl]
  simp only [hm, Bool.false_and, Bool.false_or]
  rfl
set_option maxRecDepth 100000 in
theorem finals_eq : Try.prog.liftsFinal = false := finals_of _ _ rfl headLifts_eq (by kernel_rfl)
theorem mayEnter_of (P : Program) (l : List Char) (h : P.initOrder = String.ofList l)
    (hm : (match behindMainWord (wordsSigns l) with
      | c :: rest =>
        ((c == "gc".toList || c == "spec".toList) && (rest.isEmpty || rest.head? == some "stop".toList)) ||
        (c == "carried".toList && rest.take 2 == ["gc".toList, "cut".toList] && !P.laysLater && !P.bearsReflect) ||
        ((stripLifts liftWords (c :: rest)).2.head? == some "cut".toList &&
          ((stripLifts liftWords (c :: rest)).1.contains "finals" || !P.laysLater) && ((stripLifts liftWords (c :: rest)).1.contains "reflectrows" || !P.bearsReflect) &&
          ((stripLifts liftWords (c :: rest)).1.contains "reflectrows" || !(stripLifts liftWords (c :: rest)).1.contains "leanrows") &&
          P.doorFits (stripLifts liftWords (c :: rest)).1)
      | [] => false) = true) : P.mayEnter = true := by
  unfold Program.mayEnter
  rw [h, String.toList_ofList]
  exact hm
set_option maxRecDepth 100000 in
theorem mayEnter_eq : Try.prog.mayEnter = true := mayEnter_of _ _ rfl (by kernel_rfl)
theorem mayEnter_p : Try.pinned.checked.prog.mayEnter = true := mayEnter_eq
theorem finals_p : Try.pinned.checked.prog.liftsFinal = false := finals_eq
theorem make_p : Try.pinned.checked.prog.make = some .cut := make_eq
theorem bmake {a : Bool} {p : Bool} (h : a = p) : (p == a) = true := by rw [h]; simp
end Go.Proofs.Ytjchindjoailbaa

/- ResistanceOf: the law's walk. -/
namespace Go.Proofs.Ytjchindjoailbaa
set_option linter.unusedSimpArgs false
set_option linter.unusedVariables false
open Go.RowKit
theorem eqRatioSame (n d : Int) (w : World) :
    Calls Try.prog 47 #[ratV n d, ratV n d] w fun e w' => e = .returned (.bool true) ∧ Below w.heap.size w w' := by
  go_enter Try.func47, Try.ntmps47
  go_wp2_with fail
  go_ret
  exact ⟨rfl, by (repeat' (first | (with_reducible exact Below.refl _ _) | (with_reducible assumption) | (with_reducible refine balloc ?_ _) | (with_reducible refine Below.drew ?_) | (with_reducible refine below_drewN ?_ _) | (with_reducible refine bset ?_ ?_ _) | (with_reducible refine bstep ?_ (by assumption)) | go_size))⟩

end Go.Proofs.Ytjchindjoailbaa

/- The laws' arguments of numbers in rows, and in rows of rows, opened. -/
namespace Go.Proofs.Ytjchindjoailbaa
set_option linter.unusedSimpArgs false
set_option linter.unusedVariables false
open Go.RowKit Go.ChangeShapes Go.WideShapes Go.ChangeAt

section
variable {H : Type} {enc : TypeId × Value → H} {w : World} {base : Nat} {spare : Nat → Bool} {held : Bool}
theorem open_ints1 {fuel : Nat} {cs : List Value} {x : DataW H × List MemPlace} (h : DataW.trod enc Try.prog w base spare held fuel 79 cs = some x) :
    ∃ (a : Option Addr) (n c : Nat) (l : List Int), cs = [.slice a n c] ∧ ArgRow w a n c 1 (ints l) := by
  obtain ⟨a, n, c, l, e, _, hr, _⟩ := open_rows Try.underlying79 one_int (by omega) (fun z => [.int .i64 z]) (fun _ => True) (fun _ => rfl) (fun n cs y h => by obtain ⟨z, h1, _⟩ := dec_int n cs y h; exact ⟨z, h1, trivial⟩) h
  exact ⟨a, n, c, l, e, hr⟩
theorem flat_slV : ∀ l : List (Option Addr × Nat × List Int), l.flatMap (fun z => [slV z]) = l.map slV
  | [] => rfl
  | a :: l => by rw [List.flatMap_cons, flat_slV l]; rfl
theorem one_sl : Try.prog.cellsOf 79 = 1 := by kernel_rfl
theorem open_ints2 {fuel : Nat} {cs : List Value} {x : DataW H × List MemPlace} (h : DataW.trod enc Try.prog w base spare held fuel 114 cs = some x) :
    ∃ (a : Option Addr) (n c : Nat) (M : List (List Int)), cs = [.slice a n c] ∧ IGrid w a n c M := by
  obtain ⟨a, n, c, l, e, _, hr, hp⟩ := open_rows Try.underlying114 one_sl (by omega) (fun z : Option Addr × Nat × List Int => [slV z]) (fun z => ArgRow w z.1 z.2.2.length z.2.1 1 (ints z.2.2)) (fun _ => rfl)
    (fun n cs y h => by
      obtain ⟨a, n, c, l, e, hr⟩ := open_ints1 h
      have hl := hr.ints_len
      subst hl
      exact ⟨(a, c, l), e, hr⟩) h
  refine ⟨a, n, c, l.map fun z => z.2.2, e, l, rfl, ?_, hp⟩
  rw [← flat_slV]; exact hr
end
end Go.Proofs.Ytjchindjoailbaa

/- The laws' arguments of fractions in rows, and in rows of rows, opened. -/
namespace Go.Proofs.Ytjchindjoailbaa
set_option linter.unusedSimpArgs false
set_option linter.unusedVariables false
open Go.RowKit Go.ChangeShapes Go.WideShapes Go.ChangeAt

section
variable {H : Type} {enc : TypeId × Value → H} {w : World} {base : Nat} {spare : Nat → Bool} {held : Bool}
def wfR (x : Rz) : Prop := (Lit.int .i64 x.1).wf = true ∧ (Lit.int .i64 x.2).wf = true
set_option maxRecDepth 100000 in
theorem dec_rat (n : Nat) (cs : List Value) (y : DataW H × List MemPlace) (h : DataW.trod enc Try.prog w base spare held n 112 cs = some y) : ∃ z : Rz, cs = ratC z ∧ wfR z := by
  obtain ⟨y0, y1, m, _, hl, h0, h1⟩ := Go.ChangeShapes.trod_struct2 Try.underlying112 h
  have hl : cs.length = 2 := hl.trans (by kernel_rfl)
  obtain ⟨a, b, rfl⟩ : ∃ a b, cs = [a, b] := by
    match cs, hl with
    | [a, b], _ => exact ⟨a, b, rfl⟩
  obtain ⟨z0, e0, _, w0⟩ := DataW.trod_int Try.underlying3 h0
  obtain ⟨z1, e1, _, w1⟩ := DataW.trod_int Try.underlying3 h1
  simp [one_int] at e0 e1
  exact ⟨(z0, z1), by simp [ratC, e0, e1], w0, w1⟩
theorem two_rat : Try.prog.cellsOf 112 = 2 := by kernel_rfl
theorem open_rats1 {fuel : Nat} {cs : List Value} {x : DataW H × List MemPlace} (h : DataW.trod enc Try.prog w base spare held fuel 61 cs = some x) :
    ∃ (a : Option Addr) (n c : Nat) (l : List Rz), cs = [.slice a n c] ∧ ArgRow w a n c 2 (rats l) ∧ ∀ x ∈ l, wfR x := by
  obtain ⟨a, n, c, l, e, _, hr, hp⟩ := open_rows Try.underlying61 two_rat (by omega) ratC wfR (fun _ => rfl) dec_rat h
  exact ⟨a, n, c, l, e, hr, hp⟩
theorem flat_slR : ∀ l : List (Option Addr × Nat × List Rz), l.flatMap (fun z => [slV z]) = l.map slV
  | [] => rfl
  | a :: l => by rw [List.flatMap_cons, flat_slR l]; rfl
theorem one_slR : Try.prog.cellsOf 61 = 1 := by kernel_rfl
end
end Go.Proofs.Ytjchindjoailbaa
