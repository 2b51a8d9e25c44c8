/- CurrentOn: what both sides compute. -/
import Derived.Test.YtjchindjoailbaaG16
import Derived.Test.YtjchindjoailbaaG07
namespace Go.Proofs.Ytjchindjoailbaa
set_option linter.unusedSimpArgs false
set_option linter.unusedVariables false
open Go.RowKit
structure CurOk (N E S : Int) (l : List Wz) (p q x y : Int) : Prop where
  pot : PotOk N E S l p q
  hx : 0 ≤ x ∧ x < N
  hy : 0 ≤ y ∧ y < N
def curR (M : Nat) (l : List Wz) (p q x y : Int) : Rz := Gn.rat (wbF l x y * (potV M l p q x - potV M l p q y)) (leftW M l [0] [0])
theorem cur_rat {M : Nat} {E S : Int} {l : List Wz} {p q x y : Int} (h : CurOk M E S l p q x y) : Gn.rat (wbF l x y * (potI M l p q x - potI M l p q y)) (2 * leftW M l [0] [0]) = curR M l p q x y := by
  rw [h.pot.net.pot h.pot.hp h.pot.hq h.hx h.pot.ne, h.pot.net.pot h.pot.hp h.pot.hq h.hy h.pot.ne, show wbF l x y * (2 * potV M l p q x - 2 * potV M l p q y) = 2 * (wbF l x y * (potV M l p q x - potV M l p q y)) by grind]
  exact Gn.rat_mul (by omega) _ _
theorem wb_mul {W d X : Int} (hw : 0 ≤ W ∧ W ≤ 200) (hd : -X ≤ d ∧ d ≤ X) : -(200 * X) ≤ W * d ∧ W * d ≤ 200 * X := mul_bd (by omega) hd
end Go.Proofs.Ytjchindjoailbaa

/- CurrentOn of the program. -/
namespace Go.Proofs.Ytjchindjoailbaa
set_option linter.unusedSimpArgs false
set_option linter.unusedVariables false
open Go.RowKit

set_option maxRecDepth 100000 in
set_option maxHeartbeats 8000000 in
theorem implCurrentOn0 (N E S : Int) (a : Option Addr) (n c : Nat) (l : List Wz) (p q x y : Int) (hno : ¬ CurOk N E S l p q x y) (w : World) (hr : ArgRow w a n c 3 (wires l)) (hl : l.length = n) :
    Calls Try.prog 18 #[netV N E S a n c, .int .i64 p, .int .i64 q, .int .i64 x, .int .i64 y] w fun e w' => e = .returned (.tuple #[ratV 0 0, .bool false]) ∧ Below w.heap.size w w' := by
  have HR := Lib.hid hr
  have HA0 : Hid (((w.alloc (.cells #[.int .i64 N, .int .i64 E, .int .i64 S, .slice a n c] 25)).alloc (.cells #[.int .i64 0, .int .i64 0] 32)).rowIs (w.heap.size + 1) 32 2 (ratAt (0, 0))) := by
    have := ratAt_new (w.alloc (.cells #[.int .i64 N, .int .i64 E, .int .i64 S, .slice a n c] 25)) 0 0 32
    simpa [Hid] using this
  have HP0 : Hid (((w.alloc (.cells #[.int .i64 N, .int .i64 E, .int .i64 S, .slice a n c] 25)).alloc (.cells #[.int .i64 0, .int .i64 0] 32)).rowIs w.heap.size 25 4 (netAt (.int .i64 N) (.int .i64 E) (.int .i64 S) (.slice a n c))) := (netAt_new _ _ _ _ _ _).alloc _
  obtain ⟨bp, hbp⟩ := bool_of (PotOk N E S l p q)
  obtain ⟨t0, ht0⟩ := bool_of (0 ≤ x ∧ x < N)
  obtain ⟨t1, ht1⟩ := bool_of (0 ≤ y ∧ y < N)
  have KP : Hid (∀ (w : World), ArgRow w a n c 3 (wires l) → Calls Try.prog 17 #[netV N E S a n c, .int .i64 p, .int .i64 q] w fun e w' => ∃ a' m' c', e = .returned (.tuple #[.slice a' m' c', .bool bp]) ∧ Below w.heap.size w w') := by
    intro w rr
    cases bp
    · exact (implPotentialsOf0 N E S a n c l p q (fun h => by have := hbp.2 h; cases this) w rr hl).mono (by rintro e w' ⟨rfl, h⟩; exact ⟨_, _, _, rfl, h⟩)
    · have hok := hbp.1 rfl
      obtain ⟨M, rfl⟩ : ∃ M : Nat, N = M := ⟨N.toNat, by have := hok.net.h.n1; omega⟩
      exact (implPotentialsOf M E S a n c l p q hok w rr hl).mono (by rintro e w' ⟨⟨g, c', rfl, _⟩, h⟩; exact ⟨_, _, _, rfl, h⟩)
  have KX := Lib.hid (fun (w : World) => implIsNode N E S a n c x t0 ht0 w)
  have KY := Lib.hid (fun (w : World) => implIsNode N E S a n c y t1 ht1 w)
  have hend : bp = true → t0 = true → t1 = true → False := fun h1 h2 h3 => hno ⟨hbp.1 h1, ht0.1 h2, ht1.1 h3⟩
  replace hend := Lib.hid hend
  clear hr hno ht0 ht1 hbp
  go_enter Try.func18, Try.ntmps18
  go_wp2_with fail
  refine (KP.out _ (HR.out.below (by (repeat' (first | (with_reducible exact Below.refl _ _) | (with_reducible assumption) | (with_reducible refine balloc ?_ _) | (with_reducible refine Below.drew ?_) | (with_reducible refine below_drewN ?_ _) | (with_reducible refine bset ?_ ?_ _) | (with_reducible refine bstep ?_ (by assumption)) | go_size))))).mono ?_
  rintro e w1 ⟨a1, m1, c1, rfl, hb1⟩
  have HN1 := Lib.hid (HP0.out.of_block (hb1.block _ HP0.out.lt))
  have HA1 := Lib.hid (HA0.out.of_block (hb1.block _ HA0.out.lt))
  have B1 : Hid (Below w.heap.size w w1) := bstep (balloc (balloc (Below.refl _ _) _) _) hb1
  clear hb1
  obtain ⟨n1_0, n1_1, n1_2, n1_3⟩ := netAt_cells HN1.out
  obtain ⟨a1_0, a1_1⟩ := ratAt_cells HA1.out
  have af1_0 := HA1.out.frozen 0
  have af1_1 := HA1.out.frozen 1
  have hln1 := HN1.out.lt
  have hla1 := HA1.out.lt
  cases bp
  · go_wp2_with fail
    have rs0 : (w1.cell? { block := w.heap.size + 1, off := 0 }).isSome = true := by simp [go_sem, *]
    have rs1 : (w1.cell? { block := w.heap.size + 1, off := 1 }).isSome = true := by simp [go_sem, *]
    refine bodyPost_ret (v := (.tuple #[ratV 0 0, .bool false])) (by simp [results, Try.results18, go_sem, rs0, rs1]; try rfl) rfl ?_
    exact ⟨rfl, bset (bset B1.out (by show w.heap.size ≤ w.heap.size + 1; omega) _) (by show w.heap.size ≤ w.heap.size + 1; omega) _⟩
  go_wp2_with fail
  refine (KX.out _).mono ?_
  rintro e w2 ⟨rfl, hb2⟩
  have HN2 := Lib.hid (HN1.out.of_block (hb2.block _ HN1.out.lt))
  have HA2 := Lib.hid (HA1.out.of_block (hb2.block _ HA1.out.lt))
  have B2 : Hid (Below w.heap.size w w2) := bstep B1.out hb2
  clear hb2
  clear n1_0 n1_1 n1_2 n1_3 a1_0 a1_1 af1_0 af1_1 hln1 hla1
  obtain ⟨n2_0, n2_1, n2_2, n2_3⟩ := netAt_cells HN2.out
  obtain ⟨a2_0, a2_1⟩ := ratAt_cells HA2.out
  have af2_0 := HA2.out.frozen 0
  have af2_1 := HA2.out.frozen 1
  have hln2 := HN2.out.lt
  have hla2 := HA2.out.lt
  cases t0
  · go_wp2_with fail
    have rs0 : (w2.cell? { block := w.heap.size + 1, off := 0 }).isSome = true := by simp [go_sem, *]
    have rs1 : (w2.cell? { block := w.heap.size + 1, off := 1 }).isSome = true := by simp [go_sem, *]
    refine bodyPost_ret (v := (.tuple #[ratV 0 0, .bool false])) (by simp [results, Try.results18, go_sem, rs0, rs1]; try rfl) rfl ?_
    exact ⟨rfl, bset (bset B2.out (by show w.heap.size ≤ w.heap.size + 1; omega) _) (by show w.heap.size ≤ w.heap.size + 1; omega) _⟩
  go_wp2_with fail
  refine (KY.out _).mono ?_
  rintro e w3 ⟨rfl, hb3⟩
  have HN3 := Lib.hid (HN2.out.of_block (hb3.block _ HN2.out.lt))
  have HA3 := Lib.hid (HA2.out.of_block (hb3.block _ HA2.out.lt))
  have B3 : Hid (Below w.heap.size w w3) := bstep B2.out hb3
  clear hb3
  clear n2_0 n2_1 n2_2 n2_3 a2_0 a2_1 af2_0 af2_1 hln2 hla2
  obtain ⟨n3_0, n3_1, n3_2, n3_3⟩ := netAt_cells HN3.out
  obtain ⟨a3_0, a3_1⟩ := ratAt_cells HA3.out
  have af3_0 := HA3.out.frozen 0
  have af3_1 := HA3.out.frozen 1
  have hln3 := HN3.out.lt
  have hla3 := HA3.out.lt
  cases t1
  · go_wp2_with fail
    have rs0 : (w3.cell? { block := w.heap.size + 1, off := 0 }).isSome = true := by simp [go_sem, *]
    have rs1 : (w3.cell? { block := w.heap.size + 1, off := 1 }).isSome = true := by simp [go_sem, *]
    refine bodyPost_ret (v := (.tuple #[ratV 0 0, .bool false])) (by simp [results, Try.results18, go_sem, rs0, rs1]; try rfl) rfl ?_
    exact ⟨rfl, bset (bset B3.out (by show w.heap.size ≤ w.heap.size + 1; omega) _) (by show w.heap.size ≤ w.heap.size + 1; omega) _⟩
  have hf := hend.out
  simp at hf
set_option maxRecDepth 100000 in
set_option maxHeartbeats 16000000 in
theorem implCurrentOn (M : Nat) (E S : Int) (a : Option Addr) (n c : Nat) (l : List Wz) (p q x y : Int) (hok : CurOk M E S l p q x y) (w : World) (hr : ArgRow w a n c 3 (wires l)) (hl : l.length = n) :
    Calls Try.prog 18 #[netV M E S a n c, .int .i64 p, .int .i64 q, .int .i64 x, .int .i64 y] w fun e w' => e = .returned (.tuple #[ratV (curR M l p q x y).1 (curR M l p q x y).2, .bool true]) ∧ Below w.heap.size w w' := by
  have HR := Lib.hid hr
  have HA0 : Hid (((w.alloc (.cells #[.int .i64 M, .int .i64 E, .int .i64 S, .slice a n c] 25)).alloc (.cells #[.int .i64 0, .int .i64 0] 32)).rowIs (w.heap.size + 1) 32 2 (ratAt (0, 0))) := by
    have := ratAt_new (w.alloc (.cells #[.int .i64 M, .int .i64 E, .int .i64 S, .slice a n c] 25)) 0 0 32
    simpa [Hid] using this
  have HP0 : Hid (((w.alloc (.cells #[.int .i64 M, .int .i64 E, .int .i64 S, .slice a n c] 25)).alloc (.cells #[.int .i64 0, .int .i64 0] 32)).rowIs w.heap.size 25 4 (netAt (.int .i64 M) (.int .i64 E) (.int .i64 S) (.slice a n c))) := (netAt_new _ _ _ _ _ _).alloc _
  have hM1 := hok.pot.net.h.n1
  have hM5 := hok.pot.net.h.n5
  have hMz : ((M : Int) == 0) = false := by simp; omega
  have hMz2 : (M == 0) = false := by simp; omega
  have KP := Lib.hid (fun (w : World) rr => implPotentialsOf M E S a n c l p q hok.pot w rr hl)
  have hPL := Lib.hid (potR_len M S l p q M)
  generalize potR M S l p q M = PR at KP hPL
  have KX := Lib.hid (fun (w : World) => implIsNode M E S a n c x true ⟨fun _ => hok.hx, fun _ => rfl⟩ w)
  have KY := Lib.hid (fun (w : World) => implIsNode M E S a n c y true ⟨fun _ => hok.hy, fun _ => rfl⟩ w)
  have KA := Lib.hid (fun (w : World) rr => implPotential M E S a n c l p q x hok.pot.hp hok.pot.hq hok.hx hok.pot.net w rr hl)
  have KB := Lib.hid (fun (w : World) rr => implPotential M E S a n c l p q y hok.pot.hp hok.pot.hq hok.hy hok.pot.net w rr hl)
  have KW := Lib.hid (fun (w : World) rr => implWB M E S a n c l x y hok.pot.net.asc w rr hl)
  have KT := Lib.hid (fun (w : World) rr => implTreeSum M E S a n c l hok.pot.net w rr hl)
  have b1 := potI_bd hok.pot.net hok.pot.hp hok.pot.hq hok.hx
  have b2 := potI_bd hok.pot.net hok.pot.hp hok.pot.hq hok.hy
  have b3 := hok.pot.net.wb x y
  have b4 := tree_bd hok.pot.net
  have HV : Hid (Gn.rat (wbF l x y * (potI M l p q x - potI M l p q y)) (2 * leftW M l [0] [0]) = curR M l p q x y) := cur_rat hok
  generalize curR M l p q x y = CV at HV ⊢
  generalize potI M l p q x = P1 at KA HV b1
  generalize potI M l p q y = P2 at KB HV b2
  generalize wbF l x y = W at KW HV b3
  generalize leftW M l [0] [0] = T at KT HV b4
  have b5 := wb_mul (W := W) (d := P1 - P2) (X := 4500000000000) b3 (by omega)
  have KR := fun w => implRatioOf (W * (P1 - P2)) (2 * T) w (by omega) (by omega) (by omega) (by omega)
  have mm1 : IntKind.i64.wrap (P1 - P2) = P1 - P2 := IntWalk.i64_in _ (by omega)
  have mm2 : IntKind.i64.wrap (W * (P1 - P2)) = W * (P1 - P2) := IntWalk.i64_in _ (by omega)
  have mm4 : wrap64 (W * (P1 - P2)) = W * (P1 - P2) := by unfold wrap64; omega
  have mm3 : IntKind.i64.wrap (2 * T) = 2 * T := IntWalk.i64_in _ (by omega)
  have hv := HV.out
  rw [hv] at KR
  clear hv
  obtain ⟨R0, R1⟩ := CV
  replace KR := Lib.hid KR
  clear hr hok b1 b2 b3 b4 b5 HV
  go_enter Try.func18, Try.ntmps18
  go_wp2_with fail
  refine (KP.out _ (HR.out.below (by (repeat' (first | (with_reducible exact Below.refl _ _) | (with_reducible assumption) | (with_reducible refine balloc ?_ _) | (with_reducible refine Below.drew ?_) | (with_reducible refine below_drewN ?_ _) | (with_reducible refine bset ?_ ?_ _) | (with_reducible refine bstep ?_ (by assumption)) | go_size))))).mono ?_
  rintro e w1 ⟨⟨g1, c1, rfl, _⟩, hb1⟩
  have HN1 := Lib.hid (HP0.out.of_block (hb1.block _ HP0.out.lt))
  have HA1 := Lib.hid (HA0.out.of_block (hb1.block _ HA0.out.lt))
  have B1 : Hid (Below w.heap.size w w1) := bstep (balloc (balloc (Below.refl _ _) _) _) hb1
  clear hb1
  have hpl := hPL.out
  rw [hpl]
  obtain ⟨n1_0, n1_1, n1_2, n1_3⟩ := netAt_cells HN1.out
  obtain ⟨a1_0, a1_1⟩ := ratAt_cells HA1.out
  have af1_0 := HA1.out.frozen 0
  have af1_1 := HA1.out.frozen 1
  have hln1 := HN1.out.lt
  have hla1 := HA1.out.lt
  go_wp2_with fail
  refine (KX.out _).mono ?_
  rintro e w2 ⟨rfl, hb2⟩
  have HN2 := Lib.hid (HN1.out.of_block (hb2.block _ HN1.out.lt))
  have HA2 := Lib.hid (HA1.out.of_block (hb2.block _ HA1.out.lt))
  have B2 : Hid (Below w.heap.size w w2) := bstep B1.out hb2
  clear hb2
  clear n1_0 n1_1 n1_2 n1_3 a1_0 a1_1 af1_0 af1_1 hln1 hla1
  obtain ⟨n2_0, n2_1, n2_2, n2_3⟩ := netAt_cells HN2.out
  obtain ⟨a2_0, a2_1⟩ := ratAt_cells HA2.out
  have af2_0 := HA2.out.frozen 0
  have af2_1 := HA2.out.frozen 1
  have hln2 := HN2.out.lt
  have hla2 := HA2.out.lt
  go_wp2_with fail
  refine (KY.out _).mono ?_
  rintro e w3 ⟨rfl, hb3⟩
  have HN3 := Lib.hid (HN2.out.of_block (hb3.block _ HN2.out.lt))
  have HA3 := Lib.hid (HA2.out.of_block (hb3.block _ HA2.out.lt))
  have B3 : Hid (Below w.heap.size w w3) := bstep B2.out hb3
  clear hb3
  clear n2_0 n2_1 n2_2 n2_3 a2_0 a2_1 af2_0 af2_1 hln2 hla2
  obtain ⟨n3_0, n3_1, n3_2, n3_3⟩ := netAt_cells HN3.out
  obtain ⟨a3_0, a3_1⟩ := ratAt_cells HA3.out
  have af3_0 := HA3.out.frozen 0
  have af3_1 := HA3.out.frozen 1
  have hln3 := HN3.out.lt
  have hla3 := HA3.out.lt
  have hrd3 : Hid (∀ w', Below w3.heap.size w3 w' → w'.cell? ⟨w.heap.size, 0, none⟩ = some (.int .i64 M) ∧ w'.cell? ⟨w.heap.size, 1, none⟩ = some (.int .i64 E) ∧ w'.cell? ⟨w.heap.size, 2, none⟩ = some (.int .i64 S) ∧ w'.cell? ⟨w.heap.size, 3, none⟩ = some (.slice a n c)) := fun w' h => netAt_cells (HN3.out.of_block (h.block _ HN3.out.lt))
  have hbr3 := Lib.hid (fun (w' : World) (h : Below w3.heap.size w3 w') => (bstep B3.out h : Below w.heap.size w w'))
  go_wp2_with fail
  clear n3_0 n3_1 n3_2 n3_3 a3_0 a3_1 af3_0 af3_1 hln3 hla3
  refine region_quiet_tail_in (fun w' => Below w3.heap.size w3 w') 11 (by kernel_rfl) (by kernel_rfl) (Below.refl _ _).drew ?_
  simp only [List.take_succ_cons, List.take_zero, List.drop_succ_cons, List.drop_zero]
  refine wpQuiet_step (fun K hK => ?_)
  go_simp
  refine ⟨.agg #[.int .i64 M, .int .i64 E, .int .i64 S, .slice a n c], fun w' hw' => ?_, hK _ ?_⟩
  · obtain ⟨c0, c1, c2, c3⟩ := hrd3.out w' hw'
    go_simp
  clear hK K
  refine wpQuiet_step (fun K hK => ?_)
  go_simp
  apply Exists.intro
  constructor
  · intro w' hw'; exact rfl
  refine hK _ ?_
  clear hK K
  refine wpQuiet_step (fun K hK => ?_)
  go_simp
  apply Exists.intro
  constructor
  · intro w' hw'; exact rfl
  refine hK _ ?_
  clear hK K
  refine wpQuiet_step (fun K hK => ?_)
  go_simp
  apply Exists.intro
  constructor
  · intro w' hw'; exact rfl
  refine hK _ ?_
  clear hK K
  refine wpQuiet_step (fun K hK => ?_)
  go_simp
  refine ⟨.int .i64 P1, fun w' hw' => (KA.out w' (HR.out.below (hbr3.out w' hw'))).mono (fun e w'' h => ⟨h.1, hw'.trans (h.2.mono (by have := hw'.size; simpa using this))⟩), hK _ ?_⟩
  clear hK K
  refine wpQuiet_step (fun K hK => ?_)
  go_simp
  refine ⟨.agg #[.int .i64 M, .int .i64 E, .int .i64 S, .slice a n c], fun w' hw' => ?_, hK _ ?_⟩
  · obtain ⟨c0, c1, c2, c3⟩ := hrd3.out w' hw'
    go_simp
  clear hK K
  refine wpQuiet_step (fun K hK => ?_)
  go_simp
  apply Exists.intro
  constructor
  · intro w' hw'; exact rfl
  refine hK _ ?_
  clear hK K
  refine wpQuiet_step (fun K hK => ?_)
  go_simp
  apply Exists.intro
  constructor
  · intro w' hw'; exact rfl
  refine hK _ ?_
  clear hK K
  refine wpQuiet_step (fun K hK => ?_)
  go_simp
  apply Exists.intro
  constructor
  · intro w' hw'; exact rfl
  refine hK _ ?_
  clear hK K
  refine wpQuiet_step (fun K hK => ?_)
  go_simp
  refine ⟨.int .i64 P2, fun w' hw' => (KB.out w' (HR.out.below (hbr3.out w' hw'))).mono (fun e w'' h => ⟨h.1, hw'.trans (h.2.mono (by have := hw'.size; simpa using this))⟩), hK _ ?_⟩
  clear hK K
  refine wpQuiet_step (fun K hK => ?_)
  go_simp
  apply Exists.intro
  constructor
  · intro w' hw'; exact rfl
  refine hK _ ?_
  clear hK K
  refine wpQuiet_nil ?_
  intro w4 hb4
  have HN4 := Lib.hid (HN3.out.of_block (hb4.block _ HN3.out.lt))
  have HA4 := Lib.hid (HA3.out.of_block (hb4.block _ HA3.out.lt))
  have B4 : Hid (Below w.heap.size w w4) := bstep B3.out hb4
  clear hb4 hrd3 hbr3
  obtain ⟨n4_0, n4_1, n4_2, n4_3⟩ := netAt_cells HN4.out
  obtain ⟨a4_0, a4_1⟩ := ratAt_cells HA4.out
  have af4_0 := HA4.out.frozen 0
  have af4_1 := HA4.out.frozen 1
  have hln4 := HN4.out.lt
  have hla4 := HA4.out.lt
  have hrd4 : Hid (∀ w', Below w4.heap.size w4 w' → w'.cell? ⟨w.heap.size, 0, none⟩ = some (.int .i64 M) ∧ w'.cell? ⟨w.heap.size, 1, none⟩ = some (.int .i64 E) ∧ w'.cell? ⟨w.heap.size, 2, none⟩ = some (.int .i64 S) ∧ w'.cell? ⟨w.heap.size, 3, none⟩ = some (.slice a n c)) := fun w' h => netAt_cells (HN4.out.of_block (h.block _ HN4.out.lt))
  have hbr4 := Lib.hid (fun (w' : World) (h : Below w4.heap.size w4 w') => (bstep B4.out h : Below w.heap.size w w'))
  go_wp2_with fail
  clear n4_0 n4_1 n4_2 n4_3 a4_0 a4_1 af4_0 af4_1 hln4 hla4
  refine region_quiet_tail_in (fun w' => Below w4.heap.size w4 w') 10 (by kernel_rfl) (by kernel_rfl) (Below.refl _ _).drew ?_
  simp only [List.take_succ_cons, List.take_zero, List.drop_succ_cons, List.drop_zero]
  refine wpQuiet_step (fun K hK => ?_)
  go_simp
  refine ⟨.agg #[.int .i64 M, .int .i64 E, .int .i64 S, .slice a n c], fun w' hw' => ?_, hK _ ?_⟩
  · obtain ⟨c0, c1, c2, c3⟩ := hrd4.out w' hw'
    go_simp
  clear hK K
  refine wpQuiet_step (fun K hK => ?_)
  go_simp
  apply Exists.intro
  constructor
  · intro w' hw'; exact rfl
  refine hK _ ?_
  clear hK K
  refine wpQuiet_step (fun K hK => ?_)
  go_simp
  apply Exists.intro
  constructor
  · intro w' hw'; exact rfl
  refine hK _ ?_
  clear hK K
  refine wpQuiet_step (fun K hK => ?_)
  go_simp
  refine ⟨.int .i64 W, fun w' hw' => (KW.out w' (HR.out.below (hbr4.out w' hw'))).mono (fun e w'' h => ⟨h.1, hw'.trans (h.2.mono (by have := hw'.size; simpa using this))⟩), hK _ ?_⟩
  clear hK K
  refine wpQuiet_step (fun K hK => ?_)
  go_simp
  apply Exists.intro
  constructor
  · intro w' hw'; exact rfl
  refine hK _ ?_
  clear hK K
  refine wpQuiet_step (fun K hK => ?_)
  go_simp
  apply Exists.intro
  constructor
  · intro w' hw'; exact rfl
  refine hK _ ?_
  clear hK K
  refine wpQuiet_step (fun K hK => ?_)
  go_simp
  refine ⟨.agg #[.int .i64 M, .int .i64 E, .int .i64 S, .slice a n c], fun w' hw' => ?_, hK _ ?_⟩
  · obtain ⟨c0, c1, c2, c3⟩ := hrd4.out w' hw'
    go_simp
  clear hK K
  refine wpQuiet_step (fun K hK => ?_)
  go_simp
  refine ⟨.int .i64 T, fun w' hw' => (KT.out w' (HR.out.below (hbr4.out w' hw'))).mono (fun e w'' h => ⟨h.1, hw'.trans (h.2.mono (by have := hw'.size; simpa using this))⟩), hK _ ?_⟩
  clear hK K
  refine wpQuiet_step (fun K hK => ?_)
  go_simp
  apply Exists.intro
  constructor
  · intro w' hw'; exact rfl
  refine hK _ ?_
  clear hK K
  refine wpQuiet_step (fun K hK => ?_)
  go_simp
  refine ⟨ratV R0 R1, fun w' hw' => (KR.out w').mono (fun e w'' h => ⟨h.1, hw'.trans (h.2.mono (by have := hw'.size; simpa using this))⟩), hK _ ?_⟩
  clear hK K
  refine wpQuiet_nil ?_
  intro w5 hb5
  have HN5 := Lib.hid (HN4.out.of_block (hb5.block _ HN4.out.lt))
  have HA5 := Lib.hid (HA4.out.of_block (hb5.block _ HA4.out.lt))
  have B5 : Hid (Below w.heap.size w w5) := bstep B4.out hb5
  clear hb5 hrd4 hbr4
  obtain ⟨n5_0, n5_1, n5_2, n5_3⟩ := netAt_cells HN5.out
  obtain ⟨a5_0, a5_1⟩ := ratAt_cells HA5.out
  have af5_0 := HA5.out.frozen 0
  have af5_1 := HA5.out.frozen 1
  have hln5 := HN5.out.lt
  have hla5 := HA5.out.lt
  go_wp2_with fail
  have rs0 : (w5.cell? { block := w.heap.size + 1, off := 0 }).isSome = true := by simp [go_sem, *]
  have rs1 : (w5.cell? { block := w.heap.size + 1, off := 1 }).isSome = true := by simp [go_sem, *]
  refine bodyPost_ret (v := (.tuple #[ratV R0 R1, .bool true])) (by simp [results, Try.results18, go_sem, rs0, rs1]; try rfl) rfl ?_
  exact ⟨rfl, bset (bset B5.out (by show w.heap.size ≤ w.heap.size + 1; omega) _) (by show w.heap.size ≤ w.heap.size + 1; omega) _⟩
end Go.Proofs.Ytjchindjoailbaa

/- CurrentOn of the reference. -/
namespace Go.Proofs.Ytjchindjoailbaa
set_option linter.unusedSimpArgs false
set_option linter.unusedVariables false
open Go.RowKit

set_option maxRecDepth 100000 in
set_option maxHeartbeats 8000000 in
theorem specCurrentOn0 (N E S : Int) (a : Option Addr) (n c : Nat) (l : List Wz) (p q x y : Int) (hno : ¬ CurOk N E S l p q x y) (w : World) (hr : ArgRow w a n c 3 (wires l)) (hl : l.length = n) :
    Calls Try.prog 64 #[netV N E S a n c, .int .i64 p, .int .i64 q, .int .i64 x, .int .i64 y] w fun e w' => e = .returned (.tuple #[ratV 0 0, .bool false]) ∧ Below w.heap.size w w' := by
  have HR := Lib.hid hr
  have HA0 : Hid (((w.alloc (.cells #[.int .i64 N, .int .i64 E, .int .i64 S, .slice a n c] 25)).alloc (.cells #[.int .i64 0, .int .i64 0] 32)).rowIs (w.heap.size + 1) 32 2 (ratAt (0, 0))) := by
    have := ratAt_new (w.alloc (.cells #[.int .i64 N, .int .i64 E, .int .i64 S, .slice a n c] 25)) 0 0 32
    simpa [Hid] using this
  have HP0 : Hid (((w.alloc (.cells #[.int .i64 N, .int .i64 E, .int .i64 S, .slice a n c] 25)).alloc (.cells #[.int .i64 0, .int .i64 0] 32)).rowIs w.heap.size 25 4 (netAt (.int .i64 N) (.int .i64 E) (.int .i64 S) (.slice a n c))) := (netAt_new _ _ _ _ _ _).alloc _
  obtain ⟨bp, hbp⟩ := bool_of (PotOk N E S l p q)
  obtain ⟨t0, ht0⟩ := bool_of (0 ≤ x ∧ x ≤ N - 1)
  obtain ⟨t1, ht1⟩ := bool_of (0 ≤ y ∧ y ≤ N - 1)
  have KP : Hid (∀ (w : World), ArgRow w a n c 3 (wires l) → Calls Try.prog 69 #[netV N E S a n c, .int .i64 p, .int .i64 q] w fun e w' => ∃ a' m' c', e = .returned (.tuple #[.slice a' m' c', .bool bp]) ∧ Below w.heap.size w w') := by
    intro w rr
    cases bp
    · exact (specPotentialsOf0 N E S a n c l p q (fun h => by have := hbp.2 h; cases this) w rr hl).mono (by rintro e w' ⟨rfl, h⟩; exact ⟨_, _, _, rfl, h⟩)
    · have hok := hbp.1 rfl
      obtain ⟨M, rfl⟩ : ∃ M : Nat, N = M := ⟨N.toNat, by have := hok.net.h.n1; omega⟩
      exact (specPotentialsOf M E S a n c l p q hok w rr hl).mono (by rintro e w' ⟨⟨g, c', rfl, _⟩, h⟩; exact ⟨_, _, _, rfl, h⟩)
  have KX := Lib.hid (fun (w : World) => specIn x 0 (N - 1) t0 ht0 w)
  have KY := Lib.hid (fun (w : World) => specIn y 0 (N - 1) t1 ht1 w)
  have hNB : bp = true → 1 ≤ N ∧ N ≤ 5 := fun h => ⟨(hbp.1 h).net.h.n1, (hbp.1 h).net.h.n5⟩
  have hend : bp = true → t0 = true → t1 = true → False := fun h1 h2 h3 => hno ⟨hbp.1 h1, (by have := ht0.1 h2; omega), (by have := ht1.1 h3; omega)⟩
  replace hend := Lib.hid hend
  clear hr hno ht0 ht1 hbp
  go_enter Try.func64, Try.ntmps64
  go_wp2_with fail
  refine (KP.out _ (HR.out.below (by (repeat' (first | (with_reducible exact Below.refl _ _) | (with_reducible assumption) | (with_reducible refine balloc ?_ _) | (with_reducible refine Below.drew ?_) | (with_reducible refine below_drewN ?_ _) | (with_reducible refine bset ?_ ?_ _) | (with_reducible refine bstep ?_ (by assumption)) | go_size))))).mono ?_
  rintro e w1 ⟨a1, m1, c1, rfl, hb1⟩
  have HN1 := Lib.hid (HP0.out.of_block (hb1.block _ HP0.out.lt))
  have HA1 := Lib.hid (HA0.out.of_block (hb1.block _ HA0.out.lt))
  have B1 : Hid (Below w.heap.size w w1) := bstep (balloc (balloc (Below.refl _ _) _) _) hb1
  clear hb1
  obtain ⟨n1_0, n1_1, n1_2, n1_3⟩ := netAt_cells HN1.out
  obtain ⟨a1_0, a1_1⟩ := ratAt_cells HA1.out
  have af1_0 := HA1.out.frozen 0
  have af1_1 := HA1.out.frozen 1
  have hln1 := HN1.out.lt
  have hla1 := HA1.out.lt
  cases bp
  · go_wp2_with fail
    have rs0 : (w1.cell? { block := w.heap.size + 1, off := 0 }).isSome = true := by simp [go_sem, *]
    have rs1 : (w1.cell? { block := w.heap.size + 1, off := 1 }).isSome = true := by simp [go_sem, *]
    refine bodyPost_ret (v := (.tuple #[ratV 0 0, .bool false])) (by simp [results, Try.results64, go_sem, rs0, rs1]; try rfl) rfl ?_
    exact ⟨rfl, bset (bset B1.out (by show w.heap.size ≤ w.heap.size + 1; omega) _) (by show w.heap.size ≤ w.heap.size + 1; omega) _⟩
  have hNB2 := hNB rfl
  go_wp2_with fail
  refine (KX.out _).mono ?_
  rintro e w9 ⟨rfl, rfl⟩
  cases t0
  · go_wp2_with fail
    have rs0 : (w1.cell? { block := w.heap.size + 1, off := 0 }).isSome = true := by simp [go_sem, *]
    have rs1 : (w1.cell? { block := w.heap.size + 1, off := 1 }).isSome = true := by simp [go_sem, *]
    refine bodyPost_ret (v := (.tuple #[ratV 0 0, .bool false])) (by simp [results, Try.results64, go_sem, rs0, rs1]; try rfl) rfl ?_
    exact ⟨rfl, bset (bset B1.out (by show w.heap.size ≤ w.heap.size + 1; omega) _) (by show w.heap.size ≤ w.heap.size + 1; omega) _⟩
  go_wp2_with fail
  refine (KY.out _).mono ?_
  rintro e w9 ⟨rfl, rfl⟩
  cases t1
  · go_wp2_with fail
    have rs0 : (w1.cell? { block := w.heap.size + 1, off := 0 }).isSome = true := by simp [go_sem, *]
    have rs1 : (w1.cell? { block := w.heap.size + 1, off := 1 }).isSome = true := by simp [go_sem, *]
    refine bodyPost_ret (v := (.tuple #[ratV 0 0, .bool false])) (by simp [results, Try.results64, go_sem, rs0, rs1]; try rfl) rfl ?_
    exact ⟨rfl, bset (bset B1.out (by show w.heap.size ≤ w.heap.size + 1; omega) _) (by show w.heap.size ≤ w.heap.size + 1; omega) _⟩
  have hf := hend.out
  simp at hf
set_option maxRecDepth 100000 in
set_option maxHeartbeats 16000000 in
theorem specCurrentOn (M : Nat) (E S : Int) (a : Option Addr) (n c : Nat) (l : List Wz) (p q x y : Int) (hok : CurOk M E S l p q x y) (w : World) (hr : ArgRow w a n c 3 (wires l)) (hl : l.length = n) :
    Calls Try.prog 64 #[netV M E S a n c, .int .i64 p, .int .i64 q, .int .i64 x, .int .i64 y] w fun e w' => e = .returned (.tuple #[ratV (curR M l p q x y).1 (curR M l p q x y).2, .bool true]) ∧ Below w.heap.size w w' := by
  have HR := Lib.hid hr
  have HA0 : Hid (((w.alloc (.cells #[.int .i64 M, .int .i64 E, .int .i64 S, .slice a n c] 25)).alloc (.cells #[.int .i64 0, .int .i64 0] 32)).rowIs (w.heap.size + 1) 32 2 (ratAt (0, 0))) := by
    have := ratAt_new (w.alloc (.cells #[.int .i64 M, .int .i64 E, .int .i64 S, .slice a n c] 25)) 0 0 32
    simpa [Hid] using this
  have HP0 : Hid (((w.alloc (.cells #[.int .i64 M, .int .i64 E, .int .i64 S, .slice a n c] 25)).alloc (.cells #[.int .i64 0, .int .i64 0] 32)).rowIs w.heap.size 25 4 (netAt (.int .i64 M) (.int .i64 E) (.int .i64 S) (.slice a n c))) := (netAt_new _ _ _ _ _ _).alloc _
  have hM1 := hok.pot.net.h.n1
  have hM5 := hok.pot.net.h.n5
  have hMz : ((M : Int) == 0) = false := by simp; omega
  have hMz2 : (M == 0) = false := by simp; omega
  have KP := Lib.hid (fun (w : World) rr => specPotentialsOf M E S a n c l p q hok.pot w rr hl)
  have hPL := Lib.hid (potR_len M S l p q M)
  generalize potR M S l p q M = PR at KP hPL
  have KX := Lib.hid (fun (w : World) => specIn x 0 ((M : Int) - 1) true ⟨fun _ => (by have := hok.hx; omega), fun _ => rfl⟩ w)
  have KY := Lib.hid (fun (w : World) => specIn y 0 ((M : Int) - 1) true ⟨fun _ => (by have := hok.hy; omega), fun _ => rfl⟩ w)
  have KA := Lib.hid (fun (w : World) rr => specPotential M E S a n c l p q x hok.pot.hp hok.pot.hq hok.hx hok.pot.ne hok.pot.net w rr hl)
  have KB := Lib.hid (fun (w : World) rr => specPotential M E S a n c l p q y hok.pot.hp hok.pot.hq hok.hy hok.pot.ne hok.pot.net w rr hl)
  have KW := Lib.hid (fun (w : World) rr => specWB M E S a n c l x y hok.pot.net.asc w rr hl)
  have KT := Lib.hid (fun (w : World) rr => specTreeSum M E S a n c l hok.pot.net w rr hl)
  have b1 := potV_bd hok.pot.net hok.pot.hp hok.pot.hq hok.hx hok.pot.ne
  have b2 := potV_bd hok.pot.net hok.pot.hp hok.pot.hq hok.hy hok.pot.ne
  have b3 := hok.pot.net.wb x y
  have b4 := tree_bd hok.pot.net
  have HV : Hid (Gn.rat (wbF l x y * (potV M l p q x - potV M l p q y)) (leftW M l [0] [0]) = curR M l p q x y) := rfl
  generalize curR M l p q x y = CV at HV ⊢
  generalize potV M l p q x = P1 at KA HV b1
  generalize potV M l p q y = P2 at KB HV b2
  generalize wbF l x y = W at KW HV b3
  generalize leftW M l [0] [0] = T at KT HV b4
  have b5 := wb_mul (W := W) (d := P1 - P2) (X := 1500000000000) b3 (by omega)
  have KR := fun w => specRatioOf (W * (P1 - P2)) T w (by omega) (by omega) (by omega) (by omega)
  have mm1 : IntKind.i64.wrap (P1 - P2) = P1 - P2 := IntWalk.i64_in _ (by omega)
  have mm2 : IntKind.i64.wrap (W * (P1 - P2)) = W * (P1 - P2) := IntWalk.i64_in _ (by omega)
  have mm4 : wrap64 (W * (P1 - P2)) = W * (P1 - P2) := by unfold wrap64; omega
  skip
  have hv := HV.out
  rw [hv] at KR
  clear hv
  obtain ⟨R0, R1⟩ := CV
  replace KR := Lib.hid KR
  clear hr hok b1 b2 b3 b4 b5 HV
  go_enter Try.func64, Try.ntmps64
  go_wp2_with fail
  refine (KP.out _ (HR.out.below (by (repeat' (first | (with_reducible exact Below.refl _ _) | (with_reducible assumption) | (with_reducible refine balloc ?_ _) | (with_reducible refine Below.drew ?_) | (with_reducible refine below_drewN ?_ _) | (with_reducible refine bset ?_ ?_ _) | (with_reducible refine bstep ?_ (by assumption)) | go_size))))).mono ?_
  rintro e w1 ⟨⟨g1, c1, rfl, _⟩, hb1⟩
  have HN1 := Lib.hid (HP0.out.of_block (hb1.block _ HP0.out.lt))
  have HA1 := Lib.hid (HA0.out.of_block (hb1.block _ HA0.out.lt))
  have B1 : Hid (Below w.heap.size w w1) := bstep (balloc (balloc (Below.refl _ _) _) _) hb1
  clear hb1
  have hpl := hPL.out
  rw [hpl]
  obtain ⟨n1_0, n1_1, n1_2, n1_3⟩ := netAt_cells HN1.out
  obtain ⟨a1_0, a1_1⟩ := ratAt_cells HA1.out
  have af1_0 := HA1.out.frozen 0
  have af1_1 := HA1.out.frozen 1
  have hln1 := HN1.out.lt
  have hla1 := HA1.out.lt
  go_wp2_with fail
  refine (KX.out _).mono ?_
  rintro e w9 ⟨rfl, rfl⟩
  go_wp2_with fail
  refine (KY.out _).mono ?_
  rintro e w9 ⟨rfl, rfl⟩
  have hrd1 : Hid (∀ w', Below w1.heap.size w1 w' → w'.cell? ⟨w.heap.size, 0, none⟩ = some (.int .i64 M) ∧ w'.cell? ⟨w.heap.size, 1, none⟩ = some (.int .i64 E) ∧ w'.cell? ⟨w.heap.size, 2, none⟩ = some (.int .i64 S) ∧ w'.cell? ⟨w.heap.size, 3, none⟩ = some (.slice a n c)) := fun w' h => netAt_cells (HN1.out.of_block (h.block _ HN1.out.lt))
  have hbr1 := Lib.hid (fun (w' : World) (h : Below w1.heap.size w1 w') => (bstep B1.out h : Below w.heap.size w w'))
  go_wp2_with fail
  clear n1_0 n1_1 n1_2 n1_3 a1_0 a1_1 af1_0 af1_1 hln1 hla1
  refine region_quiet_tail_in (fun w' => Below w1.heap.size w1 w') 11 (by kernel_rfl) (by kernel_rfl) (Below.refl _ _).drew ?_
  simp only [List.take_succ_cons, List.take_zero, List.drop_succ_cons, List.drop_zero]
  refine wpQuiet_step (fun K hK => ?_)
  go_simp
  refine ⟨.agg #[.int .i64 M, .int .i64 E, .int .i64 S, .slice a n c], fun w' hw' => ?_, hK _ ?_⟩
  · obtain ⟨c0, c1, c2, c3⟩ := hrd1.out w' hw'
    go_simp
  clear hK K
  refine wpQuiet_step (fun K hK => ?_)
  go_simp
  apply Exists.intro
  constructor
  · intro w' hw'; exact rfl
  refine hK _ ?_
  clear hK K
  refine wpQuiet_step (fun K hK => ?_)
  go_simp
  apply Exists.intro
  constructor
  · intro w' hw'; exact rfl
  refine hK _ ?_
  clear hK K
  refine wpQuiet_step (fun K hK => ?_)
  go_simp
  apply Exists.intro
  constructor
  · intro w' hw'; exact rfl
  refine hK _ ?_
  clear hK K
  refine wpQuiet_step (fun K hK => ?_)
  go_simp
  refine ⟨.int .i64 P1, fun w' hw' => (KA.out w' (HR.out.below (hbr1.out w' hw'))).mono (fun e w'' h => ⟨h.1, hw'.trans (h.2.mono (by have := hw'.size; simpa using this))⟩), hK _ ?_⟩
  clear hK K
  refine wpQuiet_step (fun K hK => ?_)
  go_simp
  refine ⟨.agg #[.int .i64 M, .int .i64 E, .int .i64 S, .slice a n c], fun w' hw' => ?_, hK _ ?_⟩
  · obtain ⟨c0, c1, c2, c3⟩ := hrd1.out w' hw'
    go_simp
  clear hK K
  refine wpQuiet_step (fun K hK => ?_)
  go_simp
  apply Exists.intro
  constructor
  · intro w' hw'; exact rfl
  refine hK _ ?_
  clear hK K
  refine wpQuiet_step (fun K hK => ?_)
  go_simp
  apply Exists.intro
  constructor
  · intro w' hw'; exact rfl
  refine hK _ ?_
  clear hK K
  refine wpQuiet_step (fun K hK => ?_)
  go_simp
  apply Exists.intro
  constructor
  · intro w' hw'; exact rfl
  refine hK _ ?_
  clear hK K
  refine wpQuiet_step (fun K hK => ?_)
  go_simp
  refine ⟨.int .i64 P2, fun w' hw' => (KB.out w' (HR.out.below (hbr1.out w' hw'))).mono (fun e w'' h => ⟨h.1, hw'.trans (h.2.mono (by have := hw'.size; simpa using this))⟩), hK _ ?_⟩
  clear hK K
  refine wpQuiet_step (fun K hK => ?_)
  go_simp
  apply Exists.intro
  constructor
  · intro w' hw'; exact rfl
  refine hK _ ?_
  clear hK K
  refine wpQuiet_nil ?_
  intro w2 hb2
  have HN2 := Lib.hid (HN1.out.of_block (hb2.block _ HN1.out.lt))
  have HA2 := Lib.hid (HA1.out.of_block (hb2.block _ HA1.out.lt))
  have B2 : Hid (Below w.heap.size w w2) := bstep B1.out hb2
  clear hb2 hrd1 hbr1
  obtain ⟨n2_0, n2_1, n2_2, n2_3⟩ := netAt_cells HN2.out
  obtain ⟨a2_0, a2_1⟩ := ratAt_cells HA2.out
  have af2_0 := HA2.out.frozen 0
  have af2_1 := HA2.out.frozen 1
  have hln2 := HN2.out.lt
  have hla2 := HA2.out.lt
  go_wp2_with fail
  refine (KW.out _ (HR.out.below B2.out)).mono ?_
  rintro e w3 ⟨rfl, hb3⟩
  have HN3 := Lib.hid (HN2.out.of_block (hb3.block _ HN2.out.lt))
  have HA3 := Lib.hid (HA2.out.of_block (hb3.block _ HA2.out.lt))
  have B3 : Hid (Below w.heap.size w w3) := bstep B2.out hb3
  clear hb3
  clear n2_0 n2_1 n2_2 n2_3 a2_0 a2_1 af2_0 af2_1 hln2 hla2
  obtain ⟨n3_0, n3_1, n3_2, n3_3⟩ := netAt_cells HN3.out
  obtain ⟨a3_0, a3_1⟩ := ratAt_cells HA3.out
  have af3_0 := HA3.out.frozen 0
  have af3_1 := HA3.out.frozen 1
  have hln3 := HN3.out.lt
  have hla3 := HA3.out.lt
  go_wp2_with fail
  refine (KT.out _ (HR.out.below B3.out)).mono ?_
  rintro e w4 ⟨rfl, hb4⟩
  have HN4 := Lib.hid (HN3.out.of_block (hb4.block _ HN3.out.lt))
  have HA4 := Lib.hid (HA3.out.of_block (hb4.block _ HA3.out.lt))
  have B4 : Hid (Below w.heap.size w w4) := bstep B3.out hb4
  clear hb4
  clear n3_0 n3_1 n3_2 n3_3 a3_0 a3_1 af3_0 af3_1 hln3 hla3
  obtain ⟨n4_0, n4_1, n4_2, n4_3⟩ := netAt_cells HN4.out
  obtain ⟨a4_0, a4_1⟩ := ratAt_cells HA4.out
  have af4_0 := HA4.out.frozen 0
  have af4_1 := HA4.out.frozen 1
  have hln4 := HN4.out.lt
  have hla4 := HA4.out.lt
  go_wp2_with fail
  refine (KR.out _).mono ?_
  rintro e w5 ⟨rfl, hb5⟩
  have HN5 := Lib.hid (HN4.out.of_block (hb5.block _ HN4.out.lt))
  have HA5 := Lib.hid (HA4.out.of_block (hb5.block _ HA4.out.lt))
  have B5 : Hid (Below w.heap.size w w5) := bstep B4.out hb5
  clear hb5
  clear n4_0 n4_1 n4_2 n4_3 a4_0 a4_1 af4_0 af4_1 hln4 hla4
  obtain ⟨n5_0, n5_1, n5_2, n5_3⟩ := netAt_cells HN5.out
  obtain ⟨a5_0, a5_1⟩ := ratAt_cells HA5.out
  have af5_0 := HA5.out.frozen 0
  have af5_1 := HA5.out.frozen 1
  have hln5 := HN5.out.lt
  have hla5 := HA5.out.lt
  go_wp2_with fail
  have rs0 : (w5.cell? { block := w.heap.size + 1, off := 0 }).isSome = true := by simp [go_sem, *]
  have rs1 : (w5.cell? { block := w.heap.size + 1, off := 1 }).isSome = true := by simp [go_sem, *]
  refine bodyPost_ret (v := (.tuple #[ratV R0 R1, .bool true])) (by simp [results, Try.results64, go_sem, rs0, rs1]; try rfl) rfl ?_
  exact ⟨rfl, bset (bset B5.out (by show w.heap.size ≤ w.heap.size + 1; omega) _) (by show w.heap.size ≤ w.heap.size + 1; omega) _⟩
end Go.Proofs.Ytjchindjoailbaa
