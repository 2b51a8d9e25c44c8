/- The law on currents: at every node they add up to what comes in from outside, and follow the potentials. -/
import Derived.Test.YtjchindjoailbaaG23
import Derived.Test.YtjchindjoailbaaG22
import Derived.Test.YtjchindjoailbaaG19
import Derived.Test.YtjchindjoailbaaG07
import Derived.Test.YtjchindjoailbaaG16
import Derived.Test.YtjchindjoailbaaG01
import Derived.Test.YtjchindjoailbaaG20
import Derived.Test.YtjchindjoailbaaG14
import Derived.WalkKit
import Derived.ProofKit
import Derived.OpenShut
import Derived.ShutString
import Derived.ChangeOld
import Derived.Below
import Derived.Lib.SmallJoins
namespace Go.Proofs.Ytjchindjoailbaa
set_option linter.unusedSimpArgs false
set_option linter.unusedVariables false
open Go.RowKit

theorem mod_ne {M : Nat} {p r : Int} (hM : 2 ≤ M) (hM5 : M ≤ 5) (hp : 0 ≤ p ∧ p < M) (hr : 0 ≤ r ∧ r < (M : Int) - 1) : 0 ≤ (p + 1 + r) % M ∧ (p + 1 + r) % M < M ∧ ¬ p = (p + 1 + r) % M := by
  have : M = 2 ∨ M = 3 ∨ M = 4 ∨ M = 5 := by omega
  rcases this with rfl | rfl | rfl | rfl <;> omega
theorem potR_get {M : Nat} {S : Int} {l : List Wz} {p q : Int} {k v : Nat} (h : v < (potR M S l p q k).length) : (potR M S l p q k)[v] = Gn.rat (S * potV M l p q v) (leftW M l [0] [0]) := by
  simp [potR, upto]

set_option maxRecDepth 100000 in
set_option maxHeartbeats 16000000 in
theorem walk_FnKirchhoff (a : Option Addr) (n c : Nat) (zs : List Int) (w : World) (hr : ArgRow w a n c 1 (u8s zs)) :
    Calls Try.prog 3 #[.slice a n c] w fun e w' => e = .returned (.bool true) ∧ Below w.heap.size w w' := by
  have hn := hr.le
  unfold maxLen at hn
  by_cases hb : 1048576 < n
  · clear hr
    go_enter Try.func3, Try.ntmps3
    go_wp2_with fail
    go_ret
    exact ⟨rfl, Below.refl _ _⟩
  have HR := Lib.hid hr
  have hn' : n ≤ 1048576 := by omega
  clear hr hb hn
  go_enter Try.func3, Try.ntmps3
  go_wp2_with fail
  refine (specMakeNet a n c zs _ HR.out hn').mono ?_
  rintro e w1 ⟨M, E, S, l, a', c', rfl, hD, hO, hb1⟩
  have HD := Lib.hid hD
  have R1 := Lib.hid (ArgRow.own hO)
  have B1 : Hid (Below w.heap.size w (w1.alloc (.cells #[.int .i64 M, .int .i64 E, .int .i64 S, .slice a' l.length c'] 25))) := balloc hb1 _
  have N1 : Hid ((w1.alloc (.cells #[.int .i64 M, .int .i64 E, .int .i64 S, .slice a' l.length c'] 25)).rowIs w1.heap.size 25 4 (netAt (.int .i64 M) (.int .i64 E) (.int .i64 S) (.slice a' l.length c'))) := netAt_new _ _ _ _ _ _
  have RW1 : Hid (ArgRow (w1.alloc (.cells #[.int .i64 M, .int .i64 E, .int .i64 S, .slice a' l.length c'] 25)) a' l.length c' 3 (wires l)) := R1.out.below (balloc (Below.refl _ _) _)
  have hM2 : 2 ≤ M := by have := hD.n2; omega
  have hM5 : M ≤ 5 := by have := hD.ok.h.n5; omega
  have hS1 := hD.ok.h.s1
  have hS3 := hD.s3
  clear hD hO hb1 R1
  go_upto_region 4 with fail
  obtain ⟨bn, hbn⟩ : ∃ bn, w1.heap.size = bn := ⟨_, rfl⟩
  obtain ⟨wa, hwa⟩ : ∃ wa, w1.alloc (.cells #[.int .i64 M, .int .i64 E, .int .i64 S, .slice a' l.length c'] 25) = wa := ⟨_, rfl⟩
  rw [hwa] at B1 N1 RW1 ⊢
  rw [hbn] at N1 ⊢
  clear hbn hwa
  obtain ⟨m0, m1, m2, m3⟩ := netAt_cells N1.out
  have hlb := N1.out.lt
  go_cut [4] (fun s4 wx => ∃ p : Nat, s4 = .int .i64 p ∧ p < M ∧ Hid (Below wa.heap.size wa wx))
  case first =>
    have hM0 : ((M : Int) == 0) = false := by simp; omega
    have hMz : ¬ (M : Int) = 0 := by omega
    have hMn : ¬ M = 0 := by omega
    have hM1 : (0 : Int) < M := by omega
    have KN : Hid (∀ w : World, ArgRow w a n c 1 (u8s zs) → Calls Try.prog 16 #[.slice a n c, .int .i64 30] w fun e w' => ∃ x : Int, e = .returned (.int .i64 x) ∧ (0 ≤ x ∧ x < 65536) ∧ Below w.heap.size w w') := fun w rr => specNum 30 (by omega) a n c zs w rr hn'
    have BD : Hid (Below w.heap.size w wa.drew) := B1.out.drew
    go_region_held3 (fun w' => w'.cell? ⟨bn, 0, none⟩ = some (.int .i64 M)) (go_keep)
      ((go_at_call 16; ((with_reducible refine (KN.out _ (HR.out.below BD.out)).mono ?_); rintro e wX ⟨x, rfl, hx, hbX⟩); (try (replace hbX := bdrew hbX)); (try (have hq_ := bltn hbX (b := bn) (by (first | omega | (simp only [World.size_alloc, World.size_setCell, World.size_drew, World.heap_drewN]; omega))); obtain ⟨uu, vv, zz, nn, mm⟩ := hq_))))
    all_goals
      have hm1 := Int.emod_nonneg x (show (M : Int) ≠ 0 by omega)
      have hm2 := Int.emod_lt_of_pos x hM1
      obtain ⟨p, hp⟩ : ∃ p : Nat, x % (M : Int) = p := ⟨(x % (M : Int)).toNat, by omega⟩
      go_wp2_with fail
      go_meet
      exact ⟨p, by (first | (rw [← hp]; done) | rw [← hp, Int.tmod_eq_emod_of_nonneg hx.1]), by omega, hbX⟩
  case rest =>
  obtain ⟨p, rfl, hpM, HC⟩ := hcut
  have B2 : Hid (Below w.heap.size w wc) := B1.out.trans (HC.out.mono B1.out.size)
  have N2 := Lib.hid (N1.out.of_block (HC.out.block _ N1.out.lt))
  have RW2 := Lib.hid (RW1.out.below HC.out)
  clear m0 m1 m2 m3 hlb N1 B1 RW1
  obtain ⟨wb, rfl⟩ : ∃ wb : World, wb = wc := ⟨_, rfl⟩
  clear HC
  obtain ⟨m0, m1, m2, m3⟩ := netAt_cells N2.out
  have hlb := N2.out.lt
  go_upto_region 5 with fail
  go_cut [5] (fun s5 wx => ∃ q : Nat, s5 = .int .i64 q ∧ q < M ∧ ¬ p = q ∧ Hid (Below wb.heap.size wb wx))
  case first =>
    have hM0 : ((M : Int) == 0) = false := by simp; omega
    have hMz : ¬ (M : Int) = 0 := by omega
    have hMn : ¬ M = 0 := by omega
    have hMy : ¬ (M : Int) - 1 = 0 := by omega
    have hMx : ¬ (M : Int) = 1 := by omega
    have hMw : ¬ M = 1 := by omega
    have hM3 : ((M : Int) - 1 == 0) = false := by simp; omega
    have hM1 : (0 : Int) < M := by omega
    have hM4 : (0 : Int) < (M : Int) - 1 := by omega
    have e1 : IntKind.i64.wrap ((p : Int) + 1) = (p : Int) + 1 := IntWalk.i64_in _ (by omega)
    have e2 : IntKind.i64.wrap ((M : Int) - 1) = (M : Int) - 1 := IntWalk.i64_in _ (by omega)
    have KN : Hid (∀ w : World, ArgRow w a n c 1 (u8s zs) → Calls Try.prog 16 #[.slice a n c, .int .i64 32] w fun e w' => ∃ x : Int, e = .returned (.int .i64 x) ∧ (0 ≤ x ∧ x < 65536) ∧ Below w.heap.size w w') := fun w rr => specNum 32 (by omega) a n c zs w rr hn'
    have BD : Hid (Below w.heap.size w wb.drew) := B2.out.drew
    go_region_held3 (fun w' => w'.cell? ⟨bn, 0, none⟩ = some (.int .i64 M)) (go_keep)
      ((go_at_call 16; ((with_reducible refine (KN.out _ (HR.out.below BD.out)).mono ?_); rintro e wX ⟨x, rfl, hx, hbX⟩); (try (replace hbX := bdrew hbX)); (try (have hq_ := bltn hbX (b := bn) (by (first | omega | (simp only [World.size_alloc, World.size_setCell, World.size_drew, World.heap_drewN]; omega))); obtain ⟨uu, vv, zz, nn, mm⟩ := hq_)); have hm1 := Int.emod_nonneg x (show (M : Int) - 1 ≠ 0 by omega); have hm2 := Int.emod_lt_of_pos x hM4; have e4 : IntKind.i64.wrap ((p : Int) + 1 + x % ((M : Int) - 1)) = (p : Int) + 1 + x % ((M : Int) - 1) := IntWalk.i64_in _ (by omega); have e5 : 0 ≤ (p : Int) + 1 + x % ((M : Int) - 1) := by omega))
    all_goals
      obtain ⟨h1, h2, h3⟩ := mod_ne (M := M) (p := p) (r := x % ((M : Int) - 1)) hM2 hM5 ⟨by omega, by omega⟩ ⟨hm1, hm2⟩
      obtain ⟨q, hq⟩ : ∃ q : Nat, ((p : Int) + 1 + x % ((M : Int) - 1)) % (M : Int) = q := ⟨(((p : Int) + 1 + x % ((M : Int) - 1)) % (M : Int)).toNat, by omega⟩
      go_wp2_with fail
      go_meet
      exact ⟨q, by (first | (rw [← hq]; done) | rw [← hq, Int.tmod_eq_emod_of_nonneg hx.1, e4, Int.tmod_eq_emod_of_nonneg e5]), by omega, by omega, hbX⟩
  case rest =>
  obtain ⟨q, rfl, hqM, hpq, HC⟩ := hcut
  have B3 : Hid (Below w.heap.size w wc) := B2.out.trans (HC.out.mono B2.out.size)
  have N3 := Lib.hid (N2.out.of_block (HC.out.block _ N2.out.lt))
  have RW3 := Lib.hid (RW2.out.below HC.out)
  clear m0 m1 m2 m3 hlb N2 B2 RW2
  obtain ⟨wd, rfl⟩ : ∃ wd : World, wd = wc := ⟨_, rfl⟩
  clear HC
  have HPO : Hid (PotOk M E S l p q) := ⟨HD.out.ok, ⟨by omega, by omega⟩, ⟨by omega, by omega⟩, by omega⟩
  have KK := Lib.hid (kirch HD.out (p := p) (q := q) ⟨by omega, by omega⟩ ⟨by omega, by omega⟩ (by omega))
  have KC := Lib.hid (fun (v k : Nat) (hv : v < M) (hk : k < M) (w : World) rr => implCurrentOn M E S a' l.length c' l p q v k ⟨HPO.out, ⟨by omega, by omega⟩, ⟨by omega, by omega⟩⟩ w rr rfl)
  have KRes := Lib.hid (fun (w : World) rr => implResistanceOf M E S a' l.length c' l p q ⟨by omega, by omega⟩ ⟨by omega, by omega⟩ HD.out.ok w rr rfl)
  have KW := Lib.hid (fun (v k : Nat) (w : World) rr => implWB M E S a' l.length c' l v k HD.out.ok.asc w rr rfl)
  have HWB := Lib.hid (fun (v k : Nat) => HD.out.wb v k)
  obtain ⟨PR, HPL, HPG, KP⟩ : ∃ PR : List Rz, Hid (PR.length = M) ∧ Hid (∀ (v : Nat) (h : v < PR.length), PR[v] = Gn.rat (S * potV M l p q v) (leftW M l [0] [0])) ∧ Hid (∀ (w : World), ArgRow w a' l.length c' 3 (wires l) → Calls Try.prog 17 #[netV M E S a' l.length c', .int .i64 p, .int .i64 q] w fun e w' => PotRes e w w' PR ∧ Below w.heap.size w w') :=
    ⟨potR M S l p q M, potR_len M S l p q M, fun v h => potR_get h, fun w rr => implPotentialsOf M E S a' l.length c' l p q HPO.out w rr rfl⟩
  clear HD HPO
  obtain ⟨m0, m1, m2, m3⟩ := netAt_cells N3.out
  have hlb := N3.out.lt
  go_wp2_with fail
  refine (KP.out _ RW3.out).mono ?_
  rintro e we ⟨⟨gp, cp, rfl, op⟩, hbe⟩
  have RP4 := Lib.hid (ArgRow.own op)
  have hpl := HPL.out
  rw [hpl] at RP4 ⊢
  have B4 : Hid (Below w.heap.size w we) := bstep B3.out hbe
  have N4 := Lib.hid (N3.out.of_block (hbe.block _ N3.out.lt))
  have RW4 := Lib.hid (RW3.out.below hbe)
  have hgp : gp < we.heap.size := (own_base op _ rfl).2
  clear op hbe hpl m0 m1 m2 m3 hlb N3 B3 RW3 KP
  obtain ⟨m0, m1, m2, m3⟩ := netAt_cells N4.out
  have hlb := N4.out.lt
  have hMM : ((M : Int) != (M : Int)) = false := by simp
  go_wp2_with fail
  clear m0 m1 m2 m3
  go_loopw [8] (fun u wr => ∃ v : Nat, v ≤ M ∧ u = .int .i64 v ∧ Hid (Below we.heap.size we wr)) (fun u _ => M - (intOf u).toNat)
  case atStart => exact ⟨0, by omega, rfl, Below.refl _ _⟩
  case round =>
    obtain ⟨v, hvM, rfl, HB⟩ := hrel
    have N5 := Lib.hid (N4.out.of_block (HB.out.block _ N4.out.lt))
    have RW5 := Lib.hid (RW4.out.below HB.out)
    have RP5 := Lib.hid (RP4.out.below HB.out)
    have B5 : Hid (Below w.heap.size w wr) := B4.out.trans (HB.out.mono B4.out.size)
    obtain ⟨wo, rfl⟩ : ∃ wo : World, wo = wr := ⟨_, rfl⟩
    obtain ⟨m0, m1, m2, m3⟩ := netAt_cells N5.out
    have hlb5 := N5.out.lt
    have hgp5 : gp < wo.heap.size := Nat.lt_of_lt_of_le hgp HB.out.size
    by_cases hlv : v < M
    · have HS0 : Hid ((wo.alloc (.cells #[.int .i64 0, .int .i64 1] 32)).rowIs wo.heap.size 32 2 (ratAt (Gn.rat (flowV M l p q v 0) (leftW M l [0] [0])))) := by
        have e1 : flowV M l p q v 0 = 0 := rfl
        rw [e1, KK.out.z]; exact ratAt_new _ _ _ _
      go_wp2_with fail
      clear m0 m1 m2 m3
      go_loopw [10] (fun u wr => ∃ k : Nat, k ≤ M ∧ u = .int .i64 k ∧ wo.heap.size < wr.heap.size ∧ Hid (wr.rowIs wo.heap.size 32 2 (ratAt (Gn.rat (flowV M l p q v k) (leftW M l [0] [0])))) ∧ Hid (Below wo.heap.size wo wr)) (fun u _ => M - (intOf u).toNat)
      case atStart => exact ⟨0, by omega, rfl, by simp, HS0.out, balloc (Below.refl _ _) _⟩
      case round =>
        clear HS0
        obtain ⟨k, hkM, rfl, hsz, HS, HC⟩ := hrel
        have N6 := Lib.hid (N5.out.of_block (HC.out.block _ N5.out.lt))
        obtain ⟨m0, m1, m2, m3⟩ := netAt_cells N6.out
        have hlb6 := N6.out.lt
        by_cases hlk : k < M
        · have HSM : Hid (addR (Gn.rat (flowV M l p q v k) (leftW M l [0] [0])) (curR M l p q v k) = Gn.rat (flowV M l p q v (k + 1)) (leftW M l [0] [0])) := KK.out.sum v k ⟨by omega, by omega⟩ hlk
          have hct := KK.out.cur v k ⟨by omega, by omega⟩ ⟨by omega, by omega⟩
          have hv1 : v < PR.length := by rw [HPL.out]; exact hlv
          have hk1 : k < PR.length := by rw [HPL.out]; exact hlk
          rw [← HPG.out v hv1, ← HPG.out k hk1] at hct
          have KCC := Lib.hid (fun (w : World) rr => KC.out v k hlv hlk w rr)
          have KWW := Lib.hid (fun (w : World) rr => KW.out v k w rr)
          have hwb := HWB.out v k
          have RPr := Lib.hid (RP5.out.below HC.out)
          obtain ⟨pv0, pv1⟩ := rat_cells RPr.out v hv1
          obtain ⟨pk0, pk1⟩ := rat_cells RPr.out k hk1
          obtain ⟨s, hs⟩ : ∃ s, Gn.rat (flowV M l p q v k) (leftW M l [0] [0]) = s := ⟨_, rfl⟩
          obtain ⟨s2, hs2⟩ : ∃ s2, Gn.rat (flowV M l p q v (k + 1)) (leftW M l [0] [0]) = s2 := ⟨_, rfl⟩
          obtain ⟨cc, hcc⟩ : ∃ cc, curR M l p q v k = cc := ⟨_, rfl⟩
          rw [hs] at HS HSM
          rw [hs2, hcc] at HSM
          rw [hcc] at KCC hct
          have HS2 := Lib.hid hs2
          generalize PR[v] = yv at pv0 pv1 hct
          generalize PR[k] = yk at pk0 pk1 hct
          generalize wbF l v k = W at KWW hwb hct
          have KR := fun w => implRatioOf W S w (by omega) (by omega) (by omega) (by omega)
          obtain ⟨Q, hQ⟩ : ∃ Q, Gn.rat W S = Q := ⟨_, rfl⟩
          obtain ⟨D, hD⟩ : ∃ D, diffR yv yk = D := ⟨_, rfl⟩
          rw [hD, hQ] at hct
          have KD := fun w => implDiffR yv yk w
          have KT := fun w => implTimesR D Q w
          have KS := fun w => implSumR s cc w
          rw [hct] at KT
          rw [HSM.out] at KS
          simp only [hQ] at KR
          simp only [hD] at KD
          clear hct hs hs2 hcc hQ hD HSM hv1 hk1
          obtain ⟨yv0, yv1⟩ := yv
          obtain ⟨yk0, yk1⟩ := yk
          obtain ⟨D0, D1⟩ := D
          obtain ⟨Q0, Q1⟩ := Q
          obtain ⟨c0, c1⟩ := cc
          obtain ⟨s0, s1⟩ := s
          obtain ⟨t0, t1⟩ := s2
          replace KR := Lib.hid KR
          replace KD := Lib.hid KD
          replace KT := Lib.hid KT
          replace KS := Lib.hid KS
          have RWr := Lib.hid (RW5.out.below HC.out)
          have hgpr : gp < wr.heap.size := Nat.lt_of_lt_of_le hgp5 HC.out.size
          go_wp2_with fail
          refine (KCC.out _ RWr.out).mono ?_
          rintro e wX ⟨rfl, hbX⟩
          have hszX := hbX.size
          have HX : Hid (Below wr.heap.size wr (wX.alloc (.cells #[.int .i64 c0, .int .i64 c1] 32))) := balloc hbX _
          have hrd : Hid (∀ w', Below (wX.heap.size + 1) (wX.alloc (.cells #[.int .i64 c0, .int .i64 c1] 32)) w' → w'.cell? ⟨wX.heap.size, 0, none⟩ = some (.int .i64 c0) ∧ w'.cell? ⟨wX.heap.size, 1, none⟩ = some (.int .i64 c1) ∧ w'.cell? ⟨gp, 0 + v * 2, none⟩ = some (.int .i64 yv0) ∧ w'.cell? ⟨gp, 0 + v * 2 + 1, none⟩ = some (.int .i64 yv1) ∧ w'.cell? ⟨gp, 0 + k * 2, none⟩ = some (.int .i64 yk0) ∧ w'.cell? ⟨gp, 0 + k * 2 + 1, none⟩ = some (.int .i64 yk1) ∧ w'.cell? ⟨bn, 0, none⟩ = some (.int .i64 M) ∧ w'.cell? ⟨bn, 1, none⟩ = some (.int .i64 E) ∧ w'.cell? ⟨bn, 2, none⟩ = some (.int .i64 S) ∧ w'.cell? ⟨bn, 3, none⟩ = some (.slice a' l.length c')) := fun w' h => by
            obtain ⟨e0, e1⟩ := ratAt_cells (ratAt_new wX c0 c1 32)
            have h2 : Below wr.heap.size wr w' := HX.out.trans (h.mono (by omega))
            exact ⟨(h.cell (p := ⟨wX.heap.size, 0, none⟩) (by show wX.heap.size < _; omega)).trans e0, (h.cell (p := ⟨wX.heap.size, 1, none⟩) (by show wX.heap.size < _; omega)).trans e1, (h2.cell (p := ⟨gp, _, none⟩) hgpr).trans pv0, (h2.cell (p := ⟨gp, _, none⟩) hgpr).trans pv1, (h2.cell (p := ⟨gp, _, none⟩) hgpr).trans pk0, (h2.cell (p := ⟨gp, _, none⟩) hgpr).trans pk1, (h2.cell (p := ⟨bn, 0, none⟩) hlb6).trans m0, (h2.cell (p := ⟨bn, 1, none⟩) hlb6).trans m1, (h2.cell (p := ⟨bn, 2, none⟩) hlb6).trans m2, (h2.cell (p := ⟨bn, 3, none⟩) hlb6).trans m3⟩
          have hbw : Hid (∀ w', Below (wX.heap.size + 1) (wX.alloc (.cells #[.int .i64 c0, .int .i64 c1] 32)) w' → ArgRow w' a' l.length c' 3 (wires l)) := fun w' h => RWr.out.below (HX.out.trans (h.mono (by omega)))
          simp only [Nat.zero_add] at hrd
          clear hbX pv0 pv1 pk0 pk1 m0 m1 m2 m3
          go_wp2_with fail
          refine wp_region_quiet (C := fun w' => Below (wX.heap.size + 1) (wX.alloc (.cells #[.int .i64 c0, .int .i64 c1] 32)) w') (by kernel_rfl) (by kernel_rfl) (Below.refl _ _).drew ?_
          refine wpQuiet_step (fun K hK => ?_)
          go_simp
          apply Exists.intro
          constructor
          · intro w' hw'; exact rfl
          refine hK _ ?_
          clear hK K
          refine wpQuiet_step (fun K hK => ?_)
          go_simp
          apply Exists.intro
          constructor
          · intro w' hw'; exact rfl
          refine hK _ ?_
          clear hK K
          refine wpQuiet_step (fun K hK => ?_)
          go_simp
          apply Exists.intro
          constructor
          · intro w' hw'; exact rfl
          refine hK _ ?_
          clear hK K
          refine wpQuiet_step (fun K hK => ?_)
          go_simp
          refine ⟨.agg #[.int .i64 c0, .int .i64 c1], fun w' hw' => ?_, hK _ ?_⟩
          · obtain ⟨g0, g1, g2, g3, g4, g5, g6, g7, g8, g9⟩ := hrd.out w' hw'
            go_simp
          clear hK K
          refine wpQuiet_step (fun K hK => ?_)
          go_simp
          apply Exists.intro
          constructor
          · intro w' hw'; exact rfl
          refine hK _ ?_
          clear hK K
          refine wpQuiet_step (fun K hK => ?_)
          go_simp
          apply Exists.intro
          constructor
          · intro w' hw'; exact rfl
          refine hK _ ?_
          clear hK K
          refine wpQuiet_step (fun K hK => ?_)
          go_simp
          apply Exists.intro
          constructor
          · intro w' hw'; exact rfl
          refine hK _ ?_
          clear hK K
          refine wpQuiet_step (fun K hK => ?_)
          go_simp
          refine ⟨.agg #[.int .i64 yv0, .int .i64 yv1], fun w' hw' => ?_, hK _ ?_⟩
          · obtain ⟨g0, g1, g2, g3, g4, g5, g6, g7, g8, g9⟩ := hrd.out w' hw'
            go_simp
          clear hK K
          refine wpQuiet_step (fun K hK => ?_)
          go_simp
          apply Exists.intro
          constructor
          · intro w' hw'; exact rfl
          refine hK _ ?_
          clear hK K
          refine wpQuiet_step (fun K hK => ?_)
          go_simp
          apply Exists.intro
          constructor
          · intro w' hw'; exact rfl
          refine hK _ ?_
          clear hK K
          refine wpQuiet_step (fun K hK => ?_)
          go_simp
          apply Exists.intro
          constructor
          · intro w' hw'; exact rfl
          refine hK _ ?_
          clear hK K
          refine wpQuiet_step (fun K hK => ?_)
          go_simp
          refine ⟨.agg #[.int .i64 yk0, .int .i64 yk1], fun w' hw' => ?_, hK _ ?_⟩
          · obtain ⟨g0, g1, g2, g3, g4, g5, g6, g7, g8, g9⟩ := hrd.out w' hw'
            go_simp
          clear hK K
          refine wpQuiet_step (fun K hK => ?_)
          go_simp
          refine ⟨ratV D0 D1, fun w' hw' => (KD.out w').mono (fun e w'' h => ⟨h.1, hw'.trans (h.2.mono (by have := hw'.size; simpa using this))⟩), hK _ ?_⟩
          clear hK K
          refine wpQuiet_step (fun K hK => ?_)
          go_simp
          refine ⟨.agg #[.int .i64 M, .int .i64 E, .int .i64 S, .slice a' l.length c'], fun w' hw' => ?_, hK _ ?_⟩
          · obtain ⟨g0, g1, g2, g3, g4, g5, g6, g7, g8, g9⟩ := hrd.out w' hw'
            go_simp
          clear hK K
          refine wpQuiet_step (fun K hK => ?_)
          go_simp
          apply Exists.intro
          constructor
          · intro w' hw'; exact rfl
          refine hK _ ?_
          clear hK K
          refine wpQuiet_step (fun K hK => ?_)
          go_simp
          apply Exists.intro
          constructor
          · intro w' hw'; exact rfl
          refine hK _ ?_
          clear hK K
          refine wpQuiet_step (fun K hK => ?_)
          go_simp
          refine ⟨.int .i64 W, fun w' hw' => (KWW.out w' (hbw.out w' hw')).mono (fun e w'' h => ⟨h.1, hw'.trans (h.2.mono (by have := hw'.size; simpa using this))⟩), hK _ ?_⟩
          clear hK K
          refine wpQuiet_step (fun K hK => ?_)
          go_simp
          apply Exists.intro
          constructor
          · intro w' hw'; exact rfl
          refine hK _ ?_
          clear hK K
          refine wpQuiet_step (fun K hK => ?_)
          go_simp
          refine ⟨.int .i64 S, fun w' hw' => ?_, hK _ ?_⟩
          · obtain ⟨g0, g1, g2, g3, g4, g5, g6, g7, g8, g9⟩ := hrd.out w' hw'
            go_simp
          clear hK K
          refine wpQuiet_step (fun K hK => ?_)
          go_simp
          refine ⟨ratV Q0 Q1, fun w' hw' => (KR.out w').mono (fun e w'' h => ⟨h.1, hw'.trans (h.2.mono (by have := hw'.size; simpa using this))⟩), hK _ ?_⟩
          clear hK K
          refine wpQuiet_step (fun K hK => ?_)
          go_simp
          refine ⟨ratV c0 c1, fun w' hw' => (KT.out w').mono (fun e w'' h => ⟨h.1, hw'.trans (h.2.mono (by have := hw'.size; simpa using this))⟩), hK _ ?_⟩
          clear hK K
          refine wpQuiet_step (fun K hK => ?_)
          go_simp
          apply Exists.intro
          constructor
          · intro w' hw'; exact rfl
          refine hK _ ?_
          clear hK K
          refine wpQuiet_step (fun K hK => ?_)
          go_simp
          apply Exists.intro
          constructor
          · intro w' hw'; exact rfl
          refine hK _ ?_
          clear hK K
          refine wpQuiet_nil ?_
          intro wY hbY
          have HY : Hid (Below wr.heap.size wr wY) := HX.out.trans (hbY.mono (by omega))
          obtain ⟨z0, z1⟩ := ratAt_cells (HS.out.of_block (HY.out.block _ hsz))
          have zf0 := (HS.out.of_block (HY.out.block _ hsz)).frozen 0
          have zf1 := (HS.out.of_block (HY.out.block _ hsz)).frozen 1
          obtain ⟨d0, d1, _⟩ := hrd.out wY hbY
          have hszY := HY.out.size
          clear hrd hbw hbY
          go_wp2_with fail
          refine (KS.out _).mono ?_
          rintro e wZ ⟨rfl, hbZ⟩
          have HZ : Hid (Below wr.heap.size wr wZ) := bstep HY.out hbZ
          have HSq := HS.out.of_block (HZ.out.block _ hsz)
          have yf0 := HSq.frozen 0
          have yf1 := HSq.frozen 1
          obtain ⟨y0, y1⟩ := ratAt_cells HSq
          have hlZ := HSq.lt
          have HS8 := Lib.hid (ratAt_set HSq (t0, t1))
          have HC8 : Hid (Below wo.heap.size wo ((wZ.setCell ⟨wo.heap.size, 0, none⟩ (.int .i64 t0)).setCell ⟨wo.heap.size, 1, none⟩ (.int .i64 t1))) := bset (bset (HC.out.trans (HZ.out.mono HC.out.size)) (Nat.le_refl _) _) (Nat.le_refl _) _
          clear HSq hbZ z0 z1 zf0 zf1 d0 d1
          go_wp2_with fail
          go_roundw
          case rel => exact ⟨k + 1, by omega, by go_num, by simpa using hlZ, by rw [HS2.out]; exact HS8.out, HC8.out⟩
          case measure => simp [intOf]; omega
        · obtain rfl : M = k := by omega
          have HBW : Below we.heap.size we wr := HB.out.trans (HC.out.mono HB.out.size)
          have hfin := KK.out.fin v ⟨by omega, by omega⟩
          by_cases e1 : v = q
          · have e2 : ¬ v = p := fun e => hpq (e.symm.trans e1)
            rw [if_pos (by omega)] at hfin
            rw [hfin] at HS
            obtain ⟨z0, z1⟩ := ratAt_cells HS.out
            have t1 : (v == p) = false := by simp [e2]
            have t2 : ((v : Int) == (p : Int)) = false := by simp; omega
            have t3 : (v == q) = true := by simp [e1]
            have t4 : ((v : Int) == (q : Int)) = true := by simp; omega
            have x1 : ¬ wo.heap.size = wr.heap.size := by omega
            clear hfin e1 e2
            go_wp2_with fail
            go_roundw
            case rel => exact ⟨v + 1, by omega, by go_num, by show Below _ _ _; (repeat' (first | (with_reducible exact Below.refl _ _) | (with_reducible assumption) | (with_reducible refine balloc ?_ _) | (with_reducible refine Below.drew ?_) | (with_reducible refine below_drewN ?_ _) | (with_reducible refine bset ?_ ?_ _) | (with_reducible refine bstep ?_ (by assumption)) | go_size))⟩
            case measure => simp [intOf]; omega
          · by_cases e2 : v = p
            · rw [if_neg (by omega), if_pos (by omega)] at hfin
              rw [hfin] at HS
              obtain ⟨z0, z1⟩ := ratAt_cells HS.out
              have t1 : (v == p) = true := by simp [e2]
              have t2 : ((v : Int) == (p : Int)) = true := by simp; omega
              have t3 : (v == q) = false := by simp [e1]
              have t4 : ((v : Int) == (q : Int)) = false := by simp; omega
              have x1 : ¬ wo.heap.size = wr.heap.size := by omega
              clear hfin e1 e2
              go_wp2_with fail
              go_roundw
              case rel => exact ⟨v + 1, by omega, by go_num, by show Below _ _ _; (repeat' (first | (with_reducible exact Below.refl _ _) | (with_reducible assumption) | (with_reducible refine balloc ?_ _) | (with_reducible refine Below.drew ?_) | (with_reducible refine below_drewN ?_ _) | (with_reducible refine bset ?_ ?_ _) | (with_reducible refine bstep ?_ (by assumption)) | go_size))⟩
              case measure => simp [intOf]; omega
            · rw [if_neg (by omega), if_neg (by omega)] at hfin
              rw [hfin] at HS
              obtain ⟨z0, z1⟩ := ratAt_cells HS.out
              have t1 : (v == p) = false := by simp [e2]
              have t2 : ((v : Int) == (p : Int)) = false := by simp; omega
              have t3 : (v == q) = false := by simp [e1]
              have t4 : ((v : Int) == (q : Int)) = false := by simp; omega
              have x1 : ¬ wo.heap.size = wr.heap.size := by omega
              clear hfin e1 e2
              go_wp2_with fail
              go_roundw
              case rel => exact ⟨v + 1, by omega, by go_num, by show Below _ _ _; (repeat' (first | (with_reducible exact Below.refl _ _) | (with_reducible assumption) | (with_reducible refine balloc ?_ _) | (with_reducible refine Below.drew ?_) | (with_reducible refine below_drewN ?_ _) | (with_reducible refine bset ?_ ?_ _) | (with_reducible refine bstep ?_ (by assumption)) | go_size))⟩
              case measure => simp [intOf]; omega
    · obtain rfl : M = v := by omega
      have hp1 : p < PR.length := by rw [HPL.out]; exact hpM
      have hq1 : q < PR.length := by rw [HPL.out]; exact hqM
      have e1 := HPG.out p hp1
      have e2 := (HPG.out q hq1).trans KK.out.b0
      have KR2 := KRes
      rw [KK.out.res, ← e1] at KR2
      obtain ⟨pp0, pp1⟩ := rat_cells RP5.out p hp1
      obtain ⟨pq0, pq1⟩ := rat_cells RP5.out q hq1
      rw [e2] at pq0 pq1
      generalize PR[p] = r at pp0 pp1 KR2
      obtain ⟨r0, r1⟩ := r
      clear e1 e2 hp1 hq1 KRes KK HPG KC KW HWB
      go_wp2_with fail
      refine (KR2.out _ RW5.out).mono ?_
      rintro e wR ⟨rfl, hbR⟩
      have hszR := hbR.size
      have HX : Hid (Below wo.heap.size wo (wR.alloc (.cells #[.int .i64 r0, .int .i64 r1] 32))) := balloc hbR _
      have BX : Hid (Below w.heap.size w (wR.alloc (.cells #[.int .i64 r0, .int .i64 r1] 32))) := B5.out.trans (HX.out.mono B5.out.size)
      have hrd : Hid (∀ w', Below (wR.heap.size + 1) (wR.alloc (.cells #[.int .i64 r0, .int .i64 r1] 32)) w' → w'.cell? ⟨wR.heap.size, 0, none⟩ = some (.int .i64 r0) ∧ w'.cell? ⟨wR.heap.size, 1, none⟩ = some (.int .i64 r1) ∧ w'.cell? ⟨gp, 0 + p * 2, none⟩ = some (.int .i64 r0) ∧ w'.cell? ⟨gp, 0 + p * 2 + 1, none⟩ = some (.int .i64 r1) ∧ w'.cell? ⟨gp, 0 + q * 2, none⟩ = some (.int .i64 0) ∧ w'.cell? ⟨gp, 0 + q * 2 + 1, none⟩ = some (.int .i64 1)) := fun w' h => by
        obtain ⟨e0, e1⟩ := ratAt_cells (ratAt_new wR r0 r1 32)
        have h2 : Below wo.heap.size wo w' := HX.out.trans (h.mono (by omega))
        exact ⟨(h.cell (p := ⟨wR.heap.size, 0, none⟩) (by show wR.heap.size < _; omega)).trans e0, (h.cell (p := ⟨wR.heap.size, 1, none⟩) (by show wR.heap.size < _; omega)).trans e1, (h2.cell (p := ⟨gp, _, none⟩) hgp5).trans pp0, (h2.cell (p := ⟨gp, _, none⟩) hgp5).trans pp1, (h2.cell (p := ⟨gp, _, none⟩) hgp5).trans pq0, (h2.cell (p := ⟨gp, _, none⟩) hgp5).trans pq1⟩
      simp only [Nat.zero_add] at hrd
      clear hbR pp0 pp1 pq0 pq1 m0 m1 m2 m3
      go_wp2_with fail
      refine region_quiet_tail_in (fun w' => Below (wR.heap.size + 1) (wR.alloc (.cells #[.int .i64 r0, .int .i64 r1] 32)) w') 17 (by kernel_rfl) (by kernel_rfl) (Below.refl _ _).drew ?_
      simp only [List.take_succ_cons, List.take_zero, List.drop_succ_cons, List.drop_zero]
      refine wpQuiet_step (fun K hK => ?_)
      go_simp
      apply Exists.intro
      constructor
      · intro w' hw'; exact rfl
      refine hK _ ?_
      clear hK K
      refine wpQuiet_step (fun K hK => ?_)
      go_simp
      apply Exists.intro
      constructor
      · intro w' hw'; exact rfl
      refine hK _ ?_
      clear hK K
      refine wpQuiet_step (fun K hK => ?_)
      go_simp
      apply Exists.intro
      constructor
      · intro w' hw'; exact rfl
      refine hK _ ?_
      clear hK K
      refine wpQuiet_step (fun K hK => ?_)
      go_simp
      apply Exists.intro
      constructor
      · intro w' hw'; exact rfl
      refine hK _ ?_
      clear hK K
      refine wpQuiet_step (fun K hK => ?_)
      go_simp
      apply Exists.intro
      constructor
      · intro w' hw'; exact rfl
      refine hK _ ?_
      clear hK K
      refine wpQuiet_step (fun K hK => ?_)
      go_simp
      refine ⟨.agg #[.int .i64 r0, .int .i64 r1], fun w' hw' => ?_, hK _ ?_⟩
      · obtain ⟨g0, g1, g2, g3, g4, g5⟩ := hrd.out w' hw'
        go_simp
      clear hK K
      refine wpQuiet_step (fun K hK => ?_)
      go_simp
      refine ⟨.agg #[.int .i64 r0, .int .i64 r1], fun w' hw' => ?_, hK _ ?_⟩
      · obtain ⟨g0, g1, g2, g3, g4, g5⟩ := hrd.out w' hw'
        go_simp
      clear hK K
      refine wpQuiet_step (fun K hK => ?_)
      go_simp
      apply Exists.intro
      constructor
      · intro w' hw'; exact rfl
      refine hK _ ?_
      clear hK K
      refine wpQuiet_step (fun K hK => ?_)
      go_simp
      apply Exists.intro
      constructor
      · intro w' hw'; exact rfl
      refine hK _ ?_
      clear hK K
      refine wpQuiet_step (fun K hK => ?_)
      go_simp
      apply Exists.intro
      constructor
      · intro w' hw'; exact rfl
      refine hK _ ?_
      clear hK K
      refine wpQuiet_step (fun K hK => ?_)
      go_simp
      apply Exists.intro
      constructor
      · intro w' hw'; exact rfl
      refine hK _ ?_
      clear hK K
      refine wpQuiet_step (fun K hK => ?_)
      go_simp
      apply Exists.intro
      constructor
      · intro w' hw'; exact rfl
      refine hK _ ?_
      clear hK K
      refine wpQuiet_step (fun K hK => ?_)
      go_simp
      apply Exists.intro
      constructor
      · intro w' hw'; exact rfl
      refine hK _ ?_
      clear hK K
      refine wpQuiet_step (fun K hK => ?_)
      go_simp
      refine ⟨.agg #[.int .i64 0, .int .i64 1], fun w' hw' => ?_, hK _ ?_⟩
      · obtain ⟨g0, g1, g2, g3, g4, g5⟩ := hrd.out w' hw'
        go_simp
      clear hK K
      refine wpQuiet_step (fun K hK => ?_)
      go_simp
      apply Exists.intro
      constructor
      · intro w' hw'; exact rfl
      refine hK _ ?_
      clear hK K
      refine wpQuiet_step (fun K hK => ?_)
      go_simp
      apply Exists.intro
      constructor
      · intro w' hw'; exact rfl
      refine hK _ ?_
      clear hK K
      refine wpQuiet_step (fun K hK => ?_)
      go_simp
      apply Exists.intro
      constructor
      · intro w' hw'; exact rfl
      refine hK _ ?_
      clear hK K
      refine wpQuiet_nil ?_
      intro wZ hZ
      have BZ : Hid (Below w.heap.size w wZ) := BX.out.trans (hZ.mono (by have := BX.out.size; simpa using this))
      clear hZ hrd
      go_wp2_with fail
      go_ret
      exact ⟨by rfl, BZ.out⟩
end Go.Proofs.Ytjchindjoailbaa

/- A caller's bytes, opened. -/
namespace Go.Proofs.Ytjchindjoailbaa
set_option linter.unusedSimpArgs false
set_option linter.unusedVariables false
set_option maxRecDepth 100000
open Go.RowKit Go.ChangeShapes Go.WideShapes Go.ChangeAt

theorem flat_u8 : ∀ l : List Int, l.flatMap (fun z => [Value.int .u8 z]) = u8s l
  | [] => rfl
  | a :: l => by rw [List.flatMap_cons, flat_u8 l]; rfl
section
variable {H : Type} {enc : TypeId × Value → H} {w : World} {base : Nat} {spare : Nat → Bool} {held : Bool}
theorem open_bytes {fuel : Nat} {cs : List Value} {x : DataW H × List MemPlace} (h : DataW.trod enc Try.prog w base spare held fuel 22 cs = some x) :
    ∃ (a : Option Addr) (n c : Nat) (l : List Int), cs = [.slice a n c] ∧ ArgRow w a n c 1 (u8s l) := by
  obtain ⟨a, n, c, l, e, _, hr, _⟩ := open_rows Try.underlying22 (by kernel_rfl) (Nat.zero_lt_one) (fun z : Int => [.int .u8 z]) (fun _ => True) (fun _ => rfl)
    (fun n cs y h => by obtain ⟨z, h1, _, _⟩ := DataW.trod_int Try.underlying5 h; exact ⟨z, h1, trivial⟩) h
  rw [flat_u8] at hr
  exact ⟨a, n, c, l, e, hr⟩
end
end Go.Proofs.Ytjchindjoailbaa

/- For every code the law FnKirchhoff (currents) answers true and leaves its argument as it was. -/
namespace Go.Proofs.Ytjchindjoailbaa
set_option linter.unusedSimpArgs false
set_option linter.unusedVariables false
open Go.ChangeShapes Go.WideShapes Go.ChangeAt Go.RowKit
open Go.ChangeMaps (open_string shut_string)
set_option linter.unusedVariables false

set_option maxRecDepth 100000 in
theorem lifted_FnKirchhoff (os : Os) (started : os.Started) (H : Type) (enc : TypeId × Value → H) :
    ReturnsInHanded {} Try.checked os 3 .any (Rows.fnKirchhoffSpec.pre6 enc Try.prog Try.f3 Rows.fnKirchhoffRow.domain false) (Rows.fnKirchhoffSpec.post enc Try.prog Try.f3 false true false false) := by
  refine returnsInHanded_of_change (C := Try.checked) own started (by kernel_rfl) Try.func3
    (ChangeSpec.witness6 (enc := enc) (C := Try.checked) false ⟨#[], #[.slice none 0 0], []⟩ 8 (by kernel_rfl) (by kernel_rfl) (by kernel_rfl) (by kernel_rfl)) ?_
  intro W base args ds gs before hval0 hW hcnd _
  have hval : ∀ (j : Nat) t v, Try.f3.params[j]? = some t → args[j]? = some v → Value.okWide Try.prog W .any base t v := hval0
  have hW' := hW
  obtain ⟨p, q, hA0, hV, rfl, hfz, hnd⟩ := hW
  have hA : DataW.TrodAll enc Try.prog W 0 (fun _ => true) true Try.f3.params.toList args.toList ds p := hA0
  rw [Try.params3] at hA hval
  obtain ⟨v0, vs0, d0, ds0, p0, q0, hargs, rfl, rfl, h0, r0⟩ := trodAll_cons hA
  obtain ⟨rfl, rfl, rfl⟩ := trodAll_nil r0
  obtain rfl : args = #[v0] := by cases args; simp_all
  obtain ⟨rfl, rfl⟩ := trodVars_none hV
  have k0 := h0
  have lt0 : ∀ x ∈ p0, x.block < W.heap.size := by obtain ⟨m, hm⟩ := k0; exact DataW.trod_lt m _ _ _ hm
  obtain ⟨b0, bn0, bc0, rfl⟩ := okWide_slice Try.underlying22 (hval 0 22 v0 rfl rfl)
  obtain ⟨fu0, hm0⟩ := h0
  obtain ⟨a0, n0, c0, l0, e0, w0⟩ := open_bytes hm0
  have e0 : [Value.slice b0 bn0 bc0] = [Value.slice a0 n0 c0] := e0
  simp only [List.cons.injEq, Value.slice.injEq, and_true] at e0
  obtain ⟨rfl, rfl, rfl⟩ := e0
  clear hA0 hval0
  refine (walk_FnKirchhoff _ _ _ l0 W w0).mono fun e W' ⟨he, bel⟩ => ?_
  subst he
  exact ⟨_, rfl, _, _, _, [], _, [], hW', trodAll_mk1 (shut_bool Try.underlying4 _), (trodAll_cons_mk (Below.trod laidOut (by kernel_rfl) (of_decide_eq_true (by kernel_rfl)) k0 bel lt0) trodAll_mk0), rfl, bel.frame _, fun h => by cases h⟩

set_option maxRecDepth 100000 in
set_option maxHeartbeats 8000000 in
theorem closed_FnKirchhoff : joinedFacts Try.pinned.checked.prog 3 Try.f3 Rows.fnKirchhoffSpec Rows.fnKirchhoffRow = true := by
  unfold joinedFacts
  repeat' (with_reducible refine band ?_ ?_)
  all_goals first | (with_reducible exact mayEnter_p) | ((with_reducible refine bmake (finals_p.trans ?_)); rfl) | ((with_reducible refine beq_iff_eq.2 (make_p.trans ?_)); rfl) | (as_aux_lemma => kernel_rfl)

theorem fnKirchhoff_holds : Rows.FnKirchhoffSaid :=
  OpenClaim.holds_of_wide 3 Try.f3 rfl rfl rfl rfl rfl rfl rfl ⟨rfl, rfl, rfl, rfl, rfl⟩ rfl rfl rfl rfl rfl (by kernel_rfl) Try.func3 closed_FnKirchhoff
    (of_decide_eq_true (by kernel_rfl)) (by unfold Func.isWrapper; first | (rw [if_pos (by decide +kernel)]; kernel_rfl) | (rw [if_neg (by decide +kernel)]; exact ⟨rfl, rfl⟩))
    (fun os started H enc _ => lifted_FnKirchhoff os started H enc)

end Go.Proofs.Ytjchindjoailbaa
