/- The law on fractions: sums, differences, products and inverses obey the laws of arithmetic. -/
import Derived.Test.YtjchindjoailbaaG20
import Derived.Test.YtjchindjoailbaaG21
import Derived.Test.YtjchindjoailbaaG16
import Derived.Test.YtjchindjoailbaaG01
import Derived.Test.YtjchindjoailbaaG14
import Derived.WalkKit
import Derived.ProofKit
import Derived.OpenShut
import Derived.ShutString
import Derived.ChangeOld
import Derived.Below
import Derived.Lib.SmallJoins
namespace Go.Proofs.Ytjchindjoailbaa
set_option linter.unusedSimpArgs false
set_option linter.unusedVariables false
open Go.RowKit

/-- what the law on fractions asks -/
structure Ratios (a b c s L zero : Rz) : Prop where
  s1 : addR a b = s
  sok : okZ s.1 s.2
  s2 : addR b a = s
  d : diffR s b = a
  t : timesR b a = timesR a b
  L1 : timesR s c = L
  L2 : addR (timesR a c) (timesR b c) = L
  lok : okZ L.1 L.2
  z : diffR a a = zero
  z0 : zero = (0, 1)
  aok : okZ a.1 a.2
  bok : okZ b.1 b.2
  inv : ¬ a.1 = 0 → timesR a (Gn.rat a.2 a.1) = (1, 1)
  sgn : sg (s.1 * a.2 - a.1 * s.2) = sg (b.1 * zero.2 - zero.1 * b.2)
theorem sg_mul {p q k m : Int} (hk : 0 < k) (hm : 0 < m) (h : p * k = q * m) : sg p = sg q := by
  have e1 : ∀ {x y : Int}, 0 < y → x * y < 0 → x < 0 := fun {x y} hy h => by
    by_cases hx : x < 0
    · exact hx
    · have := Int.mul_nonneg (show 0 ≤ x by omega) (show 0 ≤ y by omega); omega
  have e2 : ∀ {x y : Int}, 0 < y → 0 < x * y → 0 < x := fun {x y} hy h => by
    by_cases hx : 0 < x
    · exact hx
    · have := Int.mul_nonneg (show 0 ≤ -x by omega) (show 0 ≤ y by omega); rw [Int.neg_mul] at this; omega
  have e3 : ∀ {x y : Int}, 0 < y → x * y = 0 → x = 0 := fun {x y} hy h => by
    rcases Int.mul_eq_zero.1 h with h | h
    · exact h
    · omega
  have e4 : ∀ {x y : Int}, 0 < y → x < 0 → x * y < 0 := fun {x y} hy h => by
    have := Int.mul_pos (show 0 < -x by omega) hy; rw [Int.neg_mul] at this; omega
  rcases Int.lt_trichotomy p 0 with hp | hp | hp
  · have := e4 hk hp
    rw [h] at this
    rw [sg_neg hp, sg_neg (e1 hm this)]
  · rw [hp, Int.zero_mul] at h
    rw [sg_zero hp, sg_zero (e3 hm h.symm)]
  · have := Int.mul_pos hp hk
    rw [h] at this
    rw [sg_pos hp, sg_pos (e2 hm this)]
theorem ratios_ok {n1 d1 n2 d2 n3 d3 : Int} (h1 : Gn.Fr 30 30 n1 d1) (h2 : Gn.Fr 30 30 n2 d2) (h3 : Gn.Fr 30 30 n3 d3) :
    ∃ s L zero, Ratios (Gn.rat n1 d1) (Gn.rat n2 d2) (Gn.rat n3 d3) s L zero := by
  have p1 := h1.d1
  have p2 := h2.d1
  have p3 := h3.d1
  have fa : Fit2 30 30 30 30 := ⟨by decide, by decide, by decide, by decide⟩
  have s12 := h1.add h2 (by decide) (by decide)
  have t13 := h1.mul h3 (by decide) (by decide)
  have t23 := h2.mul h3 (by decide) (by decide)
  have tL := s12.mul h3 (by decide) (by decide)
  have ea := add_rat h1 h2 fa
  refine ⟨_, _, _, ⟨rfl, ?_, ?_, ?_, ?_, rfl, ?_, ?_, rfl, ?_, okZ_rat h1, okZ_rat h2, fun h0 => inv_rat h1 (by decide) (by decide) h0, ?_⟩⟩
  · rw [ea]; exact okZ_rat s12
  · rw [ea, add_rat h2 h1 fa, Int.add_comm (n2 * d1), Int.mul_comm d2 d1]
  · rw [ea, diff_rat s12 h2 ⟨by decide, by decide, by decide, by decide⟩]
    exact Gn.rat_eq (Int.mul_pos (Int.mul_pos p1 p2) p2) p1 (by grind)
  · rw [times_rat h2 h1 fa, times_rat h1 h2 fa, Int.mul_comm n2, Int.mul_comm d2]
  · rw [ea, times_rat h1 h3 fa, times_rat h2 h3 fa, add_rat t13 t23 ⟨by decide, by decide, by decide, by decide⟩, times_rat s12 h3 ⟨by decide, by decide, by decide, by decide⟩]
    exact Gn.rat_eq (Int.mul_pos (Int.mul_pos p1 p3) (Int.mul_pos p2 p3)) (Int.mul_pos (Int.mul_pos p1 p2) p3) (by grind)
  · rw [ea, times_rat s12 h3 ⟨by decide, by decide, by decide, by decide⟩]; exact okZ_rat tL
  · rw [diff_rat h1 h1 fa, Int.sub_self]; exact Gn.rat_zero (Int.mul_pos p1 p1)
  · have ez : diffR (Gn.rat n1 d1) (Gn.rat n1 d1) = (0, 1) := by rw [diff_rat h1 h1 fa, Int.sub_self]; exact Gn.rat_zero (Int.mul_pos p1 p1)
    rw [ez, ea]
    obtain ⟨⟨_, _, y1, _, _, _⟩, e1⟩ := h1.red
    obtain ⟨⟨_, _, y2, _, _, _⟩, e2⟩ := h2.red
    obtain ⟨⟨_, _, ys, _, _, _⟩, es⟩ := s12.red
    generalize (Gn.rat n1 d1).1 = u1 at *
    generalize (Gn.rat n1 d1).2 = v1 at *
    generalize (Gn.rat n2 d2).1 = u2 at *
    generalize (Gn.rat n2 d2).2 = v2 at *
    generalize (Gn.rat (n1 * d2 + n2 * d1) (d1 * d2)).1 = us at *
    generalize (Gn.rat (n1 * d2 + n2 * d1) (d1 * d2)).2 = vs at *
    refine sg_mul (k := d1 * d2 * v2) (m := d1 * d2 * vs * v1) (Int.mul_pos (Int.mul_pos p1 p2) y2) (Int.mul_pos (Int.mul_pos (Int.mul_pos p1 p2) ys) y1) ?_
    clear h1 h2 h3 fa s12 t13 t23 tL ea ez
    simp only [Int.mul_one, Int.zero_mul, Int.sub_zero]
    grind

set_option maxRecDepth 100000 in
set_option maxHeartbeats 16000000 in
theorem walk_FnRatios (a : Option Addr) (n c : Nat) (zs : List Int) (w : World) (hr : ArgRow w a n c 1 (u8s zs)) :
    Calls Try.prog 6 #[.slice a n c] w fun e w' => e = .returned (.bool true) ∧ Below w.heap.size w w' := by
  have hn := hr.le
  unfold maxLen at hn
  by_cases hb : 1048576 < n
  · clear hr
    go_enter Try.func6, Try.ntmps6
    go_wp2_with fail
    go_ret
    exact ⟨rfl, Below.refl _ _⟩
  have HR := Lib.hid hr
  have hn' : n ≤ 1048576 := by omega
  clear hr hb hn
  go_enter Try.func6, Try.ntmps6
  go_wp2_with fail
  refine (specMakeRatio 0 (by omega) a n c zs _ (HR.out.below (Below.refl _ _)) hn').mono ?_
  rintro e w1 ⟨n1, d1, rfl, hF1, hb1⟩
  have HF1 := Lib.hid hF1
  obtain ⟨Va, hVa⟩ : ∃ V, Gn.rat n1 d1 = V := ⟨_, rfl⟩
  rw [hVa]
  replace hVa := Lib.hid hVa
  obtain ⟨a0, a1⟩ := Va
  have Ha1 := Lib.hid (ratAt_new w1 a0 a1 32)
  have B1 : Hid (Below w.heap.size w (w1.alloc (.cells #[.int .i64 a0, .int .i64 a1] 32))) := balloc (hb1) _
  clear hb1 hF1
  go_wp2_with fail
  refine (specMakeRatio 4 (by omega) a n c zs _ (HR.out.below B1.out) hn').mono ?_
  rintro e w2 ⟨n2, d2, rfl, hF2, hb2⟩
  have HF2 := Lib.hid hF2
  obtain ⟨Vb, hVb⟩ : ∃ V, Gn.rat n2 d2 = V := ⟨_, rfl⟩
  rw [hVb]
  replace hVb := Lib.hid hVb
  obtain ⟨b0, b1⟩ := Vb
  have Ha2 := Lib.hid ((Ha1.out.of_block (hb2.block _ Ha1.out.lt)).alloc (.cells #[.int .i64 b0, .int .i64 b1] 32))
  have hla2 := Ha2.out.lt
  have Hb2 := Lib.hid (ratAt_new w2 b0 b1 32)
  have B2 : Hid (Below w.heap.size w (w2.alloc (.cells #[.int .i64 b0, .int .i64 b1] 32))) := balloc (bstep B1.out hb2) _
  clear hb2 hF2
  go_wp2_with fail
  refine (specMakeRatio 8 (by omega) a n c zs _ (HR.out.below B2.out) hn').mono ?_
  rintro e w3 ⟨n3, d3, rfl, hF3, hb3⟩
  have HF3 := Lib.hid hF3
  obtain ⟨Vc, hVc⟩ : ∃ V, Gn.rat n3 d3 = V := ⟨_, rfl⟩
  rw [hVc]
  replace hVc := Lib.hid hVc
  obtain ⟨c0, c1⟩ := Vc
  have Ha3 := Lib.hid ((Ha2.out.of_block (hb3.block _ Ha2.out.lt)).alloc (.cells #[.int .i64 c0, .int .i64 c1] 32))
  have hla3 := Ha3.out.lt
  have Hb3 := Lib.hid ((Hb2.out.of_block (hb3.block _ Hb2.out.lt)).alloc (.cells #[.int .i64 c0, .int .i64 c1] 32))
  have hlb3 := Hb3.out.lt
  have Hc3 := Lib.hid (ratAt_new w3 c0 c1 32)
  have B3 : Hid (Below w.heap.size w (w3.alloc (.cells #[.int .i64 c0, .int .i64 c1] 32))) := balloc (bstep B2.out hb3) _
  clear hb3 hF3
  obtain ⟨S, L, Z, HQ⟩ := ratios_ok HF1.out HF2.out HF3.out
  rw [hVa.out, hVb.out, hVc.out] at HQ
  clear hVa hVb hVc HF1 HF2 HF3
  obtain ⟨s0, s1⟩ := S
  obtain ⟨L0, L1⟩ := L
  obtain ⟨z0, z1⟩ := Z
  have q1 := HQ.z0
  simp only [Prod.mk.injEq] at q1
  obtain ⟨rfl, rfl⟩ := q1
  have KS := Lib.hid (fun w => (implSumR (a0, a1) (b0, b1) w))
  rw [HQ.s1] at KS
  have KS2 := Lib.hid (fun w => (implSumR (b0, b1) (a0, a1) w))
  rw [HQ.s2] at KS2
  have KSO := Lib.hid (fun w => implRatioOk s0 s1 w true ⟨fun _ => HQ.sok, fun _ => rfl⟩)
  have KD := Lib.hid (fun w => (implDiffR (s0, s1) (b0, b1) w))
  rw [HQ.d] at KD
  obtain ⟨U, hU⟩ : ∃ U, timesR (a0, a1) (b0, b1) = U := ⟨_, rfl⟩
  have KT := Lib.hid (fun w => (implTimesR (a0, a1) (b0, b1) w))
  rw [hU] at KT
  have KT2 := Lib.hid (fun w => (implTimesR (b0, b1) (a0, a1) w))
  rw [HQ.t, hU] at KT2
  clear hU
  obtain ⟨t0, t1⟩ := U
  have KL := Lib.hid (fun w => (implTimesR (s0, s1) (c0, c1) w))
  rw [HQ.L1] at KL
  have hL2 := HQ.L2
  obtain ⟨X, hX⟩ : ∃ X, timesR (a0, a1) (c0, c1) = X := ⟨_, rfl⟩
  obtain ⟨Y, hY⟩ : ∃ Y, timesR (b0, b1) (c0, c1) = Y := ⟨_, rfl⟩
  have KX := Lib.hid (fun w => (implTimesR (a0, a1) (c0, c1) w))
  have KY := Lib.hid (fun w => (implTimesR (b0, b1) (c0, c1) w))
  rw [hX] at KX hL2
  rw [hY] at KY hL2
  have KXY := Lib.hid (fun w => (implSumR X Y w))
  rw [hL2] at KXY
  clear hX hY hL2
  obtain ⟨x0, x1⟩ := X
  obtain ⟨y0, y1⟩ := Y
  have KLO := Lib.hid (fun w => implRatioOk L0 L1 w true ⟨fun _ => HQ.lok, fun _ => rfl⟩)
  have KZ := Lib.hid (fun w => (implDiffR (a0, a1) (a0, a1) w))
  rw [HQ.z] at KZ
  have KI := Lib.hid (fun w => implInverse a0 a1 w true ⟨fun _ => HQ.aok, fun _ => rfl⟩)
  simp only [sel_true] at KI
  have HINV := Lib.hid HQ.inv
  have KC1 := Lib.hid (fun w => implCmp s0 s1 a0 a1 w true ⟨fun _ => ⟨HQ.sok, HQ.aok⟩, fun _ => rfl⟩)
  have KC2 := Lib.hid (fun w => implCmp b0 b1 0 1 w true ⟨fun _ => ⟨HQ.bok, by show okZ 0 1; refine ⟨by omega, by omega, ?_⟩; rfl⟩, fun _ => rfl⟩)
  have hsg := HQ.sgn
  simp only [cmpR_true] at KC1 KC2
  simp only at hsg
  rw [hsg] at KC1
  generalize sg (b0 * 1 - 0 * b1) = G at KC1 KC2
  clear HQ hsg
  have hla3 := Ha3.out.lt
  have hlb3 := Hb3.out.lt
  obtain ⟨ka0, ka1⟩ := ratAt_cells Ha3.out
  have hla := Ha3.out.lt
  obtain ⟨kb0, kb1⟩ := ratAt_cells Hb3.out
  have hlb := Hb3.out.lt
  obtain ⟨kc0, kc1⟩ := ratAt_cells Hc3.out
  have hlc := Hc3.out.lt
  go_wp2_with fail
  clear ka0 ka1 hla kb0 kb1 hlb kc0 kc1 hlc
  refine (KS.out _).mono ?_
  rintro e w4 ⟨rfl, hb4⟩
  have Ha4 := Lib.hid ((Ha3.out.of_block (hb4.block _ Ha3.out.lt)).alloc (.cells #[.int .i64 s0, .int .i64 s1] 32))
  have Hb4 := Lib.hid ((Hb3.out.of_block (hb4.block _ Hb3.out.lt)).alloc (.cells #[.int .i64 s0, .int .i64 s1] 32))
  have Hc4 := Lib.hid ((Hc3.out.of_block (hb4.block _ Hc3.out.lt)).alloc (.cells #[.int .i64 s0, .int .i64 s1] 32))
  have Hs4 := Lib.hid (ratAt_new w4 s0 s1 32)
  have B4 : Hid (Below w.heap.size w (w4.alloc (.cells #[.int .i64 s0, .int .i64 s1] 32))) := balloc (bstep B3.out hb4) _
  clear hb4
  obtain ⟨ka0, ka1⟩ := ratAt_cells Ha4.out
  have hla := Ha4.out.lt
  obtain ⟨kb0, kb1⟩ := ratAt_cells Hb4.out
  have hlb := Hb4.out.lt
  obtain ⟨kc0, kc1⟩ := ratAt_cells Hc4.out
  have hlc := Hc4.out.lt
  obtain ⟨ks0, ks1⟩ := ratAt_cells Hs4.out
  have hls := Hs4.out.lt
  go_wp2_with fail
  clear ka0 ka1 hla kb0 kb1 hlb kc0 kc1 hlc ks0 ks1 hls
  have hrd7 : Hid (∀ w', Below (w4.heap.size + 1) (w4.alloc (.cells #[.int .i64 s0, .int .i64 s1] 32)) w' → w'.cell? ⟨w1.heap.size, 0, none⟩ = some (.int .i64 a0) ∧ w'.cell? ⟨w1.heap.size, 1, none⟩ = some (.int .i64 a1) ∧ w'.cell? ⟨w2.heap.size, 0, none⟩ = some (.int .i64 b0) ∧ w'.cell? ⟨w2.heap.size, 1, none⟩ = some (.int .i64 b1) ∧ w'.cell? ⟨w3.heap.size, 0, none⟩ = some (.int .i64 c0) ∧ w'.cell? ⟨w3.heap.size, 1, none⟩ = some (.int .i64 c1) ∧ w'.cell? ⟨w4.heap.size, 0, none⟩ = some (.int .i64 s0) ∧ w'.cell? ⟨w4.heap.size, 1, none⟩ = some (.int .i64 s1)) := fun w' h => ⟨(ratAt_cells (Ha4.out.of_block (h.block _ (by have h9 := Ha4.out.lt; rw [World.size_alloc] at h9; exact h9)))).1, (ratAt_cells (Ha4.out.of_block (h.block _ (by have h9 := Ha4.out.lt; rw [World.size_alloc] at h9; exact h9)))).2, (ratAt_cells (Hb4.out.of_block (h.block _ (by have h9 := Hb4.out.lt; rw [World.size_alloc] at h9; exact h9)))).1, (ratAt_cells (Hb4.out.of_block (h.block _ (by have h9 := Hb4.out.lt; rw [World.size_alloc] at h9; exact h9)))).2, (ratAt_cells (Hc4.out.of_block (h.block _ (by have h9 := Hc4.out.lt; rw [World.size_alloc] at h9; exact h9)))).1, (ratAt_cells (Hc4.out.of_block (h.block _ (by have h9 := Hc4.out.lt; rw [World.size_alloc] at h9; exact h9)))).2, (ratAt_cells (Hs4.out.of_block (h.block _ (by have h9 := Hs4.out.lt; rw [World.size_alloc] at h9; exact h9)))).1, (ratAt_cells (Hs4.out.of_block (h.block _ (by have h9 := Hs4.out.lt; rw [World.size_alloc] at h9; exact h9)))).2⟩
  refine wp_region_quiet (C := fun w' => Below (w4.heap.size + 1) (w4.alloc (.cells #[.int .i64 s0, .int .i64 s1] 32)) w') (by kernel_rfl) (by kernel_rfl) (Below.refl _ _).drew ?_
  refine wpQuiet_step (fun K hK => ?_)
  go_simp
  refine ⟨.agg #[.int .i64 s0, .int .i64 s1], fun w' hw' => ?_, hK _ ?_⟩
  · obtain ⟨ma0, ma1, mb0, mb1, mc0, mc1, ms0, ms1⟩ := hrd7.out w' hw'
    go_simp
  clear hK K
  refine wpQuiet_step (fun K hK => ?_)
  go_simp
  refine ⟨.bool true, fun w' hw' => (KSO.out w').mono (fun e w'' h => ⟨h.1, hw'.trans (h.2.mono (by have := hw'.size; simpa using this))⟩), hK _ ?_⟩
  clear hK K
  refine wpQuiet_step (fun K hK => ?_)
  go_simp
  apply Exists.intro
  constructor
  · intro w' hw'; exact rfl
  refine hK _ ?_
  clear hK K
  refine wpQuiet_step (fun K hK => ?_)
  go_simp
  apply Exists.intro
  constructor
  · intro w' hw'; exact rfl
  refine hK _ ?_
  clear hK K
  refine wpQuiet_step (fun K hK => ?_)
  go_simp
  refine ⟨.agg #[.int .i64 s0, .int .i64 s1], fun w' hw' => ?_, hK _ ?_⟩
  · obtain ⟨ma0, ma1, mb0, mb1, mc0, mc1, ms0, ms1⟩ := hrd7.out w' hw'
    go_simp
  clear hK K
  refine wpQuiet_step (fun K hK => ?_)
  go_simp
  refine ⟨.agg #[.int .i64 b0, .int .i64 b1], fun w' hw' => ?_, hK _ ?_⟩
  · obtain ⟨ma0, ma1, mb0, mb1, mc0, mc1, ms0, ms1⟩ := hrd7.out w' hw'
    go_simp
  clear hK K
  refine wpQuiet_step (fun K hK => ?_)
  go_simp
  refine ⟨.agg #[.int .i64 a0, .int .i64 a1], fun w' hw' => ?_, hK _ ?_⟩
  · obtain ⟨ma0, ma1, mb0, mb1, mc0, mc1, ms0, ms1⟩ := hrd7.out w' hw'
    go_simp
  clear hK K
  refine wpQuiet_step (fun K hK => ?_)
  go_simp
  refine ⟨ratV s0 s1, fun w' hw' => (KS2.out w').mono (fun e w'' h => ⟨h.1, hw'.trans (h.2.mono (by have := hw'.size; simpa using this))⟩), hK _ ?_⟩
  clear hK K
  refine wpQuiet_step (fun K hK => ?_)
  go_simp
  apply Exists.intro
  constructor
  · intro w' hw'; exact rfl
  refine hK _ ?_
  clear hK K
  refine wpQuiet_step (fun K hK => ?_)
  go_simp
  apply Exists.intro
  constructor
  · intro w' hw'; exact rfl
  refine hK _ ?_
  clear hK K
  refine wpQuiet_step (fun K hK => ?_)
  go_simp
  apply Exists.intro
  constructor
  · intro w' hw'; exact rfl
  refine hK _ ?_
  clear hK K
  refine wpQuiet_step (fun K hK => ?_)
  go_simp
  refine ⟨.agg #[.int .i64 s0, .int .i64 s1], fun w' hw' => ?_, hK _ ?_⟩
  · obtain ⟨ma0, ma1, mb0, mb1, mc0, mc1, ms0, ms1⟩ := hrd7.out w' hw'
    go_simp
  clear hK K
  refine wpQuiet_step (fun K hK => ?_)
  go_simp
  refine ⟨.agg #[.int .i64 b0, .int .i64 b1], fun w' hw' => ?_, hK _ ?_⟩
  · obtain ⟨ma0, ma1, mb0, mb1, mc0, mc1, ms0, ms1⟩ := hrd7.out w' hw'
    go_simp
  clear hK K
  refine wpQuiet_step (fun K hK => ?_)
  go_simp
  refine ⟨ratV a0 a1, fun w' hw' => (KD.out w').mono (fun e w'' h => ⟨h.1, hw'.trans (h.2.mono (by have := hw'.size; simpa using this))⟩), hK _ ?_⟩
  clear hK K
  refine wpQuiet_step (fun K hK => ?_)
  go_simp
  refine ⟨.agg #[.int .i64 a0, .int .i64 a1], fun w' hw' => ?_, hK _ ?_⟩
  · obtain ⟨ma0, ma1, mb0, mb1, mc0, mc1, ms0, ms1⟩ := hrd7.out w' hw'
    go_simp
  clear hK K
  refine wpQuiet_step (fun K hK => ?_)
  go_simp
  apply Exists.intro
  constructor
  · intro w' hw'; exact rfl
  refine hK _ ?_
  clear hK K
  refine wpQuiet_step (fun K hK => ?_)
  go_simp
  apply Exists.intro
  constructor
  · intro w' hw'; exact rfl
  refine hK _ ?_
  clear hK K
  refine wpQuiet_step (fun K hK => ?_)
  go_simp
  apply Exists.intro
  constructor
  · intro w' hw'; exact rfl
  refine hK _ ?_
  clear hK K
  refine wpQuiet_step (fun K hK => ?_)
  go_simp
  refine ⟨.agg #[.int .i64 a0, .int .i64 a1], fun w' hw' => ?_, hK _ ?_⟩
  · obtain ⟨ma0, ma1, mb0, mb1, mc0, mc1, ms0, ms1⟩ := hrd7.out w' hw'
    go_simp
  clear hK K
  refine wpQuiet_step (fun K hK => ?_)
  go_simp
  refine ⟨.agg #[.int .i64 b0, .int .i64 b1], fun w' hw' => ?_, hK _ ?_⟩
  · obtain ⟨ma0, ma1, mb0, mb1, mc0, mc1, ms0, ms1⟩ := hrd7.out w' hw'
    go_simp
  clear hK K
  refine wpQuiet_step (fun K hK => ?_)
  go_simp
  refine ⟨ratV t0 t1, fun w' hw' => (KT.out w').mono (fun e w'' h => ⟨h.1, hw'.trans (h.2.mono (by have := hw'.size; simpa using this))⟩), hK _ ?_⟩
  clear hK K
  refine wpQuiet_step (fun K hK => ?_)
  go_simp
  refine ⟨.agg #[.int .i64 b0, .int .i64 b1], fun w' hw' => ?_, hK _ ?_⟩
  · obtain ⟨ma0, ma1, mb0, mb1, mc0, mc1, ms0, ms1⟩ := hrd7.out w' hw'
    go_simp
  clear hK K
  refine wpQuiet_step (fun K hK => ?_)
  go_simp
  refine ⟨.agg #[.int .i64 a0, .int .i64 a1], fun w' hw' => ?_, hK _ ?_⟩
  · obtain ⟨ma0, ma1, mb0, mb1, mc0, mc1, ms0, ms1⟩ := hrd7.out w' hw'
    go_simp
  clear hK K
  refine wpQuiet_step (fun K hK => ?_)
  go_simp
  refine ⟨ratV t0 t1, fun w' hw' => (KT2.out w').mono (fun e w'' h => ⟨h.1, hw'.trans (h.2.mono (by have := hw'.size; simpa using this))⟩), hK _ ?_⟩
  clear hK K
  refine wpQuiet_step (fun K hK => ?_)
  go_simp
  apply Exists.intro
  constructor
  · intro w' hw'; exact rfl
  refine hK _ ?_
  clear hK K
  refine wpQuiet_step (fun K hK => ?_)
  go_simp
  apply Exists.intro
  constructor
  · intro w' hw'; exact rfl
  refine hK _ ?_
  clear hK K
  refine wpQuiet_nil ?_
  intro w5 hb5
  have Ha5 := Lib.hid (Ha4.out.of_block (hb5.block _ (by have h9 := Ha4.out.lt; rw [World.size_alloc] at h9; exact h9)))
  have Hb5 := Lib.hid (Hb4.out.of_block (hb5.block _ (by have h9 := Hb4.out.lt; rw [World.size_alloc] at h9; exact h9)))
  have Hc5 := Lib.hid (Hc4.out.of_block (hb5.block _ (by have h9 := Hc4.out.lt; rw [World.size_alloc] at h9; exact h9)))
  have Hs5 := Lib.hid (Hs4.out.of_block (hb5.block _ (by have h9 := Hs4.out.lt; rw [World.size_alloc] at h9; exact h9)))
  have B5 : Hid (Below w.heap.size w w5) := B4.out.trans (hb5.mono (by have := B4.out.size; simpa using this))
  clear hb5 hrd7
  obtain ⟨ka0, ka1⟩ := ratAt_cells Ha5.out
  have hla := Ha5.out.lt
  obtain ⟨kb0, kb1⟩ := ratAt_cells Hb5.out
  have hlb := Hb5.out.lt
  obtain ⟨kc0, kc1⟩ := ratAt_cells Hc5.out
  have hlc := Hc5.out.lt
  obtain ⟨ks0, ks1⟩ := ratAt_cells Hs5.out
  have hls := Hs5.out.lt
  go_wp2_with fail
  clear ka0 ka1 hla kb0 kb1 hlb kc0 kc1 hlc ks0 ks1 hls
  refine (KL.out _).mono ?_
  rintro e w6 ⟨rfl, hb6⟩
  have Ha6 := Lib.hid ((Ha5.out.of_block (hb6.block _ Ha5.out.lt)).alloc (.cells #[.int .i64 L0, .int .i64 L1] 32))
  have Hb6 := Lib.hid ((Hb5.out.of_block (hb6.block _ Hb5.out.lt)).alloc (.cells #[.int .i64 L0, .int .i64 L1] 32))
  have Hc6 := Lib.hid ((Hc5.out.of_block (hb6.block _ Hc5.out.lt)).alloc (.cells #[.int .i64 L0, .int .i64 L1] 32))
  have Hs6 := Lib.hid ((Hs5.out.of_block (hb6.block _ Hs5.out.lt)).alloc (.cells #[.int .i64 L0, .int .i64 L1] 32))
  have HL6 := Lib.hid (ratAt_new w6 L0 L1 32)
  have B6 : Hid (Below w.heap.size w (w6.alloc (.cells #[.int .i64 L0, .int .i64 L1] 32))) := balloc (bstep B5.out hb6) _
  clear hb6
  obtain ⟨wq, hwq⟩ : ∃ wq, (w6.alloc (.cells #[.int .i64 L0, .int .i64 L1] 32)) = wq := ⟨_, rfl⟩
  have hsz6 : w6.heap.size + 1 = wq.heap.size := by rw [← hwq]; simp
  rw [hwq] at Ha6
  rw [hwq] at Hb6
  rw [hwq] at Hc6
  rw [hwq] at Hs6
  rw [hwq] at HL6
  rw [hwq] at B6
  obtain ⟨ka0, ka1⟩ := ratAt_cells Ha6.out
  have hla := Ha6.out.lt
  obtain ⟨kb0, kb1⟩ := ratAt_cells Hb6.out
  have hlb := Hb6.out.lt
  obtain ⟨kc0, kc1⟩ := ratAt_cells Hc6.out
  have hlc := Hc6.out.lt
  obtain ⟨ks0, ks1⟩ := ratAt_cells Hs6.out
  have hls := Hs6.out.lt
  obtain ⟨kL0, kL1⟩ := ratAt_cells HL6.out
  have hlL := HL6.out.lt
  have HWQ := Lib.hid hwq
  clear hwq
  go_wp2_with fail
  rw [HWQ.out]
  clear HWQ
  have nqa : ¬ w1.heap.size = wq.heap.size := Nat.ne_of_lt Ha6.out.lt
  have nra : ¬ wq.heap.size = w1.heap.size := fun e => nqa e.symm
  have nqb : ¬ w2.heap.size = wq.heap.size := Nat.ne_of_lt Hb6.out.lt
  have nrb : ¬ wq.heap.size = w2.heap.size := fun e => nqb e.symm
  have nqc : ¬ w3.heap.size = wq.heap.size := Nat.ne_of_lt Hc6.out.lt
  have nrc : ¬ wq.heap.size = w3.heap.size := fun e => nqc e.symm
  go_cut [8] (fun s8 wx => ∃ g : Nat, s8 = .pointer (some ⟨g, 0, none⟩) ∧ MadeQ wq g L0 L1 wx)
  case first =>
    go_region_held3 (fun w' => w'.cell? ⟨w1.heap.size, 0, none⟩ = some (.int .i64 a0) ∧ w'.cell? ⟨w1.heap.size, 1, none⟩ = some (.int .i64 a1) ∧ w'.cell? ⟨w2.heap.size, 0, none⟩ = some (.int .i64 b0) ∧ w'.cell? ⟨w2.heap.size, 1, none⟩ = some (.int .i64 b1) ∧ w'.cell? ⟨w3.heap.size, 0, none⟩ = some (.int .i64 c0) ∧ w'.cell? ⟨w3.heap.size, 1, none⟩ = some (.int .i64 c1)) (go_keep)
      ((first
      | (go_at_call 19; (first | ((with_reducible refine (KX.out _).mono ?_); rintro e wX ⟨rfl, hbX⟩; (try (replace hbX := bdrew hbX)); (try (have hq_ := bltn hbX (b := w1.heap.size) (by (first | omega | (simp only [World.size_alloc, World.size_setCell, World.size_drew, World.heap_drewN]; omega))); obtain ⟨uu, vv, zz, nn, mm⟩ := hq_)); (try (have hq_ := bltn hbX (b := w2.heap.size) (by (first | omega | (simp only [World.size_alloc, World.size_setCell, World.size_drew, World.heap_drewN]; omega))); obtain ⟨uu, vv, zz, nn, mm⟩ := hq_)); (try (have hq_ := bltn hbX (b := w3.heap.size) (by (first | omega | (simp only [World.size_alloc, World.size_setCell, World.size_drew, World.heap_drewN]; omega))); obtain ⟨uu, vv, zz, nn, mm⟩ := hq_)); (try (have hq_ := bltn hbX (b := wq.heap.size) (by (first | omega | (simp only [World.size_alloc, World.size_setCell, World.size_drew, World.heap_drewN]; omega))); obtain ⟨uu, vv, zz, nn, mm⟩ := hq_)); (try (have hq_ := bltn hbX (b := wY.heap.size) (by (first | omega | (simp only [World.size_alloc, World.size_setCell, World.size_drew, World.heap_drewN]; omega))); obtain ⟨uu, vv, zz, nn, mm⟩ := hq_))) | ((with_reducible refine (KY.out _).mono ?_); rintro e wY ⟨rfl, hbY⟩; (try (replace hbY := bdrew hbY)); (try (have hq_ := bltn hbY (b := w1.heap.size) (by (first | omega | (simp only [World.size_alloc, World.size_setCell, World.size_drew, World.heap_drewN]; omega))); obtain ⟨uu, vv, zz, nn, mm⟩ := hq_)); (try (have hq_ := bltn hbY (b := w2.heap.size) (by (first | omega | (simp only [World.size_alloc, World.size_setCell, World.size_drew, World.heap_drewN]; omega))); obtain ⟨uu, vv, zz, nn, mm⟩ := hq_)); (try (have hq_ := bltn hbY (b := w3.heap.size) (by (first | omega | (simp only [World.size_alloc, World.size_setCell, World.size_drew, World.heap_drewN]; omega))); obtain ⟨uu, vv, zz, nn, mm⟩ := hq_)); (try (have hq_ := bltn hbY (b := wq.heap.size) (by (first | omega | (simp only [World.size_alloc, World.size_setCell, World.size_drew, World.heap_drewN]; omega))); obtain ⟨uu, vv, zz, nn, mm⟩ := hq_)); (try (have hq_ := bltn hbY (b := wX.heap.size) (by (first | omega | (simp only [World.size_alloc, World.size_setCell, World.size_drew, World.heap_drewN]; omega))); obtain ⟨uu, vv, zz, nn, mm⟩ := hq_)))))
      | (go_at_call 23; ((with_reducible refine (KXY.out _).mono ?_); rintro e wD ⟨rfl, hbD⟩); (try (have hq_ := bltn hbD (b := w1.heap.size) (by (first | omega | (simp only [World.size_alloc, World.size_setCell, World.size_drew, World.heap_drewN]; omega))); obtain ⟨uu, vv, zz, nn, mm⟩ := hq_)); (try (have hq_ := bltn hbD (b := w2.heap.size) (by (first | omega | (simp only [World.size_alloc, World.size_setCell, World.size_drew, World.heap_drewN]; omega))); obtain ⟨uu, vv, zz, nn, mm⟩ := hq_)); (try (have hq_ := bltn hbD (b := w3.heap.size) (by (first | omega | (simp only [World.size_alloc, World.size_setCell, World.size_drew, World.heap_drewN]; omega))); obtain ⟨uu, vv, zz, nn, mm⟩ := hq_)); (try (have hq_ := bltn hbD (b := wq.heap.size) (by (first | omega | (simp only [World.size_alloc, World.size_setCell, World.size_drew, World.heap_drewN]; omega))); obtain ⟨uu, vv, zz, nn, mm⟩ := hq_)); (try (have hq_ := bltn hbD (b := wX.heap.size) (by (first | omega | (simp only [World.size_alloc, World.size_setCell, World.size_drew, World.heap_drewN]; omega))); obtain ⟨uu, vv, zz, nn, mm⟩ := hq_)); (try (have hq_ := bltn hbD (b := wY.heap.size) (by (first | omega | (simp only [World.size_alloc, World.size_setCell, World.size_drew, World.heap_drewN]; omega))); obtain ⟨uu, vv, zz, nn, mm⟩ := hq_)))))
    all_goals
      go_wp2_with fail
      go_meet
      have qd := hbD.size
      have qx := hbX.size
      have qy := hbY.size
      try simp only [World.size_alloc, World.size_drew] at qd qx qy
      first
        | exact ⟨_, rfl, madeq_alloc _ (by (repeat' (first | (with_reducible exact Below.refl _ _) | (with_reducible assumption) | (with_reducible refine balloc ?_ _) | (with_reducible refine Below.drew ?_) | (with_reducible refine below_drewN ?_ _) | (with_reducible refine bset ?_ ?_ _) | (with_reducible refine bstep ?_ (by assumption)) | go_size))) L0 L1⟩
        | exact ⟨_, rfl, madeq_set (by (repeat' (first | (with_reducible exact Below.refl _ _) | (with_reducible assumption) | (with_reducible refine balloc ?_ _) | (with_reducible refine Below.drew ?_) | (with_reducible refine below_drewN ?_ _) | (with_reducible refine bset ?_ ?_ _) | (with_reducible refine bstep ?_ (by assumption)) | go_size))) (by (first | omega | (simp only [World.size_alloc, World.size_setCell, World.size_drew, World.heap_drewN]; omega))) (by simp only [*]; simp [go_sem]; try rfl) (by simp only [*]; simp [go_sem]; try rfl) L0 L1⟩
  case rest =>
  obtain ⟨g, rfl, hM⟩ := hcut
  obtain ⟨⟨hg1, hg2⟩, ⟨hg3, hg4⟩, hQ⟩ := hM
  obtain ⟨wm, rfl⟩ : ∃ wm : World, wm = wc := ⟨_, rfl⟩
  clear ka0 ka1 hla kb0 kb1 hlb kc0 kc1 hlc ks0 ks1 hls kL0 kL1 hlL
  clear nqa nqb nqc nra nrb nrc
  have Ha7 := Lib.hid (Ha6.out.of_block (hQ.block _ Ha6.out.lt))
  have Hb7 := Lib.hid (Hb6.out.of_block (hQ.block _ Hb6.out.lt))
  have Hc7 := Lib.hid (Hc6.out.of_block (hQ.block _ Hc6.out.lt))
  have Hs7 := Lib.hid (Hs6.out.of_block (hQ.block _ Hs6.out.lt))
  have HL7 := Lib.hid (HL6.out.of_block (hQ.block _ HL6.out.lt))
  have B7 : Hid (Below w.heap.size w wm) := bstep B6.out hQ
  have HRc := Lib.hid (And.intro hg2 (And.intro hg3 hg4))
  clear hg2 hg3 hg4 hQ
  obtain ⟨ka0, ka1⟩ := ratAt_cells Ha7.out
  have hla := Ha7.out.lt
  obtain ⟨kb0, kb1⟩ := ratAt_cells Hb7.out
  have hlb := Hb7.out.lt
  obtain ⟨kc0, kc1⟩ := ratAt_cells Hc7.out
  have hlc := Hc7.out.lt
  obtain ⟨ks0, ks1⟩ := ratAt_cells Hs7.out
  have hls := Hs7.out.lt
  obtain ⟨kL0, kL1⟩ := ratAt_cells HL7.out
  have hlL := HL7.out.lt
  go_wp2_with fail
  clear ka0 ka1 hla kb0 kb1 hlb kc0 kc1 hlc ks0 ks1 hls kL0 kL1 hlL
  refine (KZ.out _).mono ?_
  rintro e w8 ⟨rfl, hb8⟩
  have Ha8 := Lib.hid ((Ha7.out.of_block (hb8.block _ Ha7.out.lt)).alloc (.cells #[.int .i64 0, .int .i64 1] 32))
  have Hb8 := Lib.hid ((Hb7.out.of_block (hb8.block _ Hb7.out.lt)).alloc (.cells #[.int .i64 0, .int .i64 1] 32))
  have Hc8 := Lib.hid ((Hc7.out.of_block (hb8.block _ Hc7.out.lt)).alloc (.cells #[.int .i64 0, .int .i64 1] 32))
  have Hs8 := Lib.hid ((Hs7.out.of_block (hb8.block _ Hs7.out.lt)).alloc (.cells #[.int .i64 0, .int .i64 1] 32))
  have HL8 := Lib.hid ((HL7.out.of_block (hb8.block _ HL7.out.lt)).alloc (.cells #[.int .i64 0, .int .i64 1] 32))
  have Hz8 := Lib.hid (ratAt_new w8 0 1 32)
  have B8 : Hid (Below w.heap.size w (w8.alloc (.cells #[.int .i64 0, .int .i64 1] 32))) := balloc (bstep B7.out hb8) _
  have HRd : Hid (g < w8.heap.size + 1 ∧ (w8.alloc (.cells #[.int .i64 0, .int .i64 1] 32)).cell? ⟨g, 0, none⟩ = some (.int .i64 L0) ∧ (w8.alloc (.cells #[.int .i64 0, .int .i64 1] 32)).cell? ⟨g, 1, none⟩ = some (.int .i64 L1)) := by
    obtain ⟨h1, h2, h3⟩ := HRc.out
    have h4 := hb8.size
    have h5 : Below wm.heap.size wm (w8.alloc (.cells #[.int .i64 0, .int .i64 1] 32)) := balloc hb8 _
    exact ⟨by omega, (h5.cell (p := ⟨g, 0, none⟩) h1).trans h2, (h5.cell (p := ⟨g, 1, none⟩) h1).trans h3⟩
  clear hb8
  obtain ⟨ka0, ka1⟩ := ratAt_cells Ha8.out
  have hla := Ha8.out.lt
  obtain ⟨kb0, kb1⟩ := ratAt_cells Hb8.out
  have hlb := Hb8.out.lt
  obtain ⟨kc0, kc1⟩ := ratAt_cells Hc8.out
  have hlc := Hc8.out.lt
  obtain ⟨ks0, ks1⟩ := ratAt_cells Hs8.out
  have hls := Hs8.out.lt
  obtain ⟨kL0, kL1⟩ := ratAt_cells HL8.out
  have hlL := HL8.out.lt
  obtain ⟨kz0, kz1⟩ := ratAt_cells Hz8.out
  have hlz := Hz8.out.lt
  go_wp2_with fail
  clear ka0 ka1 hla kb0 kb1 hlb kc0 kc1 hlc ks0 ks1 hls kL0 kL1 hlL kz0 kz1 hlz
  have hrd12 : Hid (∀ w', Below (w8.heap.size + 1) (w8.alloc (.cells #[.int .i64 0, .int .i64 1] 32)) w' → w'.cell? ⟨w1.heap.size, 0, none⟩ = some (.int .i64 a0) ∧ w'.cell? ⟨w1.heap.size, 1, none⟩ = some (.int .i64 a1) ∧ w'.cell? ⟨w2.heap.size, 0, none⟩ = some (.int .i64 b0) ∧ w'.cell? ⟨w2.heap.size, 1, none⟩ = some (.int .i64 b1) ∧ w'.cell? ⟨w3.heap.size, 0, none⟩ = some (.int .i64 c0) ∧ w'.cell? ⟨w3.heap.size, 1, none⟩ = some (.int .i64 c1) ∧ w'.cell? ⟨w4.heap.size, 0, none⟩ = some (.int .i64 s0) ∧ w'.cell? ⟨w4.heap.size, 1, none⟩ = some (.int .i64 s1) ∧ w'.cell? ⟨w6.heap.size, 0, none⟩ = some (.int .i64 L0) ∧ w'.cell? ⟨w6.heap.size, 1, none⟩ = some (.int .i64 L1) ∧ w'.cell? ⟨w8.heap.size, 0, none⟩ = some (.int .i64 0) ∧ w'.cell? ⟨w8.heap.size, 1, none⟩ = some (.int .i64 1) ∧ w'.cell? ⟨g, 0, none⟩ = some (.int .i64 L0) ∧ w'.cell? ⟨g, 1, none⟩ = some (.int .i64 L1)) := fun w' h => ⟨(ratAt_cells (Ha8.out.of_block (h.block _ (by have h9 := Ha8.out.lt; rw [World.size_alloc] at h9; exact h9)))).1, (ratAt_cells (Ha8.out.of_block (h.block _ (by have h9 := Ha8.out.lt; rw [World.size_alloc] at h9; exact h9)))).2, (ratAt_cells (Hb8.out.of_block (h.block _ (by have h9 := Hb8.out.lt; rw [World.size_alloc] at h9; exact h9)))).1, (ratAt_cells (Hb8.out.of_block (h.block _ (by have h9 := Hb8.out.lt; rw [World.size_alloc] at h9; exact h9)))).2, (ratAt_cells (Hc8.out.of_block (h.block _ (by have h9 := Hc8.out.lt; rw [World.size_alloc] at h9; exact h9)))).1, (ratAt_cells (Hc8.out.of_block (h.block _ (by have h9 := Hc8.out.lt; rw [World.size_alloc] at h9; exact h9)))).2, (ratAt_cells (Hs8.out.of_block (h.block _ (by have h9 := Hs8.out.lt; rw [World.size_alloc] at h9; exact h9)))).1, (ratAt_cells (Hs8.out.of_block (h.block _ (by have h9 := Hs8.out.lt; rw [World.size_alloc] at h9; exact h9)))).2, (ratAt_cells (HL8.out.of_block (h.block _ (by have h9 := HL8.out.lt; rw [World.size_alloc] at h9; exact h9)))).1, (ratAt_cells (HL8.out.of_block (h.block _ (by have h9 := HL8.out.lt; rw [World.size_alloc] at h9; exact h9)))).2, (ratAt_cells (Hz8.out.of_block (h.block _ (by have h9 := Hz8.out.lt; rw [World.size_alloc] at h9; exact h9)))).1, (ratAt_cells (Hz8.out.of_block (h.block _ (by have h9 := Hz8.out.lt; rw [World.size_alloc] at h9; exact h9)))).2, (h.cell (p := ⟨g, 0, none⟩) HRd.out.1).trans HRd.out.2.1, (h.cell (p := ⟨g, 1, none⟩) HRd.out.1).trans HRd.out.2.2⟩
  have HB8 := B8
  by_cases ha0 : a0 = 0
  · subst ha0
    refine region_quiet_tail_in (fun w' => Below (w8.heap.size + 1) (w8.alloc (.cells #[.int .i64 0, .int .i64 1] 32)) w') 34 (by kernel_rfl) (by kernel_rfl) (Below.refl _ _).drew ?_
    simp only [List.take_succ_cons, List.take_zero, List.drop_succ_cons, List.drop_zero]
    refine wpQuiet_step (fun K hK => ?_)
    go_simp
    refine ⟨.agg #[.int .i64 L0, .int .i64 L1], fun w' hw' => ?_, hK _ ?_⟩
    · obtain ⟨ma0, ma1, mb0, mb1, mc0, mc1, ms0, ms1, mL0, mL1, mz0, mz1, mR0, mR1⟩ := hrd12.out w' hw'
      go_simp
    clear hK K
    refine wpQuiet_step (fun K hK => ?_)
    go_simp
    refine ⟨.agg #[.int .i64 L0, .int .i64 L1], fun w' hw' => ?_, hK _ ?_⟩
    · obtain ⟨ma0, ma1, mb0, mb1, mc0, mc1, ms0, ms1, mL0, mL1, mz0, mz1, mR0, mR1⟩ := hrd12.out w' hw'
      go_simp
    clear hK K
    refine wpQuiet_step (fun K hK => ?_)
    go_simp
    apply Exists.intro
    constructor
    · intro w' hw'; exact rfl
    refine hK _ ?_
    clear hK K
    refine wpQuiet_step (fun K hK => ?_)
    go_simp
    apply Exists.intro
    constructor
    · intro w' hw'; exact rfl
    refine hK _ ?_
    clear hK K
    refine wpQuiet_step (fun K hK => ?_)
    go_simp
    refine ⟨.agg #[.int .i64 L0, .int .i64 L1], fun w' hw' => ?_, hK _ ?_⟩
    · obtain ⟨ma0, ma1, mb0, mb1, mc0, mc1, ms0, ms1, mL0, mL1, mz0, mz1, mR0, mR1⟩ := hrd12.out w' hw'
      go_simp
    clear hK K
    refine wpQuiet_step (fun K hK => ?_)
    go_simp
    refine ⟨.bool true, fun w' hw' => (KLO.out w').mono (fun e w'' h => ⟨h.1, hw'.trans (h.2.mono (by have := hw'.size; simpa using this))⟩), hK _ ?_⟩
    clear hK K
    refine wpQuiet_step (fun K hK => ?_)
    go_simp
    apply Exists.intro
    constructor
    · intro w' hw'; exact rfl
    refine hK _ ?_
    clear hK K
    refine wpQuiet_step (fun K hK => ?_)
    go_simp
    apply Exists.intro
    constructor
    · intro w' hw'; exact rfl
    refine hK _ ?_
    clear hK K
    refine wpQuiet_step (fun K hK => ?_)
    go_simp
    refine ⟨.agg #[.int .i64 0, .int .i64 1], fun w' hw' => ?_, hK _ ?_⟩
    · obtain ⟨ma0, ma1, mb0, mb1, mc0, mc1, ms0, ms1, mL0, mL1, mz0, mz1, mR0, mR1⟩ := hrd12.out w' hw'
      go_simp
    clear hK K
    refine wpQuiet_step (fun K hK => ?_)
    go_simp
    apply Exists.intro
    constructor
    · intro w' hw'; exact rfl
    refine hK _ ?_
    clear hK K
    refine wpQuiet_step (fun K hK => ?_)
    go_simp
    apply Exists.intro
    constructor
    · intro w' hw'; exact rfl
    refine hK _ ?_
    clear hK K
    refine wpQuiet_step (fun K hK => ?_)
    go_simp
    apply Exists.intro
    constructor
    · intro w' hw'; exact rfl
    refine hK _ ?_
    clear hK K
    refine wpQuiet_step (fun K hK => ?_)
    go_simp
    apply Exists.intro
    constructor
    · intro w' hw'; exact rfl
    refine hK _ ?_
    clear hK K
    refine wpQuiet_step (fun K hK => ?_)
    go_simp
    apply Exists.intro
    constructor
    · intro w' hw'; exact rfl
    refine hK _ ?_
    clear hK K
    refine wpQuiet_step (fun K hK => ?_)
    go_simp
    refine ⟨.int .i64 0, fun w' hw' => ?_, hK _ ?_⟩
    · obtain ⟨ma0, ma1, mb0, mb1, mc0, mc1, ms0, ms1, mL0, mL1, mz0, mz1, mR0, mR1⟩ := hrd12.out w' hw'
      go_simp
    clear hK K
    refine wpQuiet_step (fun K hK => ?_)
    go_simp
    apply Exists.intro
    constructor
    · intro w' hw'; exact rfl
    refine hK _ ?_
    clear hK K
    refine wpQuiet_step (fun K hK => ?_)
    go_simp
    apply Exists.intro
    constructor
    · intro w' hw'; exact rfl
    refine hK _ ?_
    clear hK K
    go_big_quiet_skip
    go_big_quiet_skip
    go_big_quiet_skip
    go_big_quiet_skip
    go_big_quiet_skip
    go_big_quiet_skip
    refine wpQuiet_step (fun K hK => ?_)
    go_simp
    apply Exists.intro
    constructor
    · intro w' hw'; exact rfl
    refine hK _ ?_
    clear hK K
    refine wpQuiet_step (fun K hK => ?_)
    go_simp
    apply Exists.intro
    constructor
    · intro w' hw'; exact rfl
    refine hK _ ?_
    clear hK K
    refine wpQuiet_step (fun K hK => ?_)
    go_simp
    apply Exists.intro
    constructor
    · intro w' hw'; exact rfl
    refine hK _ ?_
    clear hK K
    refine wpQuiet_step (fun K hK => ?_)
    go_simp
    refine ⟨.agg #[.int .i64 s0, .int .i64 s1], fun w' hw' => ?_, hK _ ?_⟩
    · obtain ⟨ma0, ma1, mb0, mb1, mc0, mc1, ms0, ms1, mL0, mL1, mz0, mz1, mR0, mR1⟩ := hrd12.out w' hw'
      go_simp
    clear hK K
    refine wpQuiet_step (fun K hK => ?_)
    go_simp
    refine ⟨.agg #[.int .i64 0, .int .i64 a1], fun w' hw' => ?_, hK _ ?_⟩
    · obtain ⟨ma0, ma1, mb0, mb1, mc0, mc1, ms0, ms1, mL0, mL1, mz0, mz1, mR0, mR1⟩ := hrd12.out w' hw'
      go_simp
    clear hK K
    refine wpQuiet_step (fun K hK => ?_)
    go_simp
    refine ⟨.int .i64 G, fun w' hw' => (KC1.out w').mono (fun e w'' h => ⟨h.1, hw'.trans (h.2.mono (by have := hw'.size; simpa using this))⟩), hK _ ?_⟩
    clear hK K
    refine wpQuiet_step (fun K hK => ?_)
    go_simp
    refine ⟨.agg #[.int .i64 b0, .int .i64 b1], fun w' hw' => ?_, hK _ ?_⟩
    · obtain ⟨ma0, ma1, mb0, mb1, mc0, mc1, ms0, ms1, mL0, mL1, mz0, mz1, mR0, mR1⟩ := hrd12.out w' hw'
      go_simp
    clear hK K
    refine wpQuiet_step (fun K hK => ?_)
    go_simp
    refine ⟨.agg #[.int .i64 0, .int .i64 1], fun w' hw' => ?_, hK _ ?_⟩
    · obtain ⟨ma0, ma1, mb0, mb1, mc0, mc1, ms0, ms1, mL0, mL1, mz0, mz1, mR0, mR1⟩ := hrd12.out w' hw'
      go_simp
    clear hK K
    refine wpQuiet_step (fun K hK => ?_)
    go_simp
    refine ⟨.int .i64 G, fun w' hw' => (KC2.out w').mono (fun e w'' h => ⟨h.1, hw'.trans (h.2.mono (by have := hw'.size; simpa using this))⟩), hK _ ?_⟩
    clear hK K
    refine wpQuiet_step (fun K hK => ?_)
    go_simp
    apply Exists.intro
    constructor
    · intro w' hw'; exact rfl
    refine hK _ ?_
    clear hK K
    refine wpQuiet_step (fun K hK => ?_)
    go_simp
    apply Exists.intro
    constructor
    · intro w' hw'; exact rfl
    refine hK _ ?_
    clear hK K
    refine wpQuiet_nil ?_
    intro w9 hb9
    have B9 : Hid (Below w.heap.size w w9) := B8.out.trans (hb9.mono (by have := B8.out.size; simpa using this))
    clear hb9 hrd12
    go_wp2_with fail
    go_ret
    exact ⟨by rfl, B9.out⟩
  · have hinv := HINV.out ha0
    have KTI := Lib.hid (fun w => implTimesR (a0, a1) (Gn.rat a1 a0) w)
    try simp only at hinv
    rw [hinv] at KTI
    have ha1 : (a0 == 0) = false := by simp [ha0]
    clear hinv ha0
    refine region_quiet_tail_in (fun w' => Below (w8.heap.size + 1) (w8.alloc (.cells #[.int .i64 0, .int .i64 1] 32)) w') 34 (by kernel_rfl) (by kernel_rfl) (Below.refl _ _).drew ?_
    simp only [List.take_succ_cons, List.take_zero, List.drop_succ_cons, List.drop_zero]
    refine wpQuiet_step (fun K hK => ?_)
    go_simp
    refine ⟨.agg #[.int .i64 L0, .int .i64 L1], fun w' hw' => ?_, hK _ ?_⟩
    · obtain ⟨ma0, ma1, mb0, mb1, mc0, mc1, ms0, ms1, mL0, mL1, mz0, mz1, mR0, mR1⟩ := hrd12.out w' hw'
      go_simp
    clear hK K
    refine wpQuiet_step (fun K hK => ?_)
    go_simp
    refine ⟨.agg #[.int .i64 L0, .int .i64 L1], fun w' hw' => ?_, hK _ ?_⟩
    · obtain ⟨ma0, ma1, mb0, mb1, mc0, mc1, ms0, ms1, mL0, mL1, mz0, mz1, mR0, mR1⟩ := hrd12.out w' hw'
      go_simp
    clear hK K
    refine wpQuiet_step (fun K hK => ?_)
    go_simp
    apply Exists.intro
    constructor
    · intro w' hw'; exact rfl
    refine hK _ ?_
    clear hK K
    refine wpQuiet_step (fun K hK => ?_)
    go_simp
    apply Exists.intro
    constructor
    · intro w' hw'; exact rfl
    refine hK _ ?_
    clear hK K
    refine wpQuiet_step (fun K hK => ?_)
    go_simp
    refine ⟨.agg #[.int .i64 L0, .int .i64 L1], fun w' hw' => ?_, hK _ ?_⟩
    · obtain ⟨ma0, ma1, mb0, mb1, mc0, mc1, ms0, ms1, mL0, mL1, mz0, mz1, mR0, mR1⟩ := hrd12.out w' hw'
      go_simp
    clear hK K
    refine wpQuiet_step (fun K hK => ?_)
    go_simp
    refine ⟨.bool true, fun w' hw' => (KLO.out w').mono (fun e w'' h => ⟨h.1, hw'.trans (h.2.mono (by have := hw'.size; simpa using this))⟩), hK _ ?_⟩
    clear hK K
    refine wpQuiet_step (fun K hK => ?_)
    go_simp
    apply Exists.intro
    constructor
    · intro w' hw'; exact rfl
    refine hK _ ?_
    clear hK K
    refine wpQuiet_step (fun K hK => ?_)
    go_simp
    apply Exists.intro
    constructor
    · intro w' hw'; exact rfl
    refine hK _ ?_
    clear hK K
    refine wpQuiet_step (fun K hK => ?_)
    go_simp
    refine ⟨.agg #[.int .i64 0, .int .i64 1], fun w' hw' => ?_, hK _ ?_⟩
    · obtain ⟨ma0, ma1, mb0, mb1, mc0, mc1, ms0, ms1, mL0, mL1, mz0, mz1, mR0, mR1⟩ := hrd12.out w' hw'
      go_simp
    clear hK K
    refine wpQuiet_step (fun K hK => ?_)
    go_simp
    apply Exists.intro
    constructor
    · intro w' hw'; exact rfl
    refine hK _ ?_
    clear hK K
    refine wpQuiet_step (fun K hK => ?_)
    go_simp
    apply Exists.intro
    constructor
    · intro w' hw'; exact rfl
    refine hK _ ?_
    clear hK K
    refine wpQuiet_step (fun K hK => ?_)
    go_simp
    apply Exists.intro
    constructor
    · intro w' hw'; exact rfl
    refine hK _ ?_
    clear hK K
    refine wpQuiet_step (fun K hK => ?_)
    go_simp
    apply Exists.intro
    constructor
    · intro w' hw'; exact rfl
    refine hK _ ?_
    clear hK K
    refine wpQuiet_step (fun K hK => ?_)
    go_simp
    apply Exists.intro
    constructor
    · intro w' hw'; exact rfl
    refine hK _ ?_
    clear hK K
    refine wpQuiet_step (fun K hK => ?_)
    go_simp
    refine ⟨.int .i64 a0, fun w' hw' => ?_, hK _ ?_⟩
    · obtain ⟨ma0, ma1, mb0, mb1, mc0, mc1, ms0, ms1, mL0, mL1, mz0, mz1, mR0, mR1⟩ := hrd12.out w' hw'
      go_simp
    clear hK K
    refine wpQuiet_step (fun K hK => ?_)
    go_simp
    apply Exists.intro
    constructor
    · intro w' hw'; exact rfl
    refine hK _ ?_
    clear hK K
    refine wpQuiet_step (fun K hK => ?_)
    go_simp
    apply Exists.intro
    constructor
    · intro w' hw'; exact rfl
    refine hK _ ?_
    clear hK K
    refine wpQuiet_step (fun K hK => ?_)
    go_simp
    refine ⟨.agg #[.int .i64 a0, .int .i64 a1], fun w' hw' => ?_, hK _ ?_⟩
    · obtain ⟨ma0, ma1, mb0, mb1, mc0, mc1, ms0, ms1, mL0, mL1, mz0, mz1, mR0, mR1⟩ := hrd12.out w' hw'
      go_simp
    clear hK K
    refine wpQuiet_step (fun K hK => ?_)
    go_simp
    refine ⟨.agg #[.int .i64 a0, .int .i64 a1], fun w' hw' => ?_, hK _ ?_⟩
    · obtain ⟨ma0, ma1, mb0, mb1, mc0, mc1, ms0, ms1, mL0, mL1, mz0, mz1, mR0, mR1⟩ := hrd12.out w' hw'
      go_simp
    clear hK K
    refine wpQuiet_step (fun K hK => ?_)
    go_simp
    refine ⟨ratV (Gn.rat a1 a0).1 (Gn.rat a1 a0).2, fun w' hw' => (KI.out w').mono (fun e w'' h => ⟨h.1, hw'.trans (h.2.mono (by have := hw'.size; simpa using this))⟩), hK _ ?_⟩
    clear hK K
    refine wpQuiet_step (fun K hK => ?_)
    go_simp
    refine ⟨ratV 1 1, fun w' hw' => (KTI.out w').mono (fun e w'' h => ⟨h.1, hw'.trans (h.2.mono (by have := hw'.size; simpa using this))⟩), hK _ ?_⟩
    clear hK K
    refine wpQuiet_step (fun K hK => ?_)
    go_simp
    apply Exists.intro
    constructor
    · intro w' hw'; exact rfl
    refine hK _ ?_
    clear hK K
    refine wpQuiet_step (fun K hK => ?_)
    go_simp
    apply Exists.intro
    constructor
    · intro w' hw'; exact rfl
    refine hK _ ?_
    clear hK K
    refine wpQuiet_step (fun K hK => ?_)
    go_simp
    apply Exists.intro
    constructor
    · intro w' hw'; exact rfl
    refine hK _ ?_
    clear hK K
    refine wpQuiet_step (fun K hK => ?_)
    go_simp
    apply Exists.intro
    constructor
    · intro w' hw'; exact rfl
    refine hK _ ?_
    clear hK K
    refine wpQuiet_step (fun K hK => ?_)
    go_simp
    apply Exists.intro
    constructor
    · intro w' hw'; exact rfl
    refine hK _ ?_
    clear hK K
    refine wpQuiet_step (fun K hK => ?_)
    go_simp
    refine ⟨.agg #[.int .i64 s0, .int .i64 s1], fun w' hw' => ?_, hK _ ?_⟩
    · obtain ⟨ma0, ma1, mb0, mb1, mc0, mc1, ms0, ms1, mL0, mL1, mz0, mz1, mR0, mR1⟩ := hrd12.out w' hw'
      go_simp
    clear hK K
    refine wpQuiet_step (fun K hK => ?_)
    go_simp
    refine ⟨.agg #[.int .i64 a0, .int .i64 a1], fun w' hw' => ?_, hK _ ?_⟩
    · obtain ⟨ma0, ma1, mb0, mb1, mc0, mc1, ms0, ms1, mL0, mL1, mz0, mz1, mR0, mR1⟩ := hrd12.out w' hw'
      go_simp
    clear hK K
    refine wpQuiet_step (fun K hK => ?_)
    go_simp
    refine ⟨.int .i64 G, fun w' hw' => (KC1.out w').mono (fun e w'' h => ⟨h.1, hw'.trans (h.2.mono (by have := hw'.size; simpa using this))⟩), hK _ ?_⟩
    clear hK K
    refine wpQuiet_step (fun K hK => ?_)
    go_simp
    refine ⟨.agg #[.int .i64 b0, .int .i64 b1], fun w' hw' => ?_, hK _ ?_⟩
    · obtain ⟨ma0, ma1, mb0, mb1, mc0, mc1, ms0, ms1, mL0, mL1, mz0, mz1, mR0, mR1⟩ := hrd12.out w' hw'
      go_simp
    clear hK K
    refine wpQuiet_step (fun K hK => ?_)
    go_simp
    refine ⟨.agg #[.int .i64 0, .int .i64 1], fun w' hw' => ?_, hK _ ?_⟩
    · obtain ⟨ma0, ma1, mb0, mb1, mc0, mc1, ms0, ms1, mL0, mL1, mz0, mz1, mR0, mR1⟩ := hrd12.out w' hw'
      go_simp
    clear hK K
    refine wpQuiet_step (fun K hK => ?_)
    go_simp
    refine ⟨.int .i64 G, fun w' hw' => (KC2.out w').mono (fun e w'' h => ⟨h.1, hw'.trans (h.2.mono (by have := hw'.size; simpa using this))⟩), hK _ ?_⟩
    clear hK K
    refine wpQuiet_step (fun K hK => ?_)
    go_simp
    apply Exists.intro
    constructor
    · intro w' hw'; exact rfl
    refine hK _ ?_
    clear hK K
    refine wpQuiet_step (fun K hK => ?_)
    go_simp
    apply Exists.intro
    constructor
    · intro w' hw'; exact rfl
    refine hK _ ?_
    clear hK K
    refine wpQuiet_nil ?_
    intro w9 hb9
    have B9 : Hid (Below w.heap.size w w9) := B8.out.trans (hb9.mono (by have := B8.out.size; simpa using this))
    clear hb9 hrd12
    go_wp2_with fail
    go_ret
    exact ⟨by rfl, B9.out⟩
end Go.Proofs.Ytjchindjoailbaa

/- A caller's bytes, opened. -/
namespace Go.Proofs.Ytjchindjoailbaa
set_option linter.unusedSimpArgs false
set_option linter.unusedVariables false
set_option maxRecDepth 100000
open Go.RowKit Go.ChangeShapes Go.WideShapes Go.ChangeAt

theorem flat_u8 : ∀ l : List Int, l.flatMap (fun z => [Value.int .u8 z]) = u8s l
  | [] => rfl
  | a :: l => by rw [List.flatMap_cons, flat_u8 l]; rfl
section
variable {H : Type} {enc : TypeId × Value → H} {w : World} {base : Nat} {spare : Nat → Bool} {held : Bool}
theorem open_bytes {fuel : Nat} {cs : List Value} {x : DataW H × List MemPlace} (h : DataW.trod enc Try.prog w base spare held fuel 22 cs = some x) :
    ∃ (a : Option Addr) (n c : Nat) (l : List Int), cs = [.slice a n c] ∧ ArgRow w a n c 1 (u8s l) := by
  obtain ⟨a, n, c, l, e, _, hr, _⟩ := open_rows Try.underlying22 (by kernel_rfl) (Nat.zero_lt_one) (fun z : Int => [.int .u8 z]) (fun _ => True) (fun _ => rfl)
    (fun n cs y h => by obtain ⟨z, h1, _, _⟩ := DataW.trod_int Try.underlying5 h; exact ⟨z, h1, trivial⟩) h
  rw [flat_u8] at hr
  exact ⟨a, n, c, l, e, hr⟩
end
end Go.Proofs.Ytjchindjoailbaa

/- For every code the law FnRatios (fractions) answers true and leaves its argument as it was. -/
namespace Go.Proofs.Ytjchindjoailbaa
set_option linter.unusedSimpArgs false
set_option linter.unusedVariables false
open Go.ChangeShapes Go.WideShapes Go.ChangeAt Go.RowKit
open Go.ChangeMaps (open_string shut_string)
set_option linter.unusedVariables false

set_option maxRecDepth 100000 in
theorem lifted_FnRatios (os : Os) (started : os.Started) (H : Type) (enc : TypeId × Value → H) :
    ReturnsInHanded {} Try.checked os 6 .any (Rows.fnRatiosSpec.pre6 enc Try.prog Try.f6 Rows.fnRatiosRow.domain false) (Rows.fnRatiosSpec.post enc Try.prog Try.f6 false true false false) := by
  refine returnsInHanded_of_change (C := Try.checked) own started (by kernel_rfl) Try.func6
    (ChangeSpec.witness6 (enc := enc) (C := Try.checked) false ⟨#[], #[.slice none 0 0], []⟩ 8 (by kernel_rfl) (by kernel_rfl) (by kernel_rfl) (by kernel_rfl)) ?_
  intro W base args ds gs before hval0 hW hcnd _
  have hval : ∀ (j : Nat) t v, Try.f6.params[j]? = some t → args[j]? = some v → Value.okWide Try.prog W .any base t v := hval0
  have hW' := hW
  obtain ⟨p, q, hA0, hV, rfl, hfz, hnd⟩ := hW
  have hA : DataW.TrodAll enc Try.prog W 0 (fun _ => true) true Try.f6.params.toList args.toList ds p := hA0
  rw [Try.params6] at hA hval
  obtain ⟨v0, vs0, d0, ds0, p0, q0, hargs, rfl, rfl, h0, r0⟩ := trodAll_cons hA
  obtain ⟨rfl, rfl, rfl⟩ := trodAll_nil r0
  obtain rfl : args = #[v0] := by cases args; simp_all
  obtain ⟨rfl, rfl⟩ := trodVars_none hV
  have k0 := h0
  have lt0 : ∀ x ∈ p0, x.block < W.heap.size := by obtain ⟨m, hm⟩ := k0; exact DataW.trod_lt m _ _ _ hm
  obtain ⟨b0, bn0, bc0, rfl⟩ := okWide_slice Try.underlying22 (hval 0 22 v0 rfl rfl)
  obtain ⟨fu0, hm0⟩ := h0
  obtain ⟨a0, n0, c0, l0, e0, w0⟩ := open_bytes hm0
  have e0 : [Value.slice b0 bn0 bc0] = [Value.slice a0 n0 c0] := e0
  simp only [List.cons.injEq, Value.slice.injEq, and_true] at e0
  obtain ⟨rfl, rfl, rfl⟩ := e0
  clear hA0 hval0
  refine (walk_FnRatios _ _ _ l0 W w0).mono fun e W' ⟨he, bel⟩ => ?_
  subst he
  exact ⟨_, rfl, _, _, _, [], _, [], hW', trodAll_mk1 (shut_bool Try.underlying4 _), (trodAll_cons_mk (Below.trod laidOut (by kernel_rfl) (of_decide_eq_true (by kernel_rfl)) k0 bel lt0) trodAll_mk0), rfl, bel.frame _, fun h => by cases h⟩

set_option maxRecDepth 100000 in
set_option maxHeartbeats 8000000 in
theorem closed_FnRatios : joinedFacts Try.pinned.checked.prog 6 Try.f6 Rows.fnRatiosSpec Rows.fnRatiosRow = true := by
  unfold joinedFacts
  repeat' (with_reducible refine band ?_ ?_)
  all_goals first | (with_reducible exact mayEnter_p) | ((with_reducible refine bmake (finals_p.trans ?_)); rfl) | ((with_reducible refine beq_iff_eq.2 (make_p.trans ?_)); rfl) | (as_aux_lemma => kernel_rfl)

theorem fnRatios_holds : Rows.FnRatiosSaid :=
  OpenClaim.holds_of_wide 6 Try.f6 rfl rfl rfl rfl rfl rfl rfl ⟨rfl, rfl, rfl, rfl, rfl⟩ rfl rfl rfl rfl rfl (by kernel_rfl) Try.func6 closed_FnRatios
    (of_decide_eq_true (by kernel_rfl)) (by unfold Func.isWrapper; first | (rw [if_pos (by decide +kernel)]; kernel_rfl) | (rw [if_neg (by decide +kernel)]; exact ⟨rfl, rfl⟩))
    (fun os started H enc _ => lifted_FnRatios os started H enc)

end Go.Proofs.Ytjchindjoailbaa
