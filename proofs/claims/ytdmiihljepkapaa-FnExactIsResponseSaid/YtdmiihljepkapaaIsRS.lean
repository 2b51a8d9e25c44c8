/- IsResponse of the reference. -/
import Derived.Test.YtdmiihljepkapaaIsR
import Derived.Test.YtdmiihljepkapaaHeld
import Derived.BigQuiet
namespace Go.Proofs.Ytdmiihljepkapaa
set_option linter.unusedSimpArgs false
set_option linter.unusedVariables false
open Go.RowKit

set_option maxRecDepth 100000 in
set_option maxHeartbeats 16000000 in
theorem specIsResponse (a : Option Addr) (n c : Nat) (M : List (List Rz)) (B : Bool) (hB : B = true ↔ RespOk M n) (w : World) (hr : RGrid w a n c M) :
    Calls Try.prog 62 #[.slice a n c] w fun e w' => e = .returned (.bool B) ∧ Below w.heap.size w w' := by
  have hl := hr.len
  have hn := hr.le
  unfold maxLen at hn
  have HR := Lib.hid hr
  have HL := Lib.hid hl
  have HBB := Lib.hid hB
  clear hr hl hB
  by_cases hn1 : 1 ≤ n ∧ n ≤ 5
  rotate_left
  · have hv : B = false := bfalse HBB.out (fun h => hn1 ⟨h.n1, h.n5⟩)
    have KI := Lib.hid (fun (w : World) => inRange (n : Int) 1 5 w false ⟨(fun h => by cases h), fun h => absurd (show 1 ≤ n ∧ n ≤ 5 by omega) hn1⟩)
    subst hv
    clear hn1
    go_enter Try.func62, Try.ntmps62
    go_wp2_with fail
    refine (KI.out _).mono ?_
    rintro e w9 ⟨rfl, rfl⟩
    go_wp2_with fail
    go_ret
    exact ⟨rfl, Below.refl _ _⟩
  have KI := Lib.hid (fun (w : World) => inRange (n : Int) 1 5 w true ⟨fun _ => by omega, fun _ => rfl⟩)
  go_enter Try.func62, Try.ntmps62
  go_wp2_with fail
  refine (KI.out _).mono ?_
  rintro e w9 ⟨rfl, rfl⟩
  go_wp2_with fail
  go_loopw [16] (fun v wr => ∃ k : Nat, k ≤ n ∧ v = .int .i64 k ∧ Hid (∀ j (h : j < M.length), j < k → M[j].length = n) ∧ wr = w) (fun v _ => n - (intOf v).toNat)
  case atStart => exact ⟨0, by omega, rfl, fun j h h0 => absurd h0 (by omega), rfl⟩
  case round =>
    obtain ⟨k, hk, rfl, HT, rfl⟩ := hrel
    by_cases hlt : k < n
    · have hk1 : k < M.length := by rw [HL.out]; exact hlt
      have G1 := HR.out
      obtain ⟨b1, o1, rfl, hbb1⟩ := G1.form (by omega)
      obtain ⟨d1, e1, p1, q1⟩ := G1.row k hk1
      have hm1 := q1.le
      unfold maxLen at hm1
      by_cases hnm : M[k].length = n
      rotate_left
      · have hv : B = false := bfalse HBB.out (fun h => hnm (h.len k hk1))
        have hq1 : ((M[k].length : Int) != (n : Int)) = true := by simp; omega
        have hq2 : (M[k].length != n) = true := by simp; omega
        generalize M[k].length = m1 at *
        subst hv
        clear hnm q1 G1 hk1
        go_wp2_with fail
        go_ret
        exact ⟨rfl, Below.refl _ _⟩
      · have HT2 : Hid (∀ j (h : j < M.length), j < k + 1 → M[j].length = n) := fun j h hj => by
          by_cases e : j = k
          · subst e; exact hnm
          · exact HT.out j h (by omega)
        rw [hnm] at p1
        clear q1 G1 hk1 hnm hm1
        go_wp2_with fail
        go_roundw
        case rel => exact ⟨k + 1, by omega, by go_num, HT2.out, by trivial⟩
        case measure => simp [intOf]; omega
    · obtain rfl : k = n := by omega
      have HT3 : Hid (∀ j (h : j < M.length), M[j].length = k) := fun j h => HT.out j h (by rw [← HL.out]; exact h)
      clear HT
      obtain ⟨wa, rfl⟩ : ∃ wa : World, wa = wr := ⟨_, rfl⟩
      have HB := Lib.hid (Below.refl wa.heap.size wa)
      go_wp2_with fail
      go_loopw [28] (fun v wr => ∃ i : Nat, i ≤ k ∧ v = .int .i64 i ∧ Hid (∀ i', i' < i → RowR M k i' ∧ ∀ x ∈ M.getD i' [], okZ x.1 x.2) ∧ Hid (Below wa.heap.size wa wr)) (fun v _ => k - (intOf v).toNat)
      case atStart => exact ⟨0, by omega, rfl, fun i' h => absurd h (by omega), HB.out⟩
      case round =>
        clear HB
        obtain ⟨i, hi, rfl, HT, HB⟩ := hrel
        by_cases hli : i < k
        · have hk1 : i < M.length := by rw [HL.out]; exact hli
          have G1 := HR.out.below HB.out
          obtain ⟨b1, o1, rfl, hbb1⟩ := G1.form (by omega)
          obtain ⟨d1, e1, p1, q1⟩ := G1.row i hk1
          have hml := HT3.out i hk1
          rw [hml] at p1 q1
          obtain ⟨b2, o2, rfl, hbb2, hcc2⟩ := q1.form (by omega)
          have Q1 := Lib.hid q1
          have HRW : Hid (M.getD i [] = M[i]) := by show _ = _; rw [List.getD_eq_getElem?_getD, List.getElem?_eq_getElem hk1, Option.getD_some]
          obtain ⟨wo, rfl⟩ : ∃ wo : World, wo = wr := ⟨_, rfl⟩
          have HS0 : Hid ((wo.alloc (.cells #[.int .i64 0, .int .i64 1] 32)).rowIs wo.heap.size 32 2 (ratAt (0, 1))) := ratAt_new _ _ _ _
          have HML := Lib.hid hml
          clear hcc2 q1 hml G1
          go_wp2_with fail
          go_loopw [36] (fun v wr => ∃ j : Nat, j ≤ k ∧ v = .int .i64 j ∧ wo.heap.size < wr.heap.size ∧ Hid (∀ j', j' < j → EntR M i j' ∧ okZ (atM M i j').1 (atM M i j').2) ∧ Hid (wr.rowIs wo.heap.size 32 2 (ratAt (sumR (M[i].take j)))) ∧ Hid (Below wo.heap.size wo wr)) (fun v _ => k - (intOf v).toNat)
          case atStart => exact ⟨0, by omega, rfl, by simp, fun j' h => absurd h (by omega), by show World.rowIs _ _ _ _ _; simpa [sumR] using HS0.out, balloc (Below.refl _ _) _⟩
          case round =>
            clear HS0
            obtain ⟨j, hj, rfl, hsz, HU, HS, HC⟩ := hrel
            have HBW : Hid (Below wa.heap.size wa wr) := bstep HB.out HC.out
            obtain ⟨z0, z1⟩ := ratAt_cells HS.out
            have zf0 := HS.out.frozen 0
            have zf1 := HS.out.frozen 1
            by_cases hlj : j < k
            · have hj1 : j < M[i].length := by rw [HML.out]; exact hlj
              have hjM : j < M.length := by rw [HL.out]; exact hlj
              have hiJ : i < M[j].length := by rw [HT3.out j hjM]; exact hli
              have F1 := Q1.out.below HC.out
              obtain ⟨s0, s1⟩ := rat_cells F1 j hj1
              have G2 := HR.out.below HBW.out
              obtain ⟨d3, e3, p3, q3⟩ := G2.row j hjM
              rw [HT3.out j hjM] at p3 q3
              obtain ⟨b4, o4, rfl, hbb4, hcc4⟩ := q3.form (by omega)
              obtain ⟨t0, t1⟩ := rat_cells q3 i hiJ
              have hb1' : b1 < wr.heap.size := Nat.lt_of_lt_of_le hbb1 HC.out.size
              have hb2' : b2 < wr.heap.size := Nat.lt_of_lt_of_le hbb2 HC.out.size
              have x1 : ¬ b1 = wr.heap.size := by omega
              have x2 : ¬ b2 = wr.heap.size := by omega
              have x4 : ¬ b4 = wr.heap.size := by omega
              have x5 : ¬ wo.heap.size = wr.heap.size := by omega
              have x6 : ¬ wr.heap.size = wo.heap.size := by omega
              have hA : atM M i j = M[i][j] := atM_eq hk1 hj1
              have hA2 : atM M j i = M[j][i] := atM_eq hjM hiJ
              have hent : EntR M i j ∧ okZ (atM M i j).1 (atM M i j).2 → Hid (∀ j', j' < j + 1 → EntR M i j' ∧ okZ (atM M i j').1 (atM M i j').2) := fun h j' hj' => by
                by_cases e : j' = j
                · subst e; exact h
                · exact HU.out j' (by omega)
              have hbad : ¬ (EntR M i j ∧ okZ (atM M i j).1 (atM M i j).2) → Hid (B = false) := fun h => bfalse HBB.out (fun h9 => h ⟨(h9.row i hk1).1 j hlj, by rw [hA]; exact h9.ok i hk1 _ (List.getElem_mem _)⟩)
              unfold EntR at hent hbad
              rw [hA, hA2] at hent hbad
              obtain ⟨bo, hbo⟩ := bool_of (okZ M[i][j].1 M[i][j].2)
              have KO := Lib.hid (fun w => specRatioOk M[i][j].1 M[i][j].2 w bo hbo)
              have HSN : Hid (sumR (M[i].take (j + 1)) = addR (sumR (M[i].take j)) M[i][j]) := sumR_snoc hj1
              have KS := Lib.hid (fun w => specSum (sumR (M[i].take j)).1 (sumR (M[i].take j)).2 M[i][j].1 M[i][j].2 w (decide (calcZ (sumR (M[i].take j)).1 (sumR (M[i].take j)).2 M[i][j].1 M[i][j].2)) (by simp))
              generalize M[i][j] = x at s0 s1 hent hbad HSN KS hA KO hbo
              generalize M[j][i] = y at t0 t1 hent hbad hA2
              generalize hgs : sumR (M[i].take j) = s at z0 z1 HSN KS HS
              clear hA hA2 hcc4 F1 G2 q3 hj1 hjM hiJ hgs
              obtain ⟨x0', x1'⟩ := x
              obtain ⟨y0', y1'⟩ := y
              obtain ⟨s0', s1'⟩ := s
              simp only at *
              obtain ⟨S2, hS2⟩ : ∃ S2 : Rz, sel (decide (calcZ s0' s1' x0' x1')) (Gn.rat (s0' * x1' + x0' * s1') (s1' * x1')) = S2 := ⟨_, rfl⟩
              have HSN2 : Hid (sumR (M[i].take (j + 1)) = S2) := by show _ = _; rw [HSN.out, ← hS2]; rfl
              rw [hS2] at KS
              clear HSN hS2
              cases bo
              · have hv := hbad (fun h => by have := hbo.2 h.2; cases this)
                clear hent hbad hbo
                go_wp2_with fail
                have hrd : ∀ w', Below (wr.heap.size + 1) (wr.alloc (.cells #[.int .i64 x0', .int .i64 x1'] 32)) w' → w'.cell? ⟨wr.heap.size, 0, none⟩ = some (.int .i64 x0') ∧ w'.cell? ⟨wr.heap.size, 1, none⟩ = some (.int .i64 x1') ∧ w'.cell? ⟨b1, o1 + j, none⟩ = some (.slice (some ⟨b4, o4, none⟩) k e3) ∧ w'.cell? ⟨b4, o4 + i * 2, none⟩ = some (.int .i64 y0') ∧ w'.cell? ⟨b4, o4 + i * 2 + 1, none⟩ = some (.int .i64 y1') := fun w' h => by
                  obtain ⟨e0, e1⟩ := ratAt_cells (ratAt_new wr x0' x1' 32)
                  have h2 : Below wr.heap.size wr w' := (balloc (Below.refl _ _) _).trans (h.mono (by omega))
                  exact ⟨(h.cell (p := ⟨wr.heap.size, 0, none⟩) (by show wr.heap.size < _; omega)).trans e0, (h.cell (p := ⟨wr.heap.size, 1, none⟩) (by show wr.heap.size < _; omega)).trans e1, (h2.cell (p := ⟨b1, _, none⟩) hb1').trans p3, (h2.cell (p := ⟨b4, _, none⟩) hbb4).trans t0, (h2.cell (p := ⟨b4, _, none⟩) hbb4).trans t1⟩
                refine wp_region_quiet (C := fun w' => Below (wr.heap.size + 1) (wr.alloc (.cells #[.int .i64 x0', .int .i64 x1'] 32)) w') (by kernel_rfl) (by kernel_rfl) (Below.refl _ _).drew ?_
                refine wpQuiet_step (fun K hK => ?_)
                go_simp
                refine ⟨.agg #[.int .i64 x0', .int .i64 x1'], fun w' hw' => ?_, hK _ ?_⟩
                · obtain ⟨c0, c1, c2, c3, c4⟩ := hrd w' hw'
                  go_simp
                clear hK K
                refine wpQuiet_step (fun K hK => ?_)
                go_simp
                refine ⟨.bool false, fun w' hw' => (KO.out w').mono (fun e w'' h => ⟨h.1, hw'.trans (h.2.mono (by have := hw'.size; simpa using this))⟩), hK _ ?_⟩
                clear hK K
                refine wpQuiet_step (fun K hK => ?_)
                go_simp
                apply Exists.intro
                constructor
                · intro w' hw'; exact rfl
                refine hK _ ?_
                clear hK K
                refine wpQuiet_step (fun K hK => ?_)
                go_simp
                apply Exists.intro
                constructor
                · intro w' hw'; exact rfl
                refine hK _ ?_
                clear hK K
                go_big_quiet_skip
                go_big_quiet_skip
                go_big_quiet_skip
                go_big_quiet_skip
                go_big_quiet_skip
                go_big_quiet_skip
                go_big_quiet_skip
                go_big_quiet_skip
                go_big_quiet_skip
                refine wpQuiet_step (fun K hK => ?_)
                go_simp
                apply Exists.intro
                constructor
                · intro w' hw'; exact rfl
                refine hK _ ?_
                clear hK K
                refine wpQuiet_step (fun K hK => ?_)
                go_simp
                apply Exists.intro
                constructor
                · intro w' hw'; exact rfl
                refine hK _ ?_
                clear hK K
                go_big_quiet_skip
                go_big_quiet_skip
                go_big_quiet_skip
                go_big_quiet_skip
                go_big_quiet_skip
                go_big_quiet_skip
                go_big_quiet_skip
                go_big_quiet_skip
                refine wpQuiet_step (fun K hK => ?_)
                go_simp
                apply Exists.intro
                constructor
                · intro w' hw'; exact rfl
                refine hK _ ?_
                clear hK K
                refine wpQuiet_nil ?_
                intro wQ hQ
                have hQ2 : Below wr.heap.size wr wQ := (balloc (Below.refl _ _) _).trans (hQ.mono (by omega))
                go_wp2_with fail
                go_ret
                exact ⟨by rw [hv.out]; rfl, bstep HBW.out hQ2⟩
              have hok := hbo.1 rfl
              clear hbo
              by_cases hxy : x0' = y0' ∧ x1' = y1'
              rotate_left
              · have hv := hbad (fun h => hxy (by have := h.1.1; simpa using this))
                have hq := bne_pair (x := (x0', x1')) (y := (y0', y1')) (fun h => hxy (by simpa using h))
                simp only at hq
                clear hent hbad hxy hok
                rcases hq with hq | ⟨rfl, hq⟩
                · go_wp2_with fail
                  have hrd : ∀ w', Below (wr.heap.size + 1) (wr.alloc (.cells #[.int .i64 x0', .int .i64 x1'] 32)) w' → w'.cell? ⟨wr.heap.size, 0, none⟩ = some (.int .i64 x0') ∧ w'.cell? ⟨wr.heap.size, 1, none⟩ = some (.int .i64 x1') ∧ w'.cell? ⟨b1, o1 + j, none⟩ = some (.slice (some ⟨b4, o4, none⟩) k e3) ∧ w'.cell? ⟨b4, o4 + i * 2, none⟩ = some (.int .i64 y0') ∧ w'.cell? ⟨b4, o4 + i * 2 + 1, none⟩ = some (.int .i64 y1') := fun w' h => by
                    obtain ⟨e0, e1⟩ := ratAt_cells (ratAt_new wr x0' x1' 32)
                    have h2 : Below wr.heap.size wr w' := (balloc (Below.refl _ _) _).trans (h.mono (by omega))
                    exact ⟨(h.cell (p := ⟨wr.heap.size, 0, none⟩) (by show wr.heap.size < _; omega)).trans e0, (h.cell (p := ⟨wr.heap.size, 1, none⟩) (by show wr.heap.size < _; omega)).trans e1, (h2.cell (p := ⟨b1, _, none⟩) hb1').trans p3, (h2.cell (p := ⟨b4, _, none⟩) hbb4).trans t0, (h2.cell (p := ⟨b4, _, none⟩) hbb4).trans t1⟩
                  refine wp_region_quiet (C := fun w' => Below (wr.heap.size + 1) (wr.alloc (.cells #[.int .i64 x0', .int .i64 x1'] 32)) w') (by kernel_rfl) (by kernel_rfl) (Below.refl _ _).drew ?_
                  refine wpQuiet_step (fun K hK => ?_)
                  go_simp
                  refine ⟨.agg #[.int .i64 x0', .int .i64 x1'], fun w' hw' => ?_, hK _ ?_⟩
                  · obtain ⟨c0, c1, c2, c3, c4⟩ := hrd w' hw'
                    go_simp
                  clear hK K
                  refine wpQuiet_step (fun K hK => ?_)
                  go_simp
                  refine ⟨.bool true, fun w' hw' => (KO.out w').mono (fun e w'' h => ⟨h.1, hw'.trans (h.2.mono (by have := hw'.size; simpa using this))⟩), hK _ ?_⟩
                  clear hK K
                  refine wpQuiet_step (fun K hK => ?_)
                  go_simp
                  apply Exists.intro
                  constructor
                  · intro w' hw'; exact rfl
                  refine hK _ ?_
                  clear hK K
                  refine wpQuiet_step (fun K hK => ?_)
                  go_simp
                  apply Exists.intro
                  constructor
                  · intro w' hw'; exact rfl
                  refine hK _ ?_
                  clear hK K
                  refine wpQuiet_step (fun K hK => ?_)
                  go_simp
                  refine ⟨.agg #[.int .i64 x0', .int .i64 x1'], fun w' hw' => ?_, hK _ ?_⟩
                  · obtain ⟨c0, c1, c2, c3, c4⟩ := hrd w' hw'
                    go_simp
                  clear hK K
                  refine wpQuiet_step (fun K hK => ?_)
                  go_simp
                  apply Exists.intro
                  constructor
                  · intro w' hw'; exact rfl
                  refine hK _ ?_
                  clear hK K
                  refine wpQuiet_step (fun K hK => ?_)
                  go_simp
                  apply Exists.intro
                  constructor
                  · intro w' hw'; exact rfl
                  refine hK _ ?_
                  clear hK K
                  refine wpQuiet_step (fun K hK => ?_)
                  go_simp
                  apply Exists.intro
                  constructor
                  · intro w' hw'; exact rfl
                  refine hK _ ?_
                  clear hK K
                  refine wpQuiet_step (fun K hK => ?_)
                  go_simp
                  refine ⟨.slice (some ⟨b4, o4, none⟩) k e3, fun w' hw' => ?_, hK _ ?_⟩
                  · obtain ⟨c0, c1, c2, c3, c4⟩ := hrd w' hw'
                    go_simp
                  clear hK K
                  refine wpQuiet_step (fun K hK => ?_)
                  go_simp
                  apply Exists.intro
                  constructor
                  · intro w' hw'; exact rfl
                  refine hK _ ?_
                  clear hK K
                  refine wpQuiet_step (fun K hK => ?_)
                  go_simp
                  apply Exists.intro
                  constructor
                  · intro w' hw'; exact rfl
                  refine hK _ ?_
                  clear hK K
                  refine wpQuiet_step (fun K hK => ?_)
                  go_simp
                  refine ⟨.agg #[.int .i64 y0', .int .i64 y1'], fun w' hw' => ?_, hK _ ?_⟩
                  · obtain ⟨c0, c1, c2, c3, c4⟩ := hrd w' hw'
                    go_simp
                  clear hK K
                  refine wpQuiet_step (fun K hK => ?_)
                  go_simp
                  apply Exists.intro
                  constructor
                  · intro w' hw'; exact rfl
                  refine hK _ ?_
                  clear hK K
                  refine wpQuiet_step (fun K hK => ?_)
                  go_simp
                  apply Exists.intro
                  constructor
                  · intro w' hw'; exact rfl
                  refine hK _ ?_
                  clear hK K
                  refine wpQuiet_step (fun K hK => ?_)
                  go_simp
                  apply Exists.intro
                  constructor
                  · intro w' hw'; exact rfl
                  refine hK _ ?_
                  clear hK K
                  go_big_quiet_skip
                  go_big_quiet_skip
                  go_big_quiet_skip
                  go_big_quiet_skip
                  go_big_quiet_skip
                  go_big_quiet_skip
                  go_big_quiet_skip
                  go_big_quiet_skip
                  refine wpQuiet_step (fun K hK => ?_)
                  go_simp
                  apply Exists.intro
                  constructor
                  · intro w' hw'; exact rfl
                  refine hK _ ?_
                  clear hK K
                  refine wpQuiet_nil ?_
                  intro wQ hQ
                  have hQ2 : Below wr.heap.size wr wQ := (balloc (Below.refl _ _) _).trans (hQ.mono (by omega))
                  go_wp2_with fail
                  go_ret
                  exact ⟨by rw [hv.out]; rfl, bstep HBW.out hQ2⟩
                · go_wp2_with fail
                  have hrd : ∀ w', Below (wr.heap.size + 1) (wr.alloc (.cells #[.int .i64 x0', .int .i64 x1'] 32)) w' → w'.cell? ⟨wr.heap.size, 0, none⟩ = some (.int .i64 x0') ∧ w'.cell? ⟨wr.heap.size, 1, none⟩ = some (.int .i64 x1') ∧ w'.cell? ⟨b1, o1 + j, none⟩ = some (.slice (some ⟨b4, o4, none⟩) k e3) ∧ w'.cell? ⟨b4, o4 + i * 2, none⟩ = some (.int .i64 x0') ∧ w'.cell? ⟨b4, o4 + i * 2 + 1, none⟩ = some (.int .i64 y1') := fun w' h => by
                    obtain ⟨e0, e1⟩ := ratAt_cells (ratAt_new wr x0' x1' 32)
                    have h2 : Below wr.heap.size wr w' := (balloc (Below.refl _ _) _).trans (h.mono (by omega))
                    exact ⟨(h.cell (p := ⟨wr.heap.size, 0, none⟩) (by show wr.heap.size < _; omega)).trans e0, (h.cell (p := ⟨wr.heap.size, 1, none⟩) (by show wr.heap.size < _; omega)).trans e1, (h2.cell (p := ⟨b1, _, none⟩) hb1').trans p3, (h2.cell (p := ⟨b4, _, none⟩) hbb4).trans t0, (h2.cell (p := ⟨b4, _, none⟩) hbb4).trans t1⟩
                  refine wp_region_quiet (C := fun w' => Below (wr.heap.size + 1) (wr.alloc (.cells #[.int .i64 x0', .int .i64 x1'] 32)) w') (by kernel_rfl) (by kernel_rfl) (Below.refl _ _).drew ?_
                  refine wpQuiet_step (fun K hK => ?_)
                  go_simp
                  refine ⟨.agg #[.int .i64 x0', .int .i64 x1'], fun w' hw' => ?_, hK _ ?_⟩
                  · obtain ⟨c0, c1, c2, c3, c4⟩ := hrd w' hw'
                    go_simp
                  clear hK K
                  refine wpQuiet_step (fun K hK => ?_)
                  go_simp
                  refine ⟨.bool true, fun w' hw' => (KO.out w').mono (fun e w'' h => ⟨h.1, hw'.trans (h.2.mono (by have := hw'.size; simpa using this))⟩), hK _ ?_⟩
                  clear hK K
                  refine wpQuiet_step (fun K hK => ?_)
                  go_simp
                  apply Exists.intro
                  constructor
                  · intro w' hw'; exact rfl
                  refine hK _ ?_
                  clear hK K
                  refine wpQuiet_step (fun K hK => ?_)
                  go_simp
                  apply Exists.intro
                  constructor
                  · intro w' hw'; exact rfl
                  refine hK _ ?_
                  clear hK K
                  refine wpQuiet_step (fun K hK => ?_)
                  go_simp
                  refine ⟨.agg #[.int .i64 x0', .int .i64 x1'], fun w' hw' => ?_, hK _ ?_⟩
                  · obtain ⟨c0, c1, c2, c3, c4⟩ := hrd w' hw'
                    go_simp
                  clear hK K
                  refine wpQuiet_step (fun K hK => ?_)
                  go_simp
                  apply Exists.intro
                  constructor
                  · intro w' hw'; exact rfl
                  refine hK _ ?_
                  clear hK K
                  refine wpQuiet_step (fun K hK => ?_)
                  go_simp
                  apply Exists.intro
                  constructor
                  · intro w' hw'; exact rfl
                  refine hK _ ?_
                  clear hK K
                  refine wpQuiet_step (fun K hK => ?_)
                  go_simp
                  apply Exists.intro
                  constructor
                  · intro w' hw'; exact rfl
                  refine hK _ ?_
                  clear hK K
                  refine wpQuiet_step (fun K hK => ?_)
                  go_simp
                  refine ⟨.slice (some ⟨b4, o4, none⟩) k e3, fun w' hw' => ?_, hK _ ?_⟩
                  · obtain ⟨c0, c1, c2, c3, c4⟩ := hrd w' hw'
                    go_simp
                  clear hK K
                  refine wpQuiet_step (fun K hK => ?_)
                  go_simp
                  apply Exists.intro
                  constructor
                  · intro w' hw'; exact rfl
                  refine hK _ ?_
                  clear hK K
                  refine wpQuiet_step (fun K hK => ?_)
                  go_simp
                  apply Exists.intro
                  constructor
                  · intro w' hw'; exact rfl
                  refine hK _ ?_
                  clear hK K
                  refine wpQuiet_step (fun K hK => ?_)
                  go_simp
                  refine ⟨.agg #[.int .i64 x0', .int .i64 y1'], fun w' hw' => ?_, hK _ ?_⟩
                  · obtain ⟨c0, c1, c2, c3, c4⟩ := hrd w' hw'
                    go_simp
                  clear hK K
                  refine wpQuiet_step (fun K hK => ?_)
                  go_simp
                  apply Exists.intro
                  constructor
                  · intro w' hw'; exact rfl
                  refine hK _ ?_
                  clear hK K
                  refine wpQuiet_step (fun K hK => ?_)
                  go_simp
                  apply Exists.intro
                  constructor
                  · intro w' hw'; exact rfl
                  refine hK _ ?_
                  clear hK K
                  refine wpQuiet_step (fun K hK => ?_)
                  go_simp
                  apply Exists.intro
                  constructor
                  · intro w' hw'; exact rfl
                  refine hK _ ?_
                  clear hK K
                  go_big_quiet_skip
                  go_big_quiet_skip
                  go_big_quiet_skip
                  go_big_quiet_skip
                  go_big_quiet_skip
                  go_big_quiet_skip
                  go_big_quiet_skip
                  go_big_quiet_skip
                  refine wpQuiet_step (fun K hK => ?_)
                  go_simp
                  apply Exists.intro
                  constructor
                  · intro w' hw'; exact rfl
                  refine hK _ ?_
                  clear hK K
                  refine wpQuiet_nil ?_
                  intro wQ hQ
                  have hQ2 : Below wr.heap.size wr wQ := (balloc (Below.refl _ _) _).trans (hQ.mono (by omega))
                  go_wp2_with fail
                  go_ret
                  exact ⟨by rw [hv.out]; rfl, bstep HBW.out hQ2⟩
              · obtain ⟨rfl, rfl⟩ := hxy
                by_cases hij : i = j
                · have HU2 := hent ⟨⟨rfl, .inl hij⟩, hok⟩
                  have hq1 : ((i : Int) != (j : Int)) = false := by simp; omega
                  have hq2 : (i != j) = false := by simp; omega
                  clear hent hbad hij hok
                  go_wp2_with fail
                  have hrd : ∀ w', Below (wr.heap.size + 1) (wr.alloc (.cells #[.int .i64 x0', .int .i64 x1'] 32)) w' → w'.cell? ⟨wr.heap.size, 0, none⟩ = some (.int .i64 x0') ∧ w'.cell? ⟨wr.heap.size, 1, none⟩ = some (.int .i64 x1') ∧ w'.cell? ⟨b1, o1 + j, none⟩ = some (.slice (some ⟨b4, o4, none⟩) k e3) ∧ w'.cell? ⟨b4, o4 + i * 2, none⟩ = some (.int .i64 x0') ∧ w'.cell? ⟨b4, o4 + i * 2 + 1, none⟩ = some (.int .i64 x1') := fun w' h => by
                    obtain ⟨e0, e1⟩ := ratAt_cells (ratAt_new wr x0' x1' 32)
                    have h2 : Below wr.heap.size wr w' := (balloc (Below.refl _ _) _).trans (h.mono (by omega))
                    exact ⟨(h.cell (p := ⟨wr.heap.size, 0, none⟩) (by show wr.heap.size < _; omega)).trans e0, (h.cell (p := ⟨wr.heap.size, 1, none⟩) (by show wr.heap.size < _; omega)).trans e1, (h2.cell (p := ⟨b1, _, none⟩) hb1').trans p3, (h2.cell (p := ⟨b4, _, none⟩) hbb4).trans t0, (h2.cell (p := ⟨b4, _, none⟩) hbb4).trans t1⟩
                  refine wp_region_quiet (C := fun w' => Below (wr.heap.size + 1) (wr.alloc (.cells #[.int .i64 x0', .int .i64 x1'] 32)) w') (by kernel_rfl) (by kernel_rfl) (Below.refl _ _).drew ?_
                  refine wpQuiet_step (fun K hK => ?_)
                  go_simp
                  refine ⟨.agg #[.int .i64 x0', .int .i64 x1'], fun w' hw' => ?_, hK _ ?_⟩
                  · obtain ⟨c0, c1, c2, c3, c4⟩ := hrd w' hw'
                    go_simp
                  clear hK K
                  refine wpQuiet_step (fun K hK => ?_)
                  go_simp
                  refine ⟨.bool true, fun w' hw' => (KO.out w').mono (fun e w'' h => ⟨h.1, hw'.trans (h.2.mono (by have := hw'.size; simpa using this))⟩), hK _ ?_⟩
                  clear hK K
                  repeat (refine wpQuiet_step (fun K hK => ?_); go_simp; first | (refine hK _ ?_; clear hK K) | (refine ⟨_, fun w' hw' => rfl, hK _ ?_⟩; clear hK K))
                  refine wpQuiet_step (fun K hK => ?_)
                  go_simp
                  refine ⟨.agg #[.int .i64 x0', .int .i64 x1'], fun w' hw' => ?_, hK _ ?_⟩
                  · obtain ⟨c0, c1, c2, c3, c4⟩ := hrd w' hw'
                    go_simp
                  clear hK K
                  repeat (refine wpQuiet_step (fun K hK => ?_); go_simp; first | (refine hK _ ?_; clear hK K) | (refine ⟨_, fun w' hw' => rfl, hK _ ?_⟩; clear hK K))
                  refine wpQuiet_step (fun K hK => ?_)
                  go_simp
                  refine ⟨.slice (some ⟨b4, o4, none⟩) k e3, fun w' hw' => ?_, hK _ ?_⟩
                  · obtain ⟨c0, c1, c2, c3, c4⟩ := hrd w' hw'
                    go_simp
                  clear hK K
                  repeat (refine wpQuiet_step (fun K hK => ?_); go_simp; first | (refine hK _ ?_; clear hK K) | (refine ⟨_, fun w' hw' => rfl, hK _ ?_⟩; clear hK K))
                  refine wpQuiet_step (fun K hK => ?_)
                  go_simp
                  refine ⟨.agg #[.int .i64 x0', .int .i64 x1'], fun w' hw' => ?_, hK _ ?_⟩
                  · obtain ⟨c0, c1, c2, c3, c4⟩ := hrd w' hw'
                    go_simp
                  clear hK K
                  repeat (refine wpQuiet_step (fun K hK => ?_); go_simp; first | (refine hK _ ?_; clear hK K) | (refine ⟨_, fun w' hw' => rfl, hK _ ?_⟩; clear hK K))
                  refine wpQuiet_nil ?_
                  intro wQ hQ
                  have hQ2 : Below wr.heap.size wr wQ := (balloc (Below.refl _ _) _).trans (hQ.mono (by omega))
                  have HSq := Lib.hid (HS.out.of_block (hQ2.block _ hsz))
                  have HCq : Hid (Below wo.heap.size wo wQ) := HC.out.trans (hQ2.mono (by omega))
                  have hlq : wo.heap.size < wQ.heap.size := HSq.out.lt
                  obtain ⟨c0, c1, _, _, _⟩ := hrd wQ hQ
                  obtain ⟨v0, v1⟩ := ratAt_cells HSq.out
                  go_wp2_with fail
                  refine (KS.out _).mono ?_
                  rintro e w7 ⟨rfl, hb7⟩
                  have hb7' : Below wQ.heap.size wQ w7 := by first | exact hb7 | exact bdrew hb7 | exact bdrewN hb7
                  have HS7 := HSq.out.of_block (hb7'.block _ hlq)
                  have yf0 := HS7.frozen 0
                  have yf1 := HS7.frozen 1
                  obtain ⟨u0, u1⟩ := ratAt_cells HS7
                  have hl7 := HS7.lt
                  have HS8 := Lib.hid (ratAt_set HS7 S2)
                  have HC8 : Hid (Below wo.heap.size wo ((w7.setCell ⟨wo.heap.size, 0, none⟩ (.int .i64 S2.1)).setCell ⟨wo.heap.size, 1, none⟩ (.int .i64 S2.2))) := bset (bset (HCq.out.trans (hb7'.mono (by omega))) (Nat.le_refl _) _) (Nat.le_refl _) _
                  clear HS7 hb7 hb7' hQ hQ2
                  unfold pairV
                  go_wp2_with fail
                  go_roundw
                  case rel => exact ⟨j + 1, by omega, by go_num, by simpa using hl7, HU2.out, by rw [HSN2.out]; exact HS8.out, HC8.out⟩
                  case measure => simp [intOf]; omega
                · have hq1 : ((i : Int) != (j : Int)) = true := by simp; omega
                  have hq2 : (i != j) = true := by simp; omega
                  by_cases hx0 : 0 < x0'
                  · have hv := hbad (fun h => by have h2 := h.1.2; omega)
                    clear hent hbad hij hok
                    go_wp2_with fail
                    have hrd : ∀ w', Below (wr.heap.size + 1) (wr.alloc (.cells #[.int .i64 x0', .int .i64 x1'] 32)) w' → w'.cell? ⟨wr.heap.size, 0, none⟩ = some (.int .i64 x0') ∧ w'.cell? ⟨wr.heap.size, 1, none⟩ = some (.int .i64 x1') ∧ w'.cell? ⟨b1, o1 + j, none⟩ = some (.slice (some ⟨b4, o4, none⟩) k e3) ∧ w'.cell? ⟨b4, o4 + i * 2, none⟩ = some (.int .i64 x0') ∧ w'.cell? ⟨b4, o4 + i * 2 + 1, none⟩ = some (.int .i64 x1') := fun w' h => by
                      obtain ⟨e0, e1⟩ := ratAt_cells (ratAt_new wr x0' x1' 32)
                      have h2 : Below wr.heap.size wr w' := (balloc (Below.refl _ _) _).trans (h.mono (by omega))
                      exact ⟨(h.cell (p := ⟨wr.heap.size, 0, none⟩) (by show wr.heap.size < _; omega)).trans e0, (h.cell (p := ⟨wr.heap.size, 1, none⟩) (by show wr.heap.size < _; omega)).trans e1, (h2.cell (p := ⟨b1, _, none⟩) hb1').trans p3, (h2.cell (p := ⟨b4, _, none⟩) hbb4).trans t0, (h2.cell (p := ⟨b4, _, none⟩) hbb4).trans t1⟩
                    refine wp_region_quiet (C := fun w' => Below (wr.heap.size + 1) (wr.alloc (.cells #[.int .i64 x0', .int .i64 x1'] 32)) w') (by kernel_rfl) (by kernel_rfl) (Below.refl _ _).drew ?_
                    refine wpQuiet_step (fun K hK => ?_)
                    go_simp
                    refine ⟨.agg #[.int .i64 x0', .int .i64 x1'], fun w' hw' => ?_, hK _ ?_⟩
                    · obtain ⟨c0, c1, c2, c3, c4⟩ := hrd w' hw'
                      go_simp
                    clear hK K
                    refine wpQuiet_step (fun K hK => ?_)
                    go_simp
                    refine ⟨.bool true, fun w' hw' => (KO.out w').mono (fun e w'' h => ⟨h.1, hw'.trans (h.2.mono (by have := hw'.size; simpa using this))⟩), hK _ ?_⟩
                    clear hK K
                    repeat (refine wpQuiet_step (fun K hK => ?_); go_simp; first | (refine hK _ ?_; clear hK K) | (refine ⟨_, fun w' hw' => rfl, hK _ ?_⟩; clear hK K))
                    refine wpQuiet_step (fun K hK => ?_)
                    go_simp
                    refine ⟨.agg #[.int .i64 x0', .int .i64 x1'], fun w' hw' => ?_, hK _ ?_⟩
                    · obtain ⟨c0, c1, c2, c3, c4⟩ := hrd w' hw'
                      go_simp
                    clear hK K
                    repeat (refine wpQuiet_step (fun K hK => ?_); go_simp; first | (refine hK _ ?_; clear hK K) | (refine ⟨_, fun w' hw' => rfl, hK _ ?_⟩; clear hK K))
                    refine wpQuiet_step (fun K hK => ?_)
                    go_simp
                    refine ⟨.slice (some ⟨b4, o4, none⟩) k e3, fun w' hw' => ?_, hK _ ?_⟩
                    · obtain ⟨c0, c1, c2, c3, c4⟩ := hrd w' hw'
                      go_simp
                    clear hK K
                    repeat (refine wpQuiet_step (fun K hK => ?_); go_simp; first | (refine hK _ ?_; clear hK K) | (refine ⟨_, fun w' hw' => rfl, hK _ ?_⟩; clear hK K))
                    refine wpQuiet_step (fun K hK => ?_)
                    go_simp
                    refine ⟨.agg #[.int .i64 x0', .int .i64 x1'], fun w' hw' => ?_, hK _ ?_⟩
                    · obtain ⟨c0, c1, c2, c3, c4⟩ := hrd w' hw'
                      go_simp
                    clear hK K
                    repeat (refine wpQuiet_step (fun K hK => ?_); go_simp; first | (refine hK _ ?_; clear hK K) | (refine ⟨_, fun w' hw' => rfl, hK _ ?_⟩; clear hK K))
                    refine wpQuiet_step (fun K hK => ?_)
                    go_simp
                    refine ⟨.int .i64 x0', fun w' hw' => ?_, hK _ ?_⟩
                    · obtain ⟨c0, c1, c2, c3, c4⟩ := hrd w' hw'
                      go_simp
                    clear hK K
                    repeat (refine wpQuiet_step (fun K hK => ?_); go_simp; first | (refine hK _ ?_; clear hK K) | (refine ⟨_, fun w' hw' => rfl, hK _ ?_⟩; clear hK K))
                    refine wpQuiet_nil ?_
                    intro wQ hQ
                    have hQ2 : Below wr.heap.size wr wQ := (balloc (Below.refl _ _) _).trans (hQ.mono (by omega))
                    go_wp2_with fail
                    go_ret
                    exact ⟨by rw [hv.out]; rfl, bstep HBW.out hQ2⟩
                  · have HU2 := hent ⟨⟨rfl, .inr (by omega)⟩, hok⟩
                    clear hent hbad hij hok
                    go_wp2_with fail
                    have hrd : ∀ w', Below (wr.heap.size + 1) (wr.alloc (.cells #[.int .i64 x0', .int .i64 x1'] 32)) w' → w'.cell? ⟨wr.heap.size, 0, none⟩ = some (.int .i64 x0') ∧ w'.cell? ⟨wr.heap.size, 1, none⟩ = some (.int .i64 x1') ∧ w'.cell? ⟨b1, o1 + j, none⟩ = some (.slice (some ⟨b4, o4, none⟩) k e3) ∧ w'.cell? ⟨b4, o4 + i * 2, none⟩ = some (.int .i64 x0') ∧ w'.cell? ⟨b4, o4 + i * 2 + 1, none⟩ = some (.int .i64 x1') := fun w' h => by
                      obtain ⟨e0, e1⟩ := ratAt_cells (ratAt_new wr x0' x1' 32)
                      have h2 : Below wr.heap.size wr w' := (balloc (Below.refl _ _) _).trans (h.mono (by omega))
                      exact ⟨(h.cell (p := ⟨wr.heap.size, 0, none⟩) (by show wr.heap.size < _; omega)).trans e0, (h.cell (p := ⟨wr.heap.size, 1, none⟩) (by show wr.heap.size < _; omega)).trans e1, (h2.cell (p := ⟨b1, _, none⟩) hb1').trans p3, (h2.cell (p := ⟨b4, _, none⟩) hbb4).trans t0, (h2.cell (p := ⟨b4, _, none⟩) hbb4).trans t1⟩
                    refine wp_region_quiet (C := fun w' => Below (wr.heap.size + 1) (wr.alloc (.cells #[.int .i64 x0', .int .i64 x1'] 32)) w') (by kernel_rfl) (by kernel_rfl) (Below.refl _ _).drew ?_
                    refine wpQuiet_step (fun K hK => ?_)
                    go_simp
                    refine ⟨.agg #[.int .i64 x0', .int .i64 x1'], fun w' hw' => ?_, hK _ ?_⟩
                    · obtain ⟨c0, c1, c2, c3, c4⟩ := hrd w' hw'
                      go_simp
                    clear hK K
                    refine wpQuiet_step (fun K hK => ?_)
                    go_simp
                    refine ⟨.bool true, fun w' hw' => (KO.out w').mono (fun e w'' h => ⟨h.1, hw'.trans (h.2.mono (by have := hw'.size; simpa using this))⟩), hK _ ?_⟩
                    clear hK K
                    repeat (refine wpQuiet_step (fun K hK => ?_); go_simp; first | (refine hK _ ?_; clear hK K) | (refine ⟨_, fun w' hw' => rfl, hK _ ?_⟩; clear hK K))
                    refine wpQuiet_step (fun K hK => ?_)
                    go_simp
                    refine ⟨.agg #[.int .i64 x0', .int .i64 x1'], fun w' hw' => ?_, hK _ ?_⟩
                    · obtain ⟨c0, c1, c2, c3, c4⟩ := hrd w' hw'
                      go_simp
                    clear hK K
                    repeat (refine wpQuiet_step (fun K hK => ?_); go_simp; first | (refine hK _ ?_; clear hK K) | (refine ⟨_, fun w' hw' => rfl, hK _ ?_⟩; clear hK K))
                    refine wpQuiet_step (fun K hK => ?_)
                    go_simp
                    refine ⟨.slice (some ⟨b4, o4, none⟩) k e3, fun w' hw' => ?_, hK _ ?_⟩
                    · obtain ⟨c0, c1, c2, c3, c4⟩ := hrd w' hw'
                      go_simp
                    clear hK K
                    repeat (refine wpQuiet_step (fun K hK => ?_); go_simp; first | (refine hK _ ?_; clear hK K) | (refine ⟨_, fun w' hw' => rfl, hK _ ?_⟩; clear hK K))
                    refine wpQuiet_step (fun K hK => ?_)
                    go_simp
                    refine ⟨.agg #[.int .i64 x0', .int .i64 x1'], fun w' hw' => ?_, hK _ ?_⟩
                    · obtain ⟨c0, c1, c2, c3, c4⟩ := hrd w' hw'
                      go_simp
                    clear hK K
                    repeat (refine wpQuiet_step (fun K hK => ?_); go_simp; first | (refine hK _ ?_; clear hK K) | (refine ⟨_, fun w' hw' => rfl, hK _ ?_⟩; clear hK K))
                    refine wpQuiet_step (fun K hK => ?_)
                    go_simp
                    refine ⟨.int .i64 x0', fun w' hw' => ?_, hK _ ?_⟩
                    · obtain ⟨c0, c1, c2, c3, c4⟩ := hrd w' hw'
                      go_simp
                    clear hK K
                    repeat (refine wpQuiet_step (fun K hK => ?_); go_simp; first | (refine hK _ ?_; clear hK K) | (refine ⟨_, fun w' hw' => rfl, hK _ ?_⟩; clear hK K))
                    refine wpQuiet_nil ?_
                    intro wQ hQ
                    have hQ2 : Below wr.heap.size wr wQ := (balloc (Below.refl _ _) _).trans (hQ.mono (by omega))
                    have HSq := Lib.hid (HS.out.of_block (hQ2.block _ hsz))
                    have HCq : Hid (Below wo.heap.size wo wQ) := HC.out.trans (hQ2.mono (by omega))
                    have hlq : wo.heap.size < wQ.heap.size := HSq.out.lt
                    obtain ⟨c0, c1, _, _, _⟩ := hrd wQ hQ
                    obtain ⟨v0, v1⟩ := ratAt_cells HSq.out
                    go_wp2_with fail
                    refine (KS.out _).mono ?_
                    rintro e w7 ⟨rfl, hb7⟩
                    have hb7' : Below wQ.heap.size wQ w7 := by first | exact hb7 | exact bdrew hb7 | exact bdrewN hb7
                    have HS7 := HSq.out.of_block (hb7'.block _ hlq)
                    have yf0 := HS7.frozen 0
                    have yf1 := HS7.frozen 1
                    obtain ⟨u0, u1⟩ := ratAt_cells HS7
                    have hl7 := HS7.lt
                    have HS8 := Lib.hid (ratAt_set HS7 S2)
                    have HC8 : Hid (Below wo.heap.size wo ((w7.setCell ⟨wo.heap.size, 0, none⟩ (.int .i64 S2.1)).setCell ⟨wo.heap.size, 1, none⟩ (.int .i64 S2.2))) := bset (bset (HCq.out.trans (hb7'.mono (by omega))) (Nat.le_refl _) _) (Nat.le_refl _) _
                    clear HS7 hb7 hb7' hQ hQ2
                    unfold pairV
                    go_wp2_with fail
                    go_roundw
                    case rel => exact ⟨j + 1, by omega, by go_num, by simpa using hl7, HU2.out, by rw [HSN2.out]; exact HS8.out, HC8.out⟩
                    case measure => simp [intOf]; omega
            · obtain rfl : j = k := by omega
              have hT : M[i].take j = M[i] := List.take_of_length_le (by rw [HML.out]; omega)
              have hgood : sumR M[i] = (0, 1) → Hid (∀ i', i' < i + 1 → RowR M j i' ∧ ∀ x ∈ M.getD i' [], okZ x.1 x.2) := fun h i' hi' => by
                by_cases e : i' = i
                · subst e; exact ⟨⟨fun j' hj' => (HU.out j' hj').1, by rw [HRW.out]; exact h⟩, fun x hx => by
                    rw [HRW.out] at hx
                    obtain ⟨q, hq, rfl⟩ := List.getElem_of_mem hx
                    have := (HU.out q (by rw [← HML.out]; exact hq)).2
                    rw [atM_eq hk1 hq] at this; exact this⟩
                · exact HT.out i' (by omega)
              have hbad : ¬ sumR M[i] = (0, 1) → Hid (B = false) := fun h => bfalse HBB.out (fun h9 => h (by have := (h9.row i hk1).2; rw [HRW.out] at this; exact this))
              rw [hT] at z0 z1
              generalize sumR M[i] = s at z0 z1 hgood hbad
              obtain ⟨s0', s1'⟩ := s
              simp only at z0 z1
              clear hT HS
              by_cases hs : s0' = 0 ∧ s1' = 1
              · obtain ⟨rfl, rfl⟩ := hs
                have HG := hgood rfl
                clear hgood hbad
                go_wp2_with fail
                go_roundw
                case rel => exact ⟨i + 1, by omega, by go_num, HG.out, HBW.out⟩
                case measure => simp [intOf]; omega
              · have hv := hbad (fun h => hs (by simpa using h))
                have hq := bne_pair (x := (s0', s1')) (y := (0, 1)) (fun h => hs (by simpa using h))
                simp only at hq
                clear hgood hbad hs
                rcases hq with hq | ⟨rfl, hq⟩
                all_goals
                  go_wp2_with fail
                  go_ret
                  exact ⟨by rw [hv.out]; rfl, HBW.out⟩
        · obtain rfl : i = k := by omega
          have hv : B = true := HBB.out.2 ⟨by omega, by omega, fun k' h => HT3.out k' h, fun k' h x hx => (HT.out k' (by rw [← HL.out]; exact h)).2 x (by rw [List.getD_eq_getElem?_getD, List.getElem?_eq_getElem h, Option.getD_some]; exact hx), fun k' h => (HT.out k' (by rw [← HL.out]; exact h)).1⟩
          have HV := Lib.hid hv
          clear hv
          go_wp2_with fail
          go_ret
          exact ⟨by rw [HV.out]; rfl, HB.out⟩
end Go.Proofs.Ytdmiihljepkapaa
