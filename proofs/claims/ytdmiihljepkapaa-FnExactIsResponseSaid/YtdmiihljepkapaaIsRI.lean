/- IsResponse of the program. -/
import Derived.Test.YtdmiihljepkapaaIsR
namespace Go.Proofs.Ytdmiihljepkapaa
set_option linter.unusedSimpArgs false
set_option linter.unusedVariables false
open Go.RowKit

set_option maxRecDepth 100000 in
set_option maxHeartbeats 2000000 in
theorem implNotOk (n d : Int) (b : Bool) (h : b = true ↔ okZ n d) (w : World) :
    Calls Try.prog 137 #[ratV n d] w fun e w' => e = .returned (.bool (!b)) ∧ Below w.heap.size w w' := by
  have K := Lib.hid (fun w => implRatioOk n d w b h)
  clear h
  go_enter Try.func137, Try.ntmps137
  go_wp2_with fail
  refine (K.out _).mono ?_
  rintro e w1 ⟨rfl, hb1⟩
  go_wp2_with fail
  go_ret
  exact ⟨rfl, bstep (by (repeat' (first | (with_reducible exact Below.refl _ _) | (with_reducible assumption) | (with_reducible refine balloc ?_ _) | (with_reducible refine Below.drew ?_) | (with_reducible refine below_drewN ?_ _) | (with_reducible refine bset ?_ ?_ _) | (with_reducible refine bstep ?_ (by assumption)) | go_size))) hb1⟩

set_option maxRecDepth 100000 in
set_option maxHeartbeats 4000000 in
theorem indexNotOk (a : Option Addr) (n c : Nat) (l : List Rz) (w : World) (hr : ArgRow w a n c 2 (rats l)) :
    Calls Try.prog 179 #[.slice a n c, .func (.func 137) #[] #[]] w fun e w' => ∃ i : Int, e = .returned (.int .i64 i) ∧ ((i = -1 ∧ ∀ x ∈ l, okZ x.1 x.2) ∨ (0 ≤ i ∧ ∃ x ∈ l, ¬ okZ x.1 x.2)) ∧ Below w.heap.size w w' := by
  have hl := hr.rats_len
  have hn := hr.le
  unfold maxLen at hn
  have HR := Lib.hid hr
  have HL := Lib.hid hl
  clear hr hl
  go_enter Try.func179, Try.ntmps179
  go_wp2_with fail
  go_loopw [8] (fun v wr => ∃ k : Nat, k ≤ n ∧ v = .int .i64 k ∧ Hid (∀ x ∈ l.take k, okZ x.1 x.2) ∧ Hid (Below w.heap.size w wr)) (fun v _ => n - (intOf v).toNat)
  case atStart => exact ⟨0, by omega, rfl, by simp [Hid], Below.refl _ _⟩
  case round =>
    obtain ⟨k, hk, rfl, HT, HB⟩ := hrel
    by_cases hlt : k < n
    · have hli : k < l.length := by rw [HL.out]; exact hlt
      have F1 := HR.out.below HB.out
      obtain ⟨b3, o3, rfl, hbb3, hcc3⟩ := F1.form (by omega)
      obtain ⟨s0, s1⟩ := rat_cells F1 k hli
      obtain ⟨b, hb⟩ := bool_of (okZ l[k].1 l[k].2)
      have HY : okZ l[k].1 l[k].2 → Hid (∀ x ∈ l.take (k + 1), okZ x.1 x.2) := fun h x hx => by
        rw [List.take_succ_eq_append_getElem hli] at hx
        rcases List.mem_append.1 hx with hx | hx
        · exact HT.out x hx
        · simp at hx; subst hx; exact h
      have HN : ¬ okZ l[k].1 l[k].2 → Hid (∃ x ∈ l, ¬ okZ x.1 x.2) := fun h => ⟨l[k], List.getElem_mem _, h⟩
      have KC := Lib.hid (fun w => implNotOk l[k].1 l[k].2 b hb w)
      generalize l[k] = x at s0 s1 HY HN KC hb
      obtain ⟨x0, x1⟩ := x
      simp only at hb KC HY HN
      clear hcc3 F1 hli
      cases b
      · have HN2 := HN (fun h => by have := hb.2 h; cases this)
        clear hb HY HN
        go_wp2_with fail
        refine (KC.out _).mono ?_
        rintro e w1 ⟨rfl, hb1⟩
        go_wp2_with fail
        go_ret
        exact ⟨k, rfl, .inr ⟨by omega, HN2.out⟩, bstep HB.out hb1⟩
      · have HY2 := HY (hb.1 rfl)
        clear hb HY HN
        go_wp2_with fail
        refine (KC.out _).mono ?_
        rintro e w1 ⟨rfl, hb1⟩
        go_wp2_with fail
        go_roundw
        case rel => exact ⟨k + 1, by omega, by go_num, HY2.out, bstep HB.out hb1⟩
        case measure => simp [intOf]; omega
    · obtain rfl : k = n := by omega
      have hT : l.take k = l := List.take_of_length_le (by rw [HL.out]; omega)
      have HT2 : Hid (∀ x ∈ l, okZ x.1 x.2) := by have := HT.out; rw [hT] at this; exact this
      clear hT HT
      go_wp2_with fail
      go_ret
      exact ⟨-1, rfl, .inl ⟨rfl, HT2.out⟩, HB.out⟩

set_option maxRecDepth 100000 in
set_option maxHeartbeats 4000000 in
theorem containsNotOk (a : Option Addr) (n c : Nat) (l : List Rz) (w : World) (hr : ArgRow w a n c 2 (rats l)) (b : Bool) (hb : b = true ↔ ∀ x ∈ l, okZ x.1 x.2) :
    Calls Try.prog 136 #[.slice a n c, .func (.func 137) #[] #[]] w fun e w' => e = .returned (.bool (!b)) ∧ Below w.heap.size w w' := by
  have K := Lib.hid (indexNotOk a n c l w hr)
  have HB := Lib.hid hb
  clear hr hb
  go_enter Try.func136, Try.ntmps136
  go_wp2_with fail
  refine K.out.mono ?_
  rintro e w1 ⟨i, rfl, hi, hb1⟩
  rcases hi with ⟨rfl, h⟩ | ⟨hi, h⟩
  · have e1 : b = true := HB.out.2 h
    subst e1
    clear h
    go_wp2_with fail
    go_ret
    exact ⟨rfl, hb1⟩
  · have e1 : b = false := bfalse HB.out (fun h9 => by obtain ⟨x, hx, h2⟩ := h; exact h2 (h9 x hx))
    subst e1
    clear h
    go_wp2_with fail
    go_ret
    exact ⟨rfl, hb1⟩

set_option maxRecDepth 100000 in
set_option maxHeartbeats 16000000 in
theorem implIsResponse (a : Option Addr) (n c : Nat) (M : List (List Rz)) (B : Bool) (hB : B = true ↔ RespOk M n) (w : World) (hr : RGrid w a n c M) :
    Calls Try.prog 63 #[.slice a n c] w fun e w' => e = .returned (.bool B) ∧ Below w.heap.size w w' := by
  have hl := hr.len
  have hn := hr.le
  unfold maxLen at hn
  have HR := Lib.hid hr
  have HL := Lib.hid hl
  have HBB := Lib.hid hB
  clear hr hl hB
  by_cases hn1 : n < 1
  · have hv : B = false := bfalse HBB.out (fun h => by have := h.n1; omega)
    subst hv
    go_enter Try.func63, Try.ntmps63
    go_wp2_with fail
    go_ret
    exact ⟨rfl, Below.refl _ _⟩
  by_cases hn5 : 5 < n
  · have hv : B = false := bfalse HBB.out (fun h => by have := h.n5; omega)
    subst hv
    go_enter Try.func63, Try.ntmps63
    go_wp2_with fail
    go_ret
    exact ⟨rfl, Below.refl _ _⟩
  go_enter Try.func63, Try.ntmps63
  go_wp2_with fail
  go_loopw [20] (fun v wr => ∃ k : Nat, k ≤ n ∧ v = .int .i64 k ∧ Hid (∀ j (h : j < M.length), j < k → M[j].length = n ∧ ∀ x ∈ M[j], okZ x.1 x.2) ∧ Hid (Below w.heap.size w wr)) (fun v _ => n - (intOf v).toNat)
  case atStart => exact ⟨0, by omega, rfl, fun j h h0 => absurd h0 (by omega), Below.refl _ _⟩
  case round =>
    obtain ⟨k, hk, rfl, HT, HB⟩ := hrel
    by_cases hlt : k < n
    · have hk1 : k < M.length := by rw [HL.out]; exact hlt
      have G1 := HR.out.below HB.out
      obtain ⟨b1, o1, rfl, hbb1⟩ := G1.form (by omega)
      obtain ⟨d1, e1, p1, q1⟩ := G1.row k hk1
      have hm1 := q1.le
      unfold maxLen at hm1
      by_cases hnm : M[k].length = n
      rotate_left
      · have hv : B = false := bfalse HBB.out (fun h => hnm (h.len k hk1))
        have hq1 : ((M[k].length : Int) != (n : Int)) = true := by simp; omega
        have hq2 : (M[k].length != n) = true := by simp; omega
        generalize M[k].length = m1 at *
        subst hv
        clear hnm q1 G1 hk1
        go_wp2_with fail
        go_ret
        exact ⟨rfl, HB.out⟩
      · obtain ⟨b, hb⟩ := bool_of (∀ x ∈ M[k], okZ x.1 x.2)
        have KC := Lib.hid (fun (w' : World) (hb' : Below wr.heap.size wr w') => containsNotOk d1 M[k].length e1 M[k] w' (ArgRow.below q1 hb') b hb)
        rw [hnm] at p1 KC
        cases b
        · have hv : B = false := bfalse HBB.out (fun h => by have := hb.2 (h.ok k hk1); cases this)
          subst hv
          clear hb q1 G1 hk1 hnm hm1
          go_wp2_with fail
          refine (KC.out _ (by (repeat' (first | (with_reducible exact Below.refl _ _) | (with_reducible assumption) | (with_reducible refine balloc ?_ _) | (with_reducible refine Below.drew ?_) | (with_reducible refine below_drewN ?_ _) | (with_reducible refine bset ?_ ?_ _) | (with_reducible refine bstep ?_ (by assumption)) | go_size)))).mono ?_
          rintro e w2 ⟨rfl, hb2⟩
          go_wp2_with fail
          go_ret
          exact ⟨rfl, bstep HB.out hb2⟩
        · have HT2 : Hid (∀ j (h : j < M.length), j < k + 1 → M[j].length = n ∧ ∀ x ∈ M[j], okZ x.1 x.2) := fun j h hj => by
            by_cases e : j = k
            · subst e; exact ⟨hnm, hb.1 rfl⟩
            · exact HT.out j h (by omega)
          clear hb q1 G1 hk1 hnm hm1
          go_wp2_with fail
          refine (KC.out _ (by (repeat' (first | (with_reducible exact Below.refl _ _) | (with_reducible assumption) | (with_reducible refine balloc ?_ _) | (with_reducible refine Below.drew ?_) | (with_reducible refine below_drewN ?_ _) | (with_reducible refine bset ?_ ?_ _) | (with_reducible refine bstep ?_ (by assumption)) | go_size)))).mono ?_
          rintro e w2 ⟨rfl, hb2⟩
          go_wp2_with fail
          go_roundw
          case rel => exact ⟨k + 1, by omega, by go_num, HT2.out, bstep HB.out hb2⟩
          case measure => simp [intOf]; omega
    · obtain rfl : k = n := by omega
      have HT3 : Hid (∀ j (h : j < M.length), M[j].length = k ∧ ∀ x ∈ M[j], okZ x.1 x.2) := fun j h => HT.out j h (by rw [← HL.out]; exact h)
      clear HT
      obtain ⟨wa, rfl⟩ : ∃ wa : World, wa = wr := ⟨_, rfl⟩
      go_wp2_with fail
      go_loopw [36] (fun v wr => ∃ i : Nat, i ≤ k ∧ v = .int .i64 i ∧ Hid (∀ i', i' < i → RowR M k i') ∧ Hid (Below w.heap.size w wr)) (fun v _ => k - (intOf v).toNat)
      case atStart => exact ⟨0, by omega, rfl, fun i' h => absurd h (by omega), HB.out⟩
      case round =>
        clear HB
        obtain ⟨i, hi, rfl, HT, HB⟩ := hrel
        by_cases hli : i < k
        · have hk1 : i < M.length := by rw [HL.out]; exact hli
          have G1 := HR.out.below HB.out
          obtain ⟨b1, o1, rfl, hbb1⟩ := G1.form (by omega)
          obtain ⟨d1, e1, p1, q1⟩ := G1.row i hk1
          have hml := (HT3.out i hk1).1
          rw [hml] at p1 q1
          obtain ⟨b2, o2, rfl, hbb2, hcc2⟩ := q1.form (by omega)
          have Q1 := Lib.hid q1
          have HRW : Hid (M.getD i [] = M[i]) := by show _ = _; rw [List.getD_eq_getElem?_getD, List.getElem?_eq_getElem hk1, Option.getD_some]
          obtain ⟨wo, rfl⟩ : ∃ wo : World, wo = wr := ⟨_, rfl⟩
          have HS0 : Hid ((wo.alloc (.cells #[.int .i64 0, .int .i64 1] 32)).rowIs wo.heap.size 32 2 (ratAt (0, 1))) := ratAt_new _ _ _ _
          have HML := Lib.hid hml
          clear hcc2 q1 hml G1
          go_wp2_with fail
          go_loopw [44] (fun v wr => ∃ j : Nat, j ≤ k ∧ v = .int .i64 j ∧ wo.heap.size < wr.heap.size ∧ Hid (∀ j', j' < j → EntR M i j') ∧ Hid (wr.rowIs wo.heap.size 32 2 (ratAt (sumR (M[i].take j)))) ∧ Hid (Below wo.heap.size wo wr)) (fun v _ => k - (intOf v).toNat)
          case atStart => exact ⟨0, by omega, rfl, by simp, fun j' h => absurd h (by omega), by show World.rowIs _ _ _ _ _; simpa [sumR] using HS0.out, balloc (Below.refl _ _) _⟩
          case round =>
            clear HS0
            obtain ⟨j, hj, rfl, hsz, HU, HS, HC⟩ := hrel
            have HBW : Hid (Below w.heap.size w wr) := bstep HB.out HC.out
            obtain ⟨z0, z1⟩ := ratAt_cells HS.out
            have zf0 := HS.out.frozen 0
            have zf1 := HS.out.frozen 1
            by_cases hlj : j < k
            · have hj1 : j < M[i].length := by rw [HML.out]; exact hlj
              have hjM : j < M.length := by rw [HL.out]; exact hlj
              have hiJ : i < M[j].length := by rw [(HT3.out j hjM).1]; exact hli
              have F1 := Q1.out.below HC.out
              obtain ⟨s0, s1⟩ := rat_cells F1 j hj1
              have G2 := HR.out.below HBW.out
              obtain ⟨d3, e3, p3, q3⟩ := G2.row j hjM
              rw [(HT3.out j hjM).1] at p3 q3
              obtain ⟨b4, o4, rfl, hbb4, hcc4⟩ := q3.form (by omega)
              obtain ⟨t0, t1⟩ := rat_cells q3 i hiJ
              have hb1' : b1 < wr.heap.size := Nat.lt_of_lt_of_le hbb1 HC.out.size
              have hb2' : b2 < wr.heap.size := Nat.lt_of_lt_of_le hbb2 HC.out.size
              have x1 : ¬ b1 = wr.heap.size := by omega
              have x2 : ¬ b2 = wr.heap.size := by omega
              have x4 : ¬ b4 = wr.heap.size := by omega
              have x5 : ¬ wo.heap.size = wr.heap.size := by omega
              have x6 : ¬ wr.heap.size = wo.heap.size := by omega
              have hA : atM M i j = M[i][j] := atM_eq hk1 hj1
              have hA2 : atM M j i = M[j][i] := atM_eq hjM hiJ
              have hok := (HT3.out i hk1).2 M[i][j] (List.getElem_mem _)
              have hent : EntR M i j → Hid (∀ j', j' < j + 1 → EntR M i j') := fun h j' hj' => by
                by_cases e : j' = j
                · subst e; exact h
                · exact HU.out j' (by omega)
              have hbad : ¬ EntR M i j → Hid (B = false) := fun h => bfalse HBB.out (fun h9 => h ((h9.row i hk1).1 j hlj))
              unfold EntR at hent hbad
              rw [hA, hA2] at hent hbad
              have HSN : Hid (sumR (M[i].take (j + 1)) = addR (sumR (M[i].take j)) M[i][j]) := sumR_snoc hj1
              have HOK := Lib.hid hok
              have KS := Lib.hid (fun w => implSum (sumR (M[i].take j)).1 (sumR (M[i].take j)).2 M[i][j].1 M[i][j].2 w (decide (calcZ (sumR (M[i].take j)).1 (sumR (M[i].take j)).2 M[i][j].1 M[i][j].2)) (by simp))
              generalize M[i][j] = x at s0 s1 hent hbad HSN HOK KS hA hok
              generalize M[j][i] = y at t0 t1 hent hbad hA2
              generalize hgs : sumR (M[i].take j) = s at z0 z1 HSN KS HS
              clear hA hA2 hok hcc4 F1 G2 q3 hj1 hjM hiJ hgs
              obtain ⟨x0', x1'⟩ := x
              obtain ⟨y0', y1'⟩ := y
              obtain ⟨s0', s1'⟩ := s
              simp only at *
              obtain ⟨S2, hS2⟩ : ∃ S2 : Rz, sel (decide (calcZ s0' s1' x0' x1')) (Gn.rat (s0' * x1' + x0' * s1') (s1' * x1')) = S2 := ⟨_, rfl⟩
              have HSN2 : Hid (sumR (M[i].take (j + 1)) = S2) := by show _ = _; rw [HSN.out, ← hS2]; rfl
              rw [hS2] at KS
              clear HSN hS2
              by_cases hxy : x0' = y0' ∧ x1' = y1'
              rotate_left
              · have hv := hbad (fun h => hxy (by have := h.1; simpa using this))
                have hq := bne_pair (x := (x0', x1')) (y := (y0', y1')) (fun h => hxy (by simpa using h))
                simp only at hq
                clear hent hbad hxy
                rcases hq with hq | ⟨rfl, hq⟩
                all_goals
                  go_wp2_with fail
                  go_quiet (fail)
                  go_wp2_with fail
                  go_ret
                  exact ⟨by rw [hv.out]; rfl, below_drewN (balloc HBW.out _) _⟩
              · obtain ⟨rfl, rfl⟩ := hxy
                by_cases hij : i = j
                · have HU2 := hent ⟨rfl, .inl hij⟩
                  have hq1 : ((i : Int) != (j : Int)) = false := by simp; omega
                  have hq2 : (i != j) = false := by simp; omega
                  clear hent hbad hij
                  go_wp2_with fail
                  go_quiet (fail)
                  have HS2 := Lib.hid (HS.out.alloc (.cells #[.int .i64 x0', .int .i64 x1'] 32))
                  have hl2 : wo.heap.size < (wr.alloc (.cells #[.int .i64 x0', .int .i64 x1'] 32)).heap.size := by simp; omega
                  go_wp2_with fail
                  refine (KS.out _).mono ?_
                  rintro e w7 ⟨rfl, hb7⟩
                  have hb7' := (below_drewN (Below.refl (wr.alloc (.cells #[.int .i64 x0', .int .i64 x1'] 32)).heap.size (wr.alloc (.cells #[.int .i64 x0', .int .i64 x1'] 32))) nq).trans hb7
                  have HS7 := HS2.out.of_block (hb7'.block _ hl2)
                  have zf0 := HS7.frozen 0
                  have zf1 := HS7.frozen 1
                  obtain ⟨z0, z1⟩ := ratAt_cells HS7
                  have hl7 := HS7.lt
                  have HS8 := Lib.hid (ratAt_set HS7 S2)
                  have HC8 : Hid (Below wo.heap.size wo ((w7.setCell ⟨wo.heap.size, 0, none⟩ (.int .i64 S2.1)).setCell ⟨wo.heap.size, 1, none⟩ (.int .i64 S2.2))) := bset (bset ((balloc HC.out _).trans (hb7'.mono (by simp; omega))) (Nat.le_refl _) _) (Nat.le_refl _) _
                  clear HS7 hb7 hb7'
                  unfold pairV
                  go_wp2_with fail
                  go_roundw
                  case rel => exact ⟨j + 1, by omega, by go_num, by simpa using hl7, HU2.out, by rw [HSN2.out]; exact HS8.out, HC8.out⟩
                  case measure => simp [intOf]; omega
                · have hq1 : ((i : Int) != (j : Int)) = true := by simp; omega
                  have hq2 : (i != j) = true := by simp; omega
                  by_cases hx0 : 0 < x0'
                  · have hv := hbad (fun h => by have h2 := h.2; omega)
                    clear hent hbad hij
                    go_wp2_with fail
                    go_quiet (fail)
                    go_wp2_with fail
                    go_ret
                    exact ⟨by rw [hv.out]; rfl, below_drewN (balloc HBW.out _) _⟩
                  · have HU2 := hent ⟨rfl, .inr (by omega)⟩
                    clear hent hbad hij
                    go_wp2_with fail
                    go_quiet (fail)
                    have HS2 := Lib.hid (HS.out.alloc (.cells #[.int .i64 x0', .int .i64 x1'] 32))
                    have hl2 : wo.heap.size < (wr.alloc (.cells #[.int .i64 x0', .int .i64 x1'] 32)).heap.size := by simp; omega
                    go_wp2_with fail
                    refine (KS.out _).mono ?_
                    rintro e w7 ⟨rfl, hb7⟩
                    have hb7' := (below_drewN (Below.refl (wr.alloc (.cells #[.int .i64 x0', .int .i64 x1'] 32)).heap.size (wr.alloc (.cells #[.int .i64 x0', .int .i64 x1'] 32))) nq).trans hb7
                    have HS7 := HS2.out.of_block (hb7'.block _ hl2)
                    have zf0 := HS7.frozen 0
                    have zf1 := HS7.frozen 1
                    obtain ⟨z0, z1⟩ := ratAt_cells HS7
                    have hl7 := HS7.lt
                    have HS8 := Lib.hid (ratAt_set HS7 S2)
                    have HC8 : Hid (Below wo.heap.size wo ((w7.setCell ⟨wo.heap.size, 0, none⟩ (.int .i64 S2.1)).setCell ⟨wo.heap.size, 1, none⟩ (.int .i64 S2.2))) := bset (bset ((balloc HC.out _).trans (hb7'.mono (by simp; omega))) (Nat.le_refl _) _) (Nat.le_refl _) _
                    clear HS7 hb7 hb7'
                    unfold pairV
                    go_wp2_with fail
                    go_roundw
                    case rel => exact ⟨j + 1, by omega, by go_num, by simpa using hl7, HU2.out, by rw [HSN2.out]; exact HS8.out, HC8.out⟩
                    case measure => simp [intOf]; omega
            · obtain rfl : j = k := by omega
              have hT : M[i].take j = M[i] := List.take_of_length_le (by rw [HML.out]; omega)
              have hgood : sumR M[i] = (0, 1) → Hid (∀ i', i' < i + 1 → RowR M j i') := fun h i' hi' => by
                by_cases e : i' = i
                · subst e; exact ⟨HU.out, by rw [HRW.out]; exact h⟩
                · exact HT.out i' (by omega)
              have hbad : ¬ sumR M[i] = (0, 1) → Hid (B = false) := fun h => bfalse HBB.out (fun h9 => h (by have := (h9.row i hk1).2; rw [HRW.out] at this; exact this))
              rw [hT] at z0 z1
              generalize sumR M[i] = s at z0 z1 hgood hbad
              obtain ⟨s0', s1'⟩ := s
              simp only at z0 z1
              clear hT HS
              by_cases hs : s0' = 0 ∧ s1' = 1
              · obtain ⟨rfl, rfl⟩ := hs
                have HG := hgood rfl
                clear hgood hbad
                go_wp2_with fail
                go_roundw
                case rel => exact ⟨i + 1, by omega, by go_num, HG.out, HBW.out⟩
                case measure => simp [intOf]; omega
              · have hv := hbad (fun h => hs (by simpa using h))
                have hq := bne_pair (x := (s0', s1')) (y := (0, 1)) (fun h => hs (by simpa using h))
                simp only at hq
                clear hgood hbad hs
                rcases hq with hq | ⟨rfl, hq⟩
                all_goals
                  go_wp2_with fail
                  go_ret
                  exact ⟨by rw [hv.out]; rfl, HBW.out⟩
        · obtain rfl : i = k := by omega
          have hv : B = true := HBB.out.2 ⟨by omega, by omega, fun k' h => (HT3.out k' h).1, fun k' h => (HT3.out k' h).2, fun k' h => HT.out k' (by rw [← HL.out]; exact h)⟩
          have HV := Lib.hid hv
          clear hv
          go_wp2_with fail
          go_ret
          exact ⟨by rw [HV.out]; rfl, HB.out⟩
end Go.Proofs.Ytdmiihljepkapaa
