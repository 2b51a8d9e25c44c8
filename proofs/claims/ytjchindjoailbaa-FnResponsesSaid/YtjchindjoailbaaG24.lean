/- The inner nodes: the reference's and the program's. -/
import Derived.Test.YtjchindjoailbaaG07
import Derived.Test.YtjchindjoailbaaG04
import Derived.Test.YtjchindjoailbaaG12
import Derived.Test.YtjchindjoailbaaG14
import Derived.Deep.RegionLawGrows
import Derived.Test.YtjchindjoailbaaG15
import Derived.Test.YtjchindjoailbaaG16
import Derived.Test.YtjchindjoailbaaG02
import Derived.Deep.AppendLies
namespace Go.Proofs.Ytjchindjoailbaa
set_option linter.unusedSimpArgs false
set_option linter.unusedVariables false
open Go.RowKit

/-- the first k inner nodes behind F terminals -/
def innerK (F k : Nat) : List Int := (upto k).map fun v => (F : Int) + v
theorem innerK_succ (F k : Nat) : innerK F (k + 1) = innerK F k ++ [(F : Int) + k] := by simp [innerK, upto_succ]
theorem innerK_len (F k : Nat) : (innerK F k).length = k := by simp [innerK, upto_len]
theorem innerK_mem {F k : Nat} {x : Int} (h : x ∈ innerK F k) : F ≤ x ∧ x < F + k := by
  unfold innerK upto at h
  simp at h
  obtain ⟨v, hv, rfl⟩ := h
  omega
theorem innerK_nodup (F k : Nat) : (innerK F k).Nodup := by
  induction k with
  | zero => simp [innerK, upto]
  | succ k ih =>
    rw [innerK_succ, List.nodup_append]
    refine ⟨ih, by simp, ?_⟩
    intro a ha b hb
    have := innerK_mem ha
    simp at hb
    omega
set_option maxRecDepth 100000 in
set_option maxHeartbeats 8000000 in
theorem specInner (M F : Nat) (S : Int) (a : Option Addr) (n c : Nat) (hM : M ≤ 5) (hF : F ≤ M) (w : World) :
    Calls Try.prog 150 #[netV M F S a n c] w fun e w' => ∃ g c', e = .returned (.slice (some ⟨g, 0, none⟩) (M - F) c') ∧ w'.ownsRow w.heap.size 3 1 (.slice (some ⟨g, 0, none⟩) (M - F) c') (M - F) (ints (innerK F (M - F))) ∧ Below w.heap.size w w' := by
  obtain ⟨i0, hi, hz0, hz1, hz2⟩ := info_parts infoInt
  have HI := Lib.hid (And.intro hi (And.intro hz0 (And.intro hz1 hz2)))
  clear hi hz0 hz1 hz2
  go_enter Try.func150, Try.ntmps150
  go_wp2_with fail
  go_loopw [3, 4] (fun v u wr => ∃ (k g cq : Nat), k ≤ M - F ∧ u = .int .i64 ((F : Int) + k) ∧ v = .slice (some ⟨g, 0, none⟩) k cq ∧ Hid (wr.ownsRow (w.heap.size + 1) 3 1 (.slice (some ⟨g, 0, none⟩) k cq) k (ints (innerK F k))) ∧ Hid (Below (w.heap.size + 1) (NBox M F S a n c w) wr)) (fun _ u _ => M - (intOf u).toNat)
  case atStart => exact ⟨0, w.heap.size + 1, 0, by omega, by simp, rfl, by
    have := World.ownsRow_lit (base := w.heap.size + 1) (size := 1) (e := 3) (NBox M F S a n c w) #[] 0 (by simp) (by simp) rfl
    show World.ownsRow _ _ _ _ _ _ _
    simpa [innerK, upto, ints] using this, (Below.refl _ _).alloc (by simp) _⟩
  case round =>
    obtain ⟨k, g, cq, hk, rfl, rfl, H, HB⟩ := hrel
    obtain ⟨hB, hz1, u1, hz2, hz3⟩ := nbox_cells HB.out
    by_cases hlt : k < M - F
    · have hown := H.out
      have hlt2 : (F : Int) + k < M := by omega
      go_wp2_with (at_builtin; refine wpList_append_own _ rfl _ _ 79 rfl (w.heap.size + 1) 3 i0 (.int .i64 0) 1 8 Try.underlying79 HI.out.1 HI.out.2.1 HI.out.2.2.1 HI.out.2.2.2 rfl (by decide) _ _ _ rfl (hown.alloc _) ⟨wr.heap.size, 0, none⟩ 1 1 [.int .i64 ((F : Int) + k)] rfl rfl ?c1 ?c2 ?c3 ?c4 ?c5 ?_)
      case c1 => exact cell_one_new _ _ _
      case c2 => intro v hv; simp at hv; subst hv; rfl
      case c3 => unfold maxLen; omega
      case c4 => omega
      case c5 => simp; omega
      intro v' w2 hown' hgrow _
      obtain ⟨g3, c3, rfl⟩ := own_some hown' (by omega)
      have H3 : Hid (w2.ownsRow (w.heap.size + 1) 3 1 (.slice (some ⟨g3, 0, none⟩) (k + 1) c3) (k + 1) (ints (innerK F (k + 1)))) := by
        show World.ownsRow _ _ _ _ _ _ _
        rw [innerK_succ, ← ints_snoc]; exact hown'
      have HB3 : Hid (Below (w.heap.size + 1) (NBox M F S a n c w) w2) := (HB.out.alloc (by omega) _).grown hgrow (by simp; omega) (fun k hk => (hown.lt k hk).1)
      clear hown hown' hgrow
      go_wp2_with fail
      go_roundw
      case rel => exact ⟨k + 1, g3, c3, by omega, by go_num, rfl, H3.out, HB3.out⟩
      case measure => simp [intOf]; omega
    · obtain rfl : k = M - F := by omega
      have hlt2 : ¬ (F : Int) + (M - F : Nat) < M := by omega
      go_wp2_with fail
      go_ret
      exact ⟨g, cq, rfl, H.out.mono (by omega), hB⟩
set_option maxRecDepth 100000 in
set_option maxHeartbeats 8000000 in
theorem implInner (M F : Nat) (S : Int) (a : Option Addr) (n c : Nat) (hM : M ≤ 5) (hF : F ≤ M) (w : World) :
    Calls Try.prog 142 #[netV M F S a n c] w fun e w' => ∃ g c', e = .returned (.slice (some ⟨g, 0, none⟩) (M - F) c') ∧ w'.ownsRow w.heap.size 3 1 (.slice (some ⟨g, 0, none⟩) (M - F) c') (M - F) (ints (innerK F (M - F))) ∧ Below w.heap.size w w' := by
  obtain ⟨i0, hi, hz0, hz1, hz2⟩ := info_parts infoInt
  have HI := Lib.hid (And.intro hi (And.intro hz0 (And.intro hz1 hz2)))
  clear hi hz0 hz1 hz2
  go_enter Try.func142, Try.ntmps142
  go_wp2_with fail
  go_loopw [3, 4] (fun v u wr => ∃ (k g cq : Nat), k ≤ M - F ∧ u = .int .i64 ((F : Int) + k) ∧ v = .slice (some ⟨g, 0, none⟩) k cq ∧ Hid (wr.ownsRow (w.heap.size + 1) 3 1 (.slice (some ⟨g, 0, none⟩) k cq) k (ints (innerK F k))) ∧ Hid (Below (w.heap.size + 1) (NBox M F S a n c w) wr)) (fun _ u _ => M - (intOf u).toNat)
  case atStart => exact ⟨0, w.heap.size + 1, 0, by omega, by simp, rfl, by
    have := World.ownsRow_lit (base := w.heap.size + 1) (size := 1) (e := 3) (NBox M F S a n c w) #[] 0 (by simp) (by simp) rfl
    show World.ownsRow _ _ _ _ _ _ _
    simpa [innerK, upto, ints] using this, (Below.refl _ _).alloc (by simp) _⟩
  case round =>
    obtain ⟨k, g, cq, hk, rfl, rfl, H, HB⟩ := hrel
    obtain ⟨hB, hz1, u1, hz2, hz3⟩ := nbox_cells HB.out
    by_cases hlt : k < M - F
    · have hown := H.out
      have hlt2 : (F : Int) + k < M := by omega
      go_wp2_with (at_builtin; refine wpList_append_own _ rfl _ _ 79 rfl (w.heap.size + 1) 3 i0 (.int .i64 0) 1 8 Try.underlying79 HI.out.1 HI.out.2.1 HI.out.2.2.1 HI.out.2.2.2 rfl (by decide) _ _ _ rfl (hown.alloc _) ⟨wr.heap.size, 0, none⟩ 1 1 [.int .i64 ((F : Int) + k)] rfl rfl ?c1 ?c2 ?c3 ?c4 ?c5 ?_)
      case c1 => exact cell_one_new _ _ _
      case c2 => intro v hv; simp at hv; subst hv; rfl
      case c3 => unfold maxLen; omega
      case c4 => omega
      case c5 => simp; omega
      intro v' w2 hown' hgrow _
      obtain ⟨g3, c3, rfl⟩ := own_some hown' (by omega)
      have H3 : Hid (w2.ownsRow (w.heap.size + 1) 3 1 (.slice (some ⟨g3, 0, none⟩) (k + 1) c3) (k + 1) (ints (innerK F (k + 1)))) := by
        show World.ownsRow _ _ _ _ _ _ _
        rw [innerK_succ, ← ints_snoc]; exact hown'
      have HB3 : Hid (Below (w.heap.size + 1) (NBox M F S a n c w) w2) := (HB.out.alloc (by omega) _).grown hgrow (by simp; omega) (fun k hk => (hown.lt k hk).1)
      clear hown hown' hgrow
      go_wp2_with fail
      go_roundw
      case rel => exact ⟨k + 1, g3, c3, by omega, by go_num, rfl, H3.out, HB3.out⟩
      case measure => simp [intOf]; omega
    · obtain rfl : k = M - F := by omega
      have hlt2 : ¬ (F : Int) + (M - F : Nat) < M := by omega
      go_wp2_with fail
      go_ret
      exact ⟨g, cq, rfl, H.out.mono (by omega), hB⟩
end Go.Proofs.Ytjchindjoailbaa

/- Minors with the inner nodes: the reference's. -/
namespace Go.Proofs.Ytjchindjoailbaa
set_option linter.unusedSimpArgs false
set_option linter.unusedVariables false
open Go.RowKit

/-- an append to a row of one that was just made -/
theorem wp_append_lit {w : World} {o : Oper} {a : Act} {K : Act → World → Prop} {Q : Exit → Act → World → Prop} (s x : Operand)
    (hop : o.op = Op.call { callee := Callee.builtin Builtin.append, args := #[s, x], argTypes := #[79, 79] })
    (q : Nat) (y : Int) (hs : a.eval s = .slice (some ⟨q, 0, none⟩) 1 1) (hc : w.cell? ⟨q, 0, none⟩ = some (.int .i64 y))
    (g m c : Nat) (l : List Int) (hx : a.eval x = .slice (some ⟨g, 0, none⟩) m c) (hr : ArgRow w (some ⟨g, 0, none⟩) m c 1 (ints l)) (h5 : m ≤ 5)
    (hK : ∀ g' c' w', ArgRow w' (some ⟨g', 0, none⟩) (1 + m) c' 1 (ints (y :: l)) → Below w.heap.size w w' → K (a.put o.dst (.slice (some ⟨g', 0, none⟩) (1 + m) c')) w') :
    Oper.wp Try.prog o a w K Q := by
  obtain ⟨i0, hi, hz0, hz1, hz2⟩ := info_parts infoInt
  have hl := hr.ints_len
  have hone := ints_one l
  by_cases hm : m = 0
  · subst hm
    have hl0 : l = [] := List.length_eq_zero_iff.1 hl
    subst hl0
    have hrun := run_append_room_cells (P := Try.prog) w 79 o.type 3 i0 Try.underlying79 hi q 0 1 1 ⟨g, 0, none⟩ 0 c [] (by simp) (by simp) (by simp) (by omega) (by simp) (by simp)
    unfold Oper.wp
    simp [execOp, hop, resolve, invoke, builtin, hs, hx, hrun, Result.andThen]
    have hb : q < w.heap.size := by
      by_cases h : q < w.heap.size
      · exact h
      · simp [World.cell?, Array.getElem?_eq_none (show w.heap.size ≤ q by omega)] at hc
    have hset : w.setCells q (0 + 1 * i0.size) [] = w := rfl
    exact hK q 1 w ⟨by simp [ints], by omega, by unfold maxLen; omega, .inr ⟨q, 0, rfl, hb, fun j hj => by
      simp [ints] at hj
      subst hj
      simpa [ints] using hc⟩⟩ (Below.refl _ _)
  · have hcells : ∀ j u, (ints l)[j]? = some u → w.cell? ((⟨g, 0, none⟩ : Addr).add j) = some u := by
      intro j u hu
      obtain ⟨hj, rfl⟩ := List.getElem?_eq_some_iff.1 hu
      obtain ⟨b, off, e, _, hcc⟩ := hr.form (by omega)
      cases e
      rw [Addr.add_lit]
      exact hcc j hj
    obtain ⟨v', w', hrun, r1, r2⟩ := run_append_arg_grows (P := Try.prog) w 79 o.type 3 i0 (.int .i64 0) 1 8 Try.underlying79 hi hz0 hz1 hz2 rfl (by decide) ⟨q, 0, none⟩ 1 1 [.int .i64 y] rfl (fun j u hu => by
      rcases j with _ | j
      · simp at hu; subst hu; rw [Addr.add_lit]; exact hc
      · simp at hu) ⟨g, 0, none⟩ m c (ints l) (by rw [ints_len, hl]; omega) hcells (by omega) (by unfold maxLen; omega) (by omega)
    obtain ⟨g', c', rfl⟩ := own_some r1 (by omega)
    unfold Oper.wp
    simp [execOp, hop, resolve, invoke, builtin, hs, hx, hrun, Result.andThen]
    have e1 : ([.int .i64 y] : List Value) ++ ints l = ints (y :: l) := by simp [ints]
    rw [e1] at r1
    exact hK g' c' w' (ArgRow.own r1) ((Below.refl _ _).grown r2 (Nat.le_refl _) (fun k hk => by cases hk))

theorem wpList_append_lit {w : World} {ops : Array Oper} {rest : List Oper} {o : Oper} {a : Act} {Q : Exit → Act → World → Prop} (hg : o.guard = none) (s x : Operand)
    (hop : o.op = Op.call { callee := Callee.builtin Builtin.append, args := #[s, x], argTypes := #[79, 79] })
    (q : Nat) (y : Int) (hs : a.eval s = .slice (some ⟨q, 0, none⟩) 1 1) (hc : w.cell? ⟨q, 0, none⟩ = some (.int .i64 y))
    (g m c : Nat) (l : List Int) (hx : a.eval x = .slice (some ⟨g, 0, none⟩) m c) (hr : ArgRow w (some ⟨g, 0, none⟩) m c 1 (ints l)) (h5 : m ≤ 5)
    (hK : ∀ g' c' w', ArgRow w' (some ⟨g', 0, none⟩) (1 + m) c' 1 (ints (y :: l)) → Below w.heap.size w w' → wpList Try.prog ops Q rest (a.put o.dst (.slice (some ⟨g', 0, none⟩) (1 + m) c')) w') :
    wpList Try.prog ops Q (o :: rest) a w :=
  wpList_plain hg fun _ hK' => wp_append_lit s x hop q y hs hc g m c l hx hr h5 fun g' c' w' h1 h2 => hK' _ _ (hK g' c' w' h1 h2)

/-- the minor of the inner nodes -/
def downW (M F : Nat) (l : List Wz) : Int := detW (ent (tab M (lapE l))) (innerK F (M - F)) (innerK F (M - F))
/-- with a row and a column of terminals -/
def topW (M F : Nat) (l : List Wz) (i j : Int) : Int := detW (ent (tab M (lapE l))) (i :: innerK F (M - F)) (j :: innerK F (M - F))
theorem innerK_in {M F : Nat} (hF : F ≤ M) : ∀ x ∈ innerK F (M - F), 0 ≤ x ∧ x < M := fun x hx => by
  have := innerK_mem hx
  omega
set_option maxRecDepth 100000 in
set_option maxHeartbeats 8000000 in
theorem specDown (M F : Nat) (S : Int) (a : Option Addr) (n c : Nat) (l : List Wz) (hF : F ≤ M) (hok : NetOk M F S l) (w : World) (hr : ArgRow w a n c 3 (wires l)) (hl : l.length = n) :
    Calls Try.prog 117 #[netV M F S a n c] w fun e w' => e = .returned (.int .i64 (downW M F l)) ∧ Below w.heap.size w w' := by
  have hM5 : M ≤ 5 := by have := hok.h.n5; omega
  have HR := Lib.hid hr
  have KL := Lib.hid (fun (w : World) r => specLapl M F S a n c l hok w r hl)
  have KI := Lib.hid (fun (w : World) => specInner M F S a n c hM5 hF w)
  have KD := Lib.hid (fun am arr acc cm crr ccc (w : World) hm h1 h2 => specDet M (tab M (lapE l)) hM5 (tab_sq M _) (innerK F (M - F)) (innerK F (M - F)) am arr acc cm (M - F) crr (M - F) ccc w hm h1 h2 rfl (by omega) (innerK_in hF) (innerK_in hF))
  have HV : Hid (detW (ent (tab M (lapE l))) (innerK F (M - F)) (innerK F (M - F)) = downW M F l) := rfl
  generalize detW (ent (tab M (lapE l))) (innerK F (M - F)) (innerK F (M - F)) = D at KD HV
  clear hr hok
  go_enter Try.func117, Try.ntmps117
  go_wp2_with fail
  go_region_held3 (fun w' => w'.cell? ⟨w.heap.size, 0, none⟩ = some (.int .i64 M) ∧ w'.cell? ⟨w.heap.size, 1, none⟩ = some (.int .i64 F) ∧ w'.cell? ⟨w.heap.size, 2, none⟩ = some (.int .i64 S) ∧ w'.cell? ⟨w.heap.size, 3, none⟩ = some (.slice a n c)) (go_keep)
    ((first
    | (go_at_call 149; ((with_reducible refine (KL.out _ (HR.out.below (by (repeat' (first | (with_reducible exact Below.refl _ _) | (with_reducible assumption) | (with_reducible refine balloc ?_ _) | (with_reducible refine Below.drew ?_) | (with_reducible refine below_drewN ?_ _) | (with_reducible refine bset ?_ ?_ _) | (with_reducible refine bstep ?_ (by assumption)) | go_size))))).mono ?_); rintro e wL ⟨gL, rL, rfl, oL, hbL⟩); (try (replace hbL := bdrew hbL)); have GL := Lib.hid (oL); clear oL; (try (have hq_ := bltn hbL (b := w.heap.size) (by (first | omega | (simp only [World.size_alloc, World.size_setCell, World.size_drew, World.heap_drewN]; omega))); obtain ⟨uu, vv, zz, nn, mm⟩ := hq_)))
    | ((fail_if_success (have := wA)); go_at_call 150; ((with_reducible refine (KI.out _).mono ?_); rintro e wA ⟨gA, cA, rfl, oA, hbA⟩); (try (replace hbA := bdrew hbA)); have RA := Lib.hid (ArgRow.own oA); clear oA; (try (have hq_ := bltn hbA (b := w.heap.size) (by (first | omega | (simp only [World.size_alloc, World.size_setCell, World.size_drew, World.heap_drewN]; omega))); obtain ⟨uu, vv, zz, nn, mm⟩ := hq_)))
    | (go_at_call 150; ((with_reducible refine (KI.out _).mono ?_); rintro e wB ⟨gB, cB, rfl, oB, hbB⟩); (try (replace hbB := bdrew hbB)); have RB := Lib.hid (ArgRow.own oB); clear oB; (try (have hq_ := bltn hbB (b := w.heap.size) (by (first | omega | (simp only [World.size_alloc, World.size_setCell, World.size_drew, World.heap_drewN]; omega))); obtain ⟨uu, vv, zz, nn, mm⟩ := hq_)))
    | (go_at_call 148; ((with_reducible first
        | refine (KD.out (some ⟨gL, 0, none⟩) (some ⟨gA, 0, none⟩) (some ⟨gB, 0, none⟩) rL cA cB _
        (by first | exact GL.out | exact GL.out.below hbA | exact GL.out.below hbB | exact (GL.out.below hbA).below hbB | exact (GL.out.below hbB).below hbA)
        (by first | exact RA.out | exact RA.out.below hbL | exact RA.out.below hbB | exact (RA.out.below hbL).below hbB | exact (RA.out.below hbB).below hbL)
        (by first | exact RB.out | exact RB.out.below hbA | exact RB.out.below hbL | exact (RB.out.below hbA).below hbL | exact (RB.out.below hbL).below hbA)).mono ?_
        | refine (KD.out (some ⟨gL, 0, none⟩) (some ⟨gB, 0, none⟩) (some ⟨gA, 0, none⟩) rL cB cA _
        (by first | exact GL.out | exact GL.out.below hbA | exact GL.out.below hbB | exact (GL.out.below hbA).below hbB | exact (GL.out.below hbB).below hbA)
        (by first | exact RB.out | exact RB.out.below hbA | exact RB.out.below hbL | exact (RB.out.below hbA).below hbL | exact (RB.out.below hbL).below hbA)
        (by first | exact RA.out | exact RA.out.below hbL | exact RA.out.below hbB | exact (RA.out.below hbL).below hbB | exact (RA.out.below hbB).below hbL)).mono ?_); rintro e wD ⟨rfl, hbD⟩); (try (have hq_ := bltn hbD (b := w.heap.size) (by (first | omega | (simp only [World.size_alloc, World.size_setCell, World.size_drew, World.heap_drewN]; omega))); obtain ⟨uu, vv, zz, nn, mm⟩ := hq_)))))
  all_goals
    go_wp2_with fail
    go_ret
    exact ⟨by rw [← HV.out]; rfl, by (repeat' (first | (with_reducible exact Below.refl _ _) | (with_reducible assumption) | (with_reducible refine balloc ?_ _) | (with_reducible refine Below.drew ?_) | (with_reducible refine below_drewN ?_ _) | (with_reducible refine bset ?_ ?_ _) | (with_reducible refine bstep ?_ (by assumption)) | go_size))⟩
theorem cell_up {w w' : World} (hb : Below w.heap.size w w') {p : Addr} {v : Value} (h : w.cell? p = some v) : w'.cell? p = some v := by
  have hl : p.block < w.heap.size := by
    by_cases h9 : p.block < w.heap.size
    · exact h9
    · simp [World.cell?, Array.getElem?_eq_none (show w.heap.size ≤ p.block by omega)] at h
  rw [hb.cell hl]; exact h
theorem cell_al {w : World} (o : Obj) {p : Addr} {v : Value} (h : w.cell? p = some v) : (w.alloc o).cell? p = some v := cell_up (balloc (Below.refl _ _) _) h
theorem cell_dr {w : World} {p : Addr} {v : Value} (h : w.cell? p = some v) : w.drew.cell? p = some v := h
theorem cell_lit {w : World} {v : Value} {t : TypeId} {q : Nat} (hq : q = w.heap.size) : (w.alloc (.cells #[v] t)).cell? ⟨q, 0, none⟩ = some v := by
  subst hq; exact cell_one_new _ _ _ 0 v rfl
theorem bup {w w1 : World} {o : Obj} (hb : Below (w.heap.size + 1) (w.alloc o) w1) : Below w.heap.size w w1 := bstep (balloc (Below.refl _ _) _) (by simpa using hb)
set_option maxRecDepth 100000 in
set_option maxHeartbeats 16000000 in
theorem specTop (M F : Nat) (S : Int) (a : Option Addr) (n c : Nat) (l : List Wz) (i j : Int) (hi : 0 ≤ i ∧ i < M) (hj : 0 ≤ j ∧ j < M) (hF0 : 1 ≤ F) (hF : F ≤ M) (hok : NetOk M F S l) (w : World) (hr : ArgRow w a n c 3 (wires l)) (hl : l.length = n) :
    Calls Try.prog 118 #[netV M F S a n c, .int .i64 i, .int .i64 j] w fun e w' => e = .returned (.int .i64 (topW M F l i j)) ∧ Below w.heap.size w w' := by
  have hM5 : M ≤ 5 := by have := hok.h.n5; omega
  have HR := Lib.hid hr
  have KL := Lib.hid (fun (w : World) r => specLapl M F S a n c l hok w r hl)
  have KI := Lib.hid (fun (w : World) => specInner M F S a n c hM5 hF w)
  have KD := Lib.hid (fun am arr acc cm crr ccc (w : World) hm h1 h2 => specDet M (tab M (lapE l)) hM5 (tab_sq M _) (i :: innerK F (M - F)) (j :: innerK F (M - F)) am arr acc cm (1 + (M - F)) crr (1 + (M - F)) ccc w hm h1 h2 rfl (by omega)
    (fun x hx => by rcases List.mem_cons.1 hx with rfl | hx; exact hi; exact innerK_in hF x hx) (fun x hx => by rcases List.mem_cons.1 hx with rfl | hx; exact hj; exact innerK_in hF x hx))
  have HV : Hid (detW (ent (tab M (lapE l))) (i :: innerK F (M - F)) (j :: innerK F (M - F)) = topW M F l i j) := rfl
  generalize detW (ent (tab M (lapE l))) (i :: innerK F (M - F)) (j :: innerK F (M - F)) = D at KD HV
  have hm5 : M - F ≤ 5 := by omega
  clear hr hok hi hj
  go_enter Try.func118, Try.ntmps118
  go_wp2_with fail
  refine (KI.out _).mono ?_
  rintro e w1 ⟨gI, cI, rfl, oI, hb1⟩
  obtain ⟨uu1, vv1, zz1, nn1, mm1⟩ := bltn hb1 (b := w.heap.size) (by (first | omega | (simp only [World.size_alloc, World.size_setCell, World.size_drew, World.heap_drewN]; omega)))
  have B1 : Hid (Below w.heap.size w w1) := bstep (by (repeat' (first | (with_reducible exact Below.refl _ _) | (with_reducible assumption) | (with_reducible refine balloc ?_ _) | (with_reducible refine Below.drew ?_) | (with_reducible refine below_drewN ?_ _) | (with_reducible refine bset ?_ ?_ _) | (with_reducible refine bstep ?_ (by assumption)) | go_size))) hb1
  have HR1 := Lib.hid (HR.out.below B1.out)
  have RI := Lib.hid (ArgRow.own oI)
  clear oI hb1
  go_wp2_with fail
  refine (KL.out _ HR1.out).mono ?_
  rintro e wL ⟨gL, rL, rfl, oL, hbL⟩
  have GL := Lib.hid oL
  clear oL
  go_wp2_with (at_builtin; refine wpList_append_lit rfl (.tmp 13) (.tmp 14) rfl _ i rfl (by (repeat (first | exact cell_lit (by first | rfl | (simp; done)) | refine cell_al _ ?_ | refine cell_dr ?_ | refine cell_up (by assumption) ?_))) gI (M - F) cI (innerK F (M - F)) rfl (RI.out.below (by (repeat (first | exact Below.refl _ _ | refine balloc ?_ _ | refine Below.drew ?_ | refine bstep ?_ (by assumption))))) hm5 ?_)
  intro gA cA wA RA hbA
  have RA := Lib.hid RA
  replace hbA := bup hbA
  go_wp2_with (at_builtin; refine wpList_append_lit rfl (.tmp 17) (.tmp 18) rfl _ j rfl (by (repeat (first | exact cell_lit (by first | rfl | (simp; done)) | refine cell_al _ ?_ | refine cell_dr ?_ | refine cell_up (by assumption) ?_))) gI (M - F) cI (innerK F (M - F)) rfl (RI.out.below (by (repeat (first | exact Below.refl _ _ | refine balloc ?_ _ | refine Below.drew ?_ | refine bstep ?_ (by assumption))))) hm5 ?_)
  intro gB cB wB RB hbB
  have RB := Lib.hid RB
  replace hbB := bup hbB
  go_wp2_with fail
  refine (KD.out (some ⟨gL, 0, none⟩) (some ⟨gA, 0, none⟩) (some ⟨gB, 0, none⟩) rL cA cB _ (GL.out.below (by (repeat (first | exact Below.refl _ _ | refine balloc ?_ _ | refine Below.drew ?_ | refine bstep ?_ (by assumption))))) (RA.out.below (by (repeat (first | exact Below.refl _ _ | refine balloc ?_ _ | refine Below.drew ?_ | refine bstep ?_ (by assumption))))) (RB.out.below (by (repeat (first | exact Below.refl _ _ | refine balloc ?_ _ | refine Below.drew ?_ | refine bstep ?_ (by assumption)))))).mono ?_
  rintro e wD ⟨rfl, hbD⟩
  have B2 : Below w1.heap.size w1 wD := by (repeat (first | exact Below.refl _ _ | refine balloc ?_ _ | refine Below.drew ?_ | refine bstep ?_ (by assumption)))
  go_wp2_with fail
  go_ret
  exact ⟨by rw [← HV.out]; rfl, bstep B1.out B2⟩
end Go.Proofs.Ytjchindjoailbaa

/- The response: the plain side. -/
namespace Go.Proofs.Ytjchindjoailbaa
set_option linter.unusedSimpArgs false
set_option linter.unusedVariables false
open Go.RowKit

theorem bn_vals : bn 0 = 1 ∧ bn 1 = 800 ∧ bn 2 = 1280000 ∧ bn 3 = 3072000000 ∧ bn 4 = 9830400000000 ∧ bn 5 = 39321600000000000 := by decide
theorem bn_top (k : Nat) (h : k ≤ 4) : bn k ≤ 9830400000000 ∧ bn (1 + k) ≤ 39321600000000000 := by
  obtain ⟨h0, h1, h2, h3, h4, h5⟩ := bn_vals
  have : k = 0 ∨ k = 1 ∨ k = 2 ∨ k = 3 ∨ k = 4 := by omega
  rcases this with rfl | rfl | rfl | rfl | rfl <;> simp only [Nat.reduceAdd] <;> omega
theorem NetOk.down_pos {M F : Nat} {S : Int} {l : List Wz} (h : NetOk M F S l) (hF0 : 1 ≤ F) (hF : F ≤ M) : 0 < downW M F l ∧ downW M F l ≤ 9830400000000 := by
  have hM5 : M ≤ 5 := by have := h.h.n5; omega
  have hl := innerK_len F (M - F)
  have hin := innerK_in hF
  refine ⟨?_, ?_⟩
  · unfold downW
    rw [h.det (by omega) (Nat.le_refl _) hin hin]
    exact Gn.det_pos _ _ (by omega) (h.nice (innerK_nodup _ _) hin (fun hx => by have := innerK_mem hx; omega))
  · have := (h.det_bd (rows := innerK F (M - F)) (cols := innerK F (M - F)) (by omega) (Nat.le_refl _)).2
    rw [hl] at this
    have := (bn_top (M - F) (by omega)).1
    unfold downW; omega
theorem NetOk.top_bd {M F : Nat} {S : Int} {l : List Wz} (h : NetOk M F S l) (hF0 : 1 ≤ F) (hF : F ≤ M) (i j : Int) : -39321600000000000 ≤ topW M F l i j ∧ topW M F l i j ≤ 39321600000000000 := by
  have hM5 : M ≤ 5 := by have := h.h.n5; omega
  have hl := innerK_len F (M - F)
  have := h.det_bd (rows := i :: innerK F (M - F)) (cols := j :: innerK F (M - F)) (by simp; omega) (by simp)
  rw [List.length_cons, hl, Nat.add_comm] at this
  have := (bn_top (M - F) (by omega)).2
  unfold topW; omega
theorem NetOk.sdown {M F : Nat} {S : Int} {l : List Wz} (h : NetOk M F S l) (hF0 : 1 ≤ F) (hF : F ≤ M) : 0 < S * downW M F l ∧ S * downW M F l ≤ 9830400000000000 := by
  obtain ⟨h1, h2⟩ := h.down_pos hF0 hF
  have s1 := h.h.s1
  have s2 := h.h.s2
  refine ⟨Int.mul_pos (by omega) h1, ?_⟩
  have := Int.mul_le_mul s2 h2 (by omega) (by omega)
  omega
/-- one entry of the response -/
def respV (M F : Nat) (S : Int) (l : List Wz) (i j : Int) : Rz := Gn.rat (topW M F l i j) (S * downW M F l)
def respRow (M F : Nat) (S : Int) (l : List Wz) (i j : Nat) : List Rz := (upto j).map fun q => respV M F S l i q
theorem respRow_succ (M F : Nat) (S : Int) (l : List Wz) (i j : Nat) : respRow M F S l i (j + 1) = respRow M F S l i j ++ [respV M F S l i j] := by simp [respRow, upto_succ]
theorem respRow_len (M F : Nat) (S : Int) (l : List Wz) (i j : Nat) : (respRow M F S l i j).length = j := by simp [respRow, upto_len]
/-- the response -/
def respM (M F : Nat) (S : Int) (l : List Wz) : List (List Rz) := (List.range F).map fun i => respRow M F S l i F
end Go.Proofs.Ytjchindjoailbaa

/- ResponseOf of the reference. -/
namespace Go.Proofs.Ytjchindjoailbaa
set_option linter.unusedSimpArgs false
set_option linter.unusedVariables false
open Go.RowKit

theorem infoSlR : (Try.prog.info? 28).map (fun i => (i.zero, i.size, i.bytes)) = some (some (.slice none 0 0), 1, 24) := by kernel_rfl
theorem slR_ne : (32 : TypeId) ≠ 28 := by decide
/-- rows of fractions of the call's own -/
def OwnRowsR (w : World) (base M : Nat) (rs : List (Option Addr × Nat × List Rz)) : Prop := ∀ x ∈ rs, ∃ b, x.1 = some ⟨b, 0, none⟩ ∧ x.2.2.length = M ∧ w.ownsRow base 32 2 (.slice (some ⟨b, 0, none⟩) M x.2.1) M (rats x.2.2)
theorem OwnRowsR.below {w w' : World} {base M : Nat} {rs : List (Option Addr × Nat × List Rz)} (h : OwnRowsR w base M rs) (hb : Below w.heap.size w w') : OwnRowsR w' base M rs := by
  intro x hx
  obtain ⟨b, h1, h2, h3⟩ := h x hx
  exact ⟨b, h1, h2, own_below h3 hb⟩
set_option maxRecDepth 100000 in
set_option maxHeartbeats 8000000 in
theorem specResponseOf0 (N E S : Int) (a : Option Addr) (n c : Nat) (l : List Wz) (hno : ¬ NetOk N E S l) (w : World) (hr : ArgRow w a n c 3 (wires l)) (hl : l.length = n) :
    Calls Try.prog 111 #[netV N E S a n c] w fun e w' => e = .returned (.tuple #[.slice none 0 0, .bool false]) ∧ Below w.heap.size w w' := by
  have HR := Lib.hid hr
  have KN := Lib.hid (fun (w : World) rr => specNetOk N E S a n c l false ⟨(fun h => by cases h), fun h => absurd h hno⟩ w rr hl)
  clear hr hno
  go_enter Try.func111, Try.ntmps111
  go_wp2_with fail
  refine (KN.out _ (HR.out.below (by (repeat' (first | (with_reducible exact Below.refl _ _) | (with_reducible assumption) | (with_reducible refine balloc ?_ _) | (with_reducible refine Below.drew ?_) | (with_reducible refine below_drewN ?_ _) | (with_reducible refine bset ?_ ?_ _) | (with_reducible refine bstep ?_ (by assumption)) | go_size))))).mono ?_
  rintro e w1 ⟨rfl, hb1⟩
  have B1 : Hid (Below w.heap.size w w1) := bstep (by (repeat' (first | (with_reducible exact Below.refl _ _) | (with_reducible assumption) | (with_reducible refine balloc ?_ _) | (with_reducible refine Below.drew ?_) | (with_reducible refine below_drewN ?_ _) | (with_reducible refine bset ?_ ?_ _) | (with_reducible refine bstep ?_ (by assumption)) | go_size))) hb1
  go_wp2_with fail
  go_returns
  exact ⟨rfl, B1.out⟩
set_option maxRecDepth 100000 in
set_option maxHeartbeats 16000000 in
theorem specResponseOf (M F : Nat) (S : Int) (a : Option Addr) (n c : Nat) (l : List Wz) (hF0 : 1 ≤ F) (hF : F ≤ M) (hok : NetOk M F S l) (w : World) (hr : ArgRow w a n c 3 (wires l)) (hl : l.length = n) :
    Calls Try.prog 111 #[netV M F S a n c] w fun e w' => ∃ g c', e = .returned (.tuple #[.slice (some ⟨g, 0, none⟩) F c', .bool true]) ∧ RGrid w' (some ⟨g, 0, none⟩) F c' (respM M F S l) ∧ Below w.heap.size w w' := by
  obtain ⟨i0, hi, hz0, hz1, hz2⟩ := info_parts infoRat
  have HI := Lib.hid (And.intro hi (And.intro hz0 (And.intro hz1 hz2)))
  clear hi hz0 hz1 hz2
  obtain ⟨j0, ji, jz0, jz1, jz2⟩ := info_parts infoSlR
  have HJ := Lib.hid (And.intro ji (And.intro jz0 (And.intro jz1 jz2)))
  clear ji jz0 jz1 jz2
  have hM5 : M ≤ 5 := by have := hok.h.n5; omega
  have HR := Lib.hid hr
  have KN := Lib.hid (fun (w : World) r => specNetOk M F S a n c l true ⟨fun _ => hok, fun _ => rfl⟩ w r hl)
  have KD := Lib.hid (fun (w : World) r => specDown M F S a n c l hF hok w r hl)
  have KT := Lib.hid (fun (i j : Nat) (hi : i < F) (hj : j < F) (w : World) r => specTop M F S a n c l i j ⟨by omega, by omega⟩ ⟨by omega, by omega⟩ hF0 hF hok w r hl)
  have HT := Lib.hid (fun (i j : Int) => hok.top_bd hF0 hF i j)
  have hd := hok.sdown hF0 hF
  have HSU := Lib.hid (fun (i j : Nat) => respRow_succ M F S l i j)
  have HRV : Hid (∀ i j : Nat, respV M F S l i j = Gn.rat (topW M F l i j) (S * downW M F l)) := fun i j => rfl
  have HRL := Lib.hid (fun (i j : Nat) => respRow_len M F S l i j)
  have HR0 : Hid (∀ i : Nat, respRow M F S l i 0 = []) := fun i => rfl
  have HRM : Hid (respM M F S l = (List.range F).map fun i => respRow M F S l i F) := rfl
  obtain ⟨RV, hRV⟩ : ∃ f : Nat → Nat → Rz, ∀ i j : Nat, respV M F S l i j = f i j := ⟨_, fun i j => rfl⟩
  simp only [hRV] at HSU HRV
  clear hRV
  generalize respRow M F S l = RR at HSU HRL HR0 HRM
  generalize respM M F S l = RM at HRM ⊢
  obtain ⟨TW, hTW⟩ : ∃ f : Nat → Nat → Int, ∀ i j : Nat, topW M F l i j = f i j := ⟨_, fun i j => rfl⟩
  have HT2 : Hid (∀ i j : Nat, -39321600000000000 ≤ TW i j ∧ TW i j ≤ 39321600000000000) := fun i j => by rw [← hTW]; exact HT.out i j
  simp only [hTW] at KT HRV
  clear hTW HT
  generalize downW M F l = D at KD hd HRV
  have hm : IntKind.i64.wrap (S * D) = S * D := IntWalk.i64_in _ (by omega)
  have hm2 : wrap64 (S * D) = S * D := by unfold wrap64; omega
  clear hr hok
  go_enter Try.func111, Try.ntmps111
  go_wp2_with fail
  refine (KN.out _ (HR.out.below (by (repeat' (first | (with_reducible exact Below.refl _ _) | (with_reducible assumption) | (with_reducible refine balloc ?_ _) | (with_reducible refine Below.drew ?_) | (with_reducible refine below_drewN ?_ _) | (with_reducible refine bset ?_ ?_ _) | (with_reducible refine bstep ?_ (by assumption)) | go_size))))).mono ?_
  rintro e w1 ⟨rfl, hb1⟩
  have HB1 : Hid (Below (w.heap.size + 1) (NBox M F S a n c w) w1) := by have := hb1; simpa [Hid] using this
  obtain ⟨hB1, hz1, u1, hz2, hz3⟩ := nbox_cells HB1.out
  clear hb1
  go_upto_region 3 with fail
  go_cut [4] (fun s4 wx => s4 = .int .i64 (S * D) ∧ Hid (Below w1.heap.size w1 wx))
  case first =>
    go_region_held3 (fun w' => w'.cell? ⟨w.heap.size, 0, none⟩ = some (.int .i64 M) ∧ w'.cell? ⟨w.heap.size, 1, none⟩ = some (.int .i64 F) ∧ w'.cell? ⟨w.heap.size, 2, none⟩ = some (.int .i64 S) ∧ w'.cell? ⟨w.heap.size, 3, none⟩ = some (.slice a n c)) (go_keep)
      ((go_at_call 117; ((with_reducible refine (KD.out _ (HR.out.below (hB1.drew))).mono ?_); rintro e wX ⟨rfl, hbX⟩); (try (replace hbX := bdrew hbX)); (try (have hq_ := bltn hbX (b := w.heap.size) (by (first | omega | (simp only [World.size_alloc, World.size_setCell, World.size_drew, World.heap_drewN]; omega))); obtain ⟨uu, vv, zz, nn, mm⟩ := hq_))))
    all_goals
      go_wp2_with fail
      go_meet
      exact ⟨rfl, hbX⟩
  case rest =>
  obtain ⟨rfl, HC⟩ := hcut
  have HB2 : Hid (Below (w.heap.size + 1) (NBox M F S a n c w) wc) := HB1.out.trans (HC.out.mono (by omega))
  clear HB1 hB1 hz1 u1 hz2 hz3 HC
  obtain ⟨hB1, hz1, u1, hz2, hz3⟩ := nbox_cells HB2.out
  clear hB1
  go_wp2_with fail
  go_loopw [5, 6] (fun v u wr => ∃ (i g cg : Nat) (rs : List (Option Addr × Nat × List Rz)), i ≤ F ∧ u = .int .i64 i ∧ v = .slice (some ⟨g, 0, none⟩) i cg ∧ Hid (wr.ownsRow (w.heap.size + 1) 28 1 (.slice (some ⟨g, 0, none⟩) i cg) i (rs.map slV)) ∧ Hid (rs.map (fun x => x.2.2) = (List.range i).map fun q => RR q F) ∧ Hid (OwnRowsR wr (w.heap.size + 1) F rs) ∧ Hid (Below (w.heap.size + 1) (NBox M F S a n c w) wr)) (fun _ u _ => F - (intOf u).toNat)
  case atStart => exact ⟨0, wc.heap.size, 0, [], by omega, rfl, rfl, World.ownsRow_lit (base := w.heap.size + 1) (size := 1) wc #[] 0 (by omega) (by simp) rfl, rfl, fun x hx => by simp at hx, HB2.out.alloc (by omega) _⟩
  case round =>
    clear HB2 hz1 u1 hz2 hz3
    obtain ⟨i, g, cg, rs, hi, rfl, rfl, HO, HE, HW, HB⟩ := hrel
    obtain ⟨hB, hz1, u1, hz2, hz3⟩ := nbox_cells HB.out
    by_cases hlt : i < F
    · clear hB
      go_wp2_with fail
      obtain ⟨wo, rfl⟩ : ∃ wo : World, wo = wr := ⟨_, rfl⟩
      clear u1 hz2 hz3
      go_loopw [7, 8] (fun v u wr => ∃ (j h ch : Nat), j ≤ F ∧ u = .int .i64 j ∧ v = .slice (some ⟨h, 0, none⟩) j ch ∧ Hid (wr.ownsRow wo.heap.size 32 2 (.slice (some ⟨h, 0, none⟩) j ch) j (rats (RR i j))) ∧ Hid (Below wo.heap.size wo wr)) (fun _ u _ => F - (intOf u).toNat)
      case atStart => exact ⟨0, wo.heap.size, 0, by omega, rfl, rfl, by
        show World.ownsRow _ _ _ _ _ _ _
        rw [HR0.out]
        exact World.ownsRow_lit (base := wo.heap.size) (size := 2) wo #[] 0 (Nat.le_refl _) (by simp) rfl, (Below.refl _ _).alloc (Nat.le_refl _) _⟩
      case round =>
        obtain ⟨j, h, ch, hj, rfl, rfl, HR5, HB5⟩ := hrel
        have HBW : Hid (Below (w.heap.size + 1) (NBox M F S a n c w) wr) := HB.out.trans (HB5.out.mono (by omega))
        obtain ⟨hB, hy1, u1, hy2, hy3⟩ := nbox_cells HBW.out
        have hsz5 := HB5.out.size
        by_cases hlj : j < F
        · have KTI := Lib.hid (fun w rr => KT.out i j hlt hlj w rr)
          have hb := HT2.out i j
          have HS := HSU.out i j
          rw [HRV.out] at HS
          generalize TW i j = T at KTI hb HS
          have KRA := Lib.hid (fun (w : World) => specRatioOf T (S * D) w (by omega) (by omega) (by omega) (by omega))
          generalize Gn.rat T (S * D) = Q at KRA HS
          obtain ⟨R0, R1⟩ := Q
          have HS := Lib.hid HS
          have hB' := Lib.hid hB
          clear hB
          go_wp2_with fail
          refine (KTI.out _ (HR.out.below hB'.out)).mono ?_
          rintro e w5 ⟨rfl, hb5⟩
          go_wp2_with fail
          refine (KRA.out _).mono ?_
          rintro e w6 ⟨rfl, hb6'⟩
          have hb6 : Below wr.heap.size wr w6 := bstep hb5 hb6'
          have hown := own_below HR5.out hb6
          have hs6 := hb6.size
          go_wp2_with (at_builtin; refine wpList_append_own _ rfl _ _ 28 rfl wo.heap.size 32 i0 (.agg #[.int .i64 0, .int .i64 0]) 2 16 Try.underlying28 HI.out.1 HI.out.2.1 HI.out.2.2.1 HI.out.2.2.2 rfl (by decide) _ _ _ rfl (hown.alloc _) ⟨w6.heap.size, 0, none⟩ 1 1 [.int .i64 R0, .int .i64 R1] rfl rfl ?c1 ?c2 ?c3 ?c4 ?c5 ?_)
          case c1 => exact World.news_of_block (cs := #[.int .i64 R0, .int .i64 R1]) (t := 32) (fr := (0, 0)) (heap_alloc_new w6 _)
          case c2 => intro v hv; simp at hv; rcases hv with rfl | rfl <;> rfl
          case c3 => unfold maxLen; omega
          case c4 => omega
          case c5 => simp; omega
          intro v' w7 hown' hgrow _
          obtain ⟨h3, c3, rfl⟩ := own_some hown' (by omega)
          have H7 : Hid (w7.ownsRow wo.heap.size 32 2 (.slice (some ⟨h3, 0, none⟩) (j + 1) c3) (j + 1) (rats (RR i (j + 1)))) := by
            show World.ownsRow _ _ _ _ _ _ _
            rw [HS.out, rats_snoc]; exact hown'
          have HB7 : Hid (Below wo.heap.size wo w7) := ((HB5.out.trans (hb6.mono hsz5)).alloc (by omega) _).grown hgrow (by simp; omega) (fun k hk => (hown.lt k hk).1)
          clear hown hown' hgrow
          go_wp2_with fail
          go_roundw
          case rel => exact ⟨j + 1, h3, c3, by omega, by go_num, rfl, H7.out, HB7.out⟩
          case measure => simp [intOf]; omega
        · obtain rfl : j = F := by omega
          have hown : wr.ownsRow (w.heap.size + 1) 28 1 (.slice (some ⟨g, 0, none⟩) i cg) i (rs.map slV) := own_below HO.out HB5.out
          have HW5 := Lib.hid (HW.out.below HB5.out)
          have HR6 := Lib.hid (HR5.out.mono (base' := w.heap.size + 1) (by omega))
          clear hB
          go_wp2_with (at_builtin; refine wpList_append_own _ rfl _ _ 76 rfl (w.heap.size + 1) 28 j0 (.slice none 0 0) 1 24 Try.underlying76 HJ.out.1 HJ.out.2.1 HJ.out.2.2.1 HJ.out.2.2.2 rfl (by decide) _ _ _ rfl (hown.alloc _) ⟨wr.heap.size, 0, none⟩ 1 1 [.slice (some ⟨h, 0, none⟩) j ch] rfl rfl ?c1 ?c2 ?c3 ?c4 ?c5 ?_)
          case c1 => exact cell_one_new _ _ _
          case c2 => intro v hv; simp at hv; subst hv; rfl
          case c3 => unfold maxLen; omega
          case c4 => omega
          case c5 => simp; omega
          intro v' w7 hown' hgrow _
          obtain ⟨g3, c3, rfl⟩ := own_some hown' (by omega)
          have H7 : Hid (w7.ownsRow (w.heap.size + 1) 28 1 (.slice (some ⟨g3, 0, none⟩) (i + 1) c3) (i + 1) ((rs ++ [((some ⟨h, 0, none⟩, ch, RR i j) : Option Addr × Nat × List Rz)]).map slV)) := by
            show World.ownsRow _ _ _ _ _ _ _
            rw [List.map_append]
            simpa [slV, HRL.out] using hown'
          have HB7 : Hid (Below (w.heap.size + 1) (NBox M j S a n c w) w7) := (HBW.out.alloc (by omega) _).grown hgrow (by simp; omega) (fun k hk => (hown.lt k hk).1)
          have HW7 : Hid (OwnRowsR w7 (w.heap.size + 1) j (rs ++ [((some ⟨h, 0, none⟩, ch, RR i j) : Option Addr × Nat × List Rz)])) := by
            intro x hx
            have key : ∀ (b c8 : Nat) (xs : List Rz), wr.ownsRow (w.heap.size + 1) 32 2 (.slice (some ⟨b, 0, none⟩) j c8) j (rats xs) → w7.ownsRow (w.heap.size + 1) 32 2 (.slice (some ⟨b, 0, none⟩) j c8) j (rats xs) := fun b c8 xs h8 => (h8.alloc _).kept hgrow (.inr (by simp only [Value.ownBlock]; intro e; exact own_ne h8 hown slR_ne (by simpa using e)))
            rcases List.mem_append.1 hx with hx | hx
            · obtain ⟨b, e1, e2, e3⟩ := HW5.out x hx
              exact ⟨b, e1, e2, key _ _ _ e3⟩
            · simp at hx; subst hx
              exact ⟨h, rfl, HRL.out _ _, key _ _ _ HR6.out⟩
          have HE7 : Hid ((rs ++ [((some ⟨h, 0, none⟩, ch, RR i j) : Option Addr × Nat × List Rz)]).map (fun x => x.2.2) = (List.range (i + 1)).map fun q => RR q j) := by
            show _ = _
            rw [List.map_append, HE.out, List.range_succ, List.map_append]; rfl
          clear hown hown' hgrow
          go_wp2_with fail
          go_roundw
          case rel => exact ⟨i + 1, g3, c3, _, by omega, by go_num, rfl, H7.out, HE7.out, HW7.out, HB7.out⟩
          case measure => simp [intOf]; omega
    · obtain rfl : i = F := by omega
      have hr0 := ArgRow.own HO.out
      go_wp2_with fail
      go_returns
      refine ⟨g, cg, rfl, ⟨rs, by rw [HRM.out]; exact HE.out, hr0, fun x hx => ?_⟩, hB⟩
      obtain ⟨b, e1, e2, e3⟩ := HW.out x hx
      rw [e1, e2]; exact ArgRow.own e3
end Go.Proofs.Ytjchindjoailbaa
