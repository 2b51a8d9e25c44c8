/- Determinants of the program and of the reference. -/
import Derived.Test.YtdmiihljepkapaaDet
import Derived.Test.YtdmiihljepkapaaIntS
import Derived.Test.YtdmiihljepkapaaShelfB
namespace Go.Proofs.Ytdmiihljepkapaa
set_option linter.unusedSimpArgs false
set_option linter.unusedVariables false
open Go.RowKit

theorem ints_map (l : List Int) : l.map (Value.int .i64) = ints l := by
  unfold ints
  induction l with
  | nil => rfl
  | cons a l ih => rw [List.flatMap_cons, ← ih]; rfl
theorem own_some' {w : World} {base : Nat} {e : TypeId} {size : Nat} {v : Value} {n : Nat} {xs : List Value} (h : w.ownsRow base e size v n xs) (hn : 0 < n) : ∃ g c, v = .slice (some ⟨g, 0, none⟩) n c := by
  obtain ⟨_, h⟩ := h
  rcases h with ⟨h, h0⟩ | ⟨g, c, cur, h, _⟩
  · omega
  · exact ⟨_, _, h⟩
theorem ArgRow.tail' {w : World} {b o n c : Nat} {x : Int} {l : List Int} (h : ArgRow w (some ⟨b, o, none⟩) n c 1 (ints (x :: l))) : ArgRow w (some ⟨b, o + 1, none⟩) (n - 1) (c - 1) 1 (ints l) := by
  have hl := h.ints_len
  simp at hl
  obtain ⟨m, rfl⟩ : ∃ m, n = m + 1 := ⟨n - 1, by omega⟩
  exact h.tail

theorem below_cells {B g : Nat} {a : World} (hg : B ≤ g) : ∀ (vs : List Value) (o : Nat) (w : World), Below B a w → Below B a (w.setCells g o vs)
  | [], _, _, h => h
  | v :: vs, o, w, h => below_cells hg vs (o + 1) _ (h.setCell hg v)
theorem sgn_wrap (k : Nat) : wrap64 (-sgn k) = sgn (k + 1) := by
  rw [sgn_next]; rcases sgn_cases k with h | h <;> rw [h] <;> first | decide | (unfold wrap64; omega) | (simp [wrap64])
theorem cloneInts (b o n c : Nat) (l : List Int) (w : World) (hr : ArgRow w (some ⟨b, o, none⟩) n c 1 (ints l)) (hn : n ≤ 1048576) (h0 : 0 < n) :
    Calls Try.prog 176 #[.slice (some ⟨b, o, none⟩) n c] w fun e w' => ∃ g c', e = .returned (.slice (some ⟨g, 0, none⟩) n c') ∧ w'.ownsRow w.heap.size 3 1 (.slice (some ⟨g, 0, none⟩) n c') n (ints l) ∧ Below w.heap.size w w' := by
  have hl := hr.ints_len
  refine (Try.slices_Clone_int b o n c l w (by omega) (by omega) ?_).mono ?_
  · intro j hj
    rw [int_cell hr j hj, List.getD_eq_getElem?_getD, List.getElem?_eq_getElem hj]; rfl
  · rintro e w' ⟨v', rfl, h1, _, h2⟩
    rw [List.take_of_length_le (by omega), ints_map] at h1
    obtain ⟨g, c', rfl⟩ := own_some' h1 h0
    exact ⟨g, c', rfl, h1, h2⟩
theorem delInts (base g n c j : Nat) (l : List Int) (w : World) (hown : w.ownsRow base 3 1 (.slice (some ⟨g, 0, none⟩) n c) n (ints l)) (hj : j < n) :
    Calls Try.prog 175 #[.slice (some ⟨g, 0, none⟩) n c, .int .i64 j, .int .i64 ((j : Int) + 1)] w fun e w' => e = .returned (.slice (some ⟨g, 0, none⟩) (n - 1) c) ∧ ArgRow w' (some ⟨g, 0, none⟩) (n - 1) c 1 (ints (l.eraseIdx j)) ∧ Below base w w' := by
  have r := ArgRow.own hown
  have hl := r.ints_len
  have hcap := r.2.1
  have hmax := r.2.2.1
  have hlt := (own_base hown _ rfl)
  have h := Try.slices_Delete_int_cells g 0 n c j (j + 1) l w (by omega) hcap (by unfold maxLen at hmax; omega) (by omega) (by omega)
    (fun j hj => by rw [int_cell r j hj, List.getD_eq_getElem?_getD, List.getElem?_eq_getElem hj]; rfl)
    (fun j _ => by rw [Nat.zero_add]; exact hown.frozenAt j)
  rw [show ((j + 1 : Nat) : Int) = (j : Int) + 1 from by omega] at h
  refine h.mono ?_
  rintro e w' ⟨rfl, q, rfl⟩
  rw [List.take_of_length_le (Nat.le_of_eq hl), ints_map, show j + 1 - j = 1 from by omega]
  have hv : (ints (l.take j ++ l.drop (j + 1) ++ List.replicate 1 0)).length = n := by rw [ints_len]; simp; omega
  have hs : ∀ i, i < n → ((w.drewN q).cell? ⟨g, 0 + i, none⟩).isSome = true := by
    intro i hi
    show (w.cell? ⟨g, 0 + i, none⟩).isSome = true
    rw [int_cell r i (by omega)]; rfl
  have he : (l.eraseIdx j).length = n - 1 := by rw [List.length_eraseIdx]; split <;> omega
  refine ⟨rfl, ⟨by rw [ints_len, he]; omega, by omega, hmax, ?_⟩, ?_⟩
  · by_cases h1 : n - 1 = 0
    · exact .inl h1
    · refine .inr ⟨g, 0, rfl, ?_, ?_⟩
      · have h9 := World.cell?_setCells_in g (ints (l.take j ++ l.drop (j + 1) ++ List.replicate 1 0)) 0 (w.drewN q) (by rw [hv]; exact hs) 0 (by omega)
        have := World.block_lt_of_cell? _ _ h9
        exact this
      · intro i hi
        rw [ints_len, he] at hi
        rw [World.cell?_setCells_in g _ 0 (w.drewN q) (by rw [hv]; exact hs) i (by omega)]
        rw [ints_at _ i (by simp; omega), ints_at _ i (by omega)]
        congr 2
        rw [List.getElem_append_left (by simp; omega)]
        simp only [List.eraseIdx_eq_take_drop_succ]
  · exact below_cells hlt.1 _ _ _ (below_drewN (Below.refl _ _) q)

set_option maxRecDepth 100000 in
set_option maxHeartbeats 8000000 in
theorem implDet (n : Nat) (M : List (List Int)) (hn : n ≤ 5) (hsq : ∀ r ∈ M, r.length = n) : ∀ (rows cols : List Int) (am ar ac : Option Addr) (cm nr cr nc cc : Nat) (w : World), IGrid w am n cm M → ArgRow w ar nr cr 1 (ints rows) → ArgRow w ac nc cc 1 (ints cols) → nc = nr → nr ≤ 5 → (∀ x ∈ rows, 0 ≤ x ∧ x < n) → (∀ x ∈ cols, 0 ≤ x ∧ x < n) →
    Calls Try.prog 133 #[.slice am n cm, .slice ar nr cr, .slice ac nc cc] w fun e w' => e = .returned (.int .i64 (detW (ent M) rows cols)) ∧ Below w.heap.size w w' := by
  intro rows
  induction rows with
  | nil =>
    intro cols am ar ac cm nr cr nc cc w hM hr hc hlen h5 hrs hcs
    have hl := hr.ints_len
    simp at hl
    subst hl
    clear hM hr hc hrs hcs
    go_enter Try.func133, Try.ntmps133
    go_wp2_with fail
    go_ret
    exact ⟨rfl, Below.refl _ _⟩
  | cons r rs ih =>
    intro cols am ar ac cm nr cr nc cc w hM hr hc hlen h5 hrs hcs
    obtain rfl : nc = nr := hlen
    have hl := hr.ints_len
    simp at hl
    have hlc := hc.ints_len
    have hcr := hr.2.1
    have hml := hM.len
    obtain ⟨br, or', rfl, hbr, _⟩ := hr.form (by omega)
    obtain ⟨bc, oc, rfl, hbc, _⟩ := hc.form (by omega)
    have hr0 := hrs r (by simp)
    obtain ⟨bm, om, rfl, hbm⟩ := hM.form (by omega)
    obtain ⟨r', rfl⟩ : ∃ r' : Nat, r = r' := ⟨r.toNat, by omega⟩
    obtain ⟨a', c', hcell, hrow⟩ := hM.row r' (by omega)
    have hMr := hsq _ (List.getElem_mem (show r' < M.length by omega))
    rw [hMr] at hcell hrow
    obtain ⟨b', o', rfl, hb', _⟩ := hrow.form (by omega)
    have h0 := int_cell hr 0 (by simp)
    simp only [Nat.add_zero, List.getElem_cons_zero] at h0
    have hent : ∀ q' : Nat, q' < n → ∃ x, ent M r' q' = x ∧ w.cell? ⟨b', o' + q', none⟩ = some (.int .i64 x) := by
      intro q' hq'
      refine ⟨_, rfl, ?_⟩
      have h1 : r' < M.length := by omega
      have h2 : q' < M[r'].length := by omega
      rw [int_cell hrow q' h2]
      unfold ent
      simp [List.getD_eq_getElem?_getD, h1, h2]
    have HM := Lib.hid hM
    have HRT := Lib.hid hr.tail'
    have HC := Lib.hid hc
    have HE := Lib.hid hent
    have HCS := Lib.hid hcs
    have KD := Lib.hid (fun (k : Nat) ar' n1 c1 ac' n2 cc' (w' : World) hM' hr' hc' (h1 : n2 = n1) (h2 : n1 ≤ 5) => ih (cols.eraseIdx k) (some ⟨bm, om, none⟩) ar' ac' cm n1 c1 n2 cc' w' hM' hr' hc' h1 h2 (fun x hx => hrs x (by simp [hx])) (fun x hx => hcs x (List.mem_of_mem_eraseIdx hx)))
    have HST := Lib.hid (fun (k : Nat) (x : Int) hx h => @dsum_step (ent M) (detW (ent M) rs) r' cols k x hx h)
    have HZ := Lib.hid (fun (k : Nat) (x : Int) hx h => @dsum_zero (ent M) (detW (ent M) rs) r' cols k x hx h)
    have HD : Hid (detW (ent M) ((r' : Int) :: rs) cols = dsum (ent M) (detW (ent M) rs) r' cols nc) := by show _ = _; rw [← hlc]; rfl
    have hz : dsum (ent M) (detW (ent M) rs) r' cols 0 = 0 := rfl
    generalize dsum (ent M) (detW (ent M) rs) r' cols = ds at HST HZ HD hz
    have HZ0 := Lib.hid hz
    have HLC := Lib.hid hlc
    have hnz : ((nc : Int) == 0) = false := by simp; omega
    clear hM hr hc hent hcs ih hrs hz hlc hrow hsq
    go_enter Try.func133, Try.ntmps133
    go_wp2_with fail
    go_loopw [7, 8, 17] (fun s g v wr => ∃ k : Nat, k ≤ nc ∧ v = .int .i64 k ∧ s = .int .i64 (ds k) ∧ g = .int .i64 (sgn k) ∧ Hid (Below w.heap.size w wr)) (fun _ _ v _ => nc - (intOf v).toNat)
    case atStart => exact ⟨0, by omega, rfl, by rw [HZ0.out], rfl, Below.refl _ _⟩
    case round =>
      obtain ⟨k, hk, rfl, rfl, rfl, HB⟩ := hrel
      by_cases hlt : k < nc
      · have hli : k < cols.length := by rw [HLC.out]; exact hlt
        have c1 := int_cell HC.out k hli
        have hcb := HCS.out cols[k] (List.getElem_mem _)
        have HG : Hid (cols.getD k 0 = cols[k]) := by show _ = _; rw [List.getD_eq_getElem?_getD, List.getElem?_eq_getElem hli]; rfl
        generalize cols[k] = q at c1 hcb HG
        obtain ⟨q', rfl⟩ : ∃ q' : Nat, q = q' := ⟨q.toNat, by omega⟩
        obtain ⟨x, hx, c2⟩ := HE.out q' (by omega)
        have HX : Hid (ent M r' (cols.getD k 0) = x) := by show _ = _; rw [HG.out]; exact hx
        have d0 := h0
        have d1 := hcell
        rw [← HB.out.cell (p := ⟨br, _, none⟩) hbr] at d0
        rw [← HB.out.cell (p := ⟨bm, _, none⟩) hbm] at d1
        rw [← HB.out.cell (p := ⟨bc, _, none⟩) hbc] at c1
        rw [← HB.out.cell (p := ⟨b', _, none⟩) hb'] at c2
        have hq' : q' < n := by omega
        clear hli hx hcb
        by_cases h0x : x = 0
        · have HV := Lib.hid (HZ.out k x HX.out h0x)
          have HSG := Lib.hid (sgn_wrap k)
          have hx0 : (x != 0) = false := by simp [h0x]
          clear h0x
          go_wp2_with fail
          go_roundw
          case rel => exact ⟨k + 1, by omega, by go_num, by rw [HV.out], by rw [HSG.out], HB.out⟩
          case measure => simp [intOf]; omega
        · have HV := Lib.hid (HST.out k x HX.out h0x)
          have HSG := Lib.hid (sgn_wrap k)
          have hx0 : (x != 0) = true := by simp [h0x]
          have HCW := Lib.hid (HC.out.below HB.out)
          have HMW := Lib.hid (HM.out.below HB.out)
          have HRW := Lib.hid (HRT.out.below HB.out)
          have hnr1 : 1 ≤ nc := by omega
          have hs1 : IntKind.i64.wrap ((k : Int) + 1) = (k : Int) + 1 := IntWalk.i64_in _ (by omega)
          clear h0x
          by_cases hcr1 : cr = 1
          · subst hcr1
            have hrs0 : rs = [] := List.length_eq_zero_iff.1 (by omega)
            subst hrs0
            have HRZ : Hid (∀ w' : World, ArgRow w' (some ⟨br, or', none⟩) 0 0 1 (ints [])) := fun w' => ⟨rfl, Nat.le_refl _, Nat.zero_le _, .inl rfl⟩
            go_wp2_with fail
            go_region_with (first
              | (go_at_call 176; (with_reducible refine (cloneInts bc oc nc cc cols _ (HCW.out.below (by (repeat' (first | (with_reducible exact Below.refl _ _) | (with_reducible assumption) | (with_reducible refine balloc ?_ _) | (with_reducible refine Below.drew ?_) | (with_reducible refine below_drewN ?_ _) | (with_reducible refine bset ?_ ?_ _) | (with_reducible refine bstep ?_ (by assumption)) | go_size)))) (by omega) (by omega)).mono ?_); rintro e w1 ⟨g1, c1', rfl, o1, hb1⟩; (try (replace hb1 := bdrew hb1)))
              | (go_at_call 175; (with_reducible refine (delInts _ g1 nc c1' k cols _ o1 hlt).mono ?_); rintro e w2 ⟨rfl, o2, hb2⟩; have hb12 : Below wr.heap.size wr w2 := hb1.trans hb2; have o3 : ArgRow w2 (some ⟨g1, 0, none⟩) 0 c1' 1 (ints (cols.eraseIdx k)) := (by rw [show nc - 1 = 0 from by omega] at o2; exact o2))
              | (go_at_call 133; (with_reducible refine (KD.out k (some ⟨br, or', none⟩) 0 0 (some ⟨g1, 0, none⟩) 0 c1' _ (HMW.out.below hb12) (HRZ.out _) o3 rfl (by omega)).mono ?_); rintro e w3 ⟨rfl, hb3⟩))
            all_goals
              go_wp2_with fail
              go_roundw
              case rel => exact ⟨k + 1, by omega, by go_num, by (first | rw [HV.out] | (rw [HV.out]; simp only [wrap64, IntKind.wrap_i64])), by (first | rw [HSG.out] | (rw [← HSG.out]; simp only [wrap64, IntKind.wrap_i64])), bstep (bstep HB.out hb12) hb3⟩
              case measure => simp [intOf]; omega
          have hcr2 : ¬ cr - 1 = 0 := by omega
          go_wp2_with fail
          go_region_with (first
            | (go_at_call 176; (with_reducible refine (cloneInts bc oc nc cc cols _ (HCW.out.below (by (repeat' (first | (with_reducible exact Below.refl _ _) | (with_reducible assumption) | (with_reducible refine balloc ?_ _) | (with_reducible refine Below.drew ?_) | (with_reducible refine below_drewN ?_ _) | (with_reducible refine bset ?_ ?_ _) | (with_reducible refine bstep ?_ (by assumption)) | go_size)))) (by omega) (by omega)).mono ?_); rintro e w1 ⟨g1, c1', rfl, o1, hb1⟩; (try (replace hb1 := bdrew hb1)))
            | (go_at_call 175; (with_reducible refine (delInts _ g1 nc c1' k cols _ o1 hlt).mono ?_); rintro e w2 ⟨rfl, o2, hb2⟩; have hb12 : Below wr.heap.size wr w2 := hb1.trans hb2)
            | (go_at_call 133; (with_reducible refine (KD.out k (some ⟨br, or' + 1, none⟩) (nc - 1) (cr - 1) (some ⟨g1, 0, none⟩) (nc - 1) c1' _ (HMW.out.below hb12) (HRW.out.below hb12) o2 rfl (by omega)).mono ?_); rintro e w3 ⟨rfl, hb3⟩))
          all_goals
            go_wp2_with fail
            go_roundw
            case rel => exact ⟨k + 1, by omega, by go_num, by (first | rw [HV.out] | (rw [HV.out]; simp only [wrap64, IntKind.wrap_i64])), by (first | rw [HSG.out] | (rw [← HSG.out]; simp only [wrap64, IntKind.wrap_i64])), bstep (bstep HB.out hb12) hb3⟩
            case measure => simp [intOf]; omega
      · obtain rfl : k = nc := by omega
        go_wp2_with fail
        go_ret
        exact ⟨by rw [HD.out]; rfl, HB.out⟩
end Go.Proofs.Ytdmiihljepkapaa
