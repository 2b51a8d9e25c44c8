/- Determinants of the program and of the reference. -/
import Derived.Test.YtjchindjoailbaaG01
import Derived.Test.YtjchindjoailbaaG02
import Derived.Test.YtjchindjoailbaaG11
import Derived.Lib.SliceRun
namespace Go.Proofs.Ytjchindjoailbaa
set_option linter.unusedSimpArgs false
set_option linter.unusedVariables false
open Go.RowKit

theorem ints_map (l : List Int) : l.map (Value.int .i64) = ints l := by
  unfold ints
  induction l with
  | nil => rfl
  | cons a l ih => rw [List.flatMap_cons, ← ih]; rfl
theorem own_some' {w : World} {base : Nat} {e : TypeId} {size : Nat} {v : Value} {n : Nat} {xs : List Value} (h : w.ownsRow base e size v n xs) (hn : 0 < n) : ∃ g c, v = .slice (some ⟨g, 0, none⟩) n c := by
  obtain ⟨_, h⟩ := h
  rcases h with ⟨h, h0⟩ | ⟨g, c, cur, h, _⟩
  · omega
  · exact ⟨_, _, h⟩
theorem ArgRow.tail' {w : World} {b o n c : Nat} {x : Int} {l : List Int} (h : ArgRow w (some ⟨b, o, none⟩) n c 1 (ints (x :: l))) : ArgRow w (some ⟨b, o + 1, none⟩) (n - 1) (c - 1) 1 (ints l) := by
  have hl := h.ints_len
  simp at hl
  obtain ⟨m, rfl⟩ : ∃ m, n = m + 1 := ⟨n - 1, by omega⟩
  exact h.tail

theorem below_cells {B g : Nat} {a : World} (hg : B ≤ g) : ∀ (vs : List Value) (o : Nat) (w : World), Below B a w → Below B a (w.setCells g o vs)
  | [], _, _, h => h
  | v :: vs, o, w, h => below_cells hg vs (o + 1) _ (h.setCell hg v)
theorem sgn_wrap (k : Nat) : wrap64 (-sgn k) = sgn (k + 1) := by
  rw [sgn_next]; rcases sgn_cases k with h | h <;> rw [h] <;> first | decide | (unfold wrap64; omega) | (simp [wrap64])
theorem cloneInts (b o n c : Nat) (l : List Int) (w : World) (hr : ArgRow w (some ⟨b, o, none⟩) n c 1 (ints l)) (hn : n ≤ 1048576) (h0 : 0 < n) :
    Calls Try.prog 164 #[.slice (some ⟨b, o, none⟩) n c] w fun e w' => ∃ g c', e = .returned (.slice (some ⟨g, 0, none⟩) n c') ∧ w'.ownsRow w.heap.size 3 1 (.slice (some ⟨g, 0, none⟩) n c') n (ints l) ∧ Below w.heap.size w w' := by
  have hl := hr.ints_len
  refine (Try.slices_Clone_int b o n c l w (by omega) (by omega) ?_).mono ?_
  · intro j hj
    rw [int_cell hr j hj, List.getD_eq_getElem?_getD, List.getElem?_eq_getElem hj]; rfl
  · rintro e w' ⟨v', rfl, h1, _, h2⟩
    rw [List.take_of_length_le (by omega), ints_map] at h1
    obtain ⟨g, c', rfl⟩ := own_some' h1 h0
    exact ⟨g, c', rfl, h1, h2⟩
theorem delInts (base g n c j : Nat) (l : List Int) (w : World) (hown : w.ownsRow base 3 1 (.slice (some ⟨g, 0, none⟩) n c) n (ints l)) (hj : j < n) :
    Calls Try.prog 163 #[.slice (some ⟨g, 0, none⟩) n c, .int .i64 j, .int .i64 ((j : Int) + 1)] w fun e w' => e = .returned (.slice (some ⟨g, 0, none⟩) (n - 1) c) ∧ ArgRow w' (some ⟨g, 0, none⟩) (n - 1) c 1 (ints (l.eraseIdx j)) ∧ Below base w w' := by
  have r := ArgRow.own hown
  have hl := r.ints_len
  have hcap := r.2.1
  have hmax := r.2.2.1
  have hlt := (own_base hown _ rfl)
  have h := Try.slices_Delete_int_cells g 0 n c j (j + 1) l w (by omega) hcap (by unfold maxLen at hmax; omega) (by omega) (by omega)
    (fun j hj => by rw [int_cell r j hj, List.getD_eq_getElem?_getD, List.getElem?_eq_getElem hj]; rfl)
    (fun j _ => by rw [Nat.zero_add]; exact hown.frozenAt j)
  rw [show ((j + 1 : Nat) : Int) = (j : Int) + 1 from by omega] at h
  refine h.mono ?_
  rintro e w' ⟨rfl, q, rfl⟩
  rw [List.take_of_length_le (Nat.le_of_eq hl), ints_map, show j + 1 - j = 1 from by omega]
  have hv : (ints (l.take j ++ l.drop (j + 1) ++ List.replicate 1 0)).length = n := by rw [ints_len]; simp; omega
  have hs : ∀ i, i < n → ((w.drewN q).cell? ⟨g, 0 + i, none⟩).isSome = true := by
    intro i hi
    show (w.cell? ⟨g, 0 + i, none⟩).isSome = true
    rw [int_cell r i (by omega)]; rfl
  have he : (l.eraseIdx j).length = n - 1 := by rw [List.length_eraseIdx]; split <;> omega
  refine ⟨rfl, ⟨by rw [ints_len, he]; omega, by omega, hmax, ?_⟩, ?_⟩
  · by_cases h1 : n - 1 = 0
    · exact .inl h1
    · refine .inr ⟨g, 0, rfl, ?_, ?_⟩
      · have h9 := World.cell?_setCells_in g (ints (l.take j ++ l.drop (j + 1) ++ List.replicate 1 0)) 0 (w.drewN q) (by rw [hv]; exact hs) 0 (by omega)
        have := World.block_lt_of_cell? _ _ h9
        exact this
      · intro i hi
        rw [ints_len, he] at hi
        rw [World.cell?_setCells_in g _ 0 (w.drewN q) (by rw [hv]; exact hs) i (by omega)]
        rw [ints_at _ i (by simp; omega), ints_at _ i (by omega)]
        congr 2
        rw [List.getElem_append_left (by simp; omega)]
        simp only [List.eraseIdx_eq_take_drop_succ]
  · exact below_cells hlt.1 _ _ _ (below_drewN (Below.refl _ _) q)

set_option maxRecDepth 100000 in
set_option maxHeartbeats 8000000 in
theorem implDet (n : Nat) (M : List (List Int)) (hn : n ≤ 5) (hsq : ∀ r ∈ M, r.length = n) : ∀ (rows cols : List Int) (am ar ac : Option Addr) (cm nr cr nc cc : Nat) (w : World), IGrid w am n cm M → ArgRow w ar nr cr 1 (ints rows) → ArgRow w ac nc cc 1 (ints cols) → nc = nr → nr ≤ 5 → (∀ x ∈ rows, 0 ≤ x ∧ x < n) → (∀ x ∈ cols, 0 ≤ x ∧ x < n) →
    Calls Try.prog 139 #[.slice am n cm, .slice ar nr cr, .slice ac nc cc] w fun e w' => e = .returned (.int .i64 (detW (ent M) rows cols)) ∧ Below w.heap.size w w' := by
  intro rows
  induction rows with
  | nil =>
    intro cols am ar ac cm nr cr nc cc w hM hr hc hlen h5 hrs hcs
    have hl := hr.ints_len
    simp at hl
    subst hl
    clear hM hr hc hrs hcs
    go_enter Try.func139, Try.ntmps139
    go_wp2_with fail
    go_ret
    exact ⟨rfl, Below.refl _ _⟩
  | cons r rs ih =>
    intro cols am ar ac cm nr cr nc cc w hM hr hc hlen h5 hrs hcs
    obtain rfl : nc = nr := hlen
    have hl := hr.ints_len
    simp at hl
    have hlc := hc.ints_len
    have hcr := hr.2.1
    have hml := hM.len
    obtain ⟨br, or', rfl, hbr, _⟩ := hr.form (by omega)
    obtain ⟨bc, oc, rfl, hbc, _⟩ := hc.form (by omega)
    have hr0 := hrs r (by simp)
    obtain ⟨bm, om, rfl, hbm⟩ := hM.form (by omega)
    obtain ⟨r', rfl⟩ : ∃ r' : Nat, r = r' := ⟨r.toNat, by omega⟩
    obtain ⟨a', c', hcell, hrow⟩ := hM.row r' (by omega)
    have hMr := hsq _ (List.getElem_mem (show r' < M.length by omega))
    rw [hMr] at hcell hrow
    obtain ⟨b', o', rfl, hb', _⟩ := hrow.form (by omega)
    have h0 := int_cell hr 0 (by simp)
    simp only [Nat.add_zero, List.getElem_cons_zero] at h0
    have hent : ∀ q' : Nat, q' < n → ∃ x, ent M r' q' = x ∧ w.cell? ⟨b', o' + q', none⟩ = some (.int .i64 x) := by
      intro q' hq'
      refine ⟨_, rfl, ?_⟩
      have h1 : r' < M.length := by omega
      have h2 : q' < M[r'].length := by omega
      rw [int_cell hrow q' h2]
      unfold ent
      simp [List.getD_eq_getElem?_getD, h1, h2]
    have HM := Lib.hid hM
    have HRT := Lib.hid hr.tail'
    have HC := Lib.hid hc
    have HE := Lib.hid hent
    have HCS := Lib.hid hcs
    have KD := Lib.hid (fun (k : Nat) ar' n1 c1 ac' n2 cc' (w' : World) hM' hr' hc' (h1 : n2 = n1) (h2 : n1 ≤ 5) => ih (cols.eraseIdx k) (some ⟨bm, om, none⟩) ar' ac' cm n1 c1 n2 cc' w' hM' hr' hc' h1 h2 (fun x hx => hrs x (by simp [hx])) (fun x hx => hcs x (List.mem_of_mem_eraseIdx hx)))
    have HST := Lib.hid (fun (k : Nat) (x : Int) hx h => @dsum_step (ent M) (detW (ent M) rs) r' cols k x hx h)
    have HZ := Lib.hid (fun (k : Nat) (x : Int) hx h => @dsum_zero (ent M) (detW (ent M) rs) r' cols k x hx h)
    have HD : Hid (detW (ent M) ((r' : Int) :: rs) cols = dsum (ent M) (detW (ent M) rs) r' cols nc) := by show _ = _; rw [← hlc]; rfl
    have hz : dsum (ent M) (detW (ent M) rs) r' cols 0 = 0 := rfl
    generalize dsum (ent M) (detW (ent M) rs) r' cols = ds at HST HZ HD hz
    have HZ0 := Lib.hid hz
    have HLC := Lib.hid hlc
    have hnz : ((nc : Int) == 0) = false := by simp; omega
    clear hM hr hc hent hcs ih hrs hz hlc hrow hsq
    go_enter Try.func139, Try.ntmps139
    go_wp2_with fail
    go_loopw [7, 8, 17] (fun s g v wr => ∃ k : Nat, k ≤ nc ∧ v = .int .i64 k ∧ s = .int .i64 (ds k) ∧ g = .int .i64 (sgn k) ∧ Hid (Below w.heap.size w wr)) (fun _ _ v _ => nc - (intOf v).toNat)
    case atStart => exact ⟨0, by omega, rfl, by rw [HZ0.out], rfl, Below.refl _ _⟩
    case round =>
      obtain ⟨k, hk, rfl, rfl, rfl, HB⟩ := hrel
      by_cases hlt : k < nc
      · have hli : k < cols.length := by rw [HLC.out]; exact hlt
        have c1 := int_cell HC.out k hli
        have hcb := HCS.out cols[k] (List.getElem_mem _)
        have HG : Hid (cols.getD k 0 = cols[k]) := by show _ = _; rw [List.getD_eq_getElem?_getD, List.getElem?_eq_getElem hli]; rfl
        generalize cols[k] = q at c1 hcb HG
        obtain ⟨q', rfl⟩ : ∃ q' : Nat, q = q' := ⟨q.toNat, by omega⟩
        obtain ⟨x, hx, c2⟩ := HE.out q' (by omega)
        have HX : Hid (ent M r' (cols.getD k 0) = x) := by show _ = _; rw [HG.out]; exact hx
        have d0 := h0
        have d1 := hcell
        rw [← HB.out.cell (p := ⟨br, _, none⟩) hbr] at d0
        rw [← HB.out.cell (p := ⟨bm, _, none⟩) hbm] at d1
        rw [← HB.out.cell (p := ⟨bc, _, none⟩) hbc] at c1
        rw [← HB.out.cell (p := ⟨b', _, none⟩) hb'] at c2
        have hq' : q' < n := by omega
        clear hli hx hcb
        by_cases h0x : x = 0
        · have HV := Lib.hid (HZ.out k x HX.out h0x)
          have HSG := Lib.hid (sgn_wrap k)
          have hx0 : (x != 0) = false := by simp [h0x]
          clear h0x
          go_wp2_with fail
          go_roundw
          case rel => exact ⟨k + 1, by omega, by go_num, by rw [HV.out], by rw [HSG.out], HB.out⟩
          case measure => simp [intOf]; omega
        · have HV := Lib.hid (HST.out k x HX.out h0x)
          have HSG := Lib.hid (sgn_wrap k)
          have hx0 : (x != 0) = true := by simp [h0x]
          have HCW := Lib.hid (HC.out.below HB.out)
          have HMW := Lib.hid (HM.out.below HB.out)
          have HRW := Lib.hid (HRT.out.below HB.out)
          have hnr1 : 1 ≤ nc := by omega
          have hs1 : IntKind.i64.wrap ((k : Int) + 1) = (k : Int) + 1 := IntWalk.i64_in _ (by omega)
          clear h0x
          by_cases hcr1 : cr = 1
          · subst hcr1
            have hrs0 : rs = [] := List.length_eq_zero_iff.1 (by omega)
            subst hrs0
            have HRZ : Hid (∀ w' : World, ArgRow w' (some ⟨br, or', none⟩) 0 0 1 (ints [])) := fun w' => ⟨rfl, Nat.le_refl _, Nat.zero_le _, .inl rfl⟩
            go_wp2_with fail
            go_region_with (first
              | (go_at_call 164; (with_reducible refine (cloneInts bc oc nc cc cols _ (HCW.out.below (by (repeat' (first | (with_reducible exact Below.refl _ _) | (with_reducible assumption) | (with_reducible refine balloc ?_ _) | (with_reducible refine Below.drew ?_) | (with_reducible refine below_drewN ?_ _) | (with_reducible refine bset ?_ ?_ _) | (with_reducible refine bstep ?_ (by assumption)) | go_size)))) (by omega) (by omega)).mono ?_); rintro e w1 ⟨g1, c1', rfl, o1, hb1⟩; (try (replace hb1 := bdrew hb1)))
              | (go_at_call 163; (with_reducible refine (delInts _ g1 nc c1' k cols _ o1 hlt).mono ?_); rintro e w2 ⟨rfl, o2, hb2⟩; have hb12 : Below wr.heap.size wr w2 := hb1.trans hb2; have o3 : ArgRow w2 (some ⟨g1, 0, none⟩) 0 c1' 1 (ints (cols.eraseIdx k)) := (by rw [show nc - 1 = 0 from by omega] at o2; exact o2))
              | (go_at_call 139; (with_reducible refine (KD.out k (some ⟨br, or', none⟩) 0 0 (some ⟨g1, 0, none⟩) 0 c1' _ (HMW.out.below hb12) (HRZ.out _) o3 rfl (by omega)).mono ?_); rintro e w3 ⟨rfl, hb3⟩))
            all_goals
              go_wp2_with fail
              go_roundw
              case rel => exact ⟨k + 1, by omega, by go_num, by (first | rw [HV.out] | (rw [HV.out]; simp only [wrap64, IntKind.wrap_i64])), by (first | rw [HSG.out] | (rw [← HSG.out]; simp only [wrap64, IntKind.wrap_i64])), bstep (bstep HB.out hb12) hb3⟩
              case measure => simp [intOf]; omega
          have hcr2 : ¬ cr - 1 = 0 := by omega
          go_wp2_with fail
          go_region_with (first
            | (go_at_call 164; (with_reducible refine (cloneInts bc oc nc cc cols _ (HCW.out.below (by (repeat' (first | (with_reducible exact Below.refl _ _) | (with_reducible assumption) | (with_reducible refine balloc ?_ _) | (with_reducible refine Below.drew ?_) | (with_reducible refine below_drewN ?_ _) | (with_reducible refine bset ?_ ?_ _) | (with_reducible refine bstep ?_ (by assumption)) | go_size)))) (by omega) (by omega)).mono ?_); rintro e w1 ⟨g1, c1', rfl, o1, hb1⟩; (try (replace hb1 := bdrew hb1)))
            | (go_at_call 163; (with_reducible refine (delInts _ g1 nc c1' k cols _ o1 hlt).mono ?_); rintro e w2 ⟨rfl, o2, hb2⟩; have hb12 : Below wr.heap.size wr w2 := hb1.trans hb2)
            | (go_at_call 139; (with_reducible refine (KD.out k (some ⟨br, or' + 1, none⟩) (nc - 1) (cr - 1) (some ⟨g1, 0, none⟩) (nc - 1) c1' _ (HMW.out.below hb12) (HRW.out.below hb12) o2 rfl (by omega)).mono ?_); rintro e w3 ⟨rfl, hb3⟩))
          all_goals
            go_wp2_with fail
            go_roundw
            case rel => exact ⟨k + 1, by omega, by go_num, by (first | rw [HV.out] | (rw [HV.out]; simp only [wrap64, IntKind.wrap_i64])), by (first | rw [HSG.out] | (rw [← HSG.out]; simp only [wrap64, IntKind.wrap_i64])), bstep (bstep HB.out hb12) hb3⟩
            case measure => simp [intOf]; omega
      · obtain rfl : k = nc := by omega
        go_wp2_with fail
        go_ret
        exact ⟨by rw [HD.out]; rfl, HB.out⟩
end Go.Proofs.Ytjchindjoailbaa

/- Minors of a network's table, and the sums over trees: the program's and the reference's. -/
namespace Go.Proofs.Ytjchindjoailbaa
set_option linter.unusedSimpArgs false
set_option linter.unusedVariables false
open Go.RowKit

theorem PG.grid {w : World} {base g N : Nat} {r : Nat → Nat} {f : Int → Int → Int} (h : PG w base g N N r (fun i j => f i j)) (hN : N ≤ maxLen) : IGrid w (some ⟨g, 0, none⟩) N N (tab N f) := by
  refine ⟨(List.range N).map fun i => (some ⟨r i, 0, none⟩, N, (upto N).map fun j => f i j), ?_, ⟨?_, Nat.le_refl _, hN, ?_⟩, ?_⟩
  · simp [tab, upto, Function.comp_def]
  · simp
  · by_cases h0 : N = 0
    · exact .inl h0
    · refine .inr ⟨g, 0, rfl, h.og.lt, fun j hj => ?_⟩
      simp at hj
      rw [Nat.zero_add, h.outer hj]
      simp [slV, upto_len]
  · intro x hx
    simp only [List.mem_map, List.mem_range] at hx
    obtain ⟨i, hi, rfl⟩ := hx
    refine ⟨by show (ints _).length = _; rw [ints_len]; simp [upto_len], by simp [upto_len], hN, .inr ⟨r i, 0, rfl, (h.rows i hi).lt, fun j hj => ?_⟩⟩
    have hj' : j < N := by have : j < (ints ((upto N).map fun j => f i j)).length := hj; rw [ints_len] at this; simpa [upto_len] using this
    have e : (ints ((upto N).map fun j => f i j))[j]? = some (.int .i64 (f i j)) := by
      rw [List.getElem?_eq_getElem (by rw [ints_len]; simp [upto_len]; exact hj'), ints_at _ j (by simp [upto_len]; exact hj')]
      simp [upto_at]
    obtain ⟨h1, h2⟩ := List.getElem?_eq_some_iff.1 e
    rw [Nat.zero_add, h.cell hi hj']
    exact congrArg some h2.symm
theorem tab_sq (N : Nat) (f : Int → Int → Int) : ∀ r ∈ tab N f, r.length = N := by
  intro r hr
  simp only [tab, List.mem_map] at hr
  obtain ⟨i, _, rfl⟩ := hr
  simp [upto_len]
set_option maxRecDepth 100000 in
set_option maxHeartbeats 8000000 in
theorem implLeft (M : Nat) (E S : Int) (a : Option Addr) (n c : Nat) (l : List Wz) (g1 g2 nr cr nc cc : Nat) (rows cols : List Int) (hlen : (others M rows).length = (others M cols).length) (hok : NetOk M E S l) (w : World) (hr : ArgRow w a n c 3 (wires l)) (hl : l.length = n) (h1 : ArgRow w (some ⟨g1, 0, none⟩) nr cr 1 (ints rows)) (h2 : ArgRow w (some ⟨g2, 0, none⟩) nc cc 1 (ints cols)) :
    Calls Try.prog 104 #[netV M E S a n c, .slice (some ⟨g1, 0, none⟩) nr cr, .slice (some ⟨g2, 0, none⟩) nc cc] w fun e w' => e = .returned (.int .i64 (leftW M l rows cols)) ∧ Below w.heap.size w w' := by
  have hM5 : M ≤ 5 := by have := hok.h.n5; omega
  have hMx : M ≤ maxLen := by unfold maxLen; omega
  have HR := Lib.hid hr
  have H1 := Lib.hid h1
  have H2 := Lib.hid h2
  have KL := Lib.hid (fun (w : World) r => implLapl M E S a n c l hok w r hl)
  have KR := Lib.hid (fun (w : World) r => implOthers M E S a n c (some ⟨g1, 0, none⟩) nr cr rows hM5 w r)
  have KC := Lib.hid (fun (w : World) r => implOthers M E S a n c (some ⟨g2, 0, none⟩) nc cc cols hM5 w r)
  have KD := Lib.hid (fun am arr acc cm crr ccc (w : World) hm h1 h2 => implDet M (tab M (lapE l)) hM5 (tab_sq M _) (others M rows) (others M cols) am arr acc cm (others M rows).length crr (others M cols).length ccc w hm h1 h2 hlen.symm (by have := others_len M rows; omega) (fun x hx => others_mem hx) (fun x hx => others_mem hx))
  have HV : Hid (detW (ent (tab M (lapE l))) (others M rows) (others M cols) = leftW M l rows cols) := rfl
  generalize detW (ent (tab M (lapE l))) (others M rows) (others M cols) = D at KD HV
  clear hr h1 h2 hok hlen
  go_enter Try.func104, Try.ntmps104
  go_wp2_with fail
  go_region_held3 (fun w' => w'.cell? ⟨w.heap.size, 0, none⟩ = some (.int .i64 M) ∧ w'.cell? ⟨w.heap.size, 1, none⟩ = some (.int .i64 E) ∧ w'.cell? ⟨w.heap.size, 2, none⟩ = some (.int .i64 S) ∧ w'.cell? ⟨w.heap.size, 3, none⟩ = some (.slice a n c)) (go_keep)
    ((first
    | (go_at_call 140; ((with_reducible refine (KL.out _ (HR.out.below (by (repeat' (first | (with_reducible exact Below.refl _ _) | (with_reducible assumption) | (with_reducible refine balloc ?_ _) | (with_reducible refine Below.drew ?_) | (with_reducible refine below_drewN ?_ _) | (with_reducible refine bset ?_ ?_ _) | (with_reducible refine bstep ?_ (by assumption)) | go_size))))).mono ?_); rintro e wL ⟨gL, rL, rfl, oL, hbL⟩); (try (replace hbL := bdrew hbL)); have GL := Lib.hid (PG.grid oL hMx); clear oL; (try (have hq_ := bltn hbL (b := w.heap.size) (by (first | omega | (simp only [World.size_alloc, World.size_setCell, World.size_drew, World.heap_drewN]; omega))); obtain ⟨uu, vv, zz, nn, mm⟩ := hq_)))
    | (go_at_call_of 141 g1; ((with_reducible refine (KR.out _ (H1.out.below (by (repeat' (first | (with_reducible exact Below.refl _ _) | (with_reducible assumption) | (with_reducible refine balloc ?_ _) | (with_reducible refine Below.drew ?_) | (with_reducible refine below_drewN ?_ _) | (with_reducible refine bset ?_ ?_ _) | (with_reducible refine bstep ?_ (by assumption)) | go_size))))).mono ?_); rintro e wA ⟨gA, cA, rfl, oA, hbA⟩); (try (replace hbA := bdrew hbA)); have RA := Lib.hid (ArgRow.own oA); clear oA; (try (have hq_ := bltn hbA (b := w.heap.size) (by (first | omega | (simp only [World.size_alloc, World.size_setCell, World.size_drew, World.heap_drewN]; omega))); obtain ⟨uu, vv, zz, nn, mm⟩ := hq_)))
    | (go_at_call_of 141 g2; ((with_reducible refine (KC.out _ (H2.out.below (by (repeat' (first | (with_reducible exact Below.refl _ _) | (with_reducible assumption) | (with_reducible refine balloc ?_ _) | (with_reducible refine Below.drew ?_) | (with_reducible refine below_drewN ?_ _) | (with_reducible refine bset ?_ ?_ _) | (with_reducible refine bstep ?_ (by assumption)) | go_size))))).mono ?_); rintro e wB ⟨gB, cB, rfl, oB, hbB⟩); (try (replace hbB := bdrew hbB)); have RB := Lib.hid (ArgRow.own oB); clear oB; (try (have hq_ := bltn hbB (b := w.heap.size) (by (first | omega | (simp only [World.size_alloc, World.size_setCell, World.size_drew, World.heap_drewN]; omega))); obtain ⟨uu, vv, zz, nn, mm⟩ := hq_)))
    | (go_at_call 139; ((with_reducible refine (KD.out (some ⟨gL, 0, none⟩) (some ⟨gA, 0, none⟩) (some ⟨gB, 0, none⟩) M cA cB _
        (by first | exact GL.out | exact GL.out.below hbA | exact GL.out.below hbB | exact (GL.out.below hbA).below hbB | exact (GL.out.below hbB).below hbA)
        (by first | exact RA.out | exact RA.out.below hbL | exact RA.out.below hbB | exact (RA.out.below hbL).below hbB | exact (RA.out.below hbB).below hbL)
        (by first | exact RB.out | exact RB.out.below hbA | exact RB.out.below hbL | exact (RB.out.below hbA).below hbL | exact (RB.out.below hbL).below hbA)).mono ?_); rintro e wD ⟨rfl, hbD⟩); (try (have hq_ := bltn hbD (b := w.heap.size) (by (first | omega | (simp only [World.size_alloc, World.size_setCell, World.size_drew, World.heap_drewN]; omega))); obtain ⟨uu, vv, zz, nn, mm⟩ := hq_)))))
  all_goals
    go_wp2_with fail
    go_ret
    exact ⟨by rw [← HV.out]; rfl, by (repeat' (first | (with_reducible exact Below.refl _ _) | (with_reducible assumption) | (with_reducible refine balloc ?_ _) | (with_reducible refine Below.drew ?_) | (with_reducible refine below_drewN ?_ _) | (with_reducible refine bset ?_ ?_ _) | (with_reducible refine bstep ?_ (by assumption)) | go_size))⟩
end Go.Proofs.Ytjchindjoailbaa

/- Sums over trees: the program's. -/
namespace Go.Proofs.Ytjchindjoailbaa
set_option linter.unusedSimpArgs false
set_option linter.unusedVariables false
open Go.RowKit

theorem others_pair : ∀ M : Nat, M < 6 → ∀ a : Nat, a < M → ∀ b : Nat, b < M → a ≠ b → (others M [(a : Int), (b : Int)]).length = M - 2 := by decide +kernel
theorem others_two {M : Nat} {a b : Int} (hM : M ≤ 5) (ha : 0 ≤ a ∧ a < M) (hb : 0 ≤ b ∧ b < M) (hab : a ≠ b) : (others M [a, b]).length = M - 2 := by
  obtain ⟨a', rfl⟩ : ∃ a' : Nat, a = a' := ⟨a.toNat, by omega⟩
  obtain ⟨b', rfl⟩ : ∃ b' : Nat, b = b' := ⟨b.toNat, by omega⟩
  exact others_pair M (by omega) a' (by omega) b' (by omega) (by omega)
theorem row_one (w : World) (x : Int) : ArgRow (w.alloc (.cells #[.int .i64 x] 3)) (some ⟨w.heap.size, 0, none⟩) 1 1 1 (ints [x]) := by
  have := World.ownsRow_lit (base := w.heap.size) (size := 1) (e := 3) w #[.int .i64 x] 1 (Nat.le_refl _) (by unfold maxLen; omega) rfl
  exact .of (own_row this)
theorem row_two (w : World) (x y : Int) : ArgRow (w.alloc (.cells #[.int .i64 x, .int .i64 y] 3)) (some ⟨w.heap.size, 0, none⟩) 2 2 1 (ints [x, y]) := by
  have := World.ownsRow_lit (base := w.heap.size) (size := 1) (e := 3) w #[.int .i64 x, .int .i64 y] 2 (Nat.le_refl _) (by unfold maxLen; omega) rfl
  exact .of (own_row this)
set_option maxHeartbeats 1000000 in
theorem implIsNode (N E S : Int) (a : Option Addr) (n c : Nat) (v : Int) (b : Bool) (hb : b = true ↔ 0 ≤ v ∧ v < N) (w : World) :
    Calls Try.prog 77 #[netV N E S a n c, .int .i64 v] w fun e w' => e = .returned (.bool b) ∧ Below w.heap.size w w' := by
  by_cases h1 : 0 ≤ v
  · by_cases h2 : v < N
    · have : b = true := hb.2 ⟨h1, h2⟩
      subst this
      clear hb
      go_enter Try.func77, Try.ntmps77
      go_wp2_with fail
      go_ret
      exact ⟨rfl, by (repeat' (first | (with_reducible exact Below.refl _ _) | (with_reducible assumption) | (with_reducible refine balloc ?_ _) | (with_reducible refine Below.drew ?_) | (with_reducible refine below_drewN ?_ _) | (with_reducible refine bset ?_ ?_ _) | (with_reducible refine bstep ?_ (by assumption)) | go_size))⟩
    · have : b = false := bfalse hb (fun h => h2 h.2)
      subst this
      clear hb
      go_enter Try.func77, Try.ntmps77
      go_wp2_with fail
      go_ret
      exact ⟨rfl, by (repeat' (first | (with_reducible exact Below.refl _ _) | (with_reducible assumption) | (with_reducible refine balloc ?_ _) | (with_reducible refine Below.drew ?_) | (with_reducible refine below_drewN ?_ _) | (with_reducible refine bset ?_ ?_ _) | (with_reducible refine bstep ?_ (by assumption)) | go_size))⟩
  · have : b = false := bfalse hb (fun h => h1 h.1)
    subst this
    clear hb
    go_enter Try.func77, Try.ntmps77
    go_wp2_with fail
    go_ret
    exact ⟨rfl, by (repeat' (first | (with_reducible exact Below.refl _ _) | (with_reducible assumption) | (with_reducible refine balloc ?_ _) | (with_reducible refine Below.drew ?_) | (with_reducible refine below_drewN ?_ _) | (with_reducible refine bset ?_ ?_ _) | (with_reducible refine bstep ?_ (by assumption)) | go_size))⟩

set_option maxRecDepth 100000 in
set_option maxHeartbeats 4000000 in
theorem implTreeSum (M : Nat) (E S : Int) (a : Option Addr) (n c : Nat) (l : List Wz) (hok : NetOk M E S l) (w : World) (hr : ArgRow w a n c 3 (wires l)) (hl : l.length = n) :
    Calls Try.prog 56 #[netV M E S a n c] w fun e w' => e = .returned (.int .i64 (leftW M l [0] [0])) ∧ Below w.heap.size w w' := by
  have HR := Lib.hid hr
  have KN := Lib.hid (fun (w : World) r => implNetOk M E S a n c l true ⟨fun _ => hok, fun _ => rfl⟩ w r hl)
  have KL := Lib.hid (fun (g1 g2 : Nat) (w : World) r r1 r2 => implLeft M E S a n c l g1 g2 1 1 1 1 [0] [0] rfl hok w r hl r1 r2)
  clear hr hok
  go_enter Try.func56, Try.ntmps56
  go_wp2_with fail
  refine (KN.out _ (HR.out.below (by (repeat' (first | (with_reducible exact Below.refl _ _) | (with_reducible assumption) | (with_reducible refine balloc ?_ _) | (with_reducible refine Below.drew ?_) | (with_reducible refine below_drewN ?_ _) | (with_reducible refine bset ?_ ?_ _) | (with_reducible refine bstep ?_ (by assumption)) | go_size))))).mono ?_
  rintro e w1 ⟨rfl, hb1⟩
  obtain ⟨uu1, vv1, zz1, nn1, mm1⟩ := bltn hb1 (b := w.heap.size) (by (first | omega | (simp only [World.size_alloc, World.size_setCell, World.size_drew, World.heap_drewN]; omega)))
  have B1 : Hid (Below w.heap.size w w1) := bstep (by (repeat' (first | (with_reducible exact Below.refl _ _) | (with_reducible assumption) | (with_reducible refine balloc ?_ _) | (with_reducible refine Below.drew ?_) | (with_reducible refine below_drewN ?_ _) | (with_reducible refine bset ?_ ?_ _) | (with_reducible refine bstep ?_ (by assumption)) | go_size))) hb1
  have R1 := Lib.hid ((row_one w1 0).below (w' := (w1.alloc (.cells #[.int .i64 0] 3)).alloc (.cells #[.int .i64 0] 3)) (balloc (Below.refl _ _) _))
  have R2 : Hid (ArgRow ((w1.alloc (.cells #[.int .i64 0] 3)).alloc (.cells #[.int .i64 0] 3)) (some ⟨w1.heap.size + 1, 0, none⟩) 1 1 1 (ints [0])) := by
    have := row_one (w1.alloc (.cells #[.int .i64 0] 3)) 0
    simpa [Hid] using this
  go_wp2_with fail
  refine (KL.out w1.heap.size (w1.heap.size + 1) _ (HR.out.below (balloc (balloc B1.out _) _)) R1.out R2.out).mono ?_
  rintro e w2 ⟨rfl, hb2⟩
  go_wp2_with fail
  go_ret
  exact ⟨rfl, bstep (balloc (balloc B1.out _) _) hb2⟩
set_option maxRecDepth 100000 in
set_option maxHeartbeats 4000000 in
theorem implTreeSum0 (N E S : Int) (a : Option Addr) (n c : Nat) (l : List Wz) (hok : ¬ NetOk N E S l) (w : World) (hr : ArgRow w a n c 3 (wires l)) (hl : l.length = n) :
    Calls Try.prog 56 #[netV N E S a n c] w fun e w' => e = .returned (.int .i64 0) ∧ Below w.heap.size w w' := by
  have HR := Lib.hid hr
  have KN := Lib.hid (fun (w : World) r => implNetOk N E S a n c l false ⟨(fun h => by cases h), fun h => absurd h hok⟩ w r hl)
  clear hr hok
  go_enter Try.func56, Try.ntmps56
  go_wp2_with fail
  refine (KN.out _ (HR.out.below (by (repeat' (first | (with_reducible exact Below.refl _ _) | (with_reducible assumption) | (with_reducible refine balloc ?_ _) | (with_reducible refine Below.drew ?_) | (with_reducible refine below_drewN ?_ _) | (with_reducible refine bset ?_ ?_ _) | (with_reducible refine bstep ?_ (by assumption)) | go_size))))).mono ?_
  rintro e w1 ⟨rfl, hb1⟩
  go_wp2_with fail
  go_ret
  exact ⟨rfl, bstep (by (repeat' (first | (with_reducible exact Below.refl _ _) | (with_reducible assumption) | (with_reducible refine balloc ?_ _) | (with_reducible refine Below.drew ?_) | (with_reducible refine below_drewN ?_ _) | (with_reducible refine bset ?_ ?_ _) | (with_reducible refine bstep ?_ (by assumption)) | go_size))) hb1⟩

set_option maxRecDepth 100000 in
set_option maxHeartbeats 4000000 in
theorem implForestSum (M : Nat) (E S : Int) (a : Option Addr) (n c : Nat) (l : List Wz) (p q : Int) (hp : 0 ≤ p ∧ p < M) (hq : 0 ≤ q ∧ q < M) (hpq : ¬ p = q) (hok : NetOk M E S l) (w : World) (hr : ArgRow w a n c 3 (wires l)) (hl : l.length = n) :
    Calls Try.prog 82 #[netV M E S a n c, .int .i64 p, .int .i64 q] w fun e w' => e = .returned (.int .i64 (leftW M l [p, q] [p, q])) ∧ Below w.heap.size w w' := by
  have HR := Lib.hid hr
  have KN := Lib.hid (fun (w : World) r => implNetOk M E S a n c l true ⟨fun _ => hok, fun _ => rfl⟩ w r hl)
  have KP := Lib.hid (fun (w : World) => implIsNode M E S a n c p true ⟨fun _ => hp, fun _ => rfl⟩ w)
  have KQ := Lib.hid (fun (w : World) => implIsNode M E S a n c q true ⟨fun _ => hq, fun _ => rfl⟩ w)
  have KL := Lib.hid (fun (g1 g2 : Nat) (w : World) r r1 r2 => implLeft M E S a n c l g1 g2 2 2 2 2 [p, q] [p, q] rfl hok w r hl r1 r2)
  have hpq' : (p == q) = false := by simp [hpq]
  clear hr hok hpq
  go_enter Try.func82, Try.ntmps82
  go_wp2_with fail
  refine (KN.out _ (HR.out.below (by (repeat' (first | (with_reducible exact Below.refl _ _) | (with_reducible assumption) | (with_reducible refine balloc ?_ _) | (with_reducible refine Below.drew ?_) | (with_reducible refine below_drewN ?_ _) | (with_reducible refine bset ?_ ?_ _) | (with_reducible refine bstep ?_ (by assumption)) | go_size))))).mono ?_
  rintro e w1 ⟨rfl, hb1⟩
  obtain ⟨uu1, vv1, zz1, nn1, mm1⟩ := bltn hb1 (b := w.heap.size) (by (first | omega | (simp only [World.size_alloc, World.size_setCell, World.size_drew, World.heap_drewN]; omega)))
  have B1 : Hid (Below w.heap.size w w1) := bstep (by (repeat' (first | (with_reducible exact Below.refl _ _) | (with_reducible assumption) | (with_reducible refine balloc ?_ _) | (with_reducible refine Below.drew ?_) | (with_reducible refine below_drewN ?_ _) | (with_reducible refine bset ?_ ?_ _) | (with_reducible refine bstep ?_ (by assumption)) | go_size))) hb1
  go_wp2_with fail
  refine (KP.out _).mono ?_
  rintro e w2 ⟨rfl, hb2⟩
  obtain ⟨uu2, vv2, zz2, nn2, mm2⟩ := bltn hb2 (b := w.heap.size) (by (first | omega | (simp only [World.size_alloc, World.size_setCell, World.size_drew, World.heap_drewN]; omega)))
  have B2 : Hid (Below w.heap.size w w2) := bstep B1.out hb2
  go_wp2_with fail
  refine (KQ.out _).mono ?_
  rintro e w3 ⟨rfl, hb3⟩
  obtain ⟨uu3, vv3, zz3, nn3, mm3⟩ := bltn hb3 (b := w.heap.size) (by (first | omega | (simp only [World.size_alloc, World.size_setCell, World.size_drew, World.heap_drewN]; omega)))
  have B3 : Hid (Below w.heap.size w w3) := bstep B2.out hb3
  have R1 := Lib.hid ((row_two w3 p q).below (w' := (w3.alloc (.cells #[.int .i64 p, .int .i64 q] 3)).alloc (.cells #[.int .i64 p, .int .i64 q] 3)) (balloc (Below.refl _ _) _))
  have R2 : Hid (ArgRow ((w3.alloc (.cells #[.int .i64 p, .int .i64 q] 3)).alloc (.cells #[.int .i64 p, .int .i64 q] 3)) (some ⟨w3.heap.size + 1, 0, none⟩) 2 2 1 (ints [p, q])) := by
    have := row_two (w3.alloc (.cells #[.int .i64 p, .int .i64 q] 3)) p q
    simpa [Hid] using this
  go_wp2_with fail
  refine (KL.out w3.heap.size (w3.heap.size + 1) _ (HR.out.below (balloc (balloc B3.out _) _)) R1.out R2.out).mono ?_
  rintro e w4 ⟨rfl, hb4⟩
  go_wp2_with fail
  go_ret
  exact ⟨rfl, bstep (balloc (balloc B3.out _) _) hb4⟩
end Go.Proofs.Ytjchindjoailbaa

/- CountTrees of the program. -/
namespace Go.Proofs.Ytjchindjoailbaa
set_option linter.unusedSimpArgs false
set_option linter.unusedVariables false
open Go.RowKit

/-- the wires, each of weight 1 -/
def ones (l : List Wz) : List Wz := l.map fun x => (x.1, x.2.1, (1 : Int))
theorem ones_len (l : List Wz) : (ones l).length = l.length := by simp [ones]
theorem Rch.ones {l : List Wz} {v : Int} (h : Rch l v) : Rch (Proofs.Ytjchindjoailbaa.ones l) v := by
  induction h with
  | zero => exact .zero
  | fwd hx _ ih => exact .fwd (x := (_, _, (1 : Int))) (List.mem_map_of_mem hx) ih
  | bwd hx _ ih => exact .bwd (x := (_, _, (1 : Int))) (List.mem_map_of_mem hx) ih
theorem NetOk.ones {N E S S' : Int} {l : List Wz} (h : NetOk N E S l) (h1 : 1 ≤ S') (h2 : S' ≤ 1000) : NetOk N E S' (Proofs.Ytjchindjoailbaa.ones l) := by
  refine ⟨⟨h.h.n1, h.h.n5, h.h.e1, h.h.eN, h1, h2⟩, fun k hk => ?_, fun k hk => ?_, fun v hv => (h.c v hv).ones⟩
  · rw [ones_len] at hk
    obtain ⟨g0, g1, g2, _, _⟩ := h.w k hk
    simp only [Proofs.Ytjchindjoailbaa.ones, List.getElem_map]
    exact ⟨g0, g1, g2, by simp only; omega, by simp only; omega⟩
  · rw [ones_len] at hk
    have := h.o k hk
    simp only [Proofs.Ytjchindjoailbaa.ones, List.getElem_map]
    exact this
theorem ones_step (l : List Wz) (i : Nat) (h : i < l.length) : (wires (ones (l.take i) ++ l.drop i)).set (i * 3 + 2) (.int .i64 1) = wires (ones (l.take (i + 1)) ++ l.drop (i + 1)) := by
  have hl : (wires (ones (l.take i))).length = i * 3 := by rw [wires_len, ones_len, List.length_take]; omega
  have e1 : wires (ones (l.take i) ++ l.drop i) = wires (ones (l.take i)) ++ (wireV l[i] ++ wires (l.drop (i + 1))) := by
    have hd := List.drop_eq_getElem_cons h
    simp only [wires, List.flatMap_append]
    rw [hd, List.flatMap_cons]
  have e2 : wires (ones (l.take (i + 1)) ++ l.drop (i + 1)) = wires (ones (l.take i)) ++ (wireV (l[i].1, l[i].2.1, 1) ++ wires (l.drop (i + 1))) := by
    rw [List.take_succ_eq_append_getElem h]
    simp only [ones, List.map_append, wires, List.flatMap_append, List.map_cons, List.map_nil, List.flatMap_cons, List.flatMap_nil, List.append_nil, List.append_assoc]
  rw [e1, e2, List.set_append_right _ _ (by omega), hl, show i * 3 + 2 - i * 3 = 2 from by omega]
  rfl
theorem infoWire : (Try.prog.info? 102).map (fun i => (i.zero, i.size, i.bytes)) = some (some (.agg #[.int .i64 0, .int .i64 0, .int .i64 0]), 3, 24) := by kernel_rfl
theorem wires_one (l : List Wz) : ∀ u ∈ wires l, u.oneCell' = true := by
  intro u hu
  unfold wires at hu
  rw [List.mem_flatMap] at hu
  obtain ⟨z, _, h⟩ := hu
  simp [wireV] at h
  rcases h with rfl | rfl | rfl <;> rfl

/-- a network's box, turned: what it holds -/
def Bx (w : World) (b : Nat) (x0 x1 x2 x3 : Value) : Prop := w.cell? ⟨b, 0, none⟩ = some x0 ∧ w.cell? ⟨b, 1, none⟩ = some x1 ∧ w.cell? ⟨b, 2, none⟩ = some x2 ∧ w.cell? ⟨b, 3, none⟩ = some x3
theorem Bx.set {w : World} {b : Nat} {x0 x1 x2 x3 : Value} (h : Bx w b x0 x1 x2 x3) {p : Addr} (hp : p.block ≠ b) (v : Value) : Bx (w.setCell p v) b x0 x1 x2 x3 := by
  have k : ∀ o, (w.setCell p v).cell? ⟨b, o, none⟩ = w.cell? ⟨b, o, none⟩ := fun o => World.cell?_of_block (a := ⟨b, o, none⟩) (Go.Deep.blk_setCell_other _ _ _ _ (fun e => hp e.symm))
  exact ⟨(k 0).trans h.1, (k 1).trans h.2.1, (k 2).trans h.2.2.1, (k 3).trans h.2.2.2⟩

end Go.Proofs.Ytjchindjoailbaa
