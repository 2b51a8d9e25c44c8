/- The weight between two nodes: the program's and the reference's. -/
import Derived.Test.YtjchindjoailbaaG07
import Derived.Test.YtjchindjoailbaaG01
namespace Go.Proofs.Ytjchindjoailbaa
set_option linter.unusedSimpArgs false
set_option linter.unusedVariables false
open Go.RowKit

set_option maxRecDepth 100000 in
set_option maxHeartbeats 8000000 in
theorem implWB (N E S : Int) (a : Option Addr) (n c : Nat) (l : List Wz) (p q : Int) (hasc : Asc l) (w : World) (hr : ArgRow w a n c 3 (wires l)) (hl : l.length = n) :
    Calls Try.prog 22 #[netV N E S a n c, .int .i64 p, .int .i64 q] w fun e w' => e = .returned (.int .i64 (wbF l p q)) ∧ Below w.heap.size w w' := by
  have hn := hr.le
  unfold maxLen at hn
  have HR := Lib.hid hr
  have HL := Lib.hid hl
  have HA := Lib.hid hasc
  clear hr hl hasc
  go_enter Try.func22, Try.ntmps22
  go_wp2_with fail
  go_loopw [12] (fun v wr => ∃ k : Nat, k ≤ n ∧ v = .int .i64 k ∧ Hid (wbF l p q = wbF (l.drop k) p q) ∧ Hid (Below (w.heap.size + 1) (NBox N E S a n c w) wr)) (fun v _ => n - (intOf v).toNat)
  case atStart => exact ⟨0, by omega, rfl, rfl, Below.refl _ _⟩
  case round =>
    obtain ⟨k, hk, rfl, HW, HB⟩ := hrel
    obtain ⟨hB, hz1, u1, hz2, hz3⟩ := nbox_cells HB.out
    have HB' := Lib.hid hB
    by_cases hlt : k < n
    · obtain ⟨b, o, rfl, hb, _⟩ := HR.out.form (by omega)
      have hli : k < l.length := by rw [HL.out]; exact hlt
      obtain ⟨p0, p1, p2⟩ := wire_cells HR.out k hli
      rw [← hB.cell (p := ⟨b, _, none⟩) hb] at p0 p1 p2
      have hbl : b < wr.heap.size := Nat.lt_of_lt_of_le hb hB.size
      have hbn : ¬ b = wr.heap.size := by omega
      have hbn' : ¬ wr.heap.size = b := by omega
      have hxa := HA.out l[k] (List.getElem_mem _)
      have HY : joins l[k] p q → Hid (wbF l p q = l[k].2.2) := fun h => HW.out.trans (wbF_yes hli h)
      have HN : ¬ joins l[k] p q → Hid (wbF l p q = wbF (l.drop (k + 1)) p q) := fun h => HW.out.trans (wbF_no hli h)
      clear hB
      generalize l[k] = x at p0 p1 p2 hxa HY HN
      clear hli
      obtain ⟨x0, x1, x2⟩ := x
      simp only at hxa
      unfold joins at HY HN
      simp only at HY HN
      by_cases hpq : p = q
      · have HN2 := HN (by omega)
        have d0 : (p != q) = false := by simp [hpq]
        clear HY HN hpq
        go_wp2_with fail
        go_roundw
        case rel => exact ⟨k + 1, by omega, by go_num, HN2.out, HB.out.alloc (by omega) _⟩
        case measure => simp [intOf]; omega
      · have d0 : (p != q) = true := by simp [hpq]
        by_cases e0 : x0 = p
        · by_cases e1 : x1 = q
          · have HY2 := HY (.inl ⟨e0, e1⟩)
            have b0 : (x0 == p) = true := by simp [e0]
            have b1 : (x1 == q) = true := by simp [e1]
            clear HY HN e0 e1 hpq
            go_wp2_with fail
            go_ret
            exact ⟨by rw [HY2.out]; rfl, balloc HB'.out _⟩
          · have HN2 := HN (by omega)
            have b0 : (x0 == p) = true := by simp [e0]
            have b1 : (x1 == q) = false := by simp [e1]
            have b2 : (x0 == q) = false := by simp; omega
            clear HY HN e0 e1 hpq
            go_wp2_with fail
            go_roundw
            case rel => exact ⟨k + 1, by omega, by go_num, HN2.out, HB.out.alloc (by omega) _⟩
            case measure => simp [intOf]; omega
        · have b0 : (x0 == p) = false := by simp [e0]
          by_cases e2 : x0 = q
          · have b2 : (x0 == q) = true := by simp [e2]
            by_cases e3 : x1 = p
            · have HY2 := HY (.inr ⟨e2, e3⟩)
              have b3 : (x1 == p) = true := by simp [e3]
              clear HY HN e0 e2 e3 hpq
              go_wp2_with fail
              go_ret
              exact ⟨by rw [HY2.out]; rfl, balloc HB'.out _⟩
            · have HN2 := HN (by omega)
              have b3 : (x1 == p) = false := by simp [e3]
              clear HY HN e0 e2 e3 hpq
              go_wp2_with fail
              go_roundw
              case rel => exact ⟨k + 1, by omega, by go_num, HN2.out, HB.out.alloc (by omega) _⟩
              case measure => simp [intOf]; omega
          · have HN2 := HN (by omega)
            have b2 : (x0 == q) = false := by simp [e2]
            clear HY HN e0 e2 hpq
            go_wp2_with fail
            go_roundw
            case rel => exact ⟨k + 1, by omega, by go_num, HN2.out, HB.out.alloc (by omega) _⟩
            case measure => simp [intOf]; omega
    · obtain rfl : k = n := by omega
      go_wp2_with fail
      go_ret
      have := HW.out
      rw [List.drop_eq_nil_of_le (by rw [HL.out]; omega)] at this
      exact ⟨by rw [this]; rfl, HB'.out⟩

set_option maxRecDepth 100000 in
set_option maxHeartbeats 8000000 in
theorem specFind (a : Option Addr) (n c : Nat) (l : List Wz) (p q : Int) (hasc : Asc l) (w : World) (hr : ArgRow w a n c 3 (wires l)) (hl : l.length = n) :
    Calls Try.prog 147 #[.slice a n c, .int .i64 p, .int .i64 q] w fun e w' => ∃ i : Int, e = .returned (.int .i64 i) ∧ ((i = -1 ∧ wbF l p q = 0) ∨ ¬ p = q ∧ ∃ (k : Nat) (h : k < l.length), i = k ∧ k < n ∧ wbF l p q = l[k].2.2) ∧ Below w.heap.size w w' := by
  have hn := hr.le
  unfold maxLen at hn
  have HR := Lib.hid hr
  have HL := Lib.hid hl
  have HA := Lib.hid hasc
  clear hr hl hasc
  obtain ⟨mn, hmn⟩ : ∃ mn : Int, mn = min p q := ⟨_, rfl⟩
  obtain ⟨mx, hmx⟩ : ∃ mx : Int, mx = max p q := ⟨_, rfl⟩
  go_enter Try.func147, Try.ntmps147
  go_wp2_with fail
  go_loopw [11] (fun v wr => ∃ k : Nat, k ≤ n ∧ v = .int .i64 k ∧ Hid (wbF l p q = wbF (l.drop k) p q) ∧ Hid (Below w.heap.size w wr)) (fun v _ => n - (intOf v).toNat)
  case atStart => exact ⟨0, by omega, rfl, rfl, Below.refl _ _⟩
  case round =>
    obtain ⟨k, hk, rfl, HW, HB⟩ := hrel
    by_cases hlt : k < n
    · obtain ⟨b, o, rfl, hb, _⟩ := HR.out.form (by omega)
      have hli : k < l.length := by rw [HL.out]; exact hlt
      obtain ⟨p0, p1, p2⟩ := wire_cells HR.out k hli
      rw [← HB.out.cell (p := ⟨b, _, none⟩) hb] at p0 p1 p2
      have hbl : b < wr.heap.size := Nat.lt_of_lt_of_le hb HB.out.size
      have hbn : ¬ b = wr.heap.size := by omega
      have hbn' : ¬ wr.heap.size = b := by omega
      have hxa := HA.out l[k] (List.getElem_mem _)
      have HY : joins l[k] p q → Hid (∃ (k' : Nat) (h : k' < l.length), (k : Int) = k' ∧ k' < n ∧ wbF l p q = l[k'].2.2) := fun h => ⟨k, hli, rfl, hlt, HW.out.trans (wbF_yes hli h)⟩
      have HN : ¬ joins l[k] p q → Hid (wbF l p q = wbF (l.drop (k + 1)) p q) := fun h => HW.out.trans (wbF_no hli h)
      generalize l[k] = x at p0 p1 p2 hxa HY HN
      clear hli
      obtain ⟨x0, x1, x2⟩ := x
      simp only at hxa
      unfold joins at HY HN
      simp only at HY HN
      by_cases hqp : q < p
      · skip
        by_cases e0 : x0 = q
        · have b0 : (x0 == q) = true := by simp [e0]
          by_cases e1 : x1 = p
          · have b1 : (x1 == p) = true := by simp [e1]
            have HY2 := HY (.inr ⟨e0, e1⟩)
            have hne : ¬ p = q := by omega
            clear HY HN e0 e1
            go_wp2_with fail
            go_ret
            first | exact ⟨k, rfl, .inr ⟨hne, HY2.out⟩, balloc HB.out _⟩ | exact ⟨k, rfl, .inr HY2.out, balloc HB.out _⟩ | (refine ⟨k, rfl, .inr ?_, balloc HB.out _⟩; simpa [hne] using HY2.out)
          · have b1 : (x1 == p) = false := by simp [e1]
            have HN2 := HN (by omega)
            clear HY HN e0 e1
            go_wp2_with fail
            go_roundw
            case rel => exact ⟨k + 1, by omega, by go_num, HN2.out, balloc HB.out _⟩
            case measure => simp [intOf]; omega
        · have b0 : (x0 == q) = false := by simp [e0]
          have HN2 := HN (by omega)
          clear HY HN e0
          go_wp2_with fail
          go_roundw
          case rel => exact ⟨k + 1, by omega, by go_num, HN2.out, balloc HB.out _⟩
          case measure => simp [intOf]; omega
      · skip
        by_cases e0 : x0 = p
        · have b0 : (x0 == p) = true := by simp [e0]
          by_cases e1 : x1 = q
          · have b1 : (x1 == q) = true := by simp [e1]
            have HY2 := HY (.inl ⟨e0, e1⟩)
            have hne : ¬ p = q := by omega
            clear HY HN e0 e1
            go_wp2_with fail
            go_ret
            first | exact ⟨k, rfl, .inr ⟨hne, HY2.out⟩, balloc HB.out _⟩ | exact ⟨k, rfl, .inr HY2.out, balloc HB.out _⟩ | (refine ⟨k, rfl, .inr ?_, balloc HB.out _⟩; simpa [hne] using HY2.out)
          · have b1 : (x1 == q) = false := by simp [e1]
            have HN2 := HN (by omega)
            clear HY HN e0 e1
            go_wp2_with fail
            go_roundw
            case rel => exact ⟨k + 1, by omega, by go_num, HN2.out, balloc HB.out _⟩
            case measure => simp [intOf]; omega
        · have b0 : (x0 == p) = false := by simp [e0]
          have HN2 := HN (by omega)
          clear HY HN e0
          go_wp2_with fail
          go_roundw
          case rel => exact ⟨k + 1, by omega, by go_num, HN2.out, balloc HB.out _⟩
          case measure => simp [intOf]; omega
    · obtain rfl : k = n := by omega
      go_wp2_with fail
      go_ret
      have := HW.out
      rw [List.drop_eq_nil_of_le (by rw [HL.out]; omega)] at this
      exact ⟨-1, rfl, .inl ⟨rfl, this⟩, HB.out⟩

set_option maxRecDepth 100000 in
set_option maxHeartbeats 8000000 in
theorem specWB (N E S : Int) (a : Option Addr) (n c : Nat) (l : List Wz) (p q : Int) (hasc : Asc l) (w : World) (hr : ArgRow w a n c 3 (wires l)) (hl : l.length = n) :
    Calls Try.prog 115 #[netV N E S a n c, .int .i64 p, .int .i64 q] w fun e w' => e = .returned (.int .i64 (wbF l p q)) ∧ Below w.heap.size w w' := by
  have hn := hr.le
  unfold maxLen at hn
  have KF := Lib.hid (fun (w : World) r => specFind a n c l p q hasc w r hl)
  have HR := Lib.hid hr
  have HL := Lib.hid hl
  clear hr hl hasc
  go_enter Try.func115, Try.ntmps115
  go_wp2_with fail
  refine (KF.out _ (HR.out.below (by (repeat' (first | (with_reducible exact Below.refl _ _) | (with_reducible assumption) | (with_reducible refine balloc ?_ _) | (with_reducible refine Below.drew ?_) | (with_reducible refine below_drewN ?_ _) | (with_reducible refine bset ?_ ?_ _) | (with_reducible refine bstep ?_ (by assumption)) | go_size))))).mono ?_
  rintro e w1 ⟨i, rfl, hi, hb1⟩
  obtain ⟨uu1, vv1, zz1, nn1, mm1⟩ := bltn hb1 (b := w.heap.size) (by (first | omega | (simp only [World.size_alloc, World.size_setCell, World.size_drew, World.heap_drewN]; omega)))
  have B1 : Hid (Below w.heap.size w w1) := bstep (by (repeat' (first | (with_reducible exact Below.refl _ _) | (with_reducible assumption) | (with_reducible refine balloc ?_ _) | (with_reducible refine Below.drew ?_) | (with_reducible refine below_drewN ?_ _) | (with_reducible refine bset ?_ ?_ _) | (with_reducible refine bstep ?_ (by assumption)) | go_size))) hb1
  rcases hi with ⟨rfl, hz⟩ | ⟨hne, k, hk, rfl, hkn, hv⟩
  · go_wp2_with fail
    go_ret
    exact ⟨by rw [hz]; rfl, B1.out⟩
  · obtain ⟨b, o, rfl, hb, _⟩ := HR.out.form (by omega)
    obtain ⟨p0, p1, p2⟩ := wire_cells HR.out k hk
    rw [← B1.out.cell (p := ⟨b, _, none⟩) hb] at p2
    have HV := Lib.hid hv
    generalize l[k].2.2 = v2 at p2 HV
    have hq : (p == q) = false := by simp [hne]
    clear p0 p1 hk hv hne
    go_wp2_with fail
    go_ret
    exact ⟨by rw [HV.out]; rfl, B1.out⟩
end Go.Proofs.Ytjchindjoailbaa

/- The table of a network: the program's. -/
namespace Go.Proofs.Ytjchindjoailbaa
set_option linter.unusedSimpArgs false
set_option linter.unusedVariables false
open Go.RowKit

/-- a table of the call's own: outer row g, its first k rows lie in the blocks r, f their entries -/
structure PG (w : World) (base g N k : Nat) (r : Nat → Nat) (f : Nat → Nat → Int) : Prop where
  og : w.rowIs g 79 N (fun i => if i < k then .slice (some ⟨r i, 0, none⟩) N N else .slice none 0 0)
  rows : ∀ i, i < k → w.rowIs (r i) 3 N (fun j => .int .i64 (f i j))
  ne : ∀ i, i < k → ¬ r i = g
  inj : ∀ i j, i < k → j < k → r i = r j → i = j
  lbg : base ≤ g
  lb : ∀ i, i < k → base ≤ r i
  le : k ≤ N
section
variable {w w' : World} {base g N k : Nat} {r : Nat → Nat} {f f' : Nat → Nat → Int}
theorem PG.below (h : PG w base g N k r f) (hb : Below w.heap.size w w') : PG w' base g N k r f :=
  ⟨h.og.of_block (hb.block _ h.og.lt), fun i hi => (h.rows i hi).of_block (hb.block _ (h.rows i hi).lt), h.ne, h.inj, h.lbg, h.lb, h.le⟩
theorem PG.alloc (h : PG w base g N k r f) (o : Obj) : PG (w.alloc o) base g N k r f := h.below ((Below.refl _ _).alloc (Nat.le_refl _) o)
theorem PG.drewN (h : PG w base g N k r f) (n : Nat) : PG (w.drewN n) base g N k r f := h.below (below_drewN (Below.refl _ _) n)
theorem PG.congr (h : PG w base g N k r f) (e : ∀ i j, i < k → j < N → f i j = f' i j) : PG w base g N k r f' :=
  ⟨h.og, fun i hi => (h.rows i hi).congr (fun j hj => by rw [e i j hi hj]), h.ne, h.inj, h.lbg, h.lb, h.le⟩
theorem PG.outer (h : PG w base g N k r f) {i : Nat} (hi : i < k) : w.cell? ⟨g, i, none⟩ = some (.slice (some ⟨r i, 0, none⟩) N N) := by
  have := h.og.cell (i := i) (by have := h.le; omega)
  rw [if_pos hi] at this; exact this
theorem PG.cell (h : PG w base g N k r f) {i j : Nat} (hi : i < k) (hj : j < N) : w.cell? ⟨r i, j, none⟩ = some (.int .i64 (f i j)) := (h.rows i hi).cell hj
theorem PG.put (h : PG w base g N k r f) {i j : Nat} (hi : i < k) (v : Int) : PG (w.setCell ⟨r i, j, none⟩ (.int .i64 v)) base g N k r (fun q j' => if q = i ∧ j' = j then v else f q j') := by
  refine ⟨h.og.setOther (fun e => h.ne i hi e.symm) _, fun q hq => ?_, h.ne, h.inj, h.lbg, h.lb, h.le⟩
  by_cases e : q = i
  · subst e
    refine ((h.rows q hq).set j (.int .i64 v)).congr (fun j' _ => ?_)
    by_cases e' : j' = j
    · simp [e']
    · simp [e']
  · refine ((h.rows q hq).setOther (a := ⟨r i, j, none⟩) (fun e' => e (h.inj q i hq hi e')) _).congr (fun j' _ => ?_)
    simp [e]
theorem PG.start (w : World) (base N : Nat) (hb : base ≤ w.heap.size) (f : Nat → Nat → Int) : PG (w.alloc (.cells (madeCells #[Value.slice none 0 0] N) 79)) base w.heap.size N 0 (fun _ => 0) f :=
  ⟨(World.rowIs_made w (.slice none 0 0) N _).congr (fun i _ => by simp), fun i h => absurd h (by omega), fun i h => absurd h (by omega), fun i j h => absurd h (by omega), hb, fun i h => absurd h (by omega), Nat.zero_le _⟩
theorem PG.push (h : PG w base g N k r f) (hk : k < N) (hb : base ≤ w.heap.size) : PG ((w.setCell ⟨g, k, none⟩ (.slice (some ⟨w.heap.size, 0, none⟩) N N)).alloc (.cells (madeCells #[Value.int .i64 0] N) 3)) base g N (k + 1) (fun q => if q = k then w.heap.size else r q) (fun q j => if q = k then 0 else f q j) := by
  have hg := h.og.lt
  refine ⟨?_, fun q hq => ?_, fun q hq => ?_, fun i j hi hj e => ?_, h.lbg, fun q hq => ?_, by omega⟩
  · refine ((h.og.set k (.slice (some ⟨w.heap.size, 0, none⟩) N N)).alloc _).congr (fun i hi => ?_)
    by_cases e : i = k
    · subst e; simp
    · by_cases e2 : i < k
      · simp [e, e2, show i < k + 1 from by omega]
      · simp [e, e2, show ¬ i < k + 1 from by omega]
  · by_cases e : q = k
    · subst e
      have := World.rowIs_made (w.setCell ⟨g, q, none⟩ (.slice (some ⟨w.heap.size, 0, none⟩) N N)) (.int .i64 0) N 3
      simpa using this
    · have hq' : q < k := by omega
      simp only [if_neg e]
      exact ((h.rows q hq').setOther (a := ⟨g, k, none⟩) (h.ne q hq') _).alloc _
  · by_cases e : q = k
    · simp only [if_pos e]; omega
    · simp only [if_neg e]; exact h.ne q (by omega)
  · by_cases e1 : i = k
    · by_cases e2 : j = k
      · omega
      · simp only [if_pos e1, if_neg e2] at e
        have := (h.rows j (by omega)).lt
        omega
    · by_cases e2 : j = k
      · simp only [if_neg e1, if_pos e2] at e
        have := (h.rows i (by omega)).lt
        omega
      · simp only [if_neg e1, if_neg e2] at e
        exact h.inj i j (by omega) (by omega) e
  · by_cases e : q = k
    · simp only [if_pos e]; exact hb
    · simp only [if_neg e]; exact h.lb q (by omega)
end

set_option maxRecDepth 100000 in
set_option maxHeartbeats 8000000 in
theorem implTable (M : Nat) (E S : Int) (a : Option Addr) (n c : Nat) (l : List Wz) (hM : M ≤ 5) (hasc : Asc l) (w : World) (hr : ArgRow w a n c 3 (wires l)) (hl : l.length = n) :
    Calls Try.prog 101 #[netV M E S a n c] w fun e w' => ∃ g r, e = .returned (.slice (some ⟨g, 0, none⟩) M M) ∧ PG w' w.heap.size g M M r (fun i j => wbF l i j) ∧ Below w.heap.size w w' := by
  have hmk1 := run_make_row' (P := Try.prog) 114 79 (.slice none 0 0) 24 Try.underlying114 (by kernel_rfl) rfl .i64 .i64 M (by omega) (by omega)
  have hmk2 := run_make_row' (P := Try.prog) 79 3 (.int .i64 0) 8 Try.underlying79 (by kernel_rfl) rfl .i64 .i64 M (by omega) (by omega)
  have HR := Lib.hid hr
  have KW := Lib.hid (fun (p q : Int) (w : World) r => implWB M E S a n c l p q hasc w r hl)
  clear hr hasc
  have H0 : Hid (PG ((NBox M E S a n c w).alloc (.cells (madeCells #[Value.slice none 0 0] M) 79)) (w.heap.size + 1) (w.heap.size + 1) M 0 (fun _ => 0) (fun i j => wbF l i j)) := by
    have := PG.start (NBox M E S a n c w) (w.heap.size + 1) M (by simp) (fun i j => wbF l i j)
    simpa [Hid] using this
  obtain ⟨z1, hz1⟩ : ∃ z1, madeCells #[Value.slice none 0 0] M = z1 := ⟨_, rfl⟩
  obtain ⟨z2, hz2⟩ : ∃ z2, madeCells #[Value.int .i64 0] M = z2 := ⟨_, rfl⟩
  have HP := Lib.hid (fun (w : World) (base g k : Nat) (r : Nat → Nat) (f : Nat → Nat → Int) (h : PG w base g M k r f) h1 h2 => h.push h1 h2)
  rw [hz1] at H0
  simp only [hz1] at hmk1
  simp only [hz2] at hmk2 HP
  clear hz1 hz2
  go_enter Try.func101, Try.ntmps101
  go_wp2_with fail
  go_loopw [11] (fun v wr => ∃ (i : Nat) (r : Nat → Nat), i ≤ M ∧ v = .int .i64 i ∧ Hid (PG wr (w.heap.size + 1) (w.heap.size + 1) M i r (fun i j => wbF l i j)) ∧ Hid (Below (w.heap.size + 1) (NBox M E S a n c w) wr)) (fun v _ => M - (intOf v).toNat)
  case atStart => exact ⟨0, fun _ => 0, by omega, rfl, H0.out, (Below.refl _ _).alloc (by simp) _⟩
  case round =>
    obtain ⟨i, r, hi, rfl, HG, HB⟩ := hrel
    obtain ⟨hB, hz1, u1, hz2, hz3⟩ := nbox_cells HB.out
    by_cases hlt : i < M
    · have hsz : w.heap.size + 1 ≤ wr.heap.size := by omega
      have hgo := HG.out.og.lt
      have HG2 := Lib.hid (HP.out wr _ _ i r _ HG.out hlt hsz)
      have hco : wr.cell? ⟨w.heap.size + 1, i, none⟩ = some (.slice none 0 0) := by
        have := HG.out.og.cell (i := i) hlt
        rw [if_neg (by omega)] at this; exact this
      have hfo := HG.out.og.frozen i
      have hne1 : ¬ w.heap.size + 1 = wr.heap.size := by omega
      have hne2 : ¬ wr.heap.size = w.heap.size + 1 := by omega
      go_wp2_with fail
      obtain ⟨ρ, hρ⟩ : ∃ ρ, ρ = wr.heap.size := ⟨_, rfl⟩
      rw [← hρ] at HG2
      obtain ⟨r2, hr2⟩ : ∃ r2 : Nat → Nat, r2 = (fun q => if q = i then ρ else r q) := ⟨_, rfl⟩
      rw [← hr2] at HG2
      have hri : r2 i = ρ := by rw [hr2]; simp
      have HB2 : Hid (Below (w.heap.size + 1) (NBox M E S a n c w) ((wr.setCell ⟨w.heap.size + 1, i, none⟩ (.slice (some ⟨wr.heap.size, 0, none⟩) M M)).alloc (.cells z2 3))) := (HB.out.setCell (by simp) _).alloc (by simpa using hsz) _
      have HG3 : Hid (PG ((wr.setCell ⟨w.heap.size + 1, i, none⟩ (.slice (some ⟨wr.heap.size, 0, none⟩) M M)).alloc (.cells z2 3)) (w.heap.size + 1) (w.heap.size + 1) M (i + 1) r2 (fun q j => if q < i ∨ (q = i ∧ j < 0) then wbF l q j else 0)) := by
        have h9 := HG2.out
        rw [hρ] at h9
        refine h9.congr (fun q j hq _ => ?_)
        by_cases e : q = i
        · simp [e]
        · simp [e, show q < i from by omega]
      clear HG2 hr2 hco hfo hne1 hne2 u1 hz2 hz3 hB
      rw [← hρ] at HG3 HB2
      rw [← hρ]
      clear hρ
      go_loopw [25] (fun v wr => ∃ j : Nat, j ≤ M ∧ v = .int .i64 j ∧ Hid (PG wr (w.heap.size + 1) (w.heap.size + 1) M (i + 1) r2 (fun q j' => if q < i ∨ (q = i ∧ j' < j) then wbF l q j' else 0)) ∧ Hid (Below (w.heap.size + 1) (NBox M E S a n c w) wr)) (fun v _ => M - (intOf v).toNat)
      case atStart => exact ⟨0, by omega, rfl, HG3.out, HB2.out⟩
      case round =>
        clear HG3 HB2
        obtain ⟨j, hj, rfl, HG3, HB3⟩ := hrel
        obtain ⟨hB, hy1, u1, hy2, hy3⟩ := nbox_cells HB3.out
        by_cases hlj : j < M
        · have hgo := HG3.out.og.lt
          have hrl := (HG3.out.rows i (by omega)).lt
          have hco := HG3.out.outer (i := i) (by omega)
          obtain ⟨old, hce⟩ : ∃ old, wr.cell? ⟨r2 i, j, none⟩ = some old := ⟨_, HG3.out.cell (i := i) (j := j) (by omega) hlj⟩
          have hfe := (HG3.out.rows i (by omega)).frozen j
          rw [hri] at hrl hco hce hfe
          have hle : w.heap.size + 1 ≤ ρ := by have := HG3.out.lb i (by omega); omega
          have HB3' := Lib.hid hB
          clear hB
          go_wp2_with fail
          go_region_with (go_at_call 22; ((with_reducible refine (KW.out i j _ (HR.out.below (by first | exact HB3'.out | exact HB3'.out.drew | exact below_drewN HB3'.out _))).mono ?_); rintro e w6 ⟨rfl, hb6⟩); (try (replace hb6 := bdrew hb6)); (try (have hq_ := bltn hb6 (b := w.heap.size) (by (first | omega | (simp only [World.size_alloc, World.size_setCell, World.size_drew, World.heap_drewN]; omega))); obtain ⟨uu, vv, zz, nn, mm⟩ := hq_)); (try (have hq_ := bltn hb6 (b := w.heap.size + 1) (by (first | omega | (simp only [World.size_alloc, World.size_setCell, World.size_drew, World.heap_drewN]; omega))); obtain ⟨uu, vv, zz, nn, mm⟩ := hq_)); (try (have hq_ := bltn hb6 (b := ρ) (by (first | omega | (simp only [World.size_alloc, World.size_setCell, World.size_drew, World.heap_drewN]; omega))); obtain ⟨uu, vv, zz, nn, mm⟩ := hq_)))
          all_goals
            have HG6 := HG3.out.below hb6
            have HG7 := HG6.put (i := i) (j := j) (by omega) (wbF l i j)
            rw [hri] at HG7
            have HG8 := Lib.hid (HG7.congr (f' := fun q j' => if q < i ∨ (q = i ∧ j' < j + 1) then wbF l q j' else 0) (fun q j' hq _ => by
              by_cases e : q = i
              · by_cases e' : j' = j
                · simp [e, e']
                · by_cases e2 : j' < j
                  · simp [e, e', e2, show j' < j + 1 from by omega]
                  · simp [e, e', e2, show ¬ j' < j + 1 from by omega]
              · simp [e, show q < i from by omega]))
            have HB8 := Lib.hid ((HB3.out.trans (hb6.mono (by omega))).setCell (p := ⟨ρ, j, none⟩) (by show _ ≤ ρ; omega) (.int .i64 (wbF l i j)))
            clear HG6 HG7 hb6
            go_wp2_with fail
            go_roundw
            case rel => exact ⟨j + 1, by omega, by go_num, HG8.out, HB8.out⟩
            case measure => simp [intOf]; omega
        · obtain rfl : j = M := by omega
          have HG4 := Lib.hid (HG3.out.congr (f' := fun q j' => wbF l q j') (fun q j' hq hj' => by
            by_cases e : q = i
            · simp [e, hj']
            · simp [show q < i from by omega]))
          clear hB
          go_wp2_with fail
          go_roundw
          case rel => exact ⟨i + 1, r2, by omega, by go_num, HG4.out, HB3.out⟩
          case measure => simp [intOf]; omega
    · obtain rfl : i = M := by omega
      go_wp2_with fail
      go_ret
      have hg := HG.out
      exact ⟨_, r, rfl, ⟨hg.og, hg.rows, hg.ne, hg.inj, by omega, fun i hi => by have := hg.lb i hi; omega, hg.le⟩, hB⟩
end Go.Proofs.Ytjchindjoailbaa
