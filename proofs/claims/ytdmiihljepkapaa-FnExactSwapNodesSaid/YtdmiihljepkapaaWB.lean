/- The weight between two nodes: the program's and the reference's. -/
import Derived.Test.YtdmiihljepkapaaLap
import Derived.Test.YtdmiihljepkapaaNBox
namespace Go.Proofs.Ytdmiihljepkapaa
set_option linter.unusedSimpArgs false
set_option linter.unusedVariables false
open Go.RowKit

set_option maxRecDepth 100000 in
set_option maxHeartbeats 8000000 in
theorem implWB (N E S : Int) (a : Option Addr) (n c : Nat) (l : List Wz) (p q : Int) (hasc : Asc l) (w : World) (hr : ArgRow w a n c 3 (wires l)) (hl : l.length = n) :
    Calls Try.prog 35 #[netV N E S a n c, .int .i64 p, .int .i64 q] w fun e w' => e = .returned (.int .i64 (wbF l p q)) ∧ Below w.heap.size w w' := by
  have hn := hr.le
  unfold maxLen at hn
  have HR := Lib.hid hr
  have HL := Lib.hid hl
  have HA := Lib.hid hasc
  clear hr hl hasc
  go_enter Try.func35, Try.ntmps35
  go_wp2_with fail
  go_loopw [12] (fun v wr => ∃ k : Nat, k ≤ n ∧ v = .int .i64 k ∧ Hid (wbF l p q = wbF (l.drop k) p q) ∧ Hid (Below (w.heap.size + 1) (NBox N E S a n c w) wr)) (fun v _ => n - (intOf v).toNat)
  case atStart => exact ⟨0, by omega, rfl, rfl, Below.refl _ _⟩
  case round =>
    obtain ⟨k, hk, rfl, HW, HB⟩ := hrel
    obtain ⟨hB, hz1, u1, hz2, hz3⟩ := nbox_cells HB.out
    have HB' := Lib.hid hB
    by_cases hlt : k < n
    · obtain ⟨b, o, rfl, hb, _⟩ := HR.out.form (by omega)
      have hli : k < l.length := by rw [HL.out]; exact hlt
      obtain ⟨p0, p1, p2⟩ := wire_cells HR.out k hli
      rw [← hB.cell (p := ⟨b, _, none⟩) hb] at p0 p1 p2
      have hbl : b < wr.heap.size := Nat.lt_of_lt_of_le hb hB.size
      have hbn : ¬ b = wr.heap.size := by omega
      have hbn' : ¬ wr.heap.size = b := by omega
      have hxa := HA.out l[k] (List.getElem_mem _)
      have HY : joins l[k] p q → Hid (wbF l p q = l[k].2.2) := fun h => HW.out.trans (wbF_yes hli h)
      have HN : ¬ joins l[k] p q → Hid (wbF l p q = wbF (l.drop (k + 1)) p q) := fun h => HW.out.trans (wbF_no hli h)
      clear hB
      generalize l[k] = x at p0 p1 p2 hxa HY HN
      clear hli
      obtain ⟨x0, x1, x2⟩ := x
      simp only at hxa
      unfold joins at HY HN
      simp only at HY HN
      by_cases hpq : p = q
      · have HN2 := HN (by omega)
        have d0 : (p != q) = false := by simp [hpq]
        clear HY HN hpq
        go_wp2_with fail
        go_roundw
        case rel => exact ⟨k + 1, by omega, by go_num, HN2.out, HB.out.alloc (by omega) _⟩
        case measure => simp [intOf]; omega
      · have d0 : (p != q) = true := by simp [hpq]
        by_cases e0 : x0 = p
        · by_cases e1 : x1 = q
          · have HY2 := HY (.inl ⟨e0, e1⟩)
            have b0 : (x0 == p) = true := by simp [e0]
            have b1 : (x1 == q) = true := by simp [e1]
            clear HY HN e0 e1 hpq
            go_wp2_with fail
            go_ret
            exact ⟨by rw [HY2.out]; rfl, balloc HB'.out _⟩
          · have HN2 := HN (by omega)
            have b0 : (x0 == p) = true := by simp [e0]
            have b1 : (x1 == q) = false := by simp [e1]
            have b2 : (x0 == q) = false := by simp; omega
            clear HY HN e0 e1 hpq
            go_wp2_with fail
            go_roundw
            case rel => exact ⟨k + 1, by omega, by go_num, HN2.out, HB.out.alloc (by omega) _⟩
            case measure => simp [intOf]; omega
        · have b0 : (x0 == p) = false := by simp [e0]
          by_cases e2 : x0 = q
          · have b2 : (x0 == q) = true := by simp [e2]
            by_cases e3 : x1 = p
            · have HY2 := HY (.inr ⟨e2, e3⟩)
              have b3 : (x1 == p) = true := by simp [e3]
              clear HY HN e0 e2 e3 hpq
              go_wp2_with fail
              go_ret
              exact ⟨by rw [HY2.out]; rfl, balloc HB'.out _⟩
            · have HN2 := HN (by omega)
              have b3 : (x1 == p) = false := by simp [e3]
              clear HY HN e0 e2 e3 hpq
              go_wp2_with fail
              go_roundw
              case rel => exact ⟨k + 1, by omega, by go_num, HN2.out, HB.out.alloc (by omega) _⟩
              case measure => simp [intOf]; omega
          · have HN2 := HN (by omega)
            have b2 : (x0 == q) = false := by simp [e2]
            clear HY HN e0 e2 hpq
            go_wp2_with fail
            go_roundw
            case rel => exact ⟨k + 1, by omega, by go_num, HN2.out, HB.out.alloc (by omega) _⟩
            case measure => simp [intOf]; omega
    · obtain rfl : k = n := by omega
      go_wp2_with fail
      go_ret
      have := HW.out
      rw [List.drop_eq_nil_of_le (by rw [HL.out]; omega)] at this
      exact ⟨by rw [this]; rfl, HB'.out⟩

set_option maxRecDepth 100000 in
set_option maxHeartbeats 8000000 in
theorem specFind (a : Option Addr) (n c : Nat) (l : List Wz) (p q : Int) (hasc : Asc l) (w : World) (hr : ArgRow w a n c 3 (wires l)) (hl : l.length = n) :
    Calls Try.prog 180 #[.slice a n c, .int .i64 p, .int .i64 q] w fun e w' => ∃ i : Int, e = .returned (.int .i64 i) ∧ ((i = -1 ∧ wbF l p q = 0) ∨ ¬ p = q ∧ ∃ (k : Nat) (h : k < l.length), i = k ∧ k < n ∧ wbF l p q = l[k].2.2) ∧ Below w.heap.size w w' := by
  have hn := hr.le
  unfold maxLen at hn
  have HR := Lib.hid hr
  have HL := Lib.hid hl
  have HA := Lib.hid hasc
  clear hr hl hasc
  obtain ⟨mn, hmn⟩ : ∃ mn : Int, mn = min p q := ⟨_, rfl⟩
  obtain ⟨mx, hmx⟩ : ∃ mx : Int, mx = max p q := ⟨_, rfl⟩
  go_enter Try.func180, Try.ntmps180
  go_wp2_with fail
  go_loopw [11] (fun v wr => ∃ k : Nat, k ≤ n ∧ v = .int .i64 k ∧ Hid (wbF l p q = wbF (l.drop k) p q) ∧ Hid (Below w.heap.size w wr)) (fun v _ => n - (intOf v).toNat)
  case atStart => exact ⟨0, by omega, rfl, rfl, Below.refl _ _⟩
  case round =>
    obtain ⟨k, hk, rfl, HW, HB⟩ := hrel
    by_cases hlt : k < n
    · obtain ⟨b, o, rfl, hb, _⟩ := HR.out.form (by omega)
      have hli : k < l.length := by rw [HL.out]; exact hlt
      obtain ⟨p0, p1, p2⟩ := wire_cells HR.out k hli
      rw [← HB.out.cell (p := ⟨b, _, none⟩) hb] at p0 p1 p2
      have hbl : b < wr.heap.size := Nat.lt_of_lt_of_le hb HB.out.size
      have hbn : ¬ b = wr.heap.size := by omega
      have hbn' : ¬ wr.heap.size = b := by omega
      have hxa := HA.out l[k] (List.getElem_mem _)
      have HY : joins l[k] p q → Hid (∃ (k' : Nat) (h : k' < l.length), (k : Int) = k' ∧ k' < n ∧ wbF l p q = l[k'].2.2) := fun h => ⟨k, hli, rfl, hlt, HW.out.trans (wbF_yes hli h)⟩
      have HN : ¬ joins l[k] p q → Hid (wbF l p q = wbF (l.drop (k + 1)) p q) := fun h => HW.out.trans (wbF_no hli h)
      generalize l[k] = x at p0 p1 p2 hxa HY HN
      clear hli
      obtain ⟨x0, x1, x2⟩ := x
      simp only at hxa
      unfold joins at HY HN
      simp only at HY HN
      by_cases hqp : q < p
      · skip
        by_cases e0 : x0 = q
        · have b0 : (x0 == q) = true := by simp [e0]
          by_cases e1 : x1 = p
          · have b1 : (x1 == p) = true := by simp [e1]
            have HY2 := HY (.inr ⟨e0, e1⟩)
            have hne : ¬ p = q := by omega
            clear HY HN e0 e1
            go_wp2_with fail
            go_ret
            first | exact ⟨k, rfl, .inr ⟨hne, HY2.out⟩, balloc HB.out _⟩ | exact ⟨k, rfl, .inr HY2.out, balloc HB.out _⟩ | (refine ⟨k, rfl, .inr ?_, balloc HB.out _⟩; simpa [hne] using HY2.out)
          · have b1 : (x1 == p) = false := by simp [e1]
            have HN2 := HN (by omega)
            clear HY HN e0 e1
            go_wp2_with fail
            go_roundw
            case rel => exact ⟨k + 1, by omega, by go_num, HN2.out, balloc HB.out _⟩
            case measure => simp [intOf]; omega
        · have b0 : (x0 == q) = false := by simp [e0]
          have HN2 := HN (by omega)
          clear HY HN e0
          go_wp2_with fail
          go_roundw
          case rel => exact ⟨k + 1, by omega, by go_num, HN2.out, balloc HB.out _⟩
          case measure => simp [intOf]; omega
      · skip
        by_cases e0 : x0 = p
        · have b0 : (x0 == p) = true := by simp [e0]
          by_cases e1 : x1 = q
          · have b1 : (x1 == q) = true := by simp [e1]
            have HY2 := HY (.inl ⟨e0, e1⟩)
            have hne : ¬ p = q := by omega
            clear HY HN e0 e1
            go_wp2_with fail
            go_ret
            first | exact ⟨k, rfl, .inr ⟨hne, HY2.out⟩, balloc HB.out _⟩ | exact ⟨k, rfl, .inr HY2.out, balloc HB.out _⟩ | (refine ⟨k, rfl, .inr ?_, balloc HB.out _⟩; simpa [hne] using HY2.out)
          · have b1 : (x1 == q) = false := by simp [e1]
            have HN2 := HN (by omega)
            clear HY HN e0 e1
            go_wp2_with fail
            go_roundw
            case rel => exact ⟨k + 1, by omega, by go_num, HN2.out, balloc HB.out _⟩
            case measure => simp [intOf]; omega
        · have b0 : (x0 == p) = false := by simp [e0]
          have HN2 := HN (by omega)
          clear HY HN e0
          go_wp2_with fail
          go_roundw
          case rel => exact ⟨k + 1, by omega, by go_num, HN2.out, balloc HB.out _⟩
          case measure => simp [intOf]; omega
    · obtain rfl : k = n := by omega
      go_wp2_with fail
      go_ret
      have := HW.out
      rw [List.drop_eq_nil_of_le (by rw [HL.out]; omega)] at this
      exact ⟨-1, rfl, .inl ⟨rfl, this⟩, HB.out⟩

set_option maxRecDepth 100000 in
set_option maxHeartbeats 8000000 in
theorem specWB (N E S : Int) (a : Option Addr) (n c : Nat) (l : List Wz) (p q : Int) (hasc : Asc l) (w : World) (hr : ArgRow w a n c 3 (wires l)) (hl : l.length = n) :
    Calls Try.prog 143 #[netV N E S a n c, .int .i64 p, .int .i64 q] w fun e w' => e = .returned (.int .i64 (wbF l p q)) ∧ Below w.heap.size w w' := by
  have hn := hr.le
  unfold maxLen at hn
  have KF := Lib.hid (fun (w : World) r => specFind a n c l p q hasc w r hl)
  have HR := Lib.hid hr
  have HL := Lib.hid hl
  clear hr hl hasc
  go_enter Try.func143, Try.ntmps143
  go_wp2_with fail
  refine (KF.out _ (HR.out.below (by (repeat' (first | (with_reducible exact Below.refl _ _) | (with_reducible assumption) | (with_reducible refine balloc ?_ _) | (with_reducible refine Below.drew ?_) | (with_reducible refine below_drewN ?_ _) | (with_reducible refine bset ?_ ?_ _) | (with_reducible refine bstep ?_ (by assumption)) | go_size))))).mono ?_
  rintro e w1 ⟨i, rfl, hi, hb1⟩
  obtain ⟨uu1, vv1, zz1, nn1, mm1⟩ := bltn hb1 (b := w.heap.size) (by (first | omega | (simp only [World.size_alloc, World.size_setCell, World.size_drew, World.heap_drewN]; omega)))
  have B1 : Hid (Below w.heap.size w w1) := bstep (by (repeat' (first | (with_reducible exact Below.refl _ _) | (with_reducible assumption) | (with_reducible refine balloc ?_ _) | (with_reducible refine Below.drew ?_) | (with_reducible refine below_drewN ?_ _) | (with_reducible refine bset ?_ ?_ _) | (with_reducible refine bstep ?_ (by assumption)) | go_size))) hb1
  rcases hi with ⟨rfl, hz⟩ | ⟨hne, k, hk, rfl, hkn, hv⟩
  · go_wp2_with fail
    go_ret
    exact ⟨by rw [hz]; rfl, B1.out⟩
  · obtain ⟨b, o, rfl, hb, _⟩ := HR.out.form (by omega)
    obtain ⟨p0, p1, p2⟩ := wire_cells HR.out k hk
    rw [← B1.out.cell (p := ⟨b, _, none⟩) hb] at p2
    have HV := Lib.hid hv
    generalize l[k].2.2 = v2 at p2 HV
    have hq : (p == q) = false := by simp [hne]
    clear p0 p1 hk hv hne
    go_wp2_with fail
    go_ret
    exact ⟨by rw [HV.out]; rfl, B1.out⟩
end Go.Proofs.Ytdmiihljepkapaa
