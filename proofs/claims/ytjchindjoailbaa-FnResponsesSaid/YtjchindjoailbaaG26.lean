/- Rows of rows of fractions compared: the program's and the reference's. -/
import Derived.Test.YtjchindjoailbaaG02
import Derived.Test.YtjchindjoailbaaG24
import Derived.Test.YtjchindjoailbaaG25
namespace Go.Proofs.Ytjchindjoailbaa
set_option linter.unusedSimpArgs false
set_option linter.unusedVariables false
open Go.RowKit

theorem take_sameR {l1 l2 : List Rz} {k : Nat} (h1 : k < l1.length) (h2 : k < l2.length) (h : l1.take k = l2.take k) (e : l1[k] = l2[k]) : l1.take (k + 1) = l2.take (k + 1) := by
  rw [List.take_succ_eq_append_getElem h1, List.take_succ_eq_append_getElem h2, h, e]

set_option maxHeartbeats 2000000 in
theorem equalRats (a1 a2 : Option Addr) (n1 c1 n2 c2 : Nat) (l1 l2 : List Rz) (w : World) (r1 : ArgRow w a1 n1 c1 2 (rats l1)) (r2 : ArgRow w a2 n2 c2 2 (rats l2)) :
    Calls Try.prog 110 #[.slice a1 n1 c1, .slice a2 n2 c2] w fun e w' => e = .returned (.bool (decide (l1 = l2))) ∧ Below w.heap.size w w' := by
  have hl1 := r1.rats_len
  have hl2 := r2.rats_len
  have hn := r1.le
  have hn2 := r2.le
  unfold maxLen at hn hn2
  by_cases hne : n1 = n2
  · subst hne
    by_cases h0 : n1 = 0
    · subst h0
      have e1 := List.length_eq_zero_iff.1 hl1
      have e2 := List.length_eq_zero_iff.1 hl2
      subst e1 e2
      clear r1 r2
      go_enter Try.func110, Try.ntmps110
      go_wp2_with fail
      go_rounds 1
      go_ret
      exact ⟨rfl, Below.refl _ _⟩
    · obtain ⟨b1, o1, rfl, hb1, _⟩ := r1.form (by omega)
      obtain ⟨b2, o2, rfl, hb2, _⟩ := r2.form (by omega)
      have R1 := Lib.hid r1
      have R2 := Lib.hid r2
      have HL1 := Lib.hid hl1
      have HL2 := Lib.hid hl2
      clear r1 r2 hl1 hl2
      go_enter Try.func110, Try.ntmps110
      go_wp2_with fail
      go_loopw [5, 13] (fun _ v wr => ∃ k : Nat, k ≤ n1 ∧ v = .int .i64 k ∧ Hid (l1.take k = l2.take k) ∧ ∃ n, wr = w.drewN n) (fun _ v _ => n1 - (intOf v).toNat)
      case atStart => exact ⟨0, by omega, rfl, by simp [Hid], 0, rfl⟩
      case round =>
        obtain ⟨k, hk, rfl, HT, m, rfl⟩ := hrel
        by_cases hlt : k < n1
        · have hk1 : k < l1.length := by rw [HL1.out]; exact hlt
          have hk2 : k < l2.length := by rw [HL2.out]; exact hlt
          obtain ⟨p0, p1⟩ := rat_cells R1.out k hk1
          obtain ⟨q0, q1⟩ := rat_cells R2.out k hk2
          by_cases he : l1[k] = l2[k]
          · have HT2 := Lib.hid (take_sameR hk1 hk2 HT.out he)
            rw [← he] at q0 q1
            generalize l1[k] = x at p0 p1 q0 q1
            obtain ⟨x0, x1⟩ := x
            clear hk1 hk2 he
            go_wp2_with fail
            go_quiet (fail)
            go_wp2_with fail
            go_roundw
            case rel => exact ⟨k + 1, by omega, by go_num, HT2.out, _, rfl⟩
            case measure => simp [intOf]; omega
          · have hd : Hid (decide (l1 = l2) = false) := by
              show _ = _
              apply decide_eq_false; intro h; subst h; exact he rfl
            generalize l1[k] = x at p0 p1 he
            generalize l2[k] = y at q0 q1 he
            obtain ⟨x0, x1⟩ := x
            obtain ⟨y0, y1⟩ := y
            clear hk1 hk2
            have hq : ((x0 == y0) = false) ∨ (x0 = y0 ∧ (x1 == y1) = false) := by
              by_cases h0 : x0 = y0
              · refine .inr ⟨h0, ?_⟩
                simp; intro h1; apply he; rw [h0, h1]
              · exact .inl (by simp [h0])
            clear he
            rcases hq with hq | ⟨rfl, hq⟩
            all_goals
              go_wp2_with fail
              go_quiet (fail)
              go_wp2_with fail
              go_ret
              exact ⟨by rw [hd.out]; rfl, below_drewN (below_drewN (Below.refl _ _) _) _⟩
        · go_wp2_with fail
          go_ret
          obtain rfl : k = n1 := by omega
          have := HT.out
          rw [List.take_of_length_le (by rw [HL1.out]; omega), List.take_of_length_le (by rw [HL2.out]; omega)] at this
          exact ⟨by rw [decide_eq_true this]; rfl, below_drewN (Below.refl _ _) _⟩
  · have hd : Hid (decide (l1 = l2) = false) := by
      show _ = _
      apply decide_eq_false; intro h; subst h; exact hne (hl1.symm.trans hl2)
    clear r1 r2
    go_enter Try.func110, Try.ntmps110
    go_wp2_with fail
    go_ret
    exact ⟨by rw [hd.out]; rfl, Below.refl _ _⟩
theorem implSameRow (a1 a2 : Option Addr) (n1 c1 n2 c2 : Nat) (l1 l2 : List Rz) (w : World) (r1 : ArgRow w a1 n1 c1 2 (rats l1)) (r2 : ArgRow w a2 n2 c2 2 (rats l2)) :
    Calls Try.prog 109 #[.slice a1 n1 c1, .slice a2 n2 c2] w fun e w' => e = .returned (.bool (decide (l1 = l2))) ∧ Below w.heap.size w w' := by
  have K := Lib.hid (equalRats a1 a2 n1 c1 n2 c2 l1 l2 w r1 r2)
  clear r1 r2
  generalize decide (l1 = l2) = B at K
  go_enter Try.func109, Try.ntmps109
  go_wp2_with fail
  refine K.out.mono ?_
  rintro e w1 ⟨rfl, hb1⟩
  go_wp2_with fail
  go_ret
  exact ⟨rfl, hb1⟩
theorem take_sameM {M1 M2 : List (List Rz)} {k : Nat} (h1 : k < M1.length) (h2 : k < M2.length) (h : M1.take k = M2.take k) (e : M1[k] = M2[k]) : M1.take (k + 1) = M2.take (k + 1) := by
  rw [List.take_succ_eq_append_getElem h1, List.take_succ_eq_append_getElem h2, h, e]

set_option maxRecDepth 100000 in
set_option maxHeartbeats 4000000 in
theorem equalFunc (a1 a2 : Option Addr) (n1 c1 n2 c2 : Nat) (M1 M2 : List (List Rz)) (w : World) (r1 : RGrid w a1 n1 c1 M1) (r2 : RGrid w a2 n2 c2 M2) :
    Calls Try.prog 108 #[.slice a1 n1 c1, .slice a2 n2 c2, .func (.func 109) #[] #[]] w fun e w' => e = .returned (.bool (decide (M1 = M2))) ∧ Below w.heap.size w w' := by
  have hl1 := r1.len
  have hl2 := r2.len
  have hn := r1.le
  have hn2 := r2.le
  unfold maxLen at hn hn2
  by_cases hne : n1 = n2
  rotate_left
  · have hd : Hid (decide (M1 = M2) = false) := by
      show _ = _
      apply decide_eq_false; intro h; subst h; exact hne (hl1.symm.trans hl2)
    clear r1 r2
    go_enter Try.func108, Try.ntmps108
    go_wp2_with fail
    go_ret
    exact ⟨by rw [hd.out]; rfl, Below.refl _ _⟩
  subst hne
  have R1 := Lib.hid r1
  have R2 := Lib.hid r2
  have HL1 := Lib.hid hl1
  have HL2 := Lib.hid hl2
  clear r1 r2 hl1 hl2
  go_enter Try.func108, Try.ntmps108
  go_wp2_with fail
  go_loopw [17] (fun v wr => ∃ k : Nat, k ≤ n1 ∧ v = .int .i64 k ∧ Hid (M1.take k = M2.take k) ∧ Hid (Below w.heap.size w wr)) (fun v _ => n1 - (intOf v).toNat)
  case atStart => exact ⟨0, by omega, rfl, by simp [Hid], Below.refl _ _⟩
  case round =>
    obtain ⟨k, hk, rfl, HT, HB⟩ := hrel
    by_cases hlt : k < n1
    · have hk1 : k < M1.length := by rw [HL1.out]; exact hlt
      have hk2 : k < M2.length := by rw [HL2.out]; exact hlt
      have G1 := R1.out.below HB.out
      have G2 := R2.out.below HB.out
      obtain ⟨b1, o1, rfl, _⟩ := G1.form (by omega)
      obtain ⟨b2, o2, rfl, _⟩ := G2.form (by omega)
      obtain ⟨d1, e1, p1, q1⟩ := G1.row k hk1
      obtain ⟨d2, e2, p2, q2⟩ := G2.row k hk2
      have KE := Lib.hid (fun (w' : World) (hb : Below wr.heap.size wr w') => implSameRow d1 d2 M1[k].length e1 M2[k].length e2 M1[k] M2[k] w' (ArgRow.below q1 hb) (ArgRow.below q2 hb))
      by_cases he : M1[k] = M2[k]
      · have HT2 := Lib.hid (take_sameM hk1 hk2 HT.out he)
        rw [decide_eq_true he] at KE
        generalize M1[k].length = m1 at p1 KE
        generalize M2[k].length = m2 at p2 KE
        generalize M1[k] = x1 at KE he
        generalize M2[k] = x2 at KE he
        clear G1 G2 q1 q2 hk1 hk2 he
        go_wp2_with fail
        refine (KE.out _ (by (repeat' (first | (with_reducible exact Below.refl _ _) | (with_reducible assumption) | (with_reducible refine balloc ?_ _) | (with_reducible refine Below.drew ?_) | (with_reducible refine below_drewN ?_ _) | (with_reducible refine bset ?_ ?_ _) | (with_reducible refine bstep ?_ (by assumption)) | go_size)))).mono ?_
        rintro e w2 ⟨rfl, hb2⟩
        go_wp2_with fail
        go_roundw
        case rel => exact ⟨k + 1, by omega, by go_num, HT2.out, bstep HB.out hb2⟩
        case measure => simp [intOf]; omega
      · have hd : Hid (decide (M1 = M2) = false) := by
          show _ = _
          apply decide_eq_false; intro h; subst h; exact he rfl
        rw [decide_eq_false he] at KE
        generalize M1[k].length = m1 at p1 KE
        generalize M2[k].length = m2 at p2 KE
        generalize M1[k] = x1 at KE he
        generalize M2[k] = x2 at KE he
        clear G1 G2 q1 q2 hk1 hk2 he
        go_wp2_with fail
        refine (KE.out _ (by (repeat' (first | (with_reducible exact Below.refl _ _) | (with_reducible assumption) | (with_reducible refine balloc ?_ _) | (with_reducible refine Below.drew ?_) | (with_reducible refine below_drewN ?_ _) | (with_reducible refine bset ?_ ?_ _) | (with_reducible refine bstep ?_ (by assumption)) | go_size)))).mono ?_
        rintro e w2 ⟨rfl, hb2⟩
        go_wp2_with fail
        go_ret
        exact ⟨by rw [hd.out]; rfl, bstep HB.out hb2⟩
    · obtain rfl : k = n1 := by omega
      have := HT.out
      rw [List.take_of_length_le (by rw [HL1.out]; omega), List.take_of_length_le (by rw [HL2.out]; omega)] at this
      have hd : Hid (decide (M1 = M2) = true) := decide_eq_true this
      clear this
      go_wp2_with fail
      go_ret
      exact ⟨by rw [hd.out]; rfl, HB.out⟩

set_option maxRecDepth 100000 in
set_option maxHeartbeats 2000000 in
theorem implSameR (a1 a2 : Option Addr) (n1 c1 n2 c2 : Nat) (M1 M2 : List (List Rz)) (w : World) (r1 : RGrid w a1 n1 c1 M1) (r2 : RGrid w a2 n2 c2 M2) :
    Calls Try.prog 62 #[.slice a1 n1 c1, .slice a2 n2 c2] w fun e w' => e = .returned (.bool (decide (M1 = M2))) ∧ Below w.heap.size w w' := by
  have K := Lib.hid (equalFunc a1 a2 n1 c1 n2 c2 M1 M2 w r1 r2)
  clear r1 r2
  generalize decide (M1 = M2) = B at K
  go_enter Try.func62, Try.ntmps62
  go_wp2_with fail
  refine K.out.mono ?_
  rintro e w1 ⟨rfl, hb1⟩
  go_wp2_with fail
  go_ret
  exact ⟨rfl, hb1⟩

set_option maxRecDepth 100000 in
set_option maxHeartbeats 8000000 in
theorem specSameR (a1 a2 : Option Addr) (n1 c1 n2 c2 : Nat) (M1 M2 : List (List Rz)) (w : World) (r1 : RGrid w a1 n1 c1 M1) (r2 : RGrid w a2 n2 c2 M2) :
    Calls Try.prog 112 #[.slice a1 n1 c1, .slice a2 n2 c2] w fun e w' => e = .returned (.bool (decide (M1 = M2))) ∧ Below w.heap.size w w' := by
  have hl1 := r1.len
  have hl2 := r2.len
  have hn := r1.le
  have hn2 := r2.le
  unfold maxLen at hn hn2
  by_cases hne : n1 = n2
  rotate_left
  · have hd : Hid (decide (M1 = M2) = false) := by
      show _ = _
      apply decide_eq_false; intro h; subst h; exact hne (hl1.symm.trans hl2)
    clear r1 r2
    go_enter Try.func112, Try.ntmps112
    go_wp2_with fail
    go_ret
    exact ⟨by rw [hd.out]; rfl, Below.refl _ _⟩
  subst hne
  have R1 := Lib.hid r1
  have R2 := Lib.hid r2
  have HL1 := Lib.hid hl1
  have HL2 := Lib.hid hl2
  clear r1 r2 hl1 hl2
  go_enter Try.func112, Try.ntmps112
  go_wp2_with fail
  go_loopw [16] (fun v wr => ∃ k : Nat, k ≤ n1 ∧ v = .int .i64 k ∧ Hid (M1.take k = M2.take k) ∧ Hid (Below w.heap.size w wr)) (fun v _ => n1 - (intOf v).toNat)
  case atStart => exact ⟨0, by omega, rfl, by simp [Hid], Below.refl _ _⟩
  case round =>
    obtain ⟨k, hk, rfl, HT, HB⟩ := hrel
    by_cases hlt : k < n1
    · have hk1 : k < M1.length := by rw [HL1.out]; exact hlt
      have hk2 : k < M2.length := by rw [HL2.out]; exact hlt
      have G1 := R1.out.below HB.out
      have G2 := R2.out.below HB.out
      obtain ⟨b1, o1, rfl, hbb1⟩ := G1.form (by omega)
      obtain ⟨b2, o2, rfl, hbb2⟩ := G2.form (by omega)
      obtain ⟨d1, e1, p1, q1⟩ := G1.row k hk1
      obtain ⟨d2, e2, p2, q2⟩ := G2.row k hk2
      have hd : ¬ M1[k] = M2[k] → Hid (decide (M1 = M2) = false) := fun he => by
        show _ = _
        apply decide_eq_false; intro h; subst h; exact he rfl
      have HT2 : M1[k] = M2[k] → Hid (M1.take (k + 1) = M2.take (k + 1)) := fun he => take_sameM hk1 hk2 HT.out he
      have hm1 := q1.le
      have hm2 := q2.le
      unfold maxLen at hm1 hm2
      generalize M1[k] = x1 at p1 q1 hd HT2 hm1
      generalize M2[k] = x2 at p2 q2 hd HT2 hm2
      clear G1 G2 hk1 hk2
      by_cases hnm : x1.length = x2.length
      rotate_left
      · have hd2 := hd (fun h => hnm (by rw [h]))
        have hq1 : ((x1.length : Int) != (x2.length : Int)) = true := by simp; omega
        have hq2 : (x1.length != x2.length) = true := by simp; omega
        generalize x1.length = m1 at *
        generalize x2.length = m2 at *
        clear hd HT2 q1 q2 hnm
        go_wp2_with fail
        go_ret
        exact ⟨by rw [hd2.out]; rfl, HB.out⟩
      · obtain ⟨m, hm⟩ : ∃ m, x1.length = m := ⟨_, rfl⟩
        have hm' : x2.length = m := by omega
        rw [hm] at p1 q1 hm1
        rw [hm'] at p2 q2 hm2
        have HM1 := Lib.hid hm
        have HM2 := Lib.hid hm'
        have HD := Lib.hid hd
        have HT3 := Lib.hid HT2
        have Q1 := Lib.hid q1
        have Q2 := Lib.hid q2
        clear hd HT2 q1 q2 hnm hm hm'
        obtain ⟨wo, rfl⟩ : ∃ wo : World, wo = wr := ⟨_, rfl⟩
        go_wp2_with fail
        go_loopw [31] (fun v wr => ∃ j : Nat, j ≤ m ∧ v = .int .i64 j ∧ Hid (x1.take j = x2.take j) ∧ Hid (Below wo.heap.size wo wr)) (fun v _ => m - (intOf v).toNat)
        case atStart => exact ⟨0, by omega, rfl, by simp [Hid], Below.refl _ _⟩
        case round =>
          obtain ⟨j, hj, rfl, HU, HC⟩ := hrel
          by_cases hlj : j < m
          · have hj1 : j < x1.length := by rw [HM1.out]; exact hlj
            have hj2 : j < x2.length := by rw [HM2.out]; exact hlj
            have F1 := Q1.out.below HC.out
            have F2 := Q2.out.below HC.out
            obtain ⟨b3, o3, rfl, hbb3, hcc3⟩ := F1.form (by omega)
            obtain ⟨b4, o4, rfl, hbb4, hcc4⟩ := F2.form (by omega)
            obtain ⟨s0, s1⟩ := rat_cells F1 j hj1
            obtain ⟨t0, t1⟩ := rat_cells F2 j hj2
            rw [← HC.out.cell (p := ⟨b2, _, none⟩) hbb2] at p2
            have hsz := HC.out.size
            have hbb2' : b2 < wr.heap.size := by omega
            have hx2 : ¬ b2 = wr.heap.size := by omega
            have hx4 : ¬ b4 = wr.heap.size := by omega
            have hd : ¬ x1[j] = x2[j] → Hid (decide (M1 = M2) = false) := fun he => HD.out (fun h => by subst h; exact he rfl)
            have HU2 : x1[j] = x2[j] → Hid (x1.take (j + 1) = x2.take (j + 1)) := fun he => take_sameR hj1 hj2 HU.out he
            generalize x1[j] = y at s0 s1 hd HU2
            generalize x2[j] = z at t0 t1 hd HU2
            obtain ⟨y0, y1⟩ := y
            obtain ⟨z0, z1⟩ := z
            clear hcc3 hcc4 F1 F2 hj1 hj2
            have hq : (y0 = z0 ∧ y1 = z1) ∨ ((y0 == z0) = false) ∨ (y0 = z0 ∧ (y1 == z1) = false) := by
              by_cases h0 : y0 = z0
              · by_cases h1 : y1 = z1
                · exact .inl ⟨h0, h1⟩
                · exact .inr (.inr ⟨h0, by simp [h1]⟩)
              · exact .inr (.inl (by simp [h0]))
            rcases hq with ⟨rfl, rfl⟩ | hq | ⟨rfl, hq⟩
            · have HU3 := HU2 rfl
              clear hd HU2
              go_wp2_with fail
              go_quiet (fail)
              go_wp2_with fail
              go_roundw
              case rel => exact ⟨j + 1, by omega, by go_num, HU3.out, below_drewN (HC.out.alloc (by omega) _) _⟩
              case measure => simp [intOf]; omega
            all_goals
              have hd3 := hd (by intro h; simp at h; simp [h] at hq)
              clear hd HU2
              go_wp2_with fail
              go_quiet (fail)
              go_wp2_with fail
              go_ret
              exact ⟨by rw [hd3.out]; rfl, below_drewN (bstep HB.out (balloc HC.out _)) _⟩
          · obtain rfl : j = m := by omega
            have he : x1 = x2 := by
              have := HU.out
              rw [List.take_of_length_le (by rw [HM1.out]; omega), List.take_of_length_le (by rw [HM2.out]; omega)] at this
              exact this
            have HT4 := HT3.out he
            clear he
            go_wp2_with fail
            go_roundw
            case rel => exact ⟨k + 1, by omega, by go_num, HT4.out, bstep HB.out HC.out⟩
            case measure => simp [intOf]; omega
    · obtain rfl : k = n1 := by omega
      have := HT.out
      rw [List.take_of_length_le (by rw [HL1.out]; omega), List.take_of_length_le (by rw [HL2.out]; omega)] at this
      have hd : Hid (decide (M1 = M2) = true) := decide_eq_true this
      clear this
      go_wp2_with fail
      go_ret
      exact ⟨by rw [hd.out]; rfl, HB.out⟩
end Go.Proofs.Ytjchindjoailbaa

/- Networks that answer alike. -/
namespace Go.Proofs.Ytjchindjoailbaa
set_option linter.unusedSimpArgs false
set_option linter.unusedVariables false
open Go.RowKit

def respZ (N E S : Int) (l : List Wz) : List (List Rz) := respM N.toNat E.toNat S l
/-- what ResponseOf answers -/
def RespRes (e : Ending) (w' : World) (ok : Bool) (N E S : Int) (l : List Wz) : Prop :=
  ∃ a' k c', e = .returned (.tuple #[.slice a' k c', .bool ok]) ∧ RGrid w' a' k c' (if ok = true then respZ N E S l else [])
theorem rgrid_nil (w : World) : RGrid w none 0 0 [] := ⟨[], rfl, ⟨by simp, by omega, by unfold maxLen; omega, .inl rfl⟩, fun x hx => by simp at hx⟩
/-- they answer alike -/
def Alike (N1 E1 S1 : Int) (l1 : List Wz) (N2 E2 S2 : Int) (l2 : List Wz) : Prop := NetOk N1 E1 S1 l1 ∧ NetOk N2 E2 S2 l2 ∧ respZ N1 E1 S1 l1 = respZ N2 E2 S2 l2
end Go.Proofs.Ytjchindjoailbaa

/- AreAlike of the reference. -/
namespace Go.Proofs.Ytjchindjoailbaa
set_option linter.unusedSimpArgs false
set_option linter.unusedVariables false
open Go.RowKit

theorem specResp (N E S : Int) (a : Option Addr) (n c : Nat) (l : List Wz) (ok : Bool) (hok : ok = true ↔ NetOk N E S l) (w : World) (hr : ArgRow w a n c 3 (wires l)) (hl : l.length = n) :
    Calls Try.prog 111 #[netV N E S a n c] w fun e w' => RespRes e w' ok N E S l ∧ Below w.heap.size w w' := by
  cases ok with
  | false =>
    refine (specResponseOf0 N E S a n c l (fun h => by have := hok.2 h; cases this) w hr hl).mono ?_
    rintro e w' ⟨rfl, hb⟩
    exact ⟨⟨none, 0, 0, rfl, rgrid_nil _⟩, hb⟩
  | true =>
    have h := hok.1 rfl
    obtain ⟨M, rfl⟩ : ∃ M : Nat, N = M := ⟨N.toNat, by have := h.h.n1; omega⟩
    obtain ⟨F, rfl⟩ : ∃ F : Nat, E = F := ⟨E.toNat, by have := h.h.e1; omega⟩
    refine (specResponseOf M F S a n c l (by have := h.h.e1; omega) (by have := h.h.eN; omega) h w hr hl).mono ?_
    rintro e w' ⟨g, c', rfl, hg, hb⟩
    exact ⟨⟨_, _, _, rfl, by rw [if_pos rfl]; exact hg⟩, hb⟩
set_option maxRecDepth 100000 in
set_option maxHeartbeats 8000000 in
theorem specAreAlike (N1 E1 S1 : Int) (a1 : Option Addr) (n1 c1 : Nat) (l1 : List Wz) (N2 E2 S2 : Int) (a2 : Option Addr) (n2 c2 : Nat) (l2 : List Wz) (b : Bool) (hb : b = true ↔ Alike N1 E1 S1 l1 N2 E2 S2 l2) (w : World)
    (r1 : ArgRow w a1 n1 c1 3 (wires l1)) (h1 : l1.length = n1) (r2 : ArgRow w a2 n2 c2 3 (wires l2)) (h2 : l2.length = n2) :
    Calls Try.prog 63 #[netV N1 E1 S1 a1 n1 c1, netV N2 E2 S2 a2 n2 c2] w fun e w' => e = .returned (.bool b) ∧ Below w.heap.size w w' := by
  obtain ⟨k1, hk1⟩ := bool_of (NetOk N1 E1 S1 l1)
  obtain ⟨k2, hk2⟩ := bool_of (NetOk N2 E2 S2 l2)
  have R1 := Lib.hid r1
  have R2 := Lib.hid r2
  have K1 := Lib.hid (fun (w : World) rr => specResp N1 E1 S1 a1 n1 c1 l1 k1 hk1 w rr h1)
  have K2 := Lib.hid (fun (w : World) rr => specResp N2 E2 S2 a2 n2 c2 l2 k2 hk2 w rr h2)
  have HB : Hid (b = (k1 && k2 && decide (respZ N1 E1 S1 l1 = respZ N2 E2 S2 l2))) := by
    show _ = _
    rw [Bool.eq_iff_iff, hb]
    simp only [Bool.and_eq_true, decide_eq_true_eq, hk1, hk2, Alike, and_assoc]
  clear r1 r2 h1 h2 hb hk1 hk2
  go_enter Try.func63, Try.ntmps63
  go_wp2_with fail
  refine (K1.out _ (R1.out.below (by (repeat' (first | (with_reducible exact Below.refl _ _) | (with_reducible assumption) | (with_reducible refine balloc ?_ _) | (with_reducible refine Below.drew ?_) | (with_reducible refine below_drewN ?_ _) | (with_reducible refine bset ?_ ?_ _) | (with_reducible refine bstep ?_ (by assumption)) | go_size))))).mono ?_
  rintro e wA ⟨⟨aA, kA, cA, rfl, GA⟩, hbA⟩
  have GA := Lib.hid GA
  have B1 : Hid (Below w.heap.size w wA) := bstep (by (repeat' (first | (with_reducible exact Below.refl _ _) | (with_reducible assumption) | (with_reducible refine balloc ?_ _) | (with_reducible refine Below.drew ?_) | (with_reducible refine below_drewN ?_ _) | (with_reducible refine bset ?_ ?_ _) | (with_reducible refine bstep ?_ (by assumption)) | go_size))) hbA
  obtain ⟨uu1, vv1, zz1, nn1, mm1⟩ := bltn hbA (b := w.heap.size + 1) (by (first | omega | (simp only [World.size_alloc, World.size_setCell, World.size_drew, World.heap_drewN]; omega)))
  clear hbA
  go_wp2_with fail
  refine (K2.out _ (R2.out.below B1.out)).mono ?_
  rintro e wB ⟨⟨aB, kB, cB, rfl, GB⟩, hbB⟩
  have GB := Lib.hid GB
  have GA2 := Lib.hid (GA.out.below hbB)
  have B2 : Hid (Below w.heap.size w wB) := bstep B1.out hbB
  clear hbB
  cases k1
  · go_wp2_with fail
    go_ret
    exact ⟨by rw [HB.out]; rfl, B2.out⟩
  cases k2
  · go_wp2_with fail
    go_ret
    exact ⟨by rw [HB.out]; rfl, B2.out⟩
  have KS := Lib.hid (specSameR aA aB kA cA kB cB _ _ wB GA2.out GB.out)
  go_wp2_with fail
  refine (KS.out).mono ?_
  rintro e w9 ⟨rfl, hb9⟩
  go_wp2_with fail
  go_ret
  exact ⟨by rw [HB.out]; simp, bstep B2.out hb9⟩
end Go.Proofs.Ytjchindjoailbaa

/- AreAlike of the program. -/
namespace Go.Proofs.Ytjchindjoailbaa
set_option linter.unusedSimpArgs false
set_option linter.unusedVariables false
open Go.RowKit

theorem implResp (N E S : Int) (a : Option Addr) (n c : Nat) (l : List Wz) (ok : Bool) (hok : ok = true ↔ NetOk N E S l) (w : World) (hr : ArgRow w a n c 3 (wires l)) (hl : l.length = n) :
    Calls Try.prog 57 #[netV N E S a n c] w fun e w' => RespRes e w' ok N E S l ∧ Below w.heap.size w w' := by
  cases ok with
  | false =>
    refine (implResponseOf0 N E S a n c l (fun h => by have := hok.2 h; cases this) w hr hl).mono ?_
    rintro e w' ⟨rfl, hb⟩
    exact ⟨⟨none, 0, 0, rfl, rgrid_nil _⟩, hb⟩
  | true =>
    have h := hok.1 rfl
    obtain ⟨M, rfl⟩ : ∃ M : Nat, N = M := ⟨N.toNat, by have := h.h.n1; omega⟩
    obtain ⟨F, rfl⟩ : ∃ F : Nat, E = F := ⟨E.toNat, by have := h.h.e1; omega⟩
    refine (implResponseOf M F S a n c l (by have := h.h.e1; omega) (by have := h.h.eN; omega) h w hr hl).mono ?_
    rintro e w' ⟨g, c', rfl, hg, hb⟩
    exact ⟨⟨_, _, _, rfl, by rw [if_pos rfl]; exact hg⟩, hb⟩
set_option maxRecDepth 100000 in
set_option maxHeartbeats 8000000 in
theorem implAreAlike (N1 E1 S1 : Int) (a1 : Option Addr) (n1 c1 : Nat) (l1 : List Wz) (N2 E2 S2 : Int) (a2 : Option Addr) (n2 c2 : Nat) (l2 : List Wz) (b : Bool) (hb : b = true ↔ Alike N1 E1 S1 l1 N2 E2 S2 l2) (w : World)
    (r1 : ArgRow w a1 n1 c1 3 (wires l1)) (h1 : l1.length = n1) (r2 : ArgRow w a2 n2 c2 3 (wires l2)) (h2 : l2.length = n2) :
    Calls Try.prog 54 #[netV N1 E1 S1 a1 n1 c1, netV N2 E2 S2 a2 n2 c2] w fun e w' => e = .returned (.bool b) ∧ Below w.heap.size w w' := by
  obtain ⟨k1, hk1⟩ := bool_of (NetOk N1 E1 S1 l1)
  obtain ⟨k2, hk2⟩ := bool_of (NetOk N2 E2 S2 l2)
  have R1 := Lib.hid r1
  have R2 := Lib.hid r2
  have K1 := Lib.hid (fun (w : World) rr => implResp N1 E1 S1 a1 n1 c1 l1 k1 hk1 w rr h1)
  have K2 := Lib.hid (fun (w : World) rr => implResp N2 E2 S2 a2 n2 c2 l2 k2 hk2 w rr h2)
  have HB : Hid (b = (k1 && k2 && decide (respZ N1 E1 S1 l1 = respZ N2 E2 S2 l2))) := by
    show _ = _
    rw [Bool.eq_iff_iff, hb]
    simp only [Bool.and_eq_true, decide_eq_true_eq, hk1, hk2, Alike, and_assoc]
  clear r1 r2 h1 h2 hb hk1 hk2
  go_enter Try.func54, Try.ntmps54
  go_wp2_with fail
  refine (K1.out _ (R1.out.below (by (repeat' (first | (with_reducible exact Below.refl _ _) | (with_reducible assumption) | (with_reducible refine balloc ?_ _) | (with_reducible refine Below.drew ?_) | (with_reducible refine below_drewN ?_ _) | (with_reducible refine bset ?_ ?_ _) | (with_reducible refine bstep ?_ (by assumption)) | go_size))))).mono ?_
  rintro e wA ⟨⟨aA, kA, cA, rfl, GA⟩, hbA⟩
  have GA := Lib.hid GA
  have B1 : Hid (Below w.heap.size w wA) := bstep (by (repeat' (first | (with_reducible exact Below.refl _ _) | (with_reducible assumption) | (with_reducible refine balloc ?_ _) | (with_reducible refine Below.drew ?_) | (with_reducible refine below_drewN ?_ _) | (with_reducible refine bset ?_ ?_ _) | (with_reducible refine bstep ?_ (by assumption)) | go_size))) hbA
  obtain ⟨uu1, vv1, zz1, nn1, mm1⟩ := bltn hbA (b := w.heap.size + 1) (by (first | omega | (simp only [World.size_alloc, World.size_setCell, World.size_drew, World.heap_drewN]; omega)))
  clear hbA
  go_wp2_with fail
  refine (K2.out _ (R2.out.below B1.out)).mono ?_
  rintro e wB ⟨⟨aB, kB, cB, rfl, GB⟩, hbB⟩
  have GB := Lib.hid GB
  have GA2 := Lib.hid (GA.out.below hbB)
  have B2 : Hid (Below w.heap.size w wB) := bstep B1.out hbB
  clear hbB
  cases k1
  · go_wp2_with fail
    go_ret
    exact ⟨by rw [HB.out]; rfl, B2.out⟩
  cases k2
  · go_wp2_with fail
    go_ret
    exact ⟨by rw [HB.out]; rfl, B2.out⟩
  have KS := Lib.hid (implSameR aA aB kA cA kB cB _ _ wB GA2.out GB.out)
  go_wp2_with fail
  refine (KS.out).mono ?_
  rintro e w9 ⟨rfl, hb9⟩
  go_wp2_with fail
  go_ret
  exact ⟨by rw [HB.out]; simp, bstep B2.out hb9⟩
end Go.Proofs.Ytjchindjoailbaa
