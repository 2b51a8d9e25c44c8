/- Tables of a call's own, marked and read again by the laws. -/
import Derived.Test.YtdmiihljepkapaaMarkN
import Derived.Test.YtdmiihljepkapaaLeft
import Derived.Test.YtdmiihljepkapaaIntSS
namespace Go.Proofs.Ytdmiihljepkapaa
set_option linter.unusedSimpArgs false
set_option linter.unusedVariables false
open Go.RowKit

set_option maxHeartbeats 2000000 in
theorem markInts (b n k : Nat) (f : Nat → Value) (w : World) (h : w.rowIs b 3 n f) (hn : n ≤ 1000) (hk : k ≤ 100000) :
    Calls Try.prog 144 #[.slice (some ⟨b, 0, none⟩) n n, .int .i64 k] w fun e w' => e = .returned (.int .i64 ((k + n : Nat) : Int)) ∧ w'.rowIs b 3 n (fun j => .int .i64 ((k + j : Nat) : Int)) ∧ w.grownBy w' (some b) := by
  have H0 : Hid (w.rowIs b 3 n (fun j => if j < 0 then .int .i64 ((k + j : Nat) : Int) else f j)) := h.congr (fun i _ => by simp)
  clear h
  go_enter Try.func144, Try.ntmps144
  go_wp2_with fail
  go_loopw [1, 5] (fun v u wr => ∃ (i q : Nat), i ≤ n ∧ u = .int .i64 i ∧ v = .int .i64 q ∧ Hid (q = k + i) ∧ Hid (wr.rowIs b 3 n (fun j => if j < i then .int .i64 ((k + j : Nat) : Int) else f j)) ∧ Hid (w.grownBy wr (some b))) (fun _ u _ => n - (intOf u).toNat)
  case atStart => exact ⟨0, k, by omega, rfl, rfl, rfl, H0.out, grown_refl _ _⟩
  case round =>
    clear H0
    obtain ⟨i, q, hi, rfl, rfl, HQ, H, HB⟩ := hrel
    by_cases hlt : i < n
    · have hq := HQ.out
      have e1 : IntKind.i64.wrap ((q : Int) + 1) = (q : Int) + 1 := IntWalk.i64_in _ (by omega)
      have hc0 := H.out.cell hlt
      have hf0 := H.out.frozen i
      have hl0 := H.out.lt
      simp only [Nat.lt_irrefl, if_false] at hc0
      have H2 : Hid ((wr.setCell ⟨b, i, none⟩ (.int .i64 q)).rowIs b 3 n (fun j => if j < i + 1 then .int .i64 ((k + j : Nat) : Int) else f j)) := by
        refine (H.out.set i (.int .i64 q)).congr (fun j _ => ?_)
        by_cases e : j = i
        · subst e; simp [hq]
        · by_cases e2 : j < i
          · simp [e, e2, show j < i + 1 from by omega]
          · simp [e, e2, show ¬ j < i + 1 from by omega]
      have H3 : Hid (w.grownBy (wr.setCell ⟨b, i, none⟩ (.int .i64 q)) (some b)) := grown_trans HB.out (grown_set _ ⟨b, i, none⟩ _)
      have HQ2 : Hid (q + 1 = k + (i + 1)) := by show _ = _; omega
      clear hq
      go_wp2_with fail
      go_roundw
      case rel => exact ⟨i + 1, q + 1, by omega, by go_num, by go_num, HQ2.out, H2.out, H3.out⟩
      case measure => simp [intOf]; omega
    · obtain rfl : i = n := by omega
      have hq := HQ.out
      go_wp2_with fail
      go_ret
      exact ⟨by rw [hq]; rfl, H.out.congr (fun j hj => by simp [hj]), HB.out⟩

theorem PG.rowTo {w w' : World} {base g N k : Nat} {r : Nat → Nat} {f : Nat → Nat → Int} (h : PG w base g N k r f) {i : Nat} (hi : i < k) {v : Nat → Int} (hg : w.grownBy w' (some (r i))) (hr : w'.rowIs (r i) 3 N (fun j => .int .i64 (v j))) : PG w' base g N k r (fun q j => if q = i then v j else f q j) := by
  refine ⟨h.og.of_block (hg.block _ h.og.lt (fun e => h.ne i hi (by simpa using e.symm))), fun q hq => ?_, h.ne, h.inj, h.lbg, h.lb, h.le⟩
  by_cases e : q = i
  · subst e; exact hr.congr (fun j _ => by simp)
  · exact ((h.rows q hq).of_block (hg.block _ (h.rows q hq).lt (fun e' => e (h.inj q i hq hi (by simpa using e'))))).congr (fun j _ => by simp [e])

/-- a table of the call's own, or none at all -/
def OG (w : World) (base : Nat) (a : Option Addr) (n c : Nat) (f : Int → Int → Int) : Prop :=
  n ≤ 5 ∧ ((a = none ∧ n = 0 ∧ c = 0) ∨ ∃ g r, a = some ⟨g, 0, none⟩ ∧ c = n ∧ PG w base g n n r (fun i j => f i j))
theorem OG.below {w w' : World} {base : Nat} {a : Option Addr} {n c : Nat} {f : Int → Int → Int} (h : OG w base a n c f) (hb : Below w.heap.size w w') : OG w' base a n c f := by
  obtain ⟨h5, h | ⟨g, r, e1, e2, h⟩⟩ := h
  · exact ⟨h5, .inl h⟩
  · exact ⟨h5, .inr ⟨g, r, e1, e2, h.below hb⟩⟩
theorem IGrid.none (w : World) : IGrid w none 0 0 [] := ⟨[], rfl, ⟨by simp, by omega, by unfold maxLen; omega, .inl rfl⟩, by simp⟩
theorem OG.grid {w : World} {base : Nat} {a : Option Addr} {n c : Nat} {f : Int → Int → Int} (h : OG w base a n c f) : IGrid w a n c (tab n f) := by
  obtain ⟨h5, ⟨rfl, rfl, rfl⟩ | ⟨g, r, rfl, rfl, h⟩⟩ := h
  · exact IGrid.none w
  · exact h.grid (by unfold maxLen; omega)
/-- the marks of a table -/
def markF (n : Nat) (i j : Int) : Int := 1 + i * n + j

set_option maxHeartbeats 4000000 in
theorem markIntSS (base : Nat) (a : Option Addr) (n c : Nat) (f : Int → Int → Int) (w : World) (h : OG w base a n c f) :
    Calls Try.prog 70 #[.slice a n c, .int .i64 1] w fun e w' => e = .returned (.int .i64 ((1 + n * n : Nat) : Int)) ∧ OG w' base a n c (markF n) ∧ Below base w w' := by
  obtain ⟨h5, ⟨rfl, rfl, rfl⟩ | ⟨g, r, rfl, rfl, h⟩⟩ := h
  · go_enter Try.func70, Try.ntmps70
    go_wp2_with fail
    go_rounds 1
    go_ret
    exact ⟨rfl, ⟨by omega, .inl ⟨rfl, rfl, rfl⟩⟩, Below.refl _ _⟩
  · have H0 : Hid (PG w base g c c r (fun q j => if q < 0 then ((1 + q * c + j : Nat) : Int) else f q j)) := h.congr (fun i j _ _ => by simp)
    clear h
    go_enter Try.func70, Try.ntmps70
    go_wp2_with fail
    go_loopw [1, 5] (fun v u wr => ∃ (i q : Nat), i ≤ c ∧ u = .int .i64 i ∧ v = .int .i64 q ∧ Hid (q = 1 + i * c) ∧ Hid (PG wr base g c c r (fun q j => if q < i then ((1 + q * c + j : Nat) : Int) else f q j)) ∧ Hid (Below base w wr)) (fun _ u _ => c - (intOf u).toNat)
    case atStart => exact ⟨0, 1, by omega, rfl, rfl, by simp [Hid], H0.out, Below.refl _ _⟩
    case round =>
      clear H0
      obtain ⟨i, q, hi, rfl, rfl, HQ, H, HB⟩ := hrel
      by_cases hlt : i < c
      · have hic : i * c ≤ 25 := by have := Nat.mul_le_mul (show i ≤ 5 by omega) h5; omega
        have hgo := H.out.og.lt
        have hco := H.out.outer (i := i) hlt
        have KM := Lib.hid (fun (w : World) f hr => markInts (r i) c q f w hr (by omega) (by have := HQ.out; omega))
        have HR := Lib.hid (H.out.rows i hlt)
        have HLB := Lib.hid (H.out.lb i hlt)
        obtain ⟨ρ, hρ⟩ : ∃ ρ, r i = ρ := ⟨_, rfl⟩
        rw [hρ] at hco KM HR HLB
        have HΡ := Lib.hid hρ
        clear hρ hic
        go_wp2_with fail
        refine (KM.out _ _ HR.out).mono ?_
        rintro e w2 ⟨rfl, h2, g2⟩
        have H2 : Hid (PG w2 base g c c r (fun q j => if q < i + 1 then ((1 + q * c + j : Nat) : Int) else f q j)) := by
          rw [← HΡ.out] at h2 g2
          refine (H.out.rowTo hlt g2 h2).congr (fun q' j _ _ => ?_)
          by_cases e : q' = i
          · subst e; simp; have := HQ.out; omega
          · by_cases e2 : q' < i
            · simp [e, e2, show q' < i + 1 from by omega]
            · simp [e, e2, show ¬ q' < i + 1 from by omega]
        have HB2 : Hid (Below base w w2) := ⟨g2.os.trans HB.out.os, g2.tape.trans HB.out.tape, g2.output.trans HB.out.output, Nat.le_trans HB.out.size g2.size, fun k hk => by
          rw [g2.block k (by have := H.out.lbg; omega) (fun e => by have := HLB.out; simp at e; omega)]; exact HB.out.block k hk⟩
        have HQ2 : Hid (q + c = 1 + (i + 1) * c) := by show _ = _; rw [HQ.out, Nat.succ_mul]; omega
        clear h2 g2
        go_wp2_with fail
        go_roundw
        case rel => exact ⟨i + 1, q + c, by omega, by go_num, by go_num, HQ2.out, H2.out, HB2.out⟩
        case measure => simp [intOf]; omega
      · obtain rfl : i = c := by omega
        have hq := HQ.out
        go_wp2_with fail
        go_ret
        refine ⟨by rw [hq]; rfl, ⟨h5, .inr ⟨g, r, rfl, rfl, H.out.congr (fun q' j hq' _ => ?_)⟩⟩, HB.out⟩
        simp only [if_pos hq']
        unfold markF; simp

set_option maxHeartbeats 2000000 in
theorem heldInts (a : Option Addr) (n c k : Nat) (l : List Int) (w : World) (h : ArgRow w a n c 1 (ints l)) (hl : ∀ j (hj : j < l.length), l[j] = ((k + j : Nat) : Int)) (hn : n ≤ 1000) (hk : k ≤ 100000) :
    Calls Try.prog 145 #[.slice a n c, .int .i64 k] w fun e w' => e = .returned (.int .i64 ((k + n : Nat) : Int)) ∧ Below w.heap.size w w' := by
  have hll := h.ints_len
  by_cases h0 : n = 0
  · subst h0
    clear h hl
    go_enter Try.func145, Try.ntmps145
    go_wp2_with fail
    go_rounds 1
    go_ret
    exact ⟨rfl, Below.refl _ _⟩
  · obtain ⟨b1, o1, rfl, hb1, _⟩ := h.form (by omega)
    have H := Lib.hid h
    have HLL := Lib.hid hll
    have HL := Lib.hid hl
    clear h hl hll
    go_enter Try.func145, Try.ntmps145
    go_wp2_with fail
    go_loopw [1, 5] (fun v u wr => ∃ (i q : Nat), i ≤ n ∧ u = .int .i64 i ∧ v = .int .i64 q ∧ Hid (q = k + i) ∧ wr = w) (fun _ u _ => n - (intOf u).toNat)
    case atStart => exact ⟨0, k, by omega, rfl, rfl, rfl, rfl⟩
    case round =>
      obtain ⟨i, q, hi, rfl, rfl, HQ, rfl⟩ := hrel
      by_cases hlt : i < n
      · have hli : i < l.length := by rw [HLL.out]; exact hlt
        have hq := HQ.out
        have e1 : IntKind.i64.wrap ((q : Int) + 1) = (q : Int) + 1 := IntWalk.i64_in _ (by omega)
        have c0 := int_cell H.out i hli
        rw [HL.out i hli, ← hq] at c0
        have HQ2 : Hid (q + 1 = k + (i + 1)) := by show _ = _; omega
        clear hq hli
        go_wp2_with fail
        go_roundw
        case rel => exact ⟨i + 1, q + 1, by omega, by go_num, by go_num, HQ2.out, by trivial⟩
        case measure => simp [intOf]; omega
      · obtain rfl : i = n := by omega
        have hq := HQ.out
        go_wp2_with fail
        go_ret
        exact ⟨by rw [hq]; rfl, Below.refl _ _⟩

set_option maxHeartbeats 4000000 in
theorem heldIntSS (a : Option Addr) (n c : Nat) (w : World) (h5 : n ≤ 5) (h : IGrid w a n c (tab n (markF n))) :
    Calls Try.prog 71 #[.slice a n c, .int .i64 1] w fun e w' => e = .returned (.int .i64 ((1 + n * n : Nat) : Int)) ∧ Below w.heap.size w w' := by
  have H := Lib.hid h
  clear h
  go_enter Try.func71, Try.ntmps71
  go_wp2_with fail
  go_loopw [1, 5] (fun v u wr => ∃ (i q : Nat), i ≤ n ∧ u = .int .i64 i ∧ v = .int .i64 q ∧ Hid (q = 1 + i * n) ∧ Hid (Below w.heap.size w wr)) (fun _ u _ => n - (intOf u).toNat)
  case atStart => exact ⟨0, 1, by omega, rfl, rfl, by simp [Hid], Below.refl _ _⟩
  case round =>
    obtain ⟨i, q, hi, rfl, rfl, HQ, HB⟩ := hrel
    by_cases hlt : i < n
    · have hic : i * n ≤ 25 := by have := Nat.mul_le_mul (show i ≤ 5 by omega) h5; omega
      have G1 := H.out.below HB.out
      obtain ⟨b1, o1, rfl, _⟩ := G1.form (by omega)
      have hli : i < (tab n (markF n)).length := by rw [tab_len]; exact hlt
      obtain ⟨d1, e1, p1, q1⟩ := G1.row i hli
      have hrl : (tab n (markF n))[i].length = n := tab_sq n _ _ (List.getElem_mem _)
      rw [hrl] at p1 q1
      have KE := Lib.hid (fun (w' : World) (hb : Below wr.heap.size wr w') => heldInts d1 n e1 q (tab n (markF n))[i] w' (ArgRow.below q1 hb) (fun j hj => by
        have hjn : j < n := by omega
        simp only [tab_row, List.getElem_map, upto_at]
        unfold markF
        rw [HQ.out]; simp) (by omega) (by have := HQ.out; omega))
      clear G1 q1 hli hrl hic
      go_wp2_with fail
      refine (KE.out _ (by (repeat' (first | (with_reducible exact Below.refl _ _) | (with_reducible assumption) | (with_reducible refine balloc ?_ _) | (with_reducible refine Below.drew ?_) | (with_reducible refine below_drewN ?_ _) | (with_reducible refine bset ?_ ?_ _) | (with_reducible refine bstep ?_ (by assumption)) | go_size)))).mono ?_
      rintro e w2 ⟨rfl, hb2⟩
      have HQ2 : Hid (q + n = 1 + (i + 1) * n) := by show _ = _; rw [HQ.out, Nat.succ_mul]; omega
      go_wp2_with fail
      go_roundw
      case rel => exact ⟨i + 1, q + n, by omega, by go_num, by go_num, HQ2.out, bstep HB.out hb2⟩
      case measure => simp [intOf]; omega
    · obtain rfl : i = n := by omega
      have hq := HQ.out
      go_wp2_with fail
      go_ret
      exact ⟨by rw [hq]; rfl, HB.out⟩
end Go.Proofs.Ytdmiihljepkapaa
