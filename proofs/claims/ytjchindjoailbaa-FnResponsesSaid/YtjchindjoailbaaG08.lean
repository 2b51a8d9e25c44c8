/- NetOk of the reference. -/
import Derived.Test.YtjchindjoailbaaG07
import Derived.Test.YtjchindjoailbaaG04
namespace Go.Proofs.Ytjchindjoailbaa
set_option linter.unusedSimpArgs false
set_option linter.unusedVariables false
open Go.RowKit

set_option maxRecDepth 100000 in
set_option maxHeartbeats 8000000 in
theorem specNetOk (N E S : Int) (a : Option Addr) (n c : Nat) (l : List Wz) (ok : Bool) (hok : ok = true ↔ NetOk N E S l) (w : World) (hr : ArgRow w a n c 3 (wires l)) (hl : l.length = n) :
    Calls Try.prog 93 #[netV N E S a n c] w fun e w' => e = .returned (.bool ok) ∧ Below w.heap.size w w' := by
  have hn := hr.le
  unfold maxLen at hn
  have HR := Lib.hid hr
  have HL := Lib.hid hl
  have HO := Lib.hid hok
  clear hr hl hok
  obtain ⟨t1, ht1⟩ := bool_of (1 ≤ N ∧ N ≤ 5)
  obtain ⟨t2, ht2⟩ := bool_of (1 ≤ E ∧ E ≤ N)
  obtain ⟨t3, ht3⟩ := bool_of (1 ≤ S ∧ S ≤ 1000)
  have K1 := Lib.hid (fun w => specIn N 1 5 t1 ht1 w)
  have K2 := Lib.hid (fun w => specIn E 1 N t2 ht2 w)
  have K3 := Lib.hid (fun w => specIn S 1 1000 t3 ht3 w)
  by_cases hh : Hdr N E S
  rotate_left
  · have hb : ok = false := bfalse HO.out (fun h => hh h.h)
    subst hb
    have hc : t1 = false ∨ (t1 = true ∧ t2 = false) ∨ (t1 = true ∧ t2 = true ∧ t3 = false) := by
      cases t1
      · exact .inl rfl
      · cases t2
        · exact .inr (.inl ⟨rfl, rfl⟩)
        · cases t3
          · exact .inr (.inr ⟨rfl, rfl, rfl⟩)
          · exact absurd ⟨(ht1.1 rfl).1, (ht1.1 rfl).2, (ht2.1 rfl).1, (ht2.1 rfl).2, (ht3.1 rfl).1, (ht3.1 rfl).2⟩ hh
    clear hh ht1 ht2 ht3
    rcases hc with rfl | ⟨rfl, rfl⟩ | ⟨rfl, rfl, rfl⟩
    · go_enter Try.func93, Try.ntmps93
      go_wp2_with fail
      refine (K1.out _).mono ?_
      rintro e w' ⟨rfl, rfl⟩
      go_wp2_with fail
      go_ret
      exact ⟨rfl, by (repeat' (first | (with_reducible exact Below.refl _ _) | (with_reducible assumption) | (with_reducible refine balloc ?_ _) | (with_reducible refine Below.drew ?_) | (with_reducible refine below_drewN ?_ _) | (with_reducible refine bset ?_ ?_ _) | (with_reducible refine bstep ?_ (by assumption)) | go_size))⟩
    · go_enter Try.func93, Try.ntmps93
      go_wp2_with fail
      refine (K1.out _).mono ?_
      rintro e w' ⟨rfl, rfl⟩
      go_wp2_with fail
      refine (K2.out _).mono ?_
      rintro e w' ⟨rfl, rfl⟩
      go_wp2_with fail
      go_ret
      exact ⟨rfl, by (repeat' (first | (with_reducible exact Below.refl _ _) | (with_reducible assumption) | (with_reducible refine balloc ?_ _) | (with_reducible refine Below.drew ?_) | (with_reducible refine below_drewN ?_ _) | (with_reducible refine bset ?_ ?_ _) | (with_reducible refine bstep ?_ (by assumption)) | go_size))⟩
    · go_enter Try.func93, Try.ntmps93
      go_wp2_with fail
      refine (K1.out _).mono ?_
      rintro e w' ⟨rfl, rfl⟩
      go_wp2_with fail
      refine (K2.out _).mono ?_
      rintro e w' ⟨rfl, rfl⟩
      go_wp2_with fail
      refine (K3.out _).mono ?_
      rintro e w' ⟨rfl, rfl⟩
      go_wp2_with fail
      go_ret
      exact ⟨rfl, by (repeat' (first | (with_reducible exact Below.refl _ _) | (with_reducible assumption) | (with_reducible refine balloc ?_ _) | (with_reducible refine Below.drew ?_) | (with_reducible refine below_drewN ?_ _) | (with_reducible refine bset ?_ ?_ _) | (with_reducible refine bstep ?_ (by assumption)) | go_size))⟩
  have HH := Lib.hid hh
  obtain ⟨n1, n5, e1, eN, s1, s2⟩ := hh
  have := ht1.2 ⟨n1, n5⟩
  subst this
  have := ht2.2 ⟨e1, eN⟩
  subst this
  have := ht3.2 ⟨s1, s2⟩
  subst this
  clear ht1 ht2 ht3
  obtain ⟨M, rfl⟩ : ∃ M : Nat, N = M := ⟨N.toNat, by omega⟩
  go_enter Try.func93, Try.ntmps93
  go_wp2_with fail
  refine (K1.out _).mono ?_
  rintro e w' ⟨rfl, rfl⟩
  go_wp2_with fail
  refine (K2.out _).mono ?_
  rintro e w' ⟨rfl, rfl⟩
  go_wp2_with fail
  refine (K3.out _).mono ?_
  rintro e w' ⟨rfl, rfl⟩
  go_wp2_with fail
  go_loopw [26] (fun v wr => ∃ k : Nat, k ≤ n ∧ v = .int .i64 k ∧ Hid (WOk M l k) ∧ Hid (Below (w.heap.size + 1) (NBox M E S a n c w) wr)) (fun v _ => n - (intOf v).toNat)
  case atStart => exact ⟨0, by omega, rfl, fun j _ h => absurd h (by omega), Below.refl _ _⟩
  case round =>
    obtain ⟨k, hk, rfl, HW, HB⟩ := hrel
    obtain ⟨hB, hz1, u1, hz2, hz3⟩ := nbox_cells HB.out
    have HB' := Lib.hid hB
    by_cases hlt : k < n
    · obtain ⟨b, o, rfl, hb, _⟩ := HR.out.form (by omega)
      have hli : k < l.length := by rw [HL.out]; exact hlt
      obtain ⟨p0, p1, p2⟩ := wire_cells HR.out k hli
      rw [← hB.cell (p := ⟨b, _, none⟩) hb] at p0 p1 p2
      have hbl : b < wr.heap.size := Nat.lt_of_lt_of_le hb hB.size
      have hbn : ¬ b = wr.heap.size := by omega
      have hbn' : ¬ wr.heap.size = b := by omega
      clear hB
      have HWK : NetOk M E S l → Hid (good M l[k] ∧ (∀ h0 : 0 < k, lexlt (l[k - 1]'(by omega)) l[k])) := fun h => h.wok k hli
      have HNX : good M l[k] → (∀ h0 : 0 < k, lexlt (l[k - 1]'(by omega)) l[k]) → Hid (WOk M l (k + 1)) := fun h1 h2 => HW.out.next hli h1 h2
      obtain ⟨y, hy⟩ : ∃ y, y = l[k - 1]'(by omega) := ⟨_, rfl⟩
      have hq : 0 < k → wr.cell? ⟨b, o + (k - 1) * 3, none⟩ = some (.int .i64 y.1) ∧ wr.cell? ⟨b, o + (k - 1) * 3 + 1, none⟩ = some (.int .i64 y.2.1) := by
        intro h0
        obtain ⟨q0, q1, q2⟩ := wire_cells HR.out (k - 1) (by omega)
        rw [← HB'.out.cell (p := ⟨b, _, none⟩) hb] at q0 q1
        rw [hy]; exact ⟨q0, q1⟩
      simp only [← hy] at HWK HNX
      clear hy
      generalize l[k] = x at p0 p1 p2 HWK HNX
      obtain ⟨x0, x1, x2⟩ := x
      obtain ⟨y0, y1, y2⟩ := y
      simp only at hq
      obtain ⟨r1, hr1⟩ := bool_of (0 ≤ x0 ∧ x0 ≤ (M : Int) - 1)
      obtain ⟨r2, hr2⟩ := bool_of (x0 + 1 ≤ x1 ∧ x1 ≤ (M : Int) - 1)
      obtain ⟨r3, hr3⟩ := bool_of (1 ≤ x2 ∧ x2 ≤ 200)
      have J1 := Lib.hid (fun w => specIn x0 0 ((M : Int) - 1) r1 hr1 w)
      have J2 := Lib.hid (fun w => specIn x1 (x0 + 1) ((M : Int) - 1) r2 hr2 w)
      have J3 := Lib.hid (fun w => specIn x2 1 200 r3 hr3 w)
      by_cases hg : good M (x0, x1, x2)
      rotate_left
      · have hbf : ok = false := bfalse HO.out (fun h => hg (HWK h).out.1)
        subst hbf
        have hc : r1 = false ∨ (r1 = true ∧ 0 ≤ x0 ∧ x0 ≤ (M : Int) - 1 ∧ r2 = false) ∨ (r1 = true ∧ 0 ≤ x0 ∧ x0 ≤ (M : Int) - 1 ∧ r2 = true ∧ r3 = false) := by
          cases r1
          · exact .inl rfl
          · cases r2
            · exact .inr (.inl ⟨rfl, (hr1.1 rfl).1, (hr1.1 rfl).2, rfl⟩)
            · cases r3
              · exact .inr (.inr ⟨rfl, (hr1.1 rfl).1, (hr1.1 rfl).2, rfl, rfl⟩)
              · have g1 := hr1.1 rfl
                have g2 := hr2.1 rfl
                have g3 := hr3.1 rfl
                exact absurd ⟨g1.1, by simp only; omega, by simp only; omega, g3.1, g3.2⟩ hg
        clear hg HWK HNX hr1 hr2 hr3 hq hli
        rcases hc with rfl | ⟨rfl, d1, d2, rfl⟩ | ⟨rfl, d1, d2, rfl, rfl⟩
        · go_wp2_with fail
          refine (J1.out _).mono ?_
          rintro e w' ⟨rfl, rfl⟩
          go_wp2_with fail
          go_ret
          exact ⟨rfl, balloc HB'.out _⟩
        · go_wp2_with fail
          refine (J1.out _).mono ?_
          rintro e w' ⟨rfl, rfl⟩
          go_wp2_with fail
          refine (J2.out _).mono ?_
          rintro e w' ⟨rfl, rfl⟩
          go_wp2_with fail
          go_ret
          exact ⟨rfl, balloc HB'.out _⟩
        · go_wp2_with fail
          refine (J1.out _).mono ?_
          rintro e w' ⟨rfl, rfl⟩
          go_wp2_with fail
          refine (J2.out _).mono ?_
          rintro e w' ⟨rfl, rfl⟩
          go_wp2_with fail
          refine (J3.out _).mono ?_
          rintro e w' ⟨rfl, rfl⟩
          go_wp2_with fail
          go_ret
          exact ⟨rfl, balloc HB'.out _⟩
      · have HWK2 : Hid (NetOk M E S l → ∀ h0 : 0 < k, lexlt (y0, y1, y2) (x0, x1, x2)) := fun h => (HWK h).out.2
        have HNX2 : Hid ((∀ h0 : 0 < k, lexlt (y0, y1, y2) (x0, x1, x2)) → WOk M l (k + 1)) := fun h => (HNX hg h).out
        obtain ⟨h1, h2, h3, h4, h5⟩ := hg
        simp only at h1 h2 h3 h4 h5
        have := hr1.2 ⟨by omega, by omega⟩
        subst this
        have := hr2.2 ⟨by omega, by omega⟩
        subst this
        have := hr3.2 ⟨by omega, by omega⟩
        subst this
        clear hr1 hr2 hr3 HWK HNX hli
        go_wp2_with fail
        refine (J1.out _).mono ?_
        rintro e w' ⟨rfl, rfl⟩
        go_wp2_with fail
        refine (J2.out _).mono ?_
        rintro e w' ⟨rfl, rfl⟩
        go_wp2_with fail
        refine (J3.out _).mono ?_
        rintro e w' ⟨rfl, rfl⟩
        go_wp2_with fail
        by_cases hk0 : k = 0
        · have HW2 := Lib.hid (HNX2.out (fun h0 => absurd h0 (by omega)))
          subst hk0
          clear hq
          go_quiet (fail)
          go_wp2_with fail
          go_roundw
          case rel => exact ⟨0 + 1, by omega, by go_num, HW2.out, below_drewN (HB.out.alloc (by omega) _) _⟩
          case measure => simp [intOf]; omega
        · obtain ⟨q0, q1⟩ := hq (by omega)
          have hkk : ((k : Int) - 1) = ((k - 1 : Nat) : Int) := by omega
          have hd : decide (0 < (k : Int)) = true := decide_eq_true (by omega)
          have hdn : decide (0 < k) = true := decide_eq_true (by omega)
          have hk1 : k - 1 < n := by omega
          have hk2 : ((k - 1 : Nat) : Int) < (n : Int) := by omega
          have hk3 : (0 : Int) ≤ ((k - 1 : Nat) : Int) := by omega
          have hsum : IntKind.i64.wrap ((k : Int) - 1) = ((k - 1 : Nat) : Int) := by rw [hkk]; exact IntWalk.i64_in _ (by omega)
          clear hq
          by_cases ho : lexlt (y0, y1, y2) (x0, x1, x2)
          · have HW2 := Lib.hid (HNX2.out (fun _ => ho))
            have hl1 : decide (x0 < y0) = false := decide_eq_false (by unfold lexlt at ho; simp only at ho; omega)
            have hl2 : ((x0 == y0) = false) ∨ (x0 = y0 ∧ decide (x1 ≤ y1) = false) := by
              unfold lexlt at ho; simp only at ho
              by_cases e : x0 = y0
              · exact .inr ⟨e, decide_eq_false (by omega)⟩
              · exact .inl (by simp [e])
            clear ho
            rcases hl2 with hl2 | ⟨rfl, hl2⟩
            all_goals
              go_quiet (fail)
              go_wp2_with fail
              go_roundw
              case rel => exact ⟨k + 1, by omega, by go_num, HW2.out, below_drewN (HB.out.alloc (by omega) _) _⟩
              case measure => simp [intOf]; omega
          · have hbf : ok = false := bfalse HO.out (fun h => ho (HWK2.out h (by omega)))
            subst hbf
            have hl2 : (decide (x0 < y0) = true) ∨ (x0 = y0 ∧ decide (x0 < y0) = false ∧ decide (x1 ≤ y1) = true) := by
              unfold lexlt at ho; simp only at ho
              by_cases e : x0 < y0
              · exact .inl (decide_eq_true e)
              · exact .inr ⟨by omega, decide_eq_false (by omega), decide_eq_true (by omega)⟩
            clear ho
            rcases hl2 with hl2 | ⟨rfl, hl1, hl2⟩
            all_goals
              go_quiet (fail)
              go_wp2_with fail
              go_ret
              exact ⟨rfl, below_drewN (balloc HB'.out _) _⟩
    · obtain rfl : k = n := by omega
      have HW2 : Hid (WOk M l l.length) := by rw [HL.out]; exact HW.out
      clear HW hB
      have KR := Lib.hid (fun (w : World) r => specReach M a k c l (by omega) (by omega) HW2.out.all w r HL.out)
      go_wp2_with fail
      have HQV : Hid (∀ q : List Int, Queue M l q → (∀ u ∈ q, Done l q u) → ((q.length : Int) = M ↔ ok = true)) := by
        intro q h1 h2
        rw [h1.iff h2, HO.out, netOk_of HH.out HW2.out]
      go_region_with (go_at_call 134; ((with_reducible refine (KR.out _ (HR.out.below (by first | exact HB'.out | exact HB'.out.drew | exact below_drewN HB'.out _))).mono ?_); rintro e w5 ⟨a5, c5, q5, rfl, hq5, hd5, hb5⟩); (try (replace hb5 := bdrew hb5)); have hv5 := Lib.hid (HQV.out q5 hq5 hd5); (try (have hq_ := bltn hb5 (b := w.heap.size) (by (first | omega | (simp only [World.size_alloc, World.size_setCell, World.size_drew, World.heap_drewN]; omega))); obtain ⟨uu, vv, zz, nn, mm⟩ := hq_)))
      all_goals
        go_wp2_with fail
        go_ret
        refine ⟨?_, bstep HB'.out hb5⟩
        have hv6 := hv5.out
        have h7 : (q5.length = M ↔ ok = true) := by rw [← hv6]; omega
        have h8 : decide (q5.length = M) = ok := by
          cases ok
          · exact decide_eq_false (fun h => by have := h7.1 h; cases this)
          · exact decide_eq_true (h7.2 rfl)
        have h9 : decide ((q5.length : Int) = (M : Int)) = ok := by
          cases ok
          · exact decide_eq_false (fun h => by have := hv6.1 h; cases this)
          · exact decide_eq_true (hv6.2 rfl)
        first
          | exact congrArg (fun b => Ending.returned (Value.bool b)) h8
          | exact congrArg (fun b => Ending.returned (Value.bool b)) h9
end Go.Proofs.Ytjchindjoailbaa
