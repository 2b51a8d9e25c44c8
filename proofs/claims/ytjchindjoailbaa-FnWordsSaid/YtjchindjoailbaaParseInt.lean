/- ParseInt: the walks of the program and of the reference. -/
import Derived.Test.YtjchindjoailbaaParse
namespace Go.Proofs.Ytjchindjoailbaa
set_option linter.unusedSimpArgs false
set_option linter.unusedVariables false
open Go.RowKit

/-- m is the number n, wrapped round -/
def RoundP (m n : Int) : Prop := -9223372036854775808 ≤ m ∧ m ≤ 9223372036854775807 ∧ ∃ z : Int, m = n + z * 18446744073709551616
theorem round_zero : RoundP 0 0 := ⟨by omega, by omega, 0, by omega⟩
theorem round_eq {m n : Int} (h : RoundP m n) (h1 : -9223372036854775808 ≤ n) (h2 : n ≤ 9223372036854775807) : m = n := by
  obtain ⟨a, b, z, h⟩ := h; omega
theorem round_of (x : Int) : RoundP (wrap64 x) x := by
  refine ⟨by go_arith, by go_arith, -((x + 9223372036854775808) / 18446744073709551616), ?_⟩
  go_arith
theorem round_step {m n d : Int} (h : RoundP m n) : RoundP (wrap64 (wrap64 (10 * m) - d)) (10 * n - d) := by
  obtain ⟨_, _, z, h⟩ := h
  obtain ⟨a1, b1, z1, h1⟩ := round_of (10 * m)
  obtain ⟨a2, b2, z2, h2⟩ := round_of (wrap64 (10 * m) - d)
  exact ⟨a2, b2, z2 + z1 + 10 * z, by omega⟩
theorem round_neg {m n : Int} (h : RoundP m n) : RoundP (wrap64 (-m)) (-n) := by
  obtain ⟨_, _, z, h⟩ := h
  obtain ⟨a1, b1, z1, h1⟩ := round_of (-m)
  exact ⟨a1, b1, z1 - z, by omega⟩

theorem all_take {l : List UInt8} (h : l.all digB = true) (k : Nat) : (l.take k).all digB = true := by
  rw [List.all_eq_true] at h ⊢
  exact fun x hx => h x (List.mem_of_mem_take hx)
theorem all_get {t : ByteArray} (h : isDig t.data.toList = true) (k : Nat) (hk : k < t.size) : 48 ≤ t[k].toNat ∧ t[k].toNat ≤ 57 := by
  have h1 : t.data.toList.all digB = true := by unfold isDig at h; simp at h; simp; exact h.1
  rw [List.all_eq_true] at h1
  have hm : t[k] ∈ t.data.toList := by
    rw [show t[k] = t.data.toList[k]'(by simpa using hk) from rfl]; exact List.getElem_mem _
  have := h1 _ hm
  simp [digB] at this; omega

set_option maxRecDepth 100000 in
set_option maxHeartbeats 1000000 in
theorem implParse (s : ByteArray) (w : World) (hs : s.size ≤ maxLen) (v : Int) (ok : Bool) (hP : Parsed s v ok) :
    Calls Try.prog 36 #[.string s] w fun e w' => e = .returned (.tuple #[.int .i64 v, .bool ok]) ∧ w = w' := by
  obtain ⟨t, ht⟩ : ∃ t, body s = t := ⟨_, rfl⟩
  have T := fun w => trimMinus s w hs
  rw [ht] at T
  have KT := Lib.hid T
  have hts : t.size ≤ maxLen := by
    rw [← ht]; unfold body; split
    · simp only [ByteArray.size_extract]; omega
    · exact hs
  have HP := Lib.hid hP
  have HT := Lib.hid ht
  have KD := Lib.hid (fun w => implIsDigits t w hts)
  clear T hP ht
  unfold maxLen at hs hts
  have HN : Hid (∀ n : Int, -9223372036854775808 ≤ n → n ≤ 9223372036854775807 → s = bs (Gn.fmt n) → isDig t.data.toList = true ∧ t.size ≤ 19) := by
    intro n h1 h2 h3
    have hb := (fmt_body n).1
    rw [← h3, HT.out] at hb
    rw [hb]
    refine ⟨dig_isDig _, ?_⟩
    have := Gn.dig_len_19 n.natAbs (by omega)
    have e : t.data.toList.length = t.size := by simp
    rw [hb] at e; omega
  by_cases hd : isDig t.data.toList = false
  · obtain ⟨rfl, rfl⟩ := parsed_false HP.out (fun n h1 h2 h3 => by have := (HN.out n h1 h2 h3).1; rw [hd] at this; cases this)
    rw [hd] at KD
    go_enter Try.func36, Try.ntmps36
    go_wp2_with fail
    refine (KT.out _).mono ?_
    rintro e w' ⟨rfl, rfl⟩
    go_wp2_with fail
    refine (KD.out _).mono ?_
    rintro e w' ⟨rfl, rfl⟩
    go_wp2_with fail
    go_ret2
    exact ⟨rfl, rfl⟩
  have hd' : isDig t.data.toList = true := by simpa using hd
  by_cases hl : 19 < t.size
  · obtain ⟨rfl, rfl⟩ := parsed_false HP.out (fun n h1 h2 h3 => by have := (HN.out n h1 h2 h3).2; omega)
    rw [hd'] at KD
    clear hd hd'
    go_enter Try.func36, Try.ntmps36
    go_wp2_with fail
    refine (KT.out _).mono ?_
    rintro e w' ⟨rfl, rfl⟩
    go_wp2_with fail
    refine (KD.out _).mono ?_
    rintro e w' ⟨rfl, rfl⟩
    go_wp2_with fail
    go_ret2
    exact ⟨rfl, rfl⟩
  rw [hd'] at KD
  have HD := Lib.hid hd'
  clear hd hd'
  go_enter Try.func36, Try.ntmps36
  go_wp2_with fail
  refine (KT.out _).mono ?_
  rintro e w' ⟨rfl, rfl⟩
  go_wp2_with fail
  refine (KD.out _).mono ?_
  rintro e w' ⟨rfl, rfl⟩
  go_wp2_with fail
  go_loop [5, 19] (fun v5 u => ∃ k : Nat, ∃ m : Int, k ≤ t.size ∧ u = .int .i64 k ∧ v5 = .int .i64 m ∧ Hid (RoundP m (acc (t.data.toList.take k)))) (fun _ u => t.size - (intOf u).toNat)
  case atStart => exact ⟨0, 0, by omega, rfl, rfl, by show RoundP _ _; simpa [acc] using round_zero⟩
  case round =>
    obtain ⟨k, m, hk, rfl, rfl, HR⟩ := hrel
    by_cases hlt : k < t.size
    · obtain ⟨hc1, hc2⟩ := all_get HD.out k hlt
      have HR' : Hid (RoundP (wrap64 (wrap64 (10 * m) - ((t[k].toNat : Int) - 48))) (acc (t.data.toList.take (k + 1)))) := by
        show RoundP _ _
        rw [take_snoc t k hlt, acc_snoc]; exact round_step HR.out
      go_wp2_with fail
      go_round
      case rel => exact ⟨k + 1, _, by omega, by go_num, rfl, HR'.out⟩
      case measure => simp [intOf]; omega
    · obtain rfl : k = t.size := by omega
      have HA : Hid (RoundP m (acc t.data.toList)) := by
        have := HR.out; rw [List.take_of_length_le (by simp)] at this; exact this
      have hm1 : -9223372036854775808 ≤ m := HA.out.1
      have hm2 : m ≤ 9223372036854775807 := HA.out.2.1
      clear HR
      by_cases hp : t.size = s.size
      · have HQ := Lib.hid (round_neg HA.out)
        obtain ⟨f, hf⟩ : ∃ f, wrap64 (-m) = f := ⟨_, rfl⟩
        rw [hf] at HQ
        have hf1 : -9223372036854775808 ≤ f := HQ.out.1
        have hf2 : f ≤ 9223372036854775807 := HQ.out.2.1
        have tp : ((t.size : Int) == (s.size : Int)) = true := by simp; omega
        have HE := Lib.hid hp
        clear hp
        cases hq : ((bs (Gn.fmt f)).toList == s.toList)
        · obtain ⟨rfl, rfl⟩ := parsed_false HP.out (fun n h1 h2 h3 => by
            have hb := fmt_body n
            rw [← h3, HT.out] at hb
            have e1 : 0 ≤ n := hb.2.1.1 HE.out
            have e2 := HQ.out
            rw [hb.1, acc_dig'] at e2
            have e3 := round_eq e2 (by omega) (by omega)
            have e4 : f = n := by omega
            rw [e4, ← h3] at hq; simp at hq)
          go_wp2_with fail
          refine (implFmt f _ hf1 hf2).mono ?_
          rintro e w' ⟨rfl, rfl⟩
          go_wp2_with fail
          go_ret2
          exact ⟨rfl, rfl⟩
        · obtain ⟨rfl, rfl⟩ := parsed_true HP.out hf1 hf2 (str_eq_of hq).symm
          go_wp2_with fail
          refine (implFmt v _ hf1 hf2).mono ?_
          rintro e w' ⟨rfl, rfl⟩
          go_wp2_with fail
          go_ret2
          exact ⟨rfl, rfl⟩
      · have tp : ((t.size : Int) == (s.size : Int)) = false := by simp; omega
        have HE := Lib.hid hp
        clear hp
        cases hq : ((bs (Gn.fmt m)).toList == s.toList)
        · obtain ⟨rfl, rfl⟩ := parsed_false HP.out (fun n h1 h2 h3 => by
            have hb := fmt_body n
            rw [← h3, HT.out] at hb
            have e1 : ¬ 0 ≤ n := fun h => HE.out (hb.2.1.2 h)
            have e2 := HA.out
            rw [hb.1, acc_dig'] at e2
            have e3 := round_eq e2 (by omega) (by omega)
            have e4 : m = n := by omega
            rw [e4, ← h3] at hq; simp at hq)
          go_wp2_with fail
          refine (implFmt m _ hm1 hm2).mono ?_
          rintro e w' ⟨rfl, rfl⟩
          go_wp2_with fail
          go_ret2
          exact ⟨rfl, rfl⟩
        · obtain ⟨rfl, rfl⟩ := parsed_true HP.out hm1 hm2 (str_eq_of hq).symm
          go_wp2_with fail
          refine (implFmt v _ hm1 hm2).mono ?_
          rintro e w' ⟨rfl, rfl⟩
          go_wp2_with fail
          go_ret2
          exact ⟨rfl, rfl⟩

theorem head_get (s : ByteArray) (h : 0 < s.size) : s.data.toList.head? = some 45 ↔ s[0].toNat = 45 := by
  rw [List.head?_eq_getElem?, List.getElem?_eq_getElem (by simpa using h)]
  rw [show s.data.toList[0]'(by simpa using h) = s[0] from rfl]
  constructor
  · intro e; simp at e; rw [e]; rfl
  · intro e; rw [show s[0] = 45 from UInt8.toNat.inj e]
theorem div_test {m d q : Int} (hd0 : 0 ≤ d) (hd9 : d ≤ 9) (hq : (-9223372036854775808 + d).tdiv 10 = q) : m < q ↔ 10 * m - d < -9223372036854775808 := by
  rw [tdiv10 _ (by omega)] at hq; omega


end Go.Proofs.Ytjchindjoailbaa
