/- A network divided by its greatest common divisor. Plain Lean. -/
import Derived.Test.YtdmiihljepkapaaPut2
namespace Go.Proofs.Ytdmiihljepkapaa
set_option linter.unusedSimpArgs false
set_option linter.unusedVariables false
open Go.RowKit

theorem Rch.re {l : List Wz} {v : Int} (h : Rch l v) (φ : Wz → Int) : Rch (l.map fun x => (x.1, x.2.1, φ x)) v := by
  induction h with
  | zero => exact .zero
  | fwd hx _ ih => exact .fwd (x := (_, _, φ _)) (List.mem_map_of_mem hx) ih
  | bwd hx _ ih => exact .bwd (x := (_, _, φ _)) (List.mem_map_of_mem hx) ih
theorem NetOk.re {N E S S' : Int} {l : List Wz} (h : NetOk N E S l) (φ : Wz → Int) (h1 : 1 ≤ S') (h2 : S' ≤ 1000) (h3 : ∀ x ∈ l, 1 ≤ φ x ∧ φ x ≤ 200) : NetOk N E S' (l.map fun x => (x.1, x.2.1, φ x)) := by
  refine ⟨⟨h.h.n1, h.h.n5, h.h.e1, h.h.eN, h1, h2⟩, fun k hk => ?_, fun k hk => ?_, fun v hv => (h.c v hv).re φ⟩
  · rw [List.length_map] at hk
    obtain ⟨g0, g1, g2, _, _⟩ := h.w k hk
    have := h3 l[k] (List.getElem_mem _)
    simp only [List.getElem_map]
    exact ⟨g0, g1, g2, by simp only; omega, by simp only; omega⟩
  · rw [List.length_map] at hk
    have := h.o k hk
    simp only [List.getElem_map]
    exact this
/-- the greatest common divisor of a scale and weights -/
def gL (s : Nat) (l : List Wz) : Nat := l.foldl (fun g e => Nat.gcd g e.2.2.natAbs) s
theorem gL_snoc (s : Nat) (l : List Wz) (e : Wz) : gL s (l ++ [e]) = Nat.gcd (gL s l) e.2.2.natAbs := by simp [gL, List.foldl_append]
theorem gL_dvd : ∀ (l : List Wz) (s : Nat), gL s l ∣ s ∧ ∀ e ∈ l, gL s l ∣ e.2.2.natAbs
  | [], s => ⟨Nat.dvd_refl _, by simp⟩
  | e :: l, s => by
    have h := gL_dvd l (Nat.gcd s e.2.2.natAbs)
    have e1 : gL s (e :: l) = gL (Nat.gcd s e.2.2.natAbs) l := rfl
    rw [e1]
    refine ⟨Nat.dvd_trans h.1 (Nat.gcd_dvd_left _ _), fun x hx => ?_⟩
    rcases List.mem_cons.1 hx with rfl | hx
    · exact Nat.dvd_trans h.1 (Nat.gcd_dvd_right _ _)
    · exact h.2 x hx
theorem gL_pos {s : Nat} (hs : 0 < s) (l : List Wz) : 0 < gL s l := Nat.pos_of_dvd_of_pos (gL_dvd l s).1 hs
theorem gL_le {s : Nat} (hs : 0 < s) (l : List Wz) : gL s l ≤ s := Nat.le_of_dvd hs (gL_dvd l s).1
/-- weights divided -/
def divL (g : Nat) (l : List Wz) : List Wz := l.map fun x => (x.1, x.2.1, Int.tdiv x.2.2 g)
theorem divL_len (g : Nat) (l : List Wz) : (divL g l).length = l.length := by simp [divL]
theorem tdiv_pos {a : Int} {g : Nat} {B : Int} (h1 : 1 ≤ a) (h2 : a ≤ B) (hg : 0 < g) (hd : g ∣ a.natAbs) : 1 ≤ Int.tdiv a g ∧ Int.tdiv a g ≤ B := by
  obtain ⟨n, rfl⟩ : ∃ n : Nat, a = n := ⟨a.toNat, by omega⟩
  have e : Int.tdiv (n : Int) (g : Int) = ((n / g : Nat) : Int) := rfl
  rw [e]
  simp only [Int.natAbs_natCast] at hd
  have h3 : 0 < n / g := Nat.div_pos (Nat.le_of_dvd (by omega) hd) hg
  have h4 : n / g ≤ n := Nat.div_le_self _ _
  omega
theorem NetOk.canon {N E S : Int} {l : List Wz} (h : NetOk N E S l) {s : Nat} (hs : S = s) : NetOk N E (Int.tdiv S (gL s l)) (divL (gL s l) l) := by
  have h1 := h.h.s1
  have h2 := h.h.s2
  have hp := gL_pos (show 0 < s by omega) l
  have hd := gL_dvd l s
  have q := tdiv_pos (a := S) (B := 1000) h1 h2 hp (by rw [hs]; exact hd.1)
  exact h.re (fun x => Int.tdiv x.2.2 (gL s l)) q.1 q.2 (fun x hx => by
    obtain ⟨_, _, _, g4, g5⟩ := h.good hx
    exact tdiv_pos g4 g5 hp (hd.2 x hx))
end Go.Proofs.Ytdmiihljepkapaa
