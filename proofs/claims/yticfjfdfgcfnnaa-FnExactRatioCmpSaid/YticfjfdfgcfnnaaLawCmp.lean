/- The laws on RatioCmp, RatioMin and RatioMax answer true. -/
import Derived.Test.YticfjfdfgcfnnaaCmp
namespace Go.Proofs.Yticfjfdfgcfnnaa
set_option linter.unusedSimpArgs false
set_option linter.unusedVariables false
open Go.RowKit

set_option maxRecDepth 100000 in
set_option maxHeartbeats 4000000 in
theorem walk_FnExactRatioMin (n1 d1 n2 d2 : Int) (w : World) (_ : (Lit.int .i64 n1).wf = true) (_ : (Lit.int .i64 d1).wf = true) (_ : (Lit.int .i64 n2).wf = true) (_ : (Lit.int .i64 d2).wf = true) :
    Calls Try.prog 22 #[ratV n1 d1, ratV n2 d2] w fun e w' => e = .returned (.bool true) ∧ Below w.heap.size w w' := by
  obtain ⟨f, hf⟩ : ∃ b : Bool, b = true ↔ bothZ n1 d1 n2 d2 := bool_of _
  have k1 := fun w => specMin n1 d1 n2 d2 w f hf
  have k2 := fun w => implMin n1 d1 n2 d2 w f hf
  obtain ⟨rr, hrr⟩ : ∃ rr, minR f n1 d1 n2 d2 = rr := ⟨_, rfl⟩
  rw [hrr] at k1 k2
  obtain ⟨n, d⟩ := rr
  simp only [pairV] at k1 k2
  have K1 := Lib.hid k1
  have K2 := Lib.hid k2
  clear k1 k2 hrr hf
  have ne1 : ¬ w.heap.size + 1 + 1 = w.heap.size := by omega
  have ne2 : ¬ w.heap.size = w.heap.size + 1 + 1 := by omega
  go_enter Try.func22, Try.ntmps22
  go_upto_region 1 with fail
  go_cut [5] (fun s5 wx => ∃ g : Nat, s5 = .pointer (some ⟨g, 0, none⟩) ∧ Made ((w.alloc (.cells #[.int .i64 n1, .int .i64 d1] 29)).alloc (.cells #[.int .i64 n2, .int .i64 d2] 29)) g n d wx)
  case first =>
    go_region_held3 (fun w' => w'.cell? ⟨w.heap.size, 0, none⟩ = some (.int .i64 n1) ∧ w'.cell? ⟨w.heap.size, 1, none⟩ = some (.int .i64 d1) ∧ w'.cell? ⟨w.heap.size + 1, 0, none⟩ = some (.int .i64 n2) ∧ w'.cell? ⟨w.heap.size + 1, 1, none⟩ = some (.int .i64 d2)) (go_keep)
      ((first | (go_at_call_of 36 n1; ((with_reducible refine (toRatio _ _ _).mono ?_); rintro e wa ⟨rfl, hba⟩); (try (replace hba := bdrew hba)); (try (have hq_ := bltn hba (b := w.heap.size) (by (first | omega | (simp only [World.size_alloc, World.size_setCell, World.size_drew, World.heap_drewN]; omega))); obtain ⟨uu, vv, zz, nn, mm⟩ := hq_)); (try (have hq_ := bltn hba (b := w.heap.size + 1) (by (first | omega | (simp only [World.size_alloc, World.size_setCell, World.size_drew, World.heap_drewN]; omega))); obtain ⟨uu, vv, zz, nn, mm⟩ := hq_)); (try (have hq_ := bltn hba (b := w.heap.size + 1 + 1) (by (first | omega | (simp only [World.size_alloc, World.size_setCell, World.size_drew, World.heap_drewN]; omega))); obtain ⟨uu, vv, zz, nn, mm⟩ := hq_)); (try (have hq_ := bltn hba (b := wb.heap.size) (by (first | omega | (simp only [World.size_alloc, World.size_setCell, World.size_drew, World.heap_drewN]; omega))); obtain ⟨uu, vv, zz, nn, mm⟩ := hq_))) | (go_at_call_of 36 n2; ((with_reducible refine (toRatio _ _ _).mono ?_); rintro e wb ⟨rfl, hbb⟩); (try (replace hbb := bdrew hbb)); (try (have hq_ := bltn hbb (b := w.heap.size) (by (first | omega | (simp only [World.size_alloc, World.size_setCell, World.size_drew, World.heap_drewN]; omega))); obtain ⟨uu, vv, zz, nn, mm⟩ := hq_)); (try (have hq_ := bltn hbb (b := w.heap.size + 1) (by (first | omega | (simp only [World.size_alloc, World.size_setCell, World.size_drew, World.heap_drewN]; omega))); obtain ⟨uu, vv, zz, nn, mm⟩ := hq_)); (try (have hq_ := bltn hbb (b := w.heap.size + 1 + 1) (by (first | omega | (simp only [World.size_alloc, World.size_setCell, World.size_drew, World.heap_drewN]; omega))); obtain ⟨uu, vv, zz, nn, mm⟩ := hq_)); (try (have hq_ := bltn hbb (b := wa.heap.size) (by (first | omega | (simp only [World.size_alloc, World.size_setCell, World.size_drew, World.heap_drewN]; omega))); obtain ⟨uu, vv, zz, nn, mm⟩ := hq_))) | (go_at_call 70; ((with_reducible refine (K1.out _).mono ?_); rintro e wc ⟨rfl, hbc⟩); (try (have hq_ := bltn hbc (b := w.heap.size) (by (first | omega | (simp only [World.size_alloc, World.size_setCell, World.size_drew, World.heap_drewN]; omega))); obtain ⟨uu, vv, zz, nn, mm⟩ := hq_)); (try (have hq_ := bltn hbc (b := w.heap.size + 1) (by (first | omega | (simp only [World.size_alloc, World.size_setCell, World.size_drew, World.heap_drewN]; omega))); obtain ⟨uu, vv, zz, nn, mm⟩ := hq_)); (try (have hq_ := bltn hbc (b := w.heap.size + 1 + 1) (by (first | omega | (simp only [World.size_alloc, World.size_setCell, World.size_drew, World.heap_drewN]; omega))); obtain ⟨uu, vv, zz, nn, mm⟩ := hq_)); (try (have hq_ := bltn hbc (b := wa.heap.size) (by (first | omega | (simp only [World.size_alloc, World.size_setCell, World.size_drew, World.heap_drewN]; omega))); obtain ⟨uu, vv, zz, nn, mm⟩ := hq_)); (try (have hq_ := bltn hbc (b := wb.heap.size) (by (first | omega | (simp only [World.size_alloc, World.size_setCell, World.size_drew, World.heap_drewN]; omega))); obtain ⟨uu, vv, zz, nn, mm⟩ := hq_)))))
    all_goals
      go_wp2_with fail
      go_meet
      have q1 := hba.size
      have q2 := hbb.size
      try simp only [World.size_alloc, World.size_drew] at q1
      try simp only [World.size_alloc, World.size_drew] at q2
      first
        | exact ⟨_, rfl, made_alloc _ (by (repeat' (first | (with_reducible exact Below.refl _ _) | (with_reducible assumption) | (with_reducible refine balloc ?_ _) | (with_reducible refine Below.drew ?_) | (with_reducible refine below_drewN ?_ _) | (with_reducible refine bset ?_ ?_ _) | (with_reducible refine bstep ?_ (by assumption)) | go_size))) n d⟩
        | exact ⟨_, rfl, made_set (by (repeat' (first | (with_reducible exact Below.refl _ _) | (with_reducible assumption) | (with_reducible refine balloc ?_ _) | (with_reducible refine Below.drew ?_) | (with_reducible refine below_drewN ?_ _) | (with_reducible refine bset ?_ ?_ _) | (with_reducible refine bstep ?_ (by assumption)) | go_size))) (by (first | omega | (simp only [World.size_alloc, World.size_setCell, World.size_drew, World.heap_drewN]; omega))) (by simp only [*]; simp [go_sem]; try rfl) (by simp only [*]; simp [go_sem]; try rfl) n d⟩
  case rest =>
    obtain ⟨g, rfl, hM⟩ := hcut
    obtain ⟨⟨hg1, hg2⟩, ⟨hg3, hg4⟩, hB⟩ := hM
    have hsz : w.heap.size + 1 + 1 ≤ wc.heap.size := by simpa using hB.size
    have hgg : w.heap.size + 1 + 1 ≤ g := by simpa using hg1
    have c00 : wc.cell? ⟨w.heap.size, 0, none⟩ = some (.int .i64 n1) := by rw [hB.cell (by simp; omega)]; simp [go_sem]
    have c01 : wc.cell? ⟨w.heap.size, 1, none⟩ = some (.int .i64 d1) := by rw [hB.cell (by simp; omega)]; simp [go_sem]
    have c10 : wc.cell? ⟨w.heap.size + 1, 0, none⟩ = some (.int .i64 n2) := by rw [hB.cell (by simp)]; simp [go_sem]
    have c11 : wc.cell? ⟨w.heap.size + 1, 1, none⟩ = some (.int .i64 d2) := by rw [hB.cell (by simp)]; simp [go_sem]
    have HB := Lib.hid (bstep (balloc (balloc (Below.refl _ _) _) _) hB)
    clear hB hg1
    have m1 : ¬ wc.heap.size = w.heap.size := by omega
    have m2 : ¬ w.heap.size = wc.heap.size := by omega
    have m3 : ¬ wc.heap.size = w.heap.size + 1 := by omega
    have m4 : ¬ w.heap.size + 1 = wc.heap.size := by omega
    obtain ⟨wx, rfl⟩ : ∃ wx : World, wx = wc := ⟨_, rfl⟩
    go_upto_region 2 with fail
    go_cut [6] (fun s6 wy => ∃ g2 : Nat, s6 = .pointer (some ⟨g2, 0, none⟩) ∧ Made wx g2 n d wy)
    case first =>
      go_region_held3 (fun w' => w'.cell? ⟨w.heap.size, 0, none⟩ = some (.int .i64 n1) ∧ w'.cell? ⟨w.heap.size, 1, none⟩ = some (.int .i64 d1) ∧ w'.cell? ⟨w.heap.size + 1, 0, none⟩ = some (.int .i64 n2) ∧ w'.cell? ⟨w.heap.size + 1, 1, none⟩ = some (.int .i64 d2)) (go_keep)
      ((first | (go_at_call_of 36 n1; ((with_reducible refine (toRatio _ _ _).mono ?_); rintro e wa ⟨rfl, hba⟩); (try (replace hba := bdrew hba)); (try (have hq_ := bltn hba (b := w.heap.size) (by (first | omega | (simp only [World.size_alloc, World.size_setCell, World.size_drew, World.heap_drewN]; omega))); obtain ⟨uu, vv, zz, nn, mm⟩ := hq_)); (try (have hq_ := bltn hba (b := w.heap.size + 1) (by (first | omega | (simp only [World.size_alloc, World.size_setCell, World.size_drew, World.heap_drewN]; omega))); obtain ⟨uu, vv, zz, nn, mm⟩ := hq_)); (try (have hq_ := bltn hba (b := g) (by (first | omega | (simp only [World.size_alloc, World.size_setCell, World.size_drew, World.heap_drewN]; omega))); obtain ⟨uu, vv, zz, nn, mm⟩ := hq_)); (try (have hq_ := bltn hba (b := wx.heap.size) (by (first | omega | (simp only [World.size_alloc, World.size_setCell, World.size_drew, World.heap_drewN]; omega))); obtain ⟨uu, vv, zz, nn, mm⟩ := hq_)); (try (have hq_ := bltn hba (b := wb.heap.size) (by (first | omega | (simp only [World.size_alloc, World.size_setCell, World.size_drew, World.heap_drewN]; omega))); obtain ⟨uu, vv, zz, nn, mm⟩ := hq_))) | (go_at_call_of 36 n2; ((with_reducible refine (toRatio _ _ _).mono ?_); rintro e wb ⟨rfl, hbb⟩); (try (replace hbb := bdrew hbb)); (try (have hq_ := bltn hbb (b := w.heap.size) (by (first | omega | (simp only [World.size_alloc, World.size_setCell, World.size_drew, World.heap_drewN]; omega))); obtain ⟨uu, vv, zz, nn, mm⟩ := hq_)); (try (have hq_ := bltn hbb (b := w.heap.size + 1) (by (first | omega | (simp only [World.size_alloc, World.size_setCell, World.size_drew, World.heap_drewN]; omega))); obtain ⟨uu, vv, zz, nn, mm⟩ := hq_)); (try (have hq_ := bltn hbb (b := g) (by (first | omega | (simp only [World.size_alloc, World.size_setCell, World.size_drew, World.heap_drewN]; omega))); obtain ⟨uu, vv, zz, nn, mm⟩ := hq_)); (try (have hq_ := bltn hbb (b := wx.heap.size) (by (first | omega | (simp only [World.size_alloc, World.size_setCell, World.size_drew, World.heap_drewN]; omega))); obtain ⟨uu, vv, zz, nn, mm⟩ := hq_)); (try (have hq_ := bltn hbb (b := wa.heap.size) (by (first | omega | (simp only [World.size_alloc, World.size_setCell, World.size_drew, World.heap_drewN]; omega))); obtain ⟨uu, vv, zz, nn, mm⟩ := hq_))) | (go_at_call 71; ((with_reducible refine (K2.out _).mono ?_); rintro e wc ⟨rfl, hbc⟩); (try (have hq_ := bltn hbc (b := w.heap.size) (by (first | omega | (simp only [World.size_alloc, World.size_setCell, World.size_drew, World.heap_drewN]; omega))); obtain ⟨uu, vv, zz, nn, mm⟩ := hq_)); (try (have hq_ := bltn hbc (b := w.heap.size + 1) (by (first | omega | (simp only [World.size_alloc, World.size_setCell, World.size_drew, World.heap_drewN]; omega))); obtain ⟨uu, vv, zz, nn, mm⟩ := hq_)); (try (have hq_ := bltn hbc (b := g) (by (first | omega | (simp only [World.size_alloc, World.size_setCell, World.size_drew, World.heap_drewN]; omega))); obtain ⟨uu, vv, zz, nn, mm⟩ := hq_)); (try (have hq_ := bltn hbc (b := wx.heap.size) (by (first | omega | (simp only [World.size_alloc, World.size_setCell, World.size_drew, World.heap_drewN]; omega))); obtain ⟨uu, vv, zz, nn, mm⟩ := hq_)); (try (have hq_ := bltn hbc (b := wa.heap.size) (by (first | omega | (simp only [World.size_alloc, World.size_setCell, World.size_drew, World.heap_drewN]; omega))); obtain ⟨uu, vv, zz, nn, mm⟩ := hq_)); (try (have hq_ := bltn hbc (b := wb.heap.size) (by (first | omega | (simp only [World.size_alloc, World.size_setCell, World.size_drew, World.heap_drewN]; omega))); obtain ⟨uu, vv, zz, nn, mm⟩ := hq_)))))
      all_goals
        go_wp2_with fail
        go_meet
        have q1 := hba.size
        have q2 := hbb.size
        try simp only [World.size_alloc, World.size_drew] at q1
        try simp only [World.size_alloc, World.size_drew] at q2
        first
          | exact ⟨_, rfl, made_alloc _ (by (repeat' (first | (with_reducible exact Below.refl _ _) | (with_reducible assumption) | (with_reducible refine balloc ?_ _) | (with_reducible refine Below.drew ?_) | (with_reducible refine below_drewN ?_ _) | (with_reducible refine bset ?_ ?_ _) | (with_reducible refine bstep ?_ (by assumption)) | go_size))) n d⟩
          | exact ⟨_, rfl, made_set (by (repeat' (first | (with_reducible exact Below.refl _ _) | (with_reducible assumption) | (with_reducible refine balloc ?_ _) | (with_reducible refine Below.drew ?_) | (with_reducible refine below_drewN ?_ _) | (with_reducible refine bset ?_ ?_ _) | (with_reducible refine bstep ?_ (by assumption)) | go_size))) (by (first | omega | (simp only [World.size_alloc, World.size_setCell, World.size_drew, World.heap_drewN]; omega))) (by simp only [*]; simp [go_sem]; try rfl) (by simp only [*]; simp [go_sem]; try rfl) n d⟩
    case rest =>
      obtain ⟨g2, rfl, hM⟩ := hcut
      obtain ⟨⟨hh1, hh2⟩, ⟨hh3, hh4⟩, hB2⟩ := hM
      have e3 : wc.cell? ⟨g, 0, none⟩ = some (.int .i64 n) := by rw [hB2.cell hg2]; exact hg3
      have e4 : wc.cell? ⟨g, 1, none⟩ = some (.int .i64 d) := by rw [hB2.cell hg2]; exact hg4
      have HB2 := Lib.hid (bstep HB.out hB2)
      clear hB2 hg3 hg4 c00 c01 c10 c11
      go_wp2_with fail
      refine (eqRatio n d _).mono ?_
      rintro e wz ⟨rfl, hbz⟩
      go_wp2_with fail
      go_ret
      exact ⟨rfl, bstep HB2.out hbz⟩


set_option maxRecDepth 100000 in
set_option maxHeartbeats 4000000 in
theorem walk_FnExactRatioMax (n1 d1 n2 d2 : Int) (w : World) (_ : (Lit.int .i64 n1).wf = true) (_ : (Lit.int .i64 d1).wf = true) (_ : (Lit.int .i64 n2).wf = true) (_ : (Lit.int .i64 d2).wf = true) :
    Calls Try.prog 21 #[ratV n1 d1, ratV n2 d2] w fun e w' => e = .returned (.bool true) ∧ Below w.heap.size w w' := by
  obtain ⟨f, hf⟩ : ∃ b : Bool, b = true ↔ bothZ n1 d1 n2 d2 := bool_of _
  have k1 := fun w => specMax n1 d1 n2 d2 w f hf
  have k2 := fun w => implMax n1 d1 n2 d2 w f hf
  obtain ⟨rr, hrr⟩ : ∃ rr, maxR f n1 d1 n2 d2 = rr := ⟨_, rfl⟩
  rw [hrr] at k1 k2
  obtain ⟨n, d⟩ := rr
  simp only [pairV] at k1 k2
  have K1 := Lib.hid k1
  have K2 := Lib.hid k2
  clear k1 k2 hrr hf
  have ne1 : ¬ w.heap.size + 1 + 1 = w.heap.size := by omega
  have ne2 : ¬ w.heap.size = w.heap.size + 1 + 1 := by omega
  go_enter Try.func21, Try.ntmps21
  go_upto_region 1 with fail
  go_cut [5] (fun s5 wx => ∃ g : Nat, s5 = .pointer (some ⟨g, 0, none⟩) ∧ Made ((w.alloc (.cells #[.int .i64 n1, .int .i64 d1] 29)).alloc (.cells #[.int .i64 n2, .int .i64 d2] 29)) g n d wx)
  case first =>
    go_region_held3 (fun w' => w'.cell? ⟨w.heap.size, 0, none⟩ = some (.int .i64 n1) ∧ w'.cell? ⟨w.heap.size, 1, none⟩ = some (.int .i64 d1) ∧ w'.cell? ⟨w.heap.size + 1, 0, none⟩ = some (.int .i64 n2) ∧ w'.cell? ⟨w.heap.size + 1, 1, none⟩ = some (.int .i64 d2)) (go_keep)
      ((first | (go_at_call_of 36 n1; ((with_reducible refine (toRatio _ _ _).mono ?_); rintro e wa ⟨rfl, hba⟩); (try (replace hba := bdrew hba)); (try (have hq_ := bltn hba (b := w.heap.size) (by (first | omega | (simp only [World.size_alloc, World.size_setCell, World.size_drew, World.heap_drewN]; omega))); obtain ⟨uu, vv, zz, nn, mm⟩ := hq_)); (try (have hq_ := bltn hba (b := w.heap.size + 1) (by (first | omega | (simp only [World.size_alloc, World.size_setCell, World.size_drew, World.heap_drewN]; omega))); obtain ⟨uu, vv, zz, nn, mm⟩ := hq_)); (try (have hq_ := bltn hba (b := w.heap.size + 1 + 1) (by (first | omega | (simp only [World.size_alloc, World.size_setCell, World.size_drew, World.heap_drewN]; omega))); obtain ⟨uu, vv, zz, nn, mm⟩ := hq_)); (try (have hq_ := bltn hba (b := wb.heap.size) (by (first | omega | (simp only [World.size_alloc, World.size_setCell, World.size_drew, World.heap_drewN]; omega))); obtain ⟨uu, vv, zz, nn, mm⟩ := hq_))) | (go_at_call_of 36 n2; ((with_reducible refine (toRatio _ _ _).mono ?_); rintro e wb ⟨rfl, hbb⟩); (try (replace hbb := bdrew hbb)); (try (have hq_ := bltn hbb (b := w.heap.size) (by (first | omega | (simp only [World.size_alloc, World.size_setCell, World.size_drew, World.heap_drewN]; omega))); obtain ⟨uu, vv, zz, nn, mm⟩ := hq_)); (try (have hq_ := bltn hbb (b := w.heap.size + 1) (by (first | omega | (simp only [World.size_alloc, World.size_setCell, World.size_drew, World.heap_drewN]; omega))); obtain ⟨uu, vv, zz, nn, mm⟩ := hq_)); (try (have hq_ := bltn hbb (b := w.heap.size + 1 + 1) (by (first | omega | (simp only [World.size_alloc, World.size_setCell, World.size_drew, World.heap_drewN]; omega))); obtain ⟨uu, vv, zz, nn, mm⟩ := hq_)); (try (have hq_ := bltn hbb (b := wa.heap.size) (by (first | omega | (simp only [World.size_alloc, World.size_setCell, World.size_drew, World.heap_drewN]; omega))); obtain ⟨uu, vv, zz, nn, mm⟩ := hq_))) | (go_at_call 68; ((with_reducible refine (K1.out _).mono ?_); rintro e wc ⟨rfl, hbc⟩); (try (have hq_ := bltn hbc (b := w.heap.size) (by (first | omega | (simp only [World.size_alloc, World.size_setCell, World.size_drew, World.heap_drewN]; omega))); obtain ⟨uu, vv, zz, nn, mm⟩ := hq_)); (try (have hq_ := bltn hbc (b := w.heap.size + 1) (by (first | omega | (simp only [World.size_alloc, World.size_setCell, World.size_drew, World.heap_drewN]; omega))); obtain ⟨uu, vv, zz, nn, mm⟩ := hq_)); (try (have hq_ := bltn hbc (b := w.heap.size + 1 + 1) (by (first | omega | (simp only [World.size_alloc, World.size_setCell, World.size_drew, World.heap_drewN]; omega))); obtain ⟨uu, vv, zz, nn, mm⟩ := hq_)); (try (have hq_ := bltn hbc (b := wa.heap.size) (by (first | omega | (simp only [World.size_alloc, World.size_setCell, World.size_drew, World.heap_drewN]; omega))); obtain ⟨uu, vv, zz, nn, mm⟩ := hq_)); (try (have hq_ := bltn hbc (b := wb.heap.size) (by (first | omega | (simp only [World.size_alloc, World.size_setCell, World.size_drew, World.heap_drewN]; omega))); obtain ⟨uu, vv, zz, nn, mm⟩ := hq_)))))
    all_goals
      go_wp2_with fail
      go_meet
      have q1 := hba.size
      have q2 := hbb.size
      try simp only [World.size_alloc, World.size_drew] at q1
      try simp only [World.size_alloc, World.size_drew] at q2
      first
        | exact ⟨_, rfl, made_alloc _ (by (repeat' (first | (with_reducible exact Below.refl _ _) | (with_reducible assumption) | (with_reducible refine balloc ?_ _) | (with_reducible refine Below.drew ?_) | (with_reducible refine below_drewN ?_ _) | (with_reducible refine bset ?_ ?_ _) | (with_reducible refine bstep ?_ (by assumption)) | go_size))) n d⟩
        | exact ⟨_, rfl, made_set (by (repeat' (first | (with_reducible exact Below.refl _ _) | (with_reducible assumption) | (with_reducible refine balloc ?_ _) | (with_reducible refine Below.drew ?_) | (with_reducible refine below_drewN ?_ _) | (with_reducible refine bset ?_ ?_ _) | (with_reducible refine bstep ?_ (by assumption)) | go_size))) (by (first | omega | (simp only [World.size_alloc, World.size_setCell, World.size_drew, World.heap_drewN]; omega))) (by simp only [*]; simp [go_sem]; try rfl) (by simp only [*]; simp [go_sem]; try rfl) n d⟩
  case rest =>
    obtain ⟨g, rfl, hM⟩ := hcut
    obtain ⟨⟨hg1, hg2⟩, ⟨hg3, hg4⟩, hB⟩ := hM
    have hsz : w.heap.size + 1 + 1 ≤ wc.heap.size := by simpa using hB.size
    have hgg : w.heap.size + 1 + 1 ≤ g := by simpa using hg1
    have c00 : wc.cell? ⟨w.heap.size, 0, none⟩ = some (.int .i64 n1) := by rw [hB.cell (by simp; omega)]; simp [go_sem]
    have c01 : wc.cell? ⟨w.heap.size, 1, none⟩ = some (.int .i64 d1) := by rw [hB.cell (by simp; omega)]; simp [go_sem]
    have c10 : wc.cell? ⟨w.heap.size + 1, 0, none⟩ = some (.int .i64 n2) := by rw [hB.cell (by simp)]; simp [go_sem]
    have c11 : wc.cell? ⟨w.heap.size + 1, 1, none⟩ = some (.int .i64 d2) := by rw [hB.cell (by simp)]; simp [go_sem]
    have HB := Lib.hid (bstep (balloc (balloc (Below.refl _ _) _) _) hB)
    clear hB hg1
    have m1 : ¬ wc.heap.size = w.heap.size := by omega
    have m2 : ¬ w.heap.size = wc.heap.size := by omega
    have m3 : ¬ wc.heap.size = w.heap.size + 1 := by omega
    have m4 : ¬ w.heap.size + 1 = wc.heap.size := by omega
    obtain ⟨wx, rfl⟩ : ∃ wx : World, wx = wc := ⟨_, rfl⟩
    go_upto_region 2 with fail
    go_cut [6] (fun s6 wy => ∃ g2 : Nat, s6 = .pointer (some ⟨g2, 0, none⟩) ∧ Made wx g2 n d wy)
    case first =>
      go_region_held3 (fun w' => w'.cell? ⟨w.heap.size, 0, none⟩ = some (.int .i64 n1) ∧ w'.cell? ⟨w.heap.size, 1, none⟩ = some (.int .i64 d1) ∧ w'.cell? ⟨w.heap.size + 1, 0, none⟩ = some (.int .i64 n2) ∧ w'.cell? ⟨w.heap.size + 1, 1, none⟩ = some (.int .i64 d2)) (go_keep)
      ((first | (go_at_call_of 36 n1; ((with_reducible refine (toRatio _ _ _).mono ?_); rintro e wa ⟨rfl, hba⟩); (try (replace hba := bdrew hba)); (try (have hq_ := bltn hba (b := w.heap.size) (by (first | omega | (simp only [World.size_alloc, World.size_setCell, World.size_drew, World.heap_drewN]; omega))); obtain ⟨uu, vv, zz, nn, mm⟩ := hq_)); (try (have hq_ := bltn hba (b := w.heap.size + 1) (by (first | omega | (simp only [World.size_alloc, World.size_setCell, World.size_drew, World.heap_drewN]; omega))); obtain ⟨uu, vv, zz, nn, mm⟩ := hq_)); (try (have hq_ := bltn hba (b := g) (by (first | omega | (simp only [World.size_alloc, World.size_setCell, World.size_drew, World.heap_drewN]; omega))); obtain ⟨uu, vv, zz, nn, mm⟩ := hq_)); (try (have hq_ := bltn hba (b := wx.heap.size) (by (first | omega | (simp only [World.size_alloc, World.size_setCell, World.size_drew, World.heap_drewN]; omega))); obtain ⟨uu, vv, zz, nn, mm⟩ := hq_)); (try (have hq_ := bltn hba (b := wb.heap.size) (by (first | omega | (simp only [World.size_alloc, World.size_setCell, World.size_drew, World.heap_drewN]; omega))); obtain ⟨uu, vv, zz, nn, mm⟩ := hq_))) | (go_at_call_of 36 n2; ((with_reducible refine (toRatio _ _ _).mono ?_); rintro e wb ⟨rfl, hbb⟩); (try (replace hbb := bdrew hbb)); (try (have hq_ := bltn hbb (b := w.heap.size) (by (first | omega | (simp only [World.size_alloc, World.size_setCell, World.size_drew, World.heap_drewN]; omega))); obtain ⟨uu, vv, zz, nn, mm⟩ := hq_)); (try (have hq_ := bltn hbb (b := w.heap.size + 1) (by (first | omega | (simp only [World.size_alloc, World.size_setCell, World.size_drew, World.heap_drewN]; omega))); obtain ⟨uu, vv, zz, nn, mm⟩ := hq_)); (try (have hq_ := bltn hbb (b := g) (by (first | omega | (simp only [World.size_alloc, World.size_setCell, World.size_drew, World.heap_drewN]; omega))); obtain ⟨uu, vv, zz, nn, mm⟩ := hq_)); (try (have hq_ := bltn hbb (b := wx.heap.size) (by (first | omega | (simp only [World.size_alloc, World.size_setCell, World.size_drew, World.heap_drewN]; omega))); obtain ⟨uu, vv, zz, nn, mm⟩ := hq_)); (try (have hq_ := bltn hbb (b := wa.heap.size) (by (first | omega | (simp only [World.size_alloc, World.size_setCell, World.size_drew, World.heap_drewN]; omega))); obtain ⟨uu, vv, zz, nn, mm⟩ := hq_))) | (go_at_call 69; ((with_reducible refine (K2.out _).mono ?_); rintro e wc ⟨rfl, hbc⟩); (try (have hq_ := bltn hbc (b := w.heap.size) (by (first | omega | (simp only [World.size_alloc, World.size_setCell, World.size_drew, World.heap_drewN]; omega))); obtain ⟨uu, vv, zz, nn, mm⟩ := hq_)); (try (have hq_ := bltn hbc (b := w.heap.size + 1) (by (first | omega | (simp only [World.size_alloc, World.size_setCell, World.size_drew, World.heap_drewN]; omega))); obtain ⟨uu, vv, zz, nn, mm⟩ := hq_)); (try (have hq_ := bltn hbc (b := g) (by (first | omega | (simp only [World.size_alloc, World.size_setCell, World.size_drew, World.heap_drewN]; omega))); obtain ⟨uu, vv, zz, nn, mm⟩ := hq_)); (try (have hq_ := bltn hbc (b := wx.heap.size) (by (first | omega | (simp only [World.size_alloc, World.size_setCell, World.size_drew, World.heap_drewN]; omega))); obtain ⟨uu, vv, zz, nn, mm⟩ := hq_)); (try (have hq_ := bltn hbc (b := wa.heap.size) (by (first | omega | (simp only [World.size_alloc, World.size_setCell, World.size_drew, World.heap_drewN]; omega))); obtain ⟨uu, vv, zz, nn, mm⟩ := hq_)); (try (have hq_ := bltn hbc (b := wb.heap.size) (by (first | omega | (simp only [World.size_alloc, World.size_setCell, World.size_drew, World.heap_drewN]; omega))); obtain ⟨uu, vv, zz, nn, mm⟩ := hq_)))))
      all_goals
        go_wp2_with fail
        go_meet
        have q1 := hba.size
        have q2 := hbb.size
        try simp only [World.size_alloc, World.size_drew] at q1
        try simp only [World.size_alloc, World.size_drew] at q2
        first
          | exact ⟨_, rfl, made_alloc _ (by (repeat' (first | (with_reducible exact Below.refl _ _) | (with_reducible assumption) | (with_reducible refine balloc ?_ _) | (with_reducible refine Below.drew ?_) | (with_reducible refine below_drewN ?_ _) | (with_reducible refine bset ?_ ?_ _) | (with_reducible refine bstep ?_ (by assumption)) | go_size))) n d⟩
          | exact ⟨_, rfl, made_set (by (repeat' (first | (with_reducible exact Below.refl _ _) | (with_reducible assumption) | (with_reducible refine balloc ?_ _) | (with_reducible refine Below.drew ?_) | (with_reducible refine below_drewN ?_ _) | (with_reducible refine bset ?_ ?_ _) | (with_reducible refine bstep ?_ (by assumption)) | go_size))) (by (first | omega | (simp only [World.size_alloc, World.size_setCell, World.size_drew, World.heap_drewN]; omega))) (by simp only [*]; simp [go_sem]; try rfl) (by simp only [*]; simp [go_sem]; try rfl) n d⟩
    case rest =>
      obtain ⟨g2, rfl, hM⟩ := hcut
      obtain ⟨⟨hh1, hh2⟩, ⟨hh3, hh4⟩, hB2⟩ := hM
      have e3 : wc.cell? ⟨g, 0, none⟩ = some (.int .i64 n) := by rw [hB2.cell hg2]; exact hg3
      have e4 : wc.cell? ⟨g, 1, none⟩ = some (.int .i64 d) := by rw [hB2.cell hg2]; exact hg4
      have HB2 := Lib.hid (bstep HB.out hB2)
      clear hB2 hg3 hg4 c00 c01 c10 c11
      go_wp2_with fail
      refine (eqRatio n d _).mono ?_
      rintro e wz ⟨rfl, hbz⟩
      go_wp2_with fail
      go_ret
      exact ⟨rfl, bstep HB2.out hbz⟩


set_option maxRecDepth 100000 in
set_option maxHeartbeats 4000000 in
theorem walk_FnExactRatioCmp (n1 d1 n2 d2 : Int) (w : World) (_ : (Lit.int .i64 n1).wf = true) (_ : (Lit.int .i64 d1).wf = true) (_ : (Lit.int .i64 n2).wf = true) (_ : (Lit.int .i64 d2).wf = true) :
    Calls Try.prog 20 #[ratV n1 d1, ratV n2 d2] w fun e w' => e = .returned (.bool true) ∧ Below w.heap.size w w' := by
  obtain ⟨f, hf⟩ : ∃ b : Bool, b = true ↔ bothZ n1 d1 n2 d2 := bool_of _
  have k1 := fun w => specCmp n1 d1 n2 d2 w f hf
  have k2 := fun w => implCmp n1 d1 n2 d2 w f hf
  obtain ⟨n, hrr⟩ : ∃ n, cmpR f n1 d1 n2 d2 = n := ⟨_, rfl⟩
  rw [hrr] at k1 k2
  have K1 := Lib.hid k1
  have K2 := Lib.hid k2
  clear k1 k2 hrr hf
  go_enter Try.func20, Try.ntmps20
  go_upto_region 1 with fail
  go_cut [5] (fun s5 wx => s5 = .int .i64 n ∧ Below ((w.alloc (.cells #[.int .i64 n1, .int .i64 d1] 29)).alloc (.cells #[.int .i64 n2, .int .i64 d2] 29)).heap.size ((w.alloc (.cells #[.int .i64 n1, .int .i64 d1] 29)).alloc (.cells #[.int .i64 n2, .int .i64 d2] 29)) wx)
  case first =>
    go_region_held3 (fun w' => w'.cell? ⟨w.heap.size, 0, none⟩ = some (.int .i64 n1) ∧ w'.cell? ⟨w.heap.size, 1, none⟩ = some (.int .i64 d1) ∧ w'.cell? ⟨w.heap.size + 1, 0, none⟩ = some (.int .i64 n2) ∧ w'.cell? ⟨w.heap.size + 1, 1, none⟩ = some (.int .i64 d2)) (go_keep) ((first | (go_at_call_of 36 n1; ((with_reducible refine (toRatio _ _ _).mono ?_); rintro e wa ⟨rfl, hba⟩); (try (replace hba := bdrew hba)); (try (have hq_ := bltn hba (b := w.heap.size) (by (first | omega | (simp only [World.size_alloc, World.size_setCell, World.size_drew, World.heap_drewN]; omega))); obtain ⟨uu, vv, zz, nn, mm⟩ := hq_)); (try (have hq_ := bltn hba (b := w.heap.size + 1) (by (first | omega | (simp only [World.size_alloc, World.size_setCell, World.size_drew, World.heap_drewN]; omega))); obtain ⟨uu, vv, zz, nn, mm⟩ := hq_))) | (go_at_call_of 36 n2; ((with_reducible refine (toRatio _ _ _).mono ?_); rintro e wb ⟨rfl, hbb⟩); (try (replace hbb := bdrew hbb)); (try (have hq_ := bltn hbb (b := w.heap.size) (by (first | omega | (simp only [World.size_alloc, World.size_setCell, World.size_drew, World.heap_drewN]; omega))); obtain ⟨uu, vv, zz, nn, mm⟩ := hq_)); (try (have hq_ := bltn hbb (b := w.heap.size + 1) (by (first | omega | (simp only [World.size_alloc, World.size_setCell, World.size_drew, World.heap_drewN]; omega))); obtain ⟨uu, vv, zz, nn, mm⟩ := hq_))) | (go_at_call 66; ((with_reducible refine (K1.out _).mono ?_); rintro e wc ⟨rfl, hbc⟩); (try (have hq_ := bltn hbc (b := w.heap.size) (by (first | omega | (simp only [World.size_alloc, World.size_setCell, World.size_drew, World.heap_drewN]; omega))); obtain ⟨uu, vv, zz, nn, mm⟩ := hq_)); (try (have hq_ := bltn hbc (b := w.heap.size + 1) (by (first | omega | (simp only [World.size_alloc, World.size_setCell, World.size_drew, World.heap_drewN]; omega))); obtain ⟨uu, vv, zz, nn, mm⟩ := hq_)))))
    all_goals
      go_wp2_with fail
      go_meet
      exact ⟨rfl, by (repeat' (first | (with_reducible exact Below.refl _ _) | (with_reducible assumption) | (with_reducible refine balloc ?_ _) | (with_reducible refine Below.drew ?_) | (with_reducible refine below_drewN ?_ _) | (with_reducible refine bset ?_ ?_ _) | (with_reducible refine bstep ?_ (by assumption)) | go_size))⟩
  case rest =>
    obtain ⟨rfl, hB⟩ := hcut
    have hsz : w.heap.size + 1 + 1 ≤ wc.heap.size := by simpa using hB.size
    have c00 : wc.cell? ⟨w.heap.size, 0, none⟩ = some (.int .i64 n1) := by rw [hB.cell (by simp; omega)]; simp [go_sem]
    have c01 : wc.cell? ⟨w.heap.size, 1, none⟩ = some (.int .i64 d1) := by rw [hB.cell (by simp; omega)]; simp [go_sem]
    have c10 : wc.cell? ⟨w.heap.size + 1, 0, none⟩ = some (.int .i64 n2) := by rw [hB.cell (by simp)]; simp [go_sem]
    have c11 : wc.cell? ⟨w.heap.size + 1, 1, none⟩ = some (.int .i64 d2) := by rw [hB.cell (by simp)]; simp [go_sem]
    have HB := Lib.hid (bstep (balloc (balloc (Below.refl _ _) _) _) hB)
    clear hB
    obtain ⟨wx, rfl⟩ : ∃ wx : World, wx = wc := ⟨_, rfl⟩
    go_upto_region 2 with fail
    go_cut [6] (fun s6 wy => s6 = .int .i64 n ∧ Below wx.heap.size wx wy)
    case first =>
      go_region_held3 (fun w' => w'.cell? ⟨w.heap.size, 0, none⟩ = some (.int .i64 n1) ∧ w'.cell? ⟨w.heap.size, 1, none⟩ = some (.int .i64 d1) ∧ w'.cell? ⟨w.heap.size + 1, 0, none⟩ = some (.int .i64 n2) ∧ w'.cell? ⟨w.heap.size + 1, 1, none⟩ = some (.int .i64 d2)) (go_keep) ((first | (go_at_call_of 36 n1; ((with_reducible refine (toRatio _ _ _).mono ?_); rintro e wa ⟨rfl, hba⟩); (try (replace hba := bdrew hba)); (try (have hq_ := bltn hba (b := w.heap.size) (by (first | omega | (simp only [World.size_alloc, World.size_setCell, World.size_drew, World.heap_drewN]; omega))); obtain ⟨uu, vv, zz, nn, mm⟩ := hq_)); (try (have hq_ := bltn hba (b := w.heap.size + 1) (by (first | omega | (simp only [World.size_alloc, World.size_setCell, World.size_drew, World.heap_drewN]; omega))); obtain ⟨uu, vv, zz, nn, mm⟩ := hq_))) | (go_at_call_of 36 n2; ((with_reducible refine (toRatio _ _ _).mono ?_); rintro e wb ⟨rfl, hbb⟩); (try (replace hbb := bdrew hbb)); (try (have hq_ := bltn hbb (b := w.heap.size) (by (first | omega | (simp only [World.size_alloc, World.size_setCell, World.size_drew, World.heap_drewN]; omega))); obtain ⟨uu, vv, zz, nn, mm⟩ := hq_)); (try (have hq_ := bltn hbb (b := w.heap.size + 1) (by (first | omega | (simp only [World.size_alloc, World.size_setCell, World.size_drew, World.heap_drewN]; omega))); obtain ⟨uu, vv, zz, nn, mm⟩ := hq_))) | (go_at_call 67; ((with_reducible refine (K2.out _).mono ?_); rintro e wc ⟨rfl, hbc⟩); (try (have hq_ := bltn hbc (b := w.heap.size) (by (first | omega | (simp only [World.size_alloc, World.size_setCell, World.size_drew, World.heap_drewN]; omega))); obtain ⟨uu, vv, zz, nn, mm⟩ := hq_)); (try (have hq_ := bltn hbc (b := w.heap.size + 1) (by (first | omega | (simp only [World.size_alloc, World.size_setCell, World.size_drew, World.heap_drewN]; omega))); obtain ⟨uu, vv, zz, nn, mm⟩ := hq_)))))
      all_goals
        go_wp2_with fail
        go_meet
        exact ⟨rfl, by (repeat' (first | (with_reducible exact Below.refl _ _) | (with_reducible assumption) | (with_reducible refine balloc ?_ _) | (with_reducible refine Below.drew ?_) | (with_reducible refine below_drewN ?_ _) | (with_reducible refine bset ?_ ?_ _) | (with_reducible refine bstep ?_ (by assumption)) | go_size))⟩
    case rest =>
      obtain ⟨rfl, hB2⟩ := hcut
      have HB2 := Lib.hid (bstep HB.out hB2)
      clear hB2 c00 c01 c10 c11
      go_wp2_with fail
      go_ret
      exact ⟨rfl, HB2.out⟩

end Go.Proofs.Yticfjfdfgcfnnaa