/- ParseRatio: the walks of the program and of the reference. -/
import Derived.Test.YticfjfdfgcfnnaaParseRatio
namespace Go.Proofs.Yticfjfdfgcfnnaa
set_option linter.unusedSimpArgs false
set_option linter.unusedVariables false
open Go.RowKit

/-- what the walks need to know of the parts -/
structure Cut (s : ByteArray) (l : List ByteArray) (n d : Int) (ok : Bool) : Prop where
  out : ParsedR s n d ok
  at' : ∀ m e : Int, okZ m e → s = bs (fmtR m e) → (e = 1 ∧ l = [bs (Gn.fmt m)]) ∨ (e ≠ 1 ∧ l = [bs (Gn.fmt m), bs (Gn.fmt e)])
  nil : s = bs [] → l = [bs []]

theorem cut_of (s : ByteArray) (n d : Int) (ok : Bool) (h : ParsedR s n d ok) : Cut s (splitL s { data := #[47] }) n d ok :=
  ⟨h, fun m e _ h2 => h2 ▸ split_fmtR m e, fun h2 => by rw [h2]; exact split_none [] (by simp)⟩

/-- no fraction: a first part that is no number -/
theorem Cut.bad0 {s x : ByteArray} {r : List ByteArray} {n d v : Int} {ok : Bool} (C : Cut s (x :: r) n d ok) (P : Parsed x v false) : ok = false ∧ n = 0 ∧ d = 0 := by
  refine parsedR_no C.out fun m e h1 h2 => ?_
  have hb := okZ_bd h1
  rcases C.at' m e h1 h2 with ⟨_, h⟩ | ⟨_, h⟩ <;> simp at h <;> (rw [h.1] at P; have := parsed_self P (by omega) (by omega); cases this.1)
theorem Cut.bad1 {s x y : ByteArray} {r : List ByteArray} {n d v : Int} {ok : Bool} (C : Cut s (x :: y :: r) n d ok) (P : Parsed y v false) : ok = false ∧ n = 0 ∧ d = 0 := by
  refine parsedR_no C.out fun m e h1 h2 => ?_
  have hb := okZ_bd h1
  rcases C.at' m e h1 h2 with ⟨_, h⟩ | ⟨_, h⟩ <;> simp at h
  rw [h.2.1] at P; have := parsed_self P (by omega) (by omega); cases this.1
theorem Cut.bad2 {s x y z : ByteArray} {r : List ByteArray} {n d : Int} {ok : Bool} (C : Cut s (x :: y :: z :: r) n d ok) : ok = false ∧ n = 0 ∧ d = 0 := by
  refine parsedR_no C.out fun m e h1 h2 => ?_
  rcases C.at' m e h1 h2 with ⟨_, h⟩ | ⟨_, h⟩ <;> simp at h
theorem bs_empty_parsed {v : Int} (P : Parsed (bs []) v true) : False := by
  rcases P with ⟨_, _, h⟩ | ⟨h, _⟩
  · exact fmt_ne v (bs_inj h).symm
  · cases h
/-- the text written again is the text -/
theorem Cut.same1 {s x : ByteArray} {n d v : Int} {ok b : Bool} (C : Cut s [x] n d ok) (P : Parsed x v true) (hb : b = true ↔ okZ v 1)
    (hq : ((bs (if b then fmtR v 1 else [])).toList == s.toList) = true) : b = true ∧ ok = true ∧ n = v ∧ d = 1 := by
  have e := str_eq_of hq
  cases b with
  | false =>
    have h := C.nil e.symm
    simp at h; rw [h] at P; exact (bs_empty_parsed P).elim
  | true => exact ⟨rfl, parsedR_yes C.out (hb.1 rfl) e.symm⟩
theorem Cut.same2 {s x y : ByteArray} {n d v u : Int} {ok b : Bool} (C : Cut s [x, y] n d ok) (hb : b = true ↔ okZ v u)
    (hq : ((bs (if b then fmtR v u else [])).toList == s.toList) = true) : b = true ∧ ok = true ∧ n = v ∧ d = u := by
  have e := str_eq_of hq
  cases b with
  | false => have h := C.nil e.symm; simp at h
  | true => exact ⟨rfl, parsedR_yes C.out (hb.1 rfl) e.symm⟩
theorem Cut.other1 {s x : ByteArray} {n d v : Int} {ok b : Bool} (C : Cut s [x] n d ok) (P : Parsed x v true) (hb : b = true ↔ okZ v 1)
    (hq : ((bs (if b then fmtR v 1 else [])).toList == s.toList) = false) : ok = false ∧ n = 0 ∧ d = 0 := by
  refine parsedR_no C.out fun m e h1 h2 => ?_
  have hk := okZ_bd h1
  rcases C.at' m e h1 h2 with ⟨h3, h⟩ | ⟨_, h⟩ <;> simp at h
  rw [h] at P; have e2 := (parsed_self P (by omega) (by omega)).2
  subst e2 h3
  rw [hb.2 h1, if_pos rfl, ← h2] at hq; simp at hq
theorem Cut.other2 {s x y : ByteArray} {n d v u : Int} {ok b : Bool} (C : Cut s [x, y] n d ok) (P : Parsed x v true) (Q : Parsed y u true) (hb : b = true ↔ okZ v u)
    (hq : ((bs (if b then fmtR v u else [])).toList == s.toList) = false) : ok = false ∧ n = 0 ∧ d = 0 := by
  refine parsedR_no C.out fun m e h1 h2 => ?_
  have hk := okZ_bd h1
  rcases C.at' m e h1 h2 with ⟨h3, h⟩ | ⟨_, h⟩ <;> simp at h
  rw [h.1] at P; have e2 := (parsed_self P (by omega) (by omega)).2
  rw [h.2] at Q; have e3 := (parsed_self Q (by omega) (by omega)).2
  subst e2 e3
  rw [hb.2 h1, if_pos rfl, ← h2] at hq; simp at hq

set_option maxRecDepth 100000 in
set_option maxHeartbeats 8000000 in
theorem implParseRatio (s : ByteArray) (w : World) (hs : s.size ≤ 1048576) (n d : Int) (ok : Bool) (hP : ParsedR s n d ok) :
    Calls Try.prog 78 #[.string s] w fun e w' => e = .returned (.tuple #[ratV n d, .bool ok]) ∧ Below w.heap.size w w' := by
  have hne := split_ne s { data := #[47] }
  have hsz := split_size s { data := #[47] }
  have hC := cut_of s n d ok hP
  have K := fun w => implSplitAny s { data := #[47] } w hs
  generalize splitL s { data := #[47] } = l at hne hsz hC K
  have K := Lib.hid K
  have HC := Lib.hid hC
  clear hP hC
  have hps : ∀ x ∈ l, x.size ≤ maxLen := fun x hx => by have := hsz x hx; unfold maxLen; omega
  clear hsz
  match l, hne, hps, HC, K with
  | [x], _, hps, HC, K =>
    obtain ⟨vx, ox, Px⟩ := parsed_ex x
    have Kx := Lib.hid (fun w => implParse x w (hps x (by simp)) vx ox Px)
    cases ox with
    | false =>
      obtain ⟨rfl, rfl, rfl⟩ := HC.out.bad0 Px
      go_enter Try.func78, Try.ntmps78
      go_wp2_with fail
      refine (K.out _).mono ?_
      rintro e w1 ⟨a1, c1, rfl, oo, b1⟩
      obtain ⟨b, o, rfl⟩ := (own_row oo).form (by simp)
      have hl1 : b < w1.heap.size := by simpa using (own_row oo).lt
      have hl0 : w.heap.size + 1 ≤ b := by simpa using (own_base oo _ rfl).1
      have hc0 := row_str (own_row oo) 0 (by simp)
      simp only [Nat.add_zero, List.getElem_cons_zero, List.getElem_cons_succ] at hc0
      obtain ⟨u0, v0, l0⟩ := blt b1 (b := w.heap.size) (by (first | omega | (simp only [World.size_alloc, World.size_setCell, World.size_drew, World.heap_drewN]; omega)))
      have ne0 : ¬ w.heap.size = w1.heap.size := by omega
      have ne1 : ¬ w1.heap.size = w.heap.size := by omega
      have nb0 : ¬ b = w1.heap.size := by omega
      have nb1 : ¬ w1.heap.size = b := by omega
      have nc0 : ¬ b = w.heap.size := by omega
      have nc1 : ¬ w.heap.size = b := by omega
      have hb1 : Below w.heap.size w w1 := bstep (balloc (Below.refl _ _) _) b1
      clear oo b1
      go_wp2_with fail
      refine (Kx.out _).mono ?_
      rintro e w' ⟨rfl, rfl⟩
      go_wp2_with fail
      have rs0 : (w1.cell? { block := w.heap.size, off := 0 }).isSome = true := by simp [go_sem, l0, ne0, ne1, u0]
      have rs1 : (w1.cell? { block := w.heap.size, off := 1 }).isSome = true := by simp [go_sem, l0, ne0, ne1, u0]
      refine bodyPost_ret (v := _) (by simp [results, Try.results78, go_sem, rs0, rs1, ne0, ne1, l0, u0]; try rfl) rfl ?_
      exact ⟨rfl, by (repeat' (first | (with_reducible exact Below.refl _ _) | (with_reducible assumption) | (with_reducible refine balloc ?_ _) | (with_reducible refine Below.drew ?_) | (with_reducible refine below_drewN ?_ _) | (with_reducible refine bset ?_ ?_ _) | (with_reducible refine bstep ?_ (by assumption)) | go_size))⟩
    | true =>
      obtain ⟨bb, hbb⟩ := bool_of (okZ vx 1)
      have kf := fun w => implFmtRatio vx 1 w bb hbb
      have ks := trivial
      have hsame := HC.out.same1 Px hbb
      have hother := HC.out.other1 Px hbb
      obtain ⟨T, hT⟩ : ∃ T, bs (if bb = true then fmtR vx 1 else []) = T := ⟨_, rfl⟩
      rw [hT] at hsame hother
      simp only [hT] at kf
      have KF := Lib.hid kf
      have KS := Lib.hid ks
      clear hT kf ks
      cases hq : (T.toList == s.toList)
      · obtain ⟨rfl, rfl, rfl⟩ := hother hq
        clear hsame hother hbb
        go_enter Try.func78, Try.ntmps78
        go_wp2_with fail
        refine (K.out _).mono ?_
        rintro e w1 ⟨a1, c1, rfl, oo, b1⟩
        obtain ⟨b, o, rfl⟩ := (own_row oo).form (by simp)
        have hl1 : b < w1.heap.size := by simpa using (own_row oo).lt
        have hl0 : w.heap.size + 1 ≤ b := by simpa using (own_base oo _ rfl).1
        have hc0 := row_str (own_row oo) 0 (by simp)
        simp only [Nat.add_zero, List.getElem_cons_zero, List.getElem_cons_succ] at hc0
        obtain ⟨u0, v0, l0⟩ := blt b1 (b := w.heap.size) (by (first | omega | (simp only [World.size_alloc, World.size_setCell, World.size_drew, World.heap_drewN]; omega)))
        have ne0 : ¬ w.heap.size = w1.heap.size := by omega
        have ne1 : ¬ w1.heap.size = w.heap.size := by omega
        have nb0 : ¬ b = w1.heap.size := by omega
        have nb1 : ¬ w1.heap.size = b := by omega
        have nc0 : ¬ b = w.heap.size := by omega
        have nc1 : ¬ w.heap.size = b := by omega
        have hb1 : Below w.heap.size w w1 := bstep (balloc (Below.refl _ _) _) b1
        clear oo b1
        go_wp2_with fail
        refine (Kx.out _).mono ?_
        rintro e w' ⟨rfl, rfl⟩
        go_wp2_with fail
        refine (KF.out _).mono ?_
        rintro e wf ⟨rfl, hbf⟩
        have zqf_0 := blt hbf (b := w.heap.size) (by (first | omega | (simp only [World.size_alloc, World.size_setCell, World.size_drew, World.heap_drewN]; omega)))
        obtain ⟨uqf_0, vqf_0, zzf_0⟩ := zqf_0
        have zqf_1 := blt hbf (b := b) (by (first | omega | (simp only [World.size_alloc, World.size_setCell, World.size_drew, World.heap_drewN]; omega)))
        obtain ⟨uqf_1, vqf_1, zzf_1⟩ := zqf_1
        have zqf_2 := blt hbf (b := w1.heap.size) (by (first | omega | (simp only [World.size_alloc, World.size_setCell, World.size_drew, World.heap_drewN]; omega)))
        obtain ⟨uqf_2, vqf_2, zzf_2⟩ := zqf_2
        go_wp2_with fail
        have rs0 : (wf.cell? { block := w.heap.size, off := 0 }).isSome = true := by simp [go_sem, l0, ne0, ne1, u0, uqf_0, uqf_2, zzf_0, zzf_2]
        have rs1 : (wf.cell? { block := w.heap.size, off := 1 }).isSome = true := by simp [go_sem, l0, ne0, ne1, u0, uqf_0, uqf_2, zzf_0, zzf_2]
        refine bodyPost_ret (v := _) (by simp [results, Try.results78, go_sem, rs0, rs1, ne0, ne1, l0, u0, uqf_0, uqf_2, zzf_0, zzf_2]; try rfl) rfl ?_
        exact ⟨rfl, by (repeat' (first | (with_reducible exact Below.refl _ _) | (with_reducible assumption) | (with_reducible refine balloc ?_ _) | (with_reducible refine Below.drew ?_) | (with_reducible refine below_drewN ?_ _) | (with_reducible refine bset ?_ ?_ _) | (with_reducible refine bstep ?_ (by assumption)) | go_size))⟩
      · obtain ⟨rfl, rfl, rfl, rfl⟩ := hsame hq
        clear hsame hother hbb
        go_enter Try.func78, Try.ntmps78
        go_wp2_with fail
        refine (K.out _).mono ?_
        rintro e w1 ⟨a1, c1, rfl, oo, b1⟩
        obtain ⟨b, o, rfl⟩ := (own_row oo).form (by simp)
        have hl1 : b < w1.heap.size := by simpa using (own_row oo).lt
        have hl0 : w.heap.size + 1 ≤ b := by simpa using (own_base oo _ rfl).1
        have hc0 := row_str (own_row oo) 0 (by simp)
        simp only [Nat.add_zero, List.getElem_cons_zero, List.getElem_cons_succ] at hc0
        obtain ⟨u0, v0, l0⟩ := blt b1 (b := w.heap.size) (by (first | omega | (simp only [World.size_alloc, World.size_setCell, World.size_drew, World.heap_drewN]; omega)))
        have ne0 : ¬ w.heap.size = w1.heap.size := by omega
        have ne1 : ¬ w1.heap.size = w.heap.size := by omega
        have nb0 : ¬ b = w1.heap.size := by omega
        have nb1 : ¬ w1.heap.size = b := by omega
        have nc0 : ¬ b = w.heap.size := by omega
        have nc1 : ¬ w.heap.size = b := by omega
        have hb1 : Below w.heap.size w w1 := bstep (balloc (Below.refl _ _) _) b1
        clear oo b1
        go_wp2_with fail
        refine (Kx.out _).mono ?_
        rintro e w' ⟨rfl, rfl⟩
        go_wp2_with fail
        refine (KF.out _).mono ?_
        rintro e wf ⟨rfl, hbf⟩
        have zqf_0 := blt hbf (b := w.heap.size) (by (first | omega | (simp only [World.size_alloc, World.size_setCell, World.size_drew, World.heap_drewN]; omega)))
        obtain ⟨uqf_0, vqf_0, zzf_0⟩ := zqf_0
        have zqf_1 := blt hbf (b := b) (by (first | omega | (simp only [World.size_alloc, World.size_setCell, World.size_drew, World.heap_drewN]; omega)))
        obtain ⟨uqf_1, vqf_1, zzf_1⟩ := zqf_1
        have zqf_2 := blt hbf (b := w1.heap.size) (by (first | omega | (simp only [World.size_alloc, World.size_setCell, World.size_drew, World.heap_drewN]; omega)))
        obtain ⟨uqf_2, vqf_2, zzf_2⟩ := zqf_2
        go_wp2_with fail
        have rs0 : (wf.cell? { block := w.heap.size, off := 0 }).isSome = true := by simp [go_sem, l0, ne0, ne1, u0, uqf_0, uqf_2, zzf_0, zzf_2]
        have rs1 : (wf.cell? { block := w.heap.size, off := 1 }).isSome = true := by simp [go_sem, l0, ne0, ne1, u0, uqf_0, uqf_2, zzf_0, zzf_2]
        refine bodyPost_ret (v := _) (by simp [results, Try.results78, go_sem, rs0, rs1, ne0, ne1, l0, u0, uqf_0, uqf_2, zzf_0, zzf_2]; try rfl) rfl ?_
        exact ⟨rfl, by (repeat' (first | (with_reducible exact Below.refl _ _) | (with_reducible assumption) | (with_reducible refine balloc ?_ _) | (with_reducible refine Below.drew ?_) | (with_reducible refine below_drewN ?_ _) | (with_reducible refine bset ?_ ?_ _) | (with_reducible refine bstep ?_ (by assumption)) | go_size))⟩
  | [x, y], _, hps, HC, K =>
    obtain ⟨vx, ox, Px⟩ := parsed_ex x
    have Kx := Lib.hid (fun w => implParse x w (hps x (by simp)) vx ox Px)
    obtain ⟨vy, oy, Py⟩ := parsed_ex y
    have Ky := Lib.hid (fun w => implParse y w (hps y (by simp)) vy oy Py)
    cases ox with
    | false =>
      obtain ⟨rfl, rfl, rfl⟩ := HC.out.bad0 Px
      go_enter Try.func78, Try.ntmps78
      go_wp2_with fail
      refine (K.out _).mono ?_
      rintro e w1 ⟨a1, c1, rfl, oo, b1⟩
      obtain ⟨b, o, rfl⟩ := (own_row oo).form (by simp)
      have hl1 : b < w1.heap.size := by simpa using (own_row oo).lt
      have hl0 : w.heap.size + 1 ≤ b := by simpa using (own_base oo _ rfl).1
      have hc0 := row_str (own_row oo) 0 (by simp)
      simp only [Nat.add_zero, List.getElem_cons_zero, List.getElem_cons_succ] at hc0
      have hc1 := row_str (own_row oo) 1 (by simp)
      simp only [Nat.add_zero, List.getElem_cons_zero, List.getElem_cons_succ] at hc1
      obtain ⟨u0, v0, l0⟩ := blt b1 (b := w.heap.size) (by (first | omega | (simp only [World.size_alloc, World.size_setCell, World.size_drew, World.heap_drewN]; omega)))
      have ne0 : ¬ w.heap.size = w1.heap.size := by omega
      have ne1 : ¬ w1.heap.size = w.heap.size := by omega
      have nb0 : ¬ b = w1.heap.size := by omega
      have nb1 : ¬ w1.heap.size = b := by omega
      have nc0 : ¬ b = w.heap.size := by omega
      have nc1 : ¬ w.heap.size = b := by omega
      have hb1 : Below w.heap.size w w1 := bstep (balloc (Below.refl _ _) _) b1
      clear oo b1
      go_wp2_with fail
      refine (Kx.out _).mono ?_
      rintro e w' ⟨rfl, rfl⟩
      go_wp2_with fail
      have rs0 : (w1.cell? { block := w.heap.size, off := 0 }).isSome = true := by simp [go_sem, l0, ne0, ne1, u0]
      have rs1 : (w1.cell? { block := w.heap.size, off := 1 }).isSome = true := by simp [go_sem, l0, ne0, ne1, u0]
      refine bodyPost_ret (v := _) (by simp [results, Try.results78, go_sem, rs0, rs1, ne0, ne1, l0, u0]; try rfl) rfl ?_
      exact ⟨rfl, by (repeat' (first | (with_reducible exact Below.refl _ _) | (with_reducible assumption) | (with_reducible refine balloc ?_ _) | (with_reducible refine Below.drew ?_) | (with_reducible refine below_drewN ?_ _) | (with_reducible refine bset ?_ ?_ _) | (with_reducible refine bstep ?_ (by assumption)) | go_size))⟩
    | true =>
      cases oy with
      | false =>
        obtain ⟨rfl, rfl, rfl⟩ := HC.out.bad1 Py
        go_enter Try.func78, Try.ntmps78
        go_wp2_with fail
        refine (K.out _).mono ?_
        rintro e w1 ⟨a1, c1, rfl, oo, b1⟩
        obtain ⟨b, o, rfl⟩ := (own_row oo).form (by simp)
        have hl1 : b < w1.heap.size := by simpa using (own_row oo).lt
        have hl0 : w.heap.size + 1 ≤ b := by simpa using (own_base oo _ rfl).1
        have hc0 := row_str (own_row oo) 0 (by simp)
        simp only [Nat.add_zero, List.getElem_cons_zero, List.getElem_cons_succ] at hc0
        have hc1 := row_str (own_row oo) 1 (by simp)
        simp only [Nat.add_zero, List.getElem_cons_zero, List.getElem_cons_succ] at hc1
        obtain ⟨u0, v0, l0⟩ := blt b1 (b := w.heap.size) (by (first | omega | (simp only [World.size_alloc, World.size_setCell, World.size_drew, World.heap_drewN]; omega)))
        have ne0 : ¬ w.heap.size = w1.heap.size := by omega
        have ne1 : ¬ w1.heap.size = w.heap.size := by omega
        have nb0 : ¬ b = w1.heap.size := by omega
        have nb1 : ¬ w1.heap.size = b := by omega
        have nc0 : ¬ b = w.heap.size := by omega
        have nc1 : ¬ w.heap.size = b := by omega
        have hb1 : Below w.heap.size w w1 := bstep (balloc (Below.refl _ _) _) b1
        clear oo b1
        go_wp2_with fail
        refine (Kx.out _).mono ?_
        rintro e w' ⟨rfl, rfl⟩
        go_wp2_with fail
        refine (Ky.out _).mono ?_
        rintro e w' ⟨rfl, rfl⟩
        go_wp2_with fail
        have rs0 : (w1.cell? { block := w.heap.size, off := 0 }).isSome = true := by simp [go_sem, l0, ne0, ne1, u0]
        have rs1 : (w1.cell? { block := w.heap.size, off := 1 }).isSome = true := by simp [go_sem, l0, ne0, ne1, u0]
        refine bodyPost_ret (v := _) (by simp [results, Try.results78, go_sem, rs0, rs1, ne0, ne1, l0, u0]; try rfl) rfl ?_
        exact ⟨rfl, by (repeat' (first | (with_reducible exact Below.refl _ _) | (with_reducible assumption) | (with_reducible refine balloc ?_ _) | (with_reducible refine Below.drew ?_) | (with_reducible refine below_drewN ?_ _) | (with_reducible refine bset ?_ ?_ _) | (with_reducible refine bstep ?_ (by assumption)) | go_size))⟩
      | true =>
        obtain ⟨bb, hbb⟩ := bool_of (okZ vx vy)
        have kf := fun w => implFmtRatio vx vy w bb hbb
        have ks := trivial
        have hsame := HC.out.same2  hbb
        have hother := HC.out.other2 Px Py hbb
        obtain ⟨T, hT⟩ : ∃ T, bs (if bb = true then fmtR vx vy else []) = T := ⟨_, rfl⟩
        rw [hT] at hsame hother
        simp only [hT] at kf
        have KF := Lib.hid kf
        have KS := Lib.hid ks
        clear hT kf ks
        cases hq : (T.toList == s.toList)
        · obtain ⟨rfl, rfl, rfl⟩ := hother hq
          clear hsame hother hbb
          go_enter Try.func78, Try.ntmps78
          go_wp2_with fail
          refine (K.out _).mono ?_
          rintro e w1 ⟨a1, c1, rfl, oo, b1⟩
          obtain ⟨b, o, rfl⟩ := (own_row oo).form (by simp)
          have hl1 : b < w1.heap.size := by simpa using (own_row oo).lt
          have hl0 : w.heap.size + 1 ≤ b := by simpa using (own_base oo _ rfl).1
          have hc0 := row_str (own_row oo) 0 (by simp)
          simp only [Nat.add_zero, List.getElem_cons_zero, List.getElem_cons_succ] at hc0
          have hc1 := row_str (own_row oo) 1 (by simp)
          simp only [Nat.add_zero, List.getElem_cons_zero, List.getElem_cons_succ] at hc1
          obtain ⟨u0, v0, l0⟩ := blt b1 (b := w.heap.size) (by (first | omega | (simp only [World.size_alloc, World.size_setCell, World.size_drew, World.heap_drewN]; omega)))
          have ne0 : ¬ w.heap.size = w1.heap.size := by omega
          have ne1 : ¬ w1.heap.size = w.heap.size := by omega
          have nb0 : ¬ b = w1.heap.size := by omega
          have nb1 : ¬ w1.heap.size = b := by omega
          have nc0 : ¬ b = w.heap.size := by omega
          have nc1 : ¬ w.heap.size = b := by omega
          have hb1 : Below w.heap.size w w1 := bstep (balloc (Below.refl _ _) _) b1
          clear oo b1
          go_wp2_with fail
          refine (Kx.out _).mono ?_
          rintro e w' ⟨rfl, rfl⟩
          go_wp2_with fail
          refine (Ky.out _).mono ?_
          rintro e w' ⟨rfl, rfl⟩
          go_wp2_with fail
          refine (KF.out _).mono ?_
          rintro e wf ⟨rfl, hbf⟩
          have zqf_0 := blt hbf (b := w.heap.size) (by (first | omega | (simp only [World.size_alloc, World.size_setCell, World.size_drew, World.heap_drewN]; omega)))
          obtain ⟨uqf_0, vqf_0, zzf_0⟩ := zqf_0
          have zqf_1 := blt hbf (b := b) (by (first | omega | (simp only [World.size_alloc, World.size_setCell, World.size_drew, World.heap_drewN]; omega)))
          obtain ⟨uqf_1, vqf_1, zzf_1⟩ := zqf_1
          have zqf_2 := blt hbf (b := w1.heap.size) (by (first | omega | (simp only [World.size_alloc, World.size_setCell, World.size_drew, World.heap_drewN]; omega)))
          obtain ⟨uqf_2, vqf_2, zzf_2⟩ := zqf_2
          go_wp2_with fail
          have rs0 : (wf.cell? { block := w.heap.size, off := 0 }).isSome = true := by simp [go_sem, l0, ne0, ne1, u0, uqf_0, uqf_2, zzf_0, zzf_2]
          have rs1 : (wf.cell? { block := w.heap.size, off := 1 }).isSome = true := by simp [go_sem, l0, ne0, ne1, u0, uqf_0, uqf_2, zzf_0, zzf_2]
          refine bodyPost_ret (v := _) (by simp [results, Try.results78, go_sem, rs0, rs1, ne0, ne1, l0, u0, uqf_0, uqf_2, zzf_0, zzf_2]; try rfl) rfl ?_
          exact ⟨rfl, by (repeat' (first | (with_reducible exact Below.refl _ _) | (with_reducible assumption) | (with_reducible refine balloc ?_ _) | (with_reducible refine Below.drew ?_) | (with_reducible refine below_drewN ?_ _) | (with_reducible refine bset ?_ ?_ _) | (with_reducible refine bstep ?_ (by assumption)) | go_size))⟩
        · obtain ⟨rfl, rfl, rfl, rfl⟩ := hsame hq
          clear hsame hother hbb
          go_enter Try.func78, Try.ntmps78
          go_wp2_with fail
          refine (K.out _).mono ?_
          rintro e w1 ⟨a1, c1, rfl, oo, b1⟩
          obtain ⟨b, o, rfl⟩ := (own_row oo).form (by simp)
          have hl1 : b < w1.heap.size := by simpa using (own_row oo).lt
          have hl0 : w.heap.size + 1 ≤ b := by simpa using (own_base oo _ rfl).1
          have hc0 := row_str (own_row oo) 0 (by simp)
          simp only [Nat.add_zero, List.getElem_cons_zero, List.getElem_cons_succ] at hc0
          have hc1 := row_str (own_row oo) 1 (by simp)
          simp only [Nat.add_zero, List.getElem_cons_zero, List.getElem_cons_succ] at hc1
          obtain ⟨u0, v0, l0⟩ := blt b1 (b := w.heap.size) (by (first | omega | (simp only [World.size_alloc, World.size_setCell, World.size_drew, World.heap_drewN]; omega)))
          have ne0 : ¬ w.heap.size = w1.heap.size := by omega
          have ne1 : ¬ w1.heap.size = w.heap.size := by omega
          have nb0 : ¬ b = w1.heap.size := by omega
          have nb1 : ¬ w1.heap.size = b := by omega
          have nc0 : ¬ b = w.heap.size := by omega
          have nc1 : ¬ w.heap.size = b := by omega
          have hb1 : Below w.heap.size w w1 := bstep (balloc (Below.refl _ _) _) b1
          clear oo b1
          go_wp2_with fail
          refine (Kx.out _).mono ?_
          rintro e w' ⟨rfl, rfl⟩
          go_wp2_with fail
          refine (Ky.out _).mono ?_
          rintro e w' ⟨rfl, rfl⟩
          go_wp2_with fail
          refine (KF.out _).mono ?_
          rintro e wf ⟨rfl, hbf⟩
          have zqf_0 := blt hbf (b := w.heap.size) (by (first | omega | (simp only [World.size_alloc, World.size_setCell, World.size_drew, World.heap_drewN]; omega)))
          obtain ⟨uqf_0, vqf_0, zzf_0⟩ := zqf_0
          have zqf_1 := blt hbf (b := b) (by (first | omega | (simp only [World.size_alloc, World.size_setCell, World.size_drew, World.heap_drewN]; omega)))
          obtain ⟨uqf_1, vqf_1, zzf_1⟩ := zqf_1
          have zqf_2 := blt hbf (b := w1.heap.size) (by (first | omega | (simp only [World.size_alloc, World.size_setCell, World.size_drew, World.heap_drewN]; omega)))
          obtain ⟨uqf_2, vqf_2, zzf_2⟩ := zqf_2
          go_wp2_with fail
          have rs0 : (wf.cell? { block := w.heap.size, off := 0 }).isSome = true := by simp [go_sem, l0, ne0, ne1, u0, uqf_0, uqf_2, zzf_0, zzf_2]
          have rs1 : (wf.cell? { block := w.heap.size, off := 1 }).isSome = true := by simp [go_sem, l0, ne0, ne1, u0, uqf_0, uqf_2, zzf_0, zzf_2]
          refine bodyPost_ret (v := _) (by simp [results, Try.results78, go_sem, rs0, rs1, ne0, ne1, l0, u0, uqf_0, uqf_2, zzf_0, zzf_2]; try rfl) rfl ?_
          exact ⟨rfl, by (repeat' (first | (with_reducible exact Below.refl _ _) | (with_reducible assumption) | (with_reducible refine balloc ?_ _) | (with_reducible refine Below.drew ?_) | (with_reducible refine below_drewN ?_ _) | (with_reducible refine bset ?_ ?_ _) | (with_reducible refine bstep ?_ (by assumption)) | go_size))⟩
  | x :: y :: z :: r, _, hps, HC, K =>
    obtain ⟨vx, ox, Px⟩ := parsed_ex x
    have Kx := Lib.hid (fun w => implParse x w (hps x (by simp)) vx ox Px)
    cases ox with
    | false =>
      obtain ⟨rfl, rfl, rfl⟩ := HC.out.bad2
      go_enter Try.func78, Try.ntmps78
      go_wp2_with fail
      refine (K.out _).mono ?_
      rintro e w1 ⟨a1, c1, rfl, oo, b1⟩
      obtain ⟨b, o, rfl⟩ := (own_row oo).form (by simp)
      have hl1 : b < w1.heap.size := by simpa using (own_row oo).lt
      have hl0 : w.heap.size + 1 ≤ b := by simpa using (own_base oo _ rfl).1
      have hc0 := row_str (own_row oo) 0 (by simp)
      simp only [Nat.add_zero, List.getElem_cons_zero, List.getElem_cons_succ] at hc0
      obtain ⟨u0, v0, l0⟩ := blt b1 (b := w.heap.size) (by (first | omega | (simp only [World.size_alloc, World.size_setCell, World.size_drew, World.heap_drewN]; omega)))
      have ne0 : ¬ w.heap.size = w1.heap.size := by omega
      have ne1 : ¬ w1.heap.size = w.heap.size := by omega
      have nb0 : ¬ b = w1.heap.size := by omega
      have nb1 : ¬ w1.heap.size = b := by omega
      have nc0 : ¬ b = w.heap.size := by omega
      have nc1 : ¬ w.heap.size = b := by omega
      have hb1 : Below w.heap.size w w1 := bstep (balloc (Below.refl _ _) _) b1
      clear oo b1
      go_wp2_with fail
      refine (Kx.out _).mono ?_
      rintro e w' ⟨rfl, rfl⟩
      go_wp2_with fail
      have rs0 : (w1.cell? { block := w.heap.size, off := 0 }).isSome = true := by simp [go_sem, l0, ne0, ne1, u0]
      have rs1 : (w1.cell? { block := w.heap.size, off := 1 }).isSome = true := by simp [go_sem, l0, ne0, ne1, u0]
      refine bodyPost_ret (v := _) (by simp [results, Try.results78, go_sem, rs0, rs1, ne0, ne1, l0, u0]; try rfl) rfl ?_
      exact ⟨rfl, by (repeat' (first | (with_reducible exact Below.refl _ _) | (with_reducible assumption) | (with_reducible refine balloc ?_ _) | (with_reducible refine Below.drew ?_) | (with_reducible refine below_drewN ?_ _) | (with_reducible refine bset ?_ ?_ _) | (with_reducible refine bstep ?_ (by assumption)) | go_size))⟩
    | true =>
      obtain ⟨rfl, rfl, rfl⟩ := HC.out.bad2
      go_enter Try.func78, Try.ntmps78
      go_wp2_with fail
      refine (K.out _).mono ?_
      rintro e w1 ⟨a1, c1, rfl, oo, b1⟩
      obtain ⟨b, o, rfl⟩ := (own_row oo).form (by simp)
      have hl1 : b < w1.heap.size := by simpa using (own_row oo).lt
      have hl0 : w.heap.size + 1 ≤ b := by simpa using (own_base oo _ rfl).1
      have hc0 := row_str (own_row oo) 0 (by simp)
      simp only [Nat.add_zero, List.getElem_cons_zero, List.getElem_cons_succ] at hc0
      obtain ⟨u0, v0, l0⟩ := blt b1 (b := w.heap.size) (by (first | omega | (simp only [World.size_alloc, World.size_setCell, World.size_drew, World.heap_drewN]; omega)))
      have ne0 : ¬ w.heap.size = w1.heap.size := by omega
      have ne1 : ¬ w1.heap.size = w.heap.size := by omega
      have nb0 : ¬ b = w1.heap.size := by omega
      have nb1 : ¬ w1.heap.size = b := by omega
      have nc0 : ¬ b = w.heap.size := by omega
      have nc1 : ¬ w.heap.size = b := by omega
      have hb1 : Below w.heap.size w w1 := bstep (balloc (Below.refl _ _) _) b1
      clear oo b1
      go_wp2_with fail
      refine (Kx.out _).mono ?_
      rintro e w' ⟨rfl, rfl⟩
      go_wp2_with fail
      have rs0 : (w1.cell? { block := w.heap.size, off := 0 }).isSome = true := by simp [go_sem, l0, ne0, ne1, u0]
      have rs1 : (w1.cell? { block := w.heap.size, off := 1 }).isSome = true := by simp [go_sem, l0, ne0, ne1, u0]
      refine bodyPost_ret (v := _) (by simp [results, Try.results78, go_sem, rs0, rs1, ne0, ne1, l0, u0]; try rfl) rfl ?_
      exact ⟨rfl, by (repeat' (first | (with_reducible exact Below.refl _ _) | (with_reducible assumption) | (with_reducible refine balloc ?_ _) | (with_reducible refine Below.drew ?_) | (with_reducible refine below_drewN ?_ _) | (with_reducible refine bset ?_ ?_ _) | (with_reducible refine bstep ?_ (by assumption)) | go_size))⟩

set_option maxRecDepth 100000 in
set_option maxHeartbeats 8000000 in
theorem specParseRatio (s : ByteArray) (w : World) (hs : s.size ≤ 1048576) (n d : Int) (ok : Bool) (hP : ParsedR s n d ok) :
    Calls Try.prog 77 #[.string s] w fun e w' => e = .returned (.tuple #[ratV n d, .bool ok]) ∧ Below w.heap.size w w' := by
  have hne := split_ne s { data := #[47] }
  have hsz := split_size s { data := #[47] }
  have hC := cut_of s n d ok hP
  have K := fun w => specSplitAny s { data := #[47] } w hs (by unfold maxLen; decide)
  generalize splitL s { data := #[47] } = l at hne hsz hC K
  have K := Lib.hid K
  have HC := Lib.hid hC
  clear hP hC
  have hps : ∀ x ∈ l, x.size ≤ maxLen := fun x hx => by have := hsz x hx; unfold maxLen; omega
  clear hsz
  match l, hne, hps, HC, K with
  | [x], _, hps, HC, K =>
    obtain ⟨vx, ox, Px⟩ := parsed_ex x
    have Kx := Lib.hid (fun w => specParse x w (hps x (by simp)) vx ox Px)
    cases ox with
    | false =>
      obtain ⟨rfl, rfl, rfl⟩ := HC.out.bad0 Px
      go_enter Try.func77, Try.ntmps77
      go_wp2_with fail
      refine (K.out _).mono ?_
      rintro e w1 ⟨a1, c1, rfl, oo, b1⟩
      obtain ⟨b, o, rfl⟩ := (own_row oo).form (by simp)
      have hl1 : b < w1.heap.size := by simpa using (own_row oo).lt
      have hl0 : w.heap.size + 1 ≤ b := by simpa using (own_base oo _ rfl).1
      have hc0 := row_str (own_row oo) 0 (by simp)
      simp only [Nat.add_zero, List.getElem_cons_zero, List.getElem_cons_succ] at hc0
      obtain ⟨u0, v0, l0⟩ := blt b1 (b := w.heap.size) (by (first | omega | (simp only [World.size_alloc, World.size_setCell, World.size_drew, World.heap_drewN]; omega)))
      have ne0 : ¬ w.heap.size = w1.heap.size := by omega
      have ne1 : ¬ w1.heap.size = w.heap.size := by omega
      have nb0 : ¬ b = w1.heap.size := by omega
      have nb1 : ¬ w1.heap.size = b := by omega
      have nc0 : ¬ b = w.heap.size := by omega
      have nc1 : ¬ w.heap.size = b := by omega
      have hb1 : Below w.heap.size w w1 := bstep (balloc (Below.refl _ _) _) b1
      clear oo b1
      go_wp2_with fail
      refine (Kx.out _).mono ?_
      rintro e wpx ⟨rfl, hbpx⟩
      have zqpx_0 := blt hbpx (b := w.heap.size) (by (first | omega | (simp only [World.size_alloc, World.size_setCell, World.size_drew, World.heap_drewN]; omega)))
      obtain ⟨uqpx_0, vqpx_0, zzpx_0⟩ := zqpx_0
      have zqpx_1 := blt hbpx (b := b) (by (first | omega | (simp only [World.size_alloc, World.size_setCell, World.size_drew, World.heap_drewN]; omega)))
      obtain ⟨uqpx_1, vqpx_1, zzpx_1⟩ := zqpx_1
      go_wp2_with fail
      have rs0 : (wpx.cell? { block := w.heap.size, off := 0 }).isSome = true := by simp [go_sem, l0, ne0, ne1, u0, uqpx_0, zzpx_0]
      have rs1 : (wpx.cell? { block := w.heap.size, off := 1 }).isSome = true := by simp [go_sem, l0, ne0, ne1, u0, uqpx_0, zzpx_0]
      refine bodyPost_ret (v := _) (by simp [results, Try.results77, go_sem, rs0, rs1, ne0, ne1, l0, u0, uqpx_0, zzpx_0]; try rfl) rfl ?_
      exact ⟨rfl, by (repeat' (first | (with_reducible exact Below.refl _ _) | (with_reducible assumption) | (with_reducible refine balloc ?_ _) | (with_reducible refine Below.drew ?_) | (with_reducible refine below_drewN ?_ _) | (with_reducible refine bset ?_ ?_ _) | (with_reducible refine bstep ?_ (by assumption)) | go_size))⟩
    | true =>
      obtain ⟨bb, hbb⟩ := bool_of (okZ vx 1)
      have kf := fun w => specFmtRatio vx 1 w bb hbb
      have ks := fun w => specRatioOk vx 1 w bb hbb
      have hsame := HC.out.same1 Px hbb
      have hother := HC.out.other1 Px hbb
      obtain ⟨T, hT⟩ : ∃ T, bs (if bb = true then fmtR vx 1 else []) = T := ⟨_, rfl⟩
      rw [hT] at hsame hother
      simp only [hT] at kf
      have KF := Lib.hid kf
      have KS := Lib.hid ks
      clear hT kf ks
      cases hq : (T.toList == s.toList)
      · obtain ⟨rfl, rfl, rfl⟩ := hother hq
        clear hsame hother hbb
        go_enter Try.func77, Try.ntmps77
        go_wp2_with fail
        refine (K.out _).mono ?_
        rintro e w1 ⟨a1, c1, rfl, oo, b1⟩
        obtain ⟨b, o, rfl⟩ := (own_row oo).form (by simp)
        have hl1 : b < w1.heap.size := by simpa using (own_row oo).lt
        have hl0 : w.heap.size + 1 ≤ b := by simpa using (own_base oo _ rfl).1
        have hc0 := row_str (own_row oo) 0 (by simp)
        simp only [Nat.add_zero, List.getElem_cons_zero, List.getElem_cons_succ] at hc0
        obtain ⟨u0, v0, l0⟩ := blt b1 (b := w.heap.size) (by (first | omega | (simp only [World.size_alloc, World.size_setCell, World.size_drew, World.heap_drewN]; omega)))
        have ne0 : ¬ w.heap.size = w1.heap.size := by omega
        have ne1 : ¬ w1.heap.size = w.heap.size := by omega
        have nb0 : ¬ b = w1.heap.size := by omega
        have nb1 : ¬ w1.heap.size = b := by omega
        have nc0 : ¬ b = w.heap.size := by omega
        have nc1 : ¬ w.heap.size = b := by omega
        have hb1 : Below w.heap.size w w1 := bstep (balloc (Below.refl _ _) _) b1
        clear oo b1
        go_wp2_with fail
        refine (Kx.out _).mono ?_
        rintro e wpx ⟨rfl, hbpx⟩
        have zqpx_0 := blt hbpx (b := w.heap.size) (by (first | omega | (simp only [World.size_alloc, World.size_setCell, World.size_drew, World.heap_drewN]; omega)))
        obtain ⟨uqpx_0, vqpx_0, zzpx_0⟩ := zqpx_0
        have zqpx_1 := blt hbpx (b := b) (by (first | omega | (simp only [World.size_alloc, World.size_setCell, World.size_drew, World.heap_drewN]; omega)))
        obtain ⟨uqpx_1, vqpx_1, zzpx_1⟩ := zqpx_1
        go_wp2_with fail
        refine (KF.out _).mono ?_
        rintro e wf ⟨rfl, hbf⟩
        have zqf_0 := blt hbf (b := w.heap.size) (by (first | omega | (simp only [World.size_alloc, World.size_setCell, World.size_drew, World.heap_drewN]; omega)))
        obtain ⟨uqf_0, vqf_0, zzf_0⟩ := zqf_0
        have zqf_1 := blt hbf (b := b) (by (first | omega | (simp only [World.size_alloc, World.size_setCell, World.size_drew, World.heap_drewN]; omega)))
        obtain ⟨uqf_1, vqf_1, zzf_1⟩ := zqf_1
        have zqf_2 := blt hbf (b := wpx.heap.size) (by (first | omega | (simp only [World.size_alloc, World.size_setCell, World.size_drew, World.heap_drewN]; omega)))
        obtain ⟨uqf_2, vqf_2, zzf_2⟩ := zqf_2
        go_wp2_with fail
        have rs0 : (wf.cell? { block := w.heap.size, off := 0 }).isSome = true := by simp [go_sem, l0, ne0, ne1, u0, uqpx_0, zzpx_0, uqf_0, uqf_2, zzf_0, zzf_2]
        have rs1 : (wf.cell? { block := w.heap.size, off := 1 }).isSome = true := by simp [go_sem, l0, ne0, ne1, u0, uqpx_0, zzpx_0, uqf_0, uqf_2, zzf_0, zzf_2]
        refine bodyPost_ret (v := _) (by simp [results, Try.results77, go_sem, rs0, rs1, ne0, ne1, l0, u0, uqpx_0, zzpx_0, uqf_0, uqf_2, zzf_0, zzf_2]; try rfl) rfl ?_
        exact ⟨rfl, by (repeat' (first | (with_reducible exact Below.refl _ _) | (with_reducible assumption) | (with_reducible refine balloc ?_ _) | (with_reducible refine Below.drew ?_) | (with_reducible refine below_drewN ?_ _) | (with_reducible refine bset ?_ ?_ _) | (with_reducible refine bstep ?_ (by assumption)) | go_size))⟩
      · obtain ⟨rfl, rfl, rfl, rfl⟩ := hsame hq
        clear hsame hother hbb
        go_enter Try.func77, Try.ntmps77
        go_wp2_with fail
        refine (K.out _).mono ?_
        rintro e w1 ⟨a1, c1, rfl, oo, b1⟩
        obtain ⟨b, o, rfl⟩ := (own_row oo).form (by simp)
        have hl1 : b < w1.heap.size := by simpa using (own_row oo).lt
        have hl0 : w.heap.size + 1 ≤ b := by simpa using (own_base oo _ rfl).1
        have hc0 := row_str (own_row oo) 0 (by simp)
        simp only [Nat.add_zero, List.getElem_cons_zero, List.getElem_cons_succ] at hc0
        obtain ⟨u0, v0, l0⟩ := blt b1 (b := w.heap.size) (by (first | omega | (simp only [World.size_alloc, World.size_setCell, World.size_drew, World.heap_drewN]; omega)))
        have ne0 : ¬ w.heap.size = w1.heap.size := by omega
        have ne1 : ¬ w1.heap.size = w.heap.size := by omega
        have nb0 : ¬ b = w1.heap.size := by omega
        have nb1 : ¬ w1.heap.size = b := by omega
        have nc0 : ¬ b = w.heap.size := by omega
        have nc1 : ¬ w.heap.size = b := by omega
        have hb1 : Below w.heap.size w w1 := bstep (balloc (Below.refl _ _) _) b1
        clear oo b1
        go_wp2_with fail
        refine (Kx.out _).mono ?_
        rintro e wpx ⟨rfl, hbpx⟩
        have zqpx_0 := blt hbpx (b := w.heap.size) (by (first | omega | (simp only [World.size_alloc, World.size_setCell, World.size_drew, World.heap_drewN]; omega)))
        obtain ⟨uqpx_0, vqpx_0, zzpx_0⟩ := zqpx_0
        have zqpx_1 := blt hbpx (b := b) (by (first | omega | (simp only [World.size_alloc, World.size_setCell, World.size_drew, World.heap_drewN]; omega)))
        obtain ⟨uqpx_1, vqpx_1, zzpx_1⟩ := zqpx_1
        go_wp2_with fail
        refine (KF.out _).mono ?_
        rintro e wf ⟨rfl, hbf⟩
        have zqf_0 := blt hbf (b := w.heap.size) (by (first | omega | (simp only [World.size_alloc, World.size_setCell, World.size_drew, World.heap_drewN]; omega)))
        obtain ⟨uqf_0, vqf_0, zzf_0⟩ := zqf_0
        have zqf_1 := blt hbf (b := b) (by (first | omega | (simp only [World.size_alloc, World.size_setCell, World.size_drew, World.heap_drewN]; omega)))
        obtain ⟨uqf_1, vqf_1, zzf_1⟩ := zqf_1
        have zqf_2 := blt hbf (b := wpx.heap.size) (by (first | omega | (simp only [World.size_alloc, World.size_setCell, World.size_drew, World.heap_drewN]; omega)))
        obtain ⟨uqf_2, vqf_2, zzf_2⟩ := zqf_2
        go_wp2_with fail
        refine (KS.out _).mono ?_
        rintro e wk ⟨rfl, hbk⟩
        have zqk_0 := blt hbk (b := w.heap.size) (by (first | omega | (simp only [World.size_alloc, World.size_setCell, World.size_drew, World.heap_drewN]; omega)))
        obtain ⟨uqk_0, vqk_0, zzk_0⟩ := zqk_0
        have zqk_1 := blt hbk (b := b) (by (first | omega | (simp only [World.size_alloc, World.size_setCell, World.size_drew, World.heap_drewN]; omega)))
        obtain ⟨uqk_1, vqk_1, zzk_1⟩ := zqk_1
        have zqk_2 := blt hbk (b := wpx.heap.size) (by (first | omega | (simp only [World.size_alloc, World.size_setCell, World.size_drew, World.heap_drewN]; omega)))
        obtain ⟨uqk_2, vqk_2, zzk_2⟩ := zqk_2
        go_wp2_with fail
        have rs0 : (wk.cell? { block := w.heap.size, off := 0 }).isSome = true := by simp [go_sem, l0, ne0, ne1, u0, uqpx_0, zzpx_0, uqf_0, uqf_2, zzf_0, zzf_2, uqk_0, uqk_2, zzk_0, zzk_2]
        have rs1 : (wk.cell? { block := w.heap.size, off := 1 }).isSome = true := by simp [go_sem, l0, ne0, ne1, u0, uqpx_0, zzpx_0, uqf_0, uqf_2, zzf_0, zzf_2, uqk_0, uqk_2, zzk_0, zzk_2]
        refine bodyPost_ret (v := _) (by simp [results, Try.results77, go_sem, rs0, rs1, ne0, ne1, l0, u0, uqpx_0, zzpx_0, uqf_0, uqf_2, zzf_0, zzf_2, uqk_0, uqk_2, zzk_0, zzk_2]; try rfl) rfl ?_
        exact ⟨rfl, by (repeat' (first | (with_reducible exact Below.refl _ _) | (with_reducible assumption) | (with_reducible refine balloc ?_ _) | (with_reducible refine Below.drew ?_) | (with_reducible refine below_drewN ?_ _) | (with_reducible refine bset ?_ ?_ _) | (with_reducible refine bstep ?_ (by assumption)) | go_size))⟩
  | [x, y], _, hps, HC, K =>
    obtain ⟨vx, ox, Px⟩ := parsed_ex x
    have Kx := Lib.hid (fun w => specParse x w (hps x (by simp)) vx ox Px)
    obtain ⟨vy, oy, Py⟩ := parsed_ex y
    have Ky := Lib.hid (fun w => specParse y w (hps y (by simp)) vy oy Py)
    cases ox with
    | false =>
      obtain ⟨rfl, rfl, rfl⟩ := HC.out.bad0 Px
      go_enter Try.func77, Try.ntmps77
      go_wp2_with fail
      refine (K.out _).mono ?_
      rintro e w1 ⟨a1, c1, rfl, oo, b1⟩
      obtain ⟨b, o, rfl⟩ := (own_row oo).form (by simp)
      have hl1 : b < w1.heap.size := by simpa using (own_row oo).lt
      have hl0 : w.heap.size + 1 ≤ b := by simpa using (own_base oo _ rfl).1
      have hc0 := row_str (own_row oo) 0 (by simp)
      simp only [Nat.add_zero, List.getElem_cons_zero, List.getElem_cons_succ] at hc0
      have hc1 := row_str (own_row oo) 1 (by simp)
      simp only [Nat.add_zero, List.getElem_cons_zero, List.getElem_cons_succ] at hc1
      obtain ⟨u0, v0, l0⟩ := blt b1 (b := w.heap.size) (by (first | omega | (simp only [World.size_alloc, World.size_setCell, World.size_drew, World.heap_drewN]; omega)))
      have ne0 : ¬ w.heap.size = w1.heap.size := by omega
      have ne1 : ¬ w1.heap.size = w.heap.size := by omega
      have nb0 : ¬ b = w1.heap.size := by omega
      have nb1 : ¬ w1.heap.size = b := by omega
      have nc0 : ¬ b = w.heap.size := by omega
      have nc1 : ¬ w.heap.size = b := by omega
      have hb1 : Below w.heap.size w w1 := bstep (balloc (Below.refl _ _) _) b1
      clear oo b1
      go_wp2_with fail
      refine (Kx.out _).mono ?_
      rintro e wpx ⟨rfl, hbpx⟩
      have zqpx_0 := blt hbpx (b := w.heap.size) (by (first | omega | (simp only [World.size_alloc, World.size_setCell, World.size_drew, World.heap_drewN]; omega)))
      obtain ⟨uqpx_0, vqpx_0, zzpx_0⟩ := zqpx_0
      have zqpx_1 := blt hbpx (b := b) (by (first | omega | (simp only [World.size_alloc, World.size_setCell, World.size_drew, World.heap_drewN]; omega)))
      obtain ⟨uqpx_1, vqpx_1, zzpx_1⟩ := zqpx_1
      go_wp2_with fail
      refine (Ky.out _).mono ?_
      rintro e wpy ⟨rfl, hbpy⟩
      have zqpy_0 := blt hbpy (b := w.heap.size) (by (first | omega | (simp only [World.size_alloc, World.size_setCell, World.size_drew, World.heap_drewN]; omega)))
      obtain ⟨uqpy_0, vqpy_0, zzpy_0⟩ := zqpy_0
      have zqpy_1 := blt hbpy (b := b) (by (first | omega | (simp only [World.size_alloc, World.size_setCell, World.size_drew, World.heap_drewN]; omega)))
      obtain ⟨uqpy_1, vqpy_1, zzpy_1⟩ := zqpy_1
      go_wp2_with fail
      have rs0 : (wpy.cell? { block := w.heap.size, off := 0 }).isSome = true := by simp [go_sem, l0, ne0, ne1, u0, uqpx_0, uqpy_0, zzpx_0, zzpy_0]
      have rs1 : (wpy.cell? { block := w.heap.size, off := 1 }).isSome = true := by simp [go_sem, l0, ne0, ne1, u0, uqpx_0, uqpy_0, zzpx_0, zzpy_0]
      refine bodyPost_ret (v := _) (by simp [results, Try.results77, go_sem, rs0, rs1, ne0, ne1, l0, u0, uqpx_0, uqpy_0, zzpx_0, zzpy_0]; try rfl) rfl ?_
      exact ⟨rfl, by (repeat' (first | (with_reducible exact Below.refl _ _) | (with_reducible assumption) | (with_reducible refine balloc ?_ _) | (with_reducible refine Below.drew ?_) | (with_reducible refine below_drewN ?_ _) | (with_reducible refine bset ?_ ?_ _) | (with_reducible refine bstep ?_ (by assumption)) | go_size))⟩
    | true =>
      cases oy with
      | false =>
        obtain ⟨rfl, rfl, rfl⟩ := HC.out.bad1 Py
        go_enter Try.func77, Try.ntmps77
        go_wp2_with fail
        refine (K.out _).mono ?_
        rintro e w1 ⟨a1, c1, rfl, oo, b1⟩
        obtain ⟨b, o, rfl⟩ := (own_row oo).form (by simp)
        have hl1 : b < w1.heap.size := by simpa using (own_row oo).lt
        have hl0 : w.heap.size + 1 ≤ b := by simpa using (own_base oo _ rfl).1
        have hc0 := row_str (own_row oo) 0 (by simp)
        simp only [Nat.add_zero, List.getElem_cons_zero, List.getElem_cons_succ] at hc0
        have hc1 := row_str (own_row oo) 1 (by simp)
        simp only [Nat.add_zero, List.getElem_cons_zero, List.getElem_cons_succ] at hc1
        obtain ⟨u0, v0, l0⟩ := blt b1 (b := w.heap.size) (by (first | omega | (simp only [World.size_alloc, World.size_setCell, World.size_drew, World.heap_drewN]; omega)))
        have ne0 : ¬ w.heap.size = w1.heap.size := by omega
        have ne1 : ¬ w1.heap.size = w.heap.size := by omega
        have nb0 : ¬ b = w1.heap.size := by omega
        have nb1 : ¬ w1.heap.size = b := by omega
        have nc0 : ¬ b = w.heap.size := by omega
        have nc1 : ¬ w.heap.size = b := by omega
        have hb1 : Below w.heap.size w w1 := bstep (balloc (Below.refl _ _) _) b1
        clear oo b1
        go_wp2_with fail
        refine (Kx.out _).mono ?_
        rintro e wpx ⟨rfl, hbpx⟩
        have zqpx_0 := blt hbpx (b := w.heap.size) (by (first | omega | (simp only [World.size_alloc, World.size_setCell, World.size_drew, World.heap_drewN]; omega)))
        obtain ⟨uqpx_0, vqpx_0, zzpx_0⟩ := zqpx_0
        have zqpx_1 := blt hbpx (b := b) (by (first | omega | (simp only [World.size_alloc, World.size_setCell, World.size_drew, World.heap_drewN]; omega)))
        obtain ⟨uqpx_1, vqpx_1, zzpx_1⟩ := zqpx_1
        go_wp2_with fail
        refine (Ky.out _).mono ?_
        rintro e wpy ⟨rfl, hbpy⟩
        have zqpy_0 := blt hbpy (b := w.heap.size) (by (first | omega | (simp only [World.size_alloc, World.size_setCell, World.size_drew, World.heap_drewN]; omega)))
        obtain ⟨uqpy_0, vqpy_0, zzpy_0⟩ := zqpy_0
        have zqpy_1 := blt hbpy (b := b) (by (first | omega | (simp only [World.size_alloc, World.size_setCell, World.size_drew, World.heap_drewN]; omega)))
        obtain ⟨uqpy_1, vqpy_1, zzpy_1⟩ := zqpy_1
        go_wp2_with fail
        have rs0 : (wpy.cell? { block := w.heap.size, off := 0 }).isSome = true := by simp [go_sem, l0, ne0, ne1, u0, uqpx_0, uqpy_0, zzpx_0, zzpy_0]
        have rs1 : (wpy.cell? { block := w.heap.size, off := 1 }).isSome = true := by simp [go_sem, l0, ne0, ne1, u0, uqpx_0, uqpy_0, zzpx_0, zzpy_0]
        refine bodyPost_ret (v := _) (by simp [results, Try.results77, go_sem, rs0, rs1, ne0, ne1, l0, u0, uqpx_0, uqpy_0, zzpx_0, zzpy_0]; try rfl) rfl ?_
        exact ⟨rfl, by (repeat' (first | (with_reducible exact Below.refl _ _) | (with_reducible assumption) | (with_reducible refine balloc ?_ _) | (with_reducible refine Below.drew ?_) | (with_reducible refine below_drewN ?_ _) | (with_reducible refine bset ?_ ?_ _) | (with_reducible refine bstep ?_ (by assumption)) | go_size))⟩
      | true =>
        obtain ⟨bb, hbb⟩ := bool_of (okZ vx vy)
        have kf := fun w => specFmtRatio vx vy w bb hbb
        have ks := fun w => specRatioOk vx vy w bb hbb
        have hsame := HC.out.same2  hbb
        have hother := HC.out.other2 Px Py hbb
        obtain ⟨T, hT⟩ : ∃ T, bs (if bb = true then fmtR vx vy else []) = T := ⟨_, rfl⟩
        rw [hT] at hsame hother
        simp only [hT] at kf
        have KF := Lib.hid kf
        have KS := Lib.hid ks
        clear hT kf ks
        cases hq : (T.toList == s.toList)
        · obtain ⟨rfl, rfl, rfl⟩ := hother hq
          clear hsame hother hbb
          go_enter Try.func77, Try.ntmps77
          go_wp2_with fail
          refine (K.out _).mono ?_
          rintro e w1 ⟨a1, c1, rfl, oo, b1⟩
          obtain ⟨b, o, rfl⟩ := (own_row oo).form (by simp)
          have hl1 : b < w1.heap.size := by simpa using (own_row oo).lt
          have hl0 : w.heap.size + 1 ≤ b := by simpa using (own_base oo _ rfl).1
          have hc0 := row_str (own_row oo) 0 (by simp)
          simp only [Nat.add_zero, List.getElem_cons_zero, List.getElem_cons_succ] at hc0
          have hc1 := row_str (own_row oo) 1 (by simp)
          simp only [Nat.add_zero, List.getElem_cons_zero, List.getElem_cons_succ] at hc1
          obtain ⟨u0, v0, l0⟩ := blt b1 (b := w.heap.size) (by (first | omega | (simp only [World.size_alloc, World.size_setCell, World.size_drew, World.heap_drewN]; omega)))
          have ne0 : ¬ w.heap.size = w1.heap.size := by omega
          have ne1 : ¬ w1.heap.size = w.heap.size := by omega
          have nb0 : ¬ b = w1.heap.size := by omega
          have nb1 : ¬ w1.heap.size = b := by omega
          have nc0 : ¬ b = w.heap.size := by omega
          have nc1 : ¬ w.heap.size = b := by omega
          have hb1 : Below w.heap.size w w1 := bstep (balloc (Below.refl _ _) _) b1
          clear oo b1
          go_wp2_with fail
          refine (Kx.out _).mono ?_
          rintro e wpx ⟨rfl, hbpx⟩
          have zqpx_0 := blt hbpx (b := w.heap.size) (by (first | omega | (simp only [World.size_alloc, World.size_setCell, World.size_drew, World.heap_drewN]; omega)))
          obtain ⟨uqpx_0, vqpx_0, zzpx_0⟩ := zqpx_0
          have zqpx_1 := blt hbpx (b := b) (by (first | omega | (simp only [World.size_alloc, World.size_setCell, World.size_drew, World.heap_drewN]; omega)))
          obtain ⟨uqpx_1, vqpx_1, zzpx_1⟩ := zqpx_1
          go_wp2_with fail
          refine (Ky.out _).mono ?_
          rintro e wpy ⟨rfl, hbpy⟩
          have zqpy_0 := blt hbpy (b := w.heap.size) (by (first | omega | (simp only [World.size_alloc, World.size_setCell, World.size_drew, World.heap_drewN]; omega)))
          obtain ⟨uqpy_0, vqpy_0, zzpy_0⟩ := zqpy_0
          have zqpy_1 := blt hbpy (b := b) (by (first | omega | (simp only [World.size_alloc, World.size_setCell, World.size_drew, World.heap_drewN]; omega)))
          obtain ⟨uqpy_1, vqpy_1, zzpy_1⟩ := zqpy_1
          go_wp2_with fail
          refine (KF.out _).mono ?_
          rintro e wf ⟨rfl, hbf⟩
          have zqf_0 := blt hbf (b := w.heap.size) (by (first | omega | (simp only [World.size_alloc, World.size_setCell, World.size_drew, World.heap_drewN]; omega)))
          obtain ⟨uqf_0, vqf_0, zzf_0⟩ := zqf_0
          have zqf_1 := blt hbf (b := b) (by (first | omega | (simp only [World.size_alloc, World.size_setCell, World.size_drew, World.heap_drewN]; omega)))
          obtain ⟨uqf_1, vqf_1, zzf_1⟩ := zqf_1
          have zqf_2 := blt hbf (b := wpy.heap.size) (by (first | omega | (simp only [World.size_alloc, World.size_setCell, World.size_drew, World.heap_drewN]; omega)))
          obtain ⟨uqf_2, vqf_2, zzf_2⟩ := zqf_2
          go_wp2_with fail
          have rs0 : (wf.cell? { block := w.heap.size, off := 0 }).isSome = true := by simp [go_sem, l0, ne0, ne1, u0, uqpx_0, zzpx_0, uqpy_0, zzpy_0, uqf_0, uqf_2, zzf_0, zzf_2]
          have rs1 : (wf.cell? { block := w.heap.size, off := 1 }).isSome = true := by simp [go_sem, l0, ne0, ne1, u0, uqpx_0, zzpx_0, uqpy_0, zzpy_0, uqf_0, uqf_2, zzf_0, zzf_2]
          refine bodyPost_ret (v := _) (by simp [results, Try.results77, go_sem, rs0, rs1, ne0, ne1, l0, u0, uqpx_0, zzpx_0, uqpy_0, zzpy_0, uqf_0, uqf_2, zzf_0, zzf_2]; try rfl) rfl ?_
          exact ⟨rfl, by (repeat' (first | (with_reducible exact Below.refl _ _) | (with_reducible assumption) | (with_reducible refine balloc ?_ _) | (with_reducible refine Below.drew ?_) | (with_reducible refine below_drewN ?_ _) | (with_reducible refine bset ?_ ?_ _) | (with_reducible refine bstep ?_ (by assumption)) | go_size))⟩
        · obtain ⟨rfl, rfl, rfl, rfl⟩ := hsame hq
          clear hsame hother hbb
          go_enter Try.func77, Try.ntmps77
          go_wp2_with fail
          refine (K.out _).mono ?_
          rintro e w1 ⟨a1, c1, rfl, oo, b1⟩
          obtain ⟨b, o, rfl⟩ := (own_row oo).form (by simp)
          have hl1 : b < w1.heap.size := by simpa using (own_row oo).lt
          have hl0 : w.heap.size + 1 ≤ b := by simpa using (own_base oo _ rfl).1
          have hc0 := row_str (own_row oo) 0 (by simp)
          simp only [Nat.add_zero, List.getElem_cons_zero, List.getElem_cons_succ] at hc0
          have hc1 := row_str (own_row oo) 1 (by simp)
          simp only [Nat.add_zero, List.getElem_cons_zero, List.getElem_cons_succ] at hc1
          obtain ⟨u0, v0, l0⟩ := blt b1 (b := w.heap.size) (by (first | omega | (simp only [World.size_alloc, World.size_setCell, World.size_drew, World.heap_drewN]; omega)))
          have ne0 : ¬ w.heap.size = w1.heap.size := by omega
          have ne1 : ¬ w1.heap.size = w.heap.size := by omega
          have nb0 : ¬ b = w1.heap.size := by omega
          have nb1 : ¬ w1.heap.size = b := by omega
          have nc0 : ¬ b = w.heap.size := by omega
          have nc1 : ¬ w.heap.size = b := by omega
          have hb1 : Below w.heap.size w w1 := bstep (balloc (Below.refl _ _) _) b1
          clear oo b1
          go_wp2_with fail
          refine (Kx.out _).mono ?_
          rintro e wpx ⟨rfl, hbpx⟩
          have zqpx_0 := blt hbpx (b := w.heap.size) (by (first | omega | (simp only [World.size_alloc, World.size_setCell, World.size_drew, World.heap_drewN]; omega)))
          obtain ⟨uqpx_0, vqpx_0, zzpx_0⟩ := zqpx_0
          have zqpx_1 := blt hbpx (b := b) (by (first | omega | (simp only [World.size_alloc, World.size_setCell, World.size_drew, World.heap_drewN]; omega)))
          obtain ⟨uqpx_1, vqpx_1, zzpx_1⟩ := zqpx_1
          go_wp2_with fail
          refine (Ky.out _).mono ?_
          rintro e wpy ⟨rfl, hbpy⟩
          have zqpy_0 := blt hbpy (b := w.heap.size) (by (first | omega | (simp only [World.size_alloc, World.size_setCell, World.size_drew, World.heap_drewN]; omega)))
          obtain ⟨uqpy_0, vqpy_0, zzpy_0⟩ := zqpy_0
          have zqpy_1 := blt hbpy (b := b) (by (first | omega | (simp only [World.size_alloc, World.size_setCell, World.size_drew, World.heap_drewN]; omega)))
          obtain ⟨uqpy_1, vqpy_1, zzpy_1⟩ := zqpy_1
          go_wp2_with fail
          refine (KF.out _).mono ?_
          rintro e wf ⟨rfl, hbf⟩
          have zqf_0 := blt hbf (b := w.heap.size) (by (first | omega | (simp only [World.size_alloc, World.size_setCell, World.size_drew, World.heap_drewN]; omega)))
          obtain ⟨uqf_0, vqf_0, zzf_0⟩ := zqf_0
          have zqf_1 := blt hbf (b := b) (by (first | omega | (simp only [World.size_alloc, World.size_setCell, World.size_drew, World.heap_drewN]; omega)))
          obtain ⟨uqf_1, vqf_1, zzf_1⟩ := zqf_1
          have zqf_2 := blt hbf (b := wpy.heap.size) (by (first | omega | (simp only [World.size_alloc, World.size_setCell, World.size_drew, World.heap_drewN]; omega)))
          obtain ⟨uqf_2, vqf_2, zzf_2⟩ := zqf_2
          go_wp2_with fail
          refine (KS.out _).mono ?_
          rintro e wk ⟨rfl, hbk⟩
          have zqk_0 := blt hbk (b := w.heap.size) (by (first | omega | (simp only [World.size_alloc, World.size_setCell, World.size_drew, World.heap_drewN]; omega)))
          obtain ⟨uqk_0, vqk_0, zzk_0⟩ := zqk_0
          have zqk_1 := blt hbk (b := b) (by (first | omega | (simp only [World.size_alloc, World.size_setCell, World.size_drew, World.heap_drewN]; omega)))
          obtain ⟨uqk_1, vqk_1, zzk_1⟩ := zqk_1
          have zqk_2 := blt hbk (b := wpy.heap.size) (by (first | omega | (simp only [World.size_alloc, World.size_setCell, World.size_drew, World.heap_drewN]; omega)))
          obtain ⟨uqk_2, vqk_2, zzk_2⟩ := zqk_2
          go_wp2_with fail
          have rs0 : (wk.cell? { block := w.heap.size, off := 0 }).isSome = true := by simp [go_sem, l0, ne0, ne1, u0, uqpx_0, zzpx_0, uqpy_0, zzpy_0, uqf_0, uqf_2, zzf_0, zzf_2, uqk_0, uqk_2, zzk_0, zzk_2]
          have rs1 : (wk.cell? { block := w.heap.size, off := 1 }).isSome = true := by simp [go_sem, l0, ne0, ne1, u0, uqpx_0, zzpx_0, uqpy_0, zzpy_0, uqf_0, uqf_2, zzf_0, zzf_2, uqk_0, uqk_2, zzk_0, zzk_2]
          refine bodyPost_ret (v := _) (by simp [results, Try.results77, go_sem, rs0, rs1, ne0, ne1, l0, u0, uqpx_0, zzpx_0, uqpy_0, zzpy_0, uqf_0, uqf_2, zzf_0, zzf_2, uqk_0, uqk_2, zzk_0, zzk_2]; try rfl) rfl ?_
          exact ⟨rfl, by (repeat' (first | (with_reducible exact Below.refl _ _) | (with_reducible assumption) | (with_reducible refine balloc ?_ _) | (with_reducible refine Below.drew ?_) | (with_reducible refine below_drewN ?_ _) | (with_reducible refine bset ?_ ?_ _) | (with_reducible refine bstep ?_ (by assumption)) | go_size))⟩
  | x :: y :: z :: r, _, hps, HC, K =>
    obtain ⟨vx, ox, Px⟩ := parsed_ex x
    have Kx := Lib.hid (fun w => specParse x w (hps x (by simp)) vx ox Px)
    cases ox with
    | false =>
      obtain ⟨rfl, rfl, rfl⟩ := HC.out.bad2
      go_enter Try.func77, Try.ntmps77
      go_wp2_with fail
      refine (K.out _).mono ?_
      rintro e w1 ⟨a1, c1, rfl, oo, b1⟩
      obtain ⟨b, o, rfl⟩ := (own_row oo).form (by simp)
      have hl1 : b < w1.heap.size := by simpa using (own_row oo).lt
      have hl0 : w.heap.size + 1 ≤ b := by simpa using (own_base oo _ rfl).1
      have hc0 := row_str (own_row oo) 0 (by simp)
      simp only [Nat.add_zero, List.getElem_cons_zero, List.getElem_cons_succ] at hc0
      obtain ⟨u0, v0, l0⟩ := blt b1 (b := w.heap.size) (by (first | omega | (simp only [World.size_alloc, World.size_setCell, World.size_drew, World.heap_drewN]; omega)))
      have ne0 : ¬ w.heap.size = w1.heap.size := by omega
      have ne1 : ¬ w1.heap.size = w.heap.size := by omega
      have nb0 : ¬ b = w1.heap.size := by omega
      have nb1 : ¬ w1.heap.size = b := by omega
      have nc0 : ¬ b = w.heap.size := by omega
      have nc1 : ¬ w.heap.size = b := by omega
      have hb1 : Below w.heap.size w w1 := bstep (balloc (Below.refl _ _) _) b1
      clear oo b1
      go_wp2_with fail
      refine (Kx.out _).mono ?_
      rintro e wpx ⟨rfl, hbpx⟩
      have zqpx_0 := blt hbpx (b := w.heap.size) (by (first | omega | (simp only [World.size_alloc, World.size_setCell, World.size_drew, World.heap_drewN]; omega)))
      obtain ⟨uqpx_0, vqpx_0, zzpx_0⟩ := zqpx_0
      have zqpx_1 := blt hbpx (b := b) (by (first | omega | (simp only [World.size_alloc, World.size_setCell, World.size_drew, World.heap_drewN]; omega)))
      obtain ⟨uqpx_1, vqpx_1, zzpx_1⟩ := zqpx_1
      go_wp2_with fail
      have rs0 : (wpx.cell? { block := w.heap.size, off := 0 }).isSome = true := by simp [go_sem, l0, ne0, ne1, u0, uqpx_0, zzpx_0]
      have rs1 : (wpx.cell? { block := w.heap.size, off := 1 }).isSome = true := by simp [go_sem, l0, ne0, ne1, u0, uqpx_0, zzpx_0]
      refine bodyPost_ret (v := _) (by simp [results, Try.results77, go_sem, rs0, rs1, ne0, ne1, l0, u0, uqpx_0, zzpx_0]; try rfl) rfl ?_
      exact ⟨rfl, by (repeat' (first | (with_reducible exact Below.refl _ _) | (with_reducible assumption) | (with_reducible refine balloc ?_ _) | (with_reducible refine Below.drew ?_) | (with_reducible refine below_drewN ?_ _) | (with_reducible refine bset ?_ ?_ _) | (with_reducible refine bstep ?_ (by assumption)) | go_size))⟩
    | true =>
      obtain ⟨rfl, rfl, rfl⟩ := HC.out.bad2
      go_enter Try.func77, Try.ntmps77
      go_wp2_with fail
      refine (K.out _).mono ?_
      rintro e w1 ⟨a1, c1, rfl, oo, b1⟩
      obtain ⟨b, o, rfl⟩ := (own_row oo).form (by simp)
      have hl1 : b < w1.heap.size := by simpa using (own_row oo).lt
      have hl0 : w.heap.size + 1 ≤ b := by simpa using (own_base oo _ rfl).1
      have hc0 := row_str (own_row oo) 0 (by simp)
      simp only [Nat.add_zero, List.getElem_cons_zero, List.getElem_cons_succ] at hc0
      obtain ⟨u0, v0, l0⟩ := blt b1 (b := w.heap.size) (by (first | omega | (simp only [World.size_alloc, World.size_setCell, World.size_drew, World.heap_drewN]; omega)))
      have ne0 : ¬ w.heap.size = w1.heap.size := by omega
      have ne1 : ¬ w1.heap.size = w.heap.size := by omega
      have nb0 : ¬ b = w1.heap.size := by omega
      have nb1 : ¬ w1.heap.size = b := by omega
      have nc0 : ¬ b = w.heap.size := by omega
      have nc1 : ¬ w.heap.size = b := by omega
      have hb1 : Below w.heap.size w w1 := bstep (balloc (Below.refl _ _) _) b1
      clear oo b1
      go_wp2_with fail
      refine (Kx.out _).mono ?_
      rintro e wpx ⟨rfl, hbpx⟩
      have zqpx_0 := blt hbpx (b := w.heap.size) (by (first | omega | (simp only [World.size_alloc, World.size_setCell, World.size_drew, World.heap_drewN]; omega)))
      obtain ⟨uqpx_0, vqpx_0, zzpx_0⟩ := zqpx_0
      have zqpx_1 := blt hbpx (b := b) (by (first | omega | (simp only [World.size_alloc, World.size_setCell, World.size_drew, World.heap_drewN]; omega)))
      obtain ⟨uqpx_1, vqpx_1, zzpx_1⟩ := zqpx_1
      go_wp2_with fail
      have rs0 : (wpx.cell? { block := w.heap.size, off := 0 }).isSome = true := by simp [go_sem, l0, ne0, ne1, u0, uqpx_0, zzpx_0]
      have rs1 : (wpx.cell? { block := w.heap.size, off := 1 }).isSome = true := by simp [go_sem, l0, ne0, ne1, u0, uqpx_0, zzpx_0]
      refine bodyPost_ret (v := _) (by simp [results, Try.results77, go_sem, rs0, rs1, ne0, ne1, l0, u0, uqpx_0, zzpx_0]; try rfl) rfl ?_
      exact ⟨rfl, by (repeat' (first | (with_reducible exact Below.refl _ _) | (with_reducible assumption) | (with_reducible refine balloc ?_ _) | (with_reducible refine Below.drew ?_) | (with_reducible refine below_drewN ?_ _) | (with_reducible refine bset ?_ ?_ _) | (with_reducible refine bstep ?_ (by assumption)) | go_size))⟩

end Go.Proofs.Yticfjfdfgcfnnaa
