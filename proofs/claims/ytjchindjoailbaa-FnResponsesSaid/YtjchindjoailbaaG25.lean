/- A region that draws its order, where a fact that later worlds keep tells of each operation's value: each operation is stepped through once, whatever the order; then, one after the other, what waits for all of them. -/
import Derived.Test.YtjchindjoailbaaG07
import Derived.Test.YtjchindjoailbaaG12
import Derived.Test.YtjchindjoailbaaG24
import Derived.Test.YtjchindjoailbaaG02
import Derived.Test.YtjchindjoailbaaG13
import Derived.Test.YtjchindjoailbaaG17b
namespace Go.Proofs.Ytjchindjoailbaa
set_option linter.unusedSimpArgs false
set_option linter.unusedVariables false
open Go.RowKit

/-- values into slots, one after the other -/
def putAll (vs : Nat → Value) : List Tmp → Nat → Act → Act
  | [], _, a => a
  | t :: ds, k, a => putAll vs ds (k + 1) (a.put (some t) (vs k))
section
variable {P : Program} {ops : Array Oper} {md : Region.Mode}
theorem put_size (a : Act) (t : Tmp) (v : Value) : (a.put (some t) v).tmps.size = a.tmps.size := by simp [Act.put]
theorem put_getD (a : Act) (t s : Tmp) (v : Value) (h : t < a.tmps.size) : (a.put (some t) v).tmps.getD s undef = if t = s then v else a.tmps.getD s undef := by
  unfold Act.put
  simp only
  rw [Array.getD_eq_getD_getElem?, Array.getD_eq_getD_getElem?, Array.getElem?_setIfInBounds]
  by_cases e : t = s
  · subst e; simp [h]
  · simp [e]
theorem putAll_size (vs : Nat → Value) : ∀ (ds : List Tmp) (k : Nat) (a : Act), (putAll vs ds k a).tmps.size = a.tmps.size ∧ (putAll vs ds k a).defers = a.defers
  | [], _, _ => ⟨rfl, rfl⟩
  | t :: ds, k, a => by
    have := putAll_size vs ds (k + 1) (a.put (some t) (vs k))
    rw [put_size] at this
    exact ⟨this.1, this.2⟩
theorem putAll_out (vs : Nat → Value) : ∀ (ds : List Tmp) (k : Nat) (a : Act) (s : Tmp), s ∉ ds → (putAll vs ds k a).tmps.getD s undef = a.tmps.getD s undef
  | [], _, _, _, _ => rfl
  | t :: ds, k, a, s, h => by
    rw [putAll, putAll_out vs ds (k + 1) _ s (fun e => h (by simp [e]))]
    unfold Act.put
    simp only
    rw [Array.getD_eq_getD_getElem?, Array.getD_eq_getD_getElem?, Array.getElem?_setIfInBounds_ne (fun e => h (by simp [e]))]
theorem putAll_at (vs : Nat → Value) : ∀ (ds : List Tmp) (k : Nat) (a : Act), ds.Nodup → (∀ t ∈ ds, t < a.tmps.size) → ∀ j (h : j < ds.length), (putAll vs ds k a).tmps.getD ds[j] undef = vs (k + j)
  | [], _, _, _, _, j, h => absurd h (by simp)
  | t :: ds, k, a, hd, hs, j, h => by
    have hd' := List.nodup_cons.1 hd
    rw [putAll]
    rcases j with _ | j
    · simp only [List.getElem_cons_zero, Nat.add_zero]
      rw [putAll_out vs ds _ _ t hd'.1, put_getD _ _ _ _ (hs t (by simp)), if_pos rfl]
    · simp only [List.getElem_cons_succ]
      rw [putAll_at vs ds (k + 1) _ hd'.2 (fun s hs' => by rw [put_size]; exact hs s (by simp [hs'])) j (by simpa using h)]
      congr 1; omega
theorem act_ext {a b : Act} (h1 : a.tmps.size = b.tmps.size) (h2 : a.defers = b.defers) (h3 : ∀ s, a.tmps.getD s undef = b.tmps.getD s undef) : a = b := by
  obtain ⟨x, d⟩ := a
  obtain ⟨y, e⟩ := b
  simp only at h1 h2 h3
  subst h2
  congr 1
  refine Array.ext h1 fun i hi hj => ?_
  have := h3 i
  simpa [Array.getD, hi, hj] using this

/-- how many of the first k are not listed -/
def cntN (listed : Array Bool) : Nat → Nat
  | 0 => 0
  | k + 1 => cntN listed k + if listed.getD k true = false then 1 else 0
theorem cntN_zero {listed : Array Bool} : ∀ {k : Nat}, cntN listed k = 0 → ∀ j, j < k → ¬ listed.getD j true = false
  | 0, _, j, h => absurd h (by omega)
  | k + 1, h0, j, h => by
    simp only [cntN] at h0
    by_cases e : j = k
    · subst e; intro h9; rw [if_pos h9] at h0; omega
    · exact cntN_zero (k := k) (by omega) j (by omega)
theorem cntN_pos {listed : Array Bool} : ∀ {k : Nat}, 0 < cntN listed k → ∃ j, j < k ∧ listed.getD j true = false ∧ ∀ i, i < j → ¬ listed.getD i true = false
  | 0, h => absurd h (by simp [cntN])
  | k + 1, h => by
    by_cases h0 : 0 < cntN listed k
    · obtain ⟨j, h1, h2, h3⟩ := cntN_pos h0
      exact ⟨j, by omega, h2, h3⟩
    · simp only [cntN] at h
      by_cases e : listed.getD k true = false
      · exact ⟨k, by omega, e, cntN_zero (by omega)⟩
      · rw [if_neg e] at h; omega
theorem cntN_same {listed : Array Bool} {i : Nat} : ∀ {k : Nat}, k ≤ i → cntN (listed.setIfInBounds i true) k = cntN listed k
  | 0, _ => rfl
  | k + 1, h => by simp only [cntN]; rw [cntN_same (k := k) (by omega), getD_set_ne true (by omega)]
theorem cntN_set {listed : Array Bool} {i : Nat} (hu : listed.getD i true = false) : ∀ {k : Nat}, i < k → cntN listed k = cntN (listed.setIfInBounds i true) k + 1
  | 0, h => absurd h (by omega)
  | k + 1, h => by
    simp only [cntN]
    by_cases e : i = k
    · subst e
      have hs : i < listed.size := by
        by_cases hs : i < listed.size
        · exact hs
        · simp [Array.getD, hs] at hu
      have : (listed.setIfInBounds i true).getD i true = true := by simp [Array.getD, hs]
      rw [cntN_same (Nat.le_refl _), if_pos hu, if_neg (by rw [this]; simp)]
    · rw [cntN_set hu (k := k) (by omega), getD_set_ne true e]; omega
/-- each head operation waits only for earlier ones, and is not guarded -/
def earlierB (md : Region.Mode) (ops : Array Oper) (n : Nat) : Bool :=
  (List.range n).all fun i => ((ops[i]?).map fun o => o.guard.isNone && o.after.all fun e => !Region.binds md e || decide (e.on < i)).getD false
theorem earlier_spec {n i : Nat} {o : Oper} (h : earlierB md ops n = true) (hi : i < n) (ho : ops[i]? = some o) : o.guard = none ∧ ∀ e ∈ o.after, Region.binds md e = true → e.on < i := by
  have h1 := List.all_eq_true.1 h i (List.mem_range.2 hi)
  simp only [ho, Option.map_some, Option.getD_some, Bool.and_eq_true, Option.isNone_iff_eq_none, Array.all_eq_true_iff_forall_mem, Bool.or_eq_true, Bool.not_eq_true', decide_eq_true_eq] at h1
  exact ⟨h1.1, fun e he hb => (h1.2 e he).resolve_left (by simp [hb])⟩
def lst (listed : Array Bool) (j : Nat) : Bool := listed.getD j false
theorem lst_set {listed : Array Bool} {i : Nat} (hu : listed.getD i true = false) : lst (listed.setIfInBounds i true) = fun j => if j = i then true else lst listed j := by
  have hs : i < listed.size := by
    by_cases hs : i < listed.size
    · exact hs
    · simp [Array.getD, hs] at hu
  funext j
  by_cases e : j = i
  · subst e; simp [lst, Array.getD, hs]
  · rw [if_neg e]; exact getD_set_ne false (Ne.symm e)
structure FInv (a0 : Act) (ds : List Tmp) (F : (Nat → Bool) → Nat → Value → World → Prop) (listed : Array Bool) (a : Act) (w : World) (vs : Nat → Value) : Prop where
  dfr : a.defers = a0.defers
  size : a.tmps.size = a0.tmps.size
  old : ∀ t, t ∉ ds → a.tmps.getD t undef = a0.tmps.getD t undef
  new : ∀ j (h : j < ds.length), listed.getD j false = true → a.tmps.getD ds[j] undef = vs j
  fact : ∀ j, j < ds.length → listed.getD j false = true → F (lst listed) j (vs j) w
/-- what an operation may lean on -/
structure Lean1 (md : Region.Mode) (ops : Array Oper) (a0 : Act) (ds : List Tmp) (F : (Nat → Bool) → Nat → Value → World → Prop) (L : Nat → Bool) (i : Nat) (a : Act) (w : World) (vs : Nat → Value) : Prop where
  un : L i = false
  cl : ∀ j k, L j = true → Region.waitsFor md ops j k = true → L k = true
  old : ∀ t, t ∉ ds → a.eval (.tmp t) = a0.eval (.tmp t)
  new : ∀ j (h : j < ds.length), Region.waitsFor md ops i j = true → a.eval (.tmp ds[j]) = vs j ∧ F L j (vs j) w
theorem wpAny_facts {n g : Nat} {Q : Exit → Act → World → Prop} {C : (Nat → Bool) → World → Prop} {Rel : Nat → World → World → Prop} {F : (Nat → Bool) → Nat → Value → World → Prop} {a0 : Act} {ds : List Tmp} {tl : List Oper}
    (hs : Region.sinkB md ops n = true) (hc : Region.chainB md ops n = true) (hn : n < ops.size) (he : earlierB md ops n = true) (hg : n + g = ops.size) (hseq : Region.seqB md ops g n (Array.replicate n true ++ Array.replicate g false) = true)
    (htl : ∀ j, tl[j]? = ops[n + j]?) (hgl : tl.length = g)
    (hds : ds.length = n) (hnd : ds.Nodup) (hdz : ∀ t ∈ ds, t < a0.tmps.size) (hdst : ∀ i (h : i < ds.length) o, ops[i]? = some o → o.dst = some ds[i])
    (hF : ∀ L i j v w w', i < n → j < n → j ≠ i → L j = true → L i = false → F L j v w → C L w → Rel i w w' → F (fun k => if k = i then true else L k) j v w')
    (hstep : ∀ i o, i < n → ops[i]? = some o → ∀ L a w vs, C L w → Lean1 md ops a0 ds F L i a w vs → ∀ K : Act → World → Prop, (∀ v w', C (fun j => if j = i then true else L j) w' → Rel i w w' → F (fun j => if j = i then true else L j) i v w' → K (a.put o.dst v) w') → o.wp P a w K Q)
    (htail : ∀ L w vs, (∀ j, j < n → L j = true) → C L w → (∀ j, j < n → F L j (vs j) w) → wpList P ops Q tl (putAll vs ds 0 a0) w) :
    ∀ (f : Nat) (listed : Array Bool) (a : Act) (w : World) (vs : Nat → Value), cntN listed n = f → HeadInv md ops n listed → C (lst listed) w → FInv a0 ds F listed a w vs → wpAny P md ops Q (f + g) listed a w := by
  intro f
  induction f with
  | zero =>
    intro listed a w vs h0 inv hC hI
    have hall := cntN_zero h0
    have htrue : ∀ j, j < n → listed.getD j false = true := fun j hj => by
      have h1 := hall j hj
      have h2 : j < listed.size := by rw [inv.size]; omega
      simp [Array.getD, h2] at h1 ⊢
      exact h1
    have hl : listed = Array.replicate n true ++ Array.replicate g false := by
      refine Array.ext (by simp [inv.size, hg]) fun j hj hj2 => ?_
      by_cases e : j < n
      · have := htrue j e
        rw [Array.getElem_append_left (by simpa using e)]
        simpa [Array.getD, hj] using this
      · have h9 := inv.tail j (by omega) (by rw [← inv.size]; exact hj)
        rw [Array.getElem_append_right (by simpa using e)]
        simpa [Array.getD, hj] using h9
    have ha : a = putAll vs ds 0 a0 := by
      refine act_ext (hI.size.trans (putAll_size vs ds 0 a0).1.symm) (hI.dfr.trans (putAll_size vs ds 0 a0).2.symm) fun s => ?_
      by_cases hm : s ∈ ds
      · obtain ⟨j, hj, rfl⟩ := List.getElem_of_mem hm
        rw [hI.new j hj (htrue j (by omega)), putAll_at vs ds 0 a0 hnd hdz j hj, Nat.zero_add]
      · rw [hI.old s hm, putAll_out vs ds 0 a0 s hm]
    rw [Nat.zero_add, ← hgl]
    refine wpAny_of_seq tl n listed a w htl (by rw [hl, hgl]; exact hseq) ?_
    rw [ha]
    exact htail _ w vs htrue hC (fun j hj => hI.fact j (by omega) (htrue j hj))
  | succ f ih =>
    intro listed a w vs h0 inv hC hI
    obtain ⟨j0, hj0, hu0, hmin⟩ := cntN_pos (listed := listed) (k := n) (by omega)
    rw [show f + 1 + g = f + g + 1 by omega]
    refine ⟨fun hr => ?_, fun i hi => ?_⟩
    · exfalso
      obtain ⟨o, ho⟩ : ∃ o, ops[j0]? = some o := ⟨ops[j0], Array.getElem?_eq_getElem (by omega)⟩
      have : j0 ∈ Region.ready md ops listed := mem_ready.2 ⟨hu0, o, ho, fun e hem hb => by
        have h1 := (earlier_spec he hj0 ho).2 e hem hb
        have h2 := hmin e.on h1
        have h3 : e.on < listed.size := by rw [inv.size]; omega
        simp [Array.getD, h3] at h2 ⊢
        exact h2⟩
      rw [hr] at this; cases this
    · have hin : i < n := Nat.lt_of_not_le fun h => tail_waits hs hc hn inv _ j0 rfl hj0 hu0 i h hi
      obtain ⟨hun, o, ho, hall⟩ := mem_ready.1 hi
      have hd := hdst i (by omega) o ho
      have hLi : lst listed i = false := getD_both hun
      unfold wpOp
      rw [ho]
      simp only
      rw [if_pos (by simp [Region.wanted, (earlier_spec he hin ho).1])]
      refine .inl (hstep i o hin ho (lst listed) a w vs hC ⟨hLi, fun j k hj hw => ?_, fun t ht => hI.old t ht, fun j hj hw => ?_⟩ _ fun v w' hC' hb hv => ?_)
      · obtain ⟨oj, hoj, e, hem, hb, hon⟩ := Region.waitsFor_spec hw
        have h9 := inv.closed j oj hoj hj e hem hb
        rw [hon] at h9; exact h9
      · obtain ⟨oj, hoj, e, hem, hb, hon⟩ := Region.waitsFor_spec hw
        have : oj = o := Option.some.inj (hoj.symm.trans ho)
        subst this
        have h1 := hall e hem hb
        rw [hon] at h1
        exact ⟨hI.new j hj h1, hI.fact j hj h1⟩
      · have hin2 : i < ds.length := by omega
        have hlt : ds[i] < a.tmps.size := by rw [hI.size]; exact hdz _ (List.getElem_mem _)
        refine ih _ _ w' (fun j => if j = i then v else vs j) (by have := cntN_set hun hin; omega) (inv.set hi hin) (by rw [lst_set hun]; exact hC') ?_
        rw [hd]
        refine ⟨hI.dfr, by rw [put_size]; exact hI.size, fun t ht => ?_, fun j hj hl => ?_, fun j hj hl => ?_⟩
        · rw [put_getD _ _ _ _ hlt, if_neg (fun e => ht (by rw [← e]; exact List.getElem_mem _))]
          exact hI.old t ht
        · rw [put_getD _ _ _ _ hlt]
          by_cases e : j = i
          · subst e; rw [if_pos rfl, if_pos rfl]
          · rw [if_neg e, if_neg (fun h9 => e ((List.getElem_inj hnd).1 h9.symm))]
            rw [getD_set_ne false (Ne.symm e)] at hl
            exact hI.new j hj hl
        · rw [lst_set hun]
          by_cases e : j = i
          · subst e; simp only [if_true]; exact hv
          · simp only [if_neg e]
            rw [getD_set_ne false (Ne.symm e)] at hl
            exact hF (lst listed) i j _ w w' hin (by omega) e hl hLi (hI.fact j hj hl) hC hb
def factsB (md : Region.Mode) (ops : Array Oper) (n : Nat) : Bool :=
  decide (n < ops.size) && Region.sinkB md ops n && Region.chainB md ops n && earlierB md ops n && Region.seqB md ops (ops.size - n) n (Array.replicate n true ++ Array.replicate (ops.size - n) false)
end
theorem region_facts {P : Program} {id : Nat} {Q : Exit → Act → World → Prop} {a : Act} {w : World} {l : List Oper} (C : (Nat → Bool) → World → Prop) (Rel : Nat → World → World → Prop) (F : (Nat → Bool) → Nat → Value → World → Prop) (n : Nat) (ds : List Tmp) (hm : P.follows .mixedOrders = true)
    (hB : factsB .any l.toArray n = true) (hdl : (l.take n).map (·.dst) = ds.map some) (hnd : ds.Nodup) (hdz : ∀ t ∈ ds, t < a.tmps.size) (hC : C (fun _ => false) w.drew)
    (hF : ∀ L i j v w w', i < n → j < n → j ≠ i → L j = true → L i = false → F L j v w → C L w → Rel i w w' → F (fun k => if k = i then true else L k) j v w')
    (hstep : ∀ i o, i < n → l.toArray[i]? = some o → ∀ L a' w vs, C L w → Lean1 .any l.toArray a ds F L i a' w vs → ∀ K : Act → World → Prop, (∀ v w', C (fun j => if j = i then true else L j) w' → Rel i w w' → F (fun j => if j = i then true else L j) i v w' → K (a'.put o.dst v) w') → o.wp P a' w K Q)
    (htail : ∀ L w vs, (∀ j, j < n → L j = true) → C L w → (∀ j, j < n → F L j (vs j) w) → wpList P l.toArray Q (l.drop n) (putAll vs ds 0 a) w) : (Code.region id l.toArray true).wp P Q a w := by
  simp only [factsB, Bool.and_eq_true, decide_eq_true_eq] at hB
  obtain ⟨⟨⟨⟨hn, hs⟩, hc⟩, he⟩, hseq⟩ := hB
  have hn' : n < l.length := by simpa using hn
  have hds : ds.length = n := by
    have := congrArg List.length hdl
    simp at this; omega
  have inv : HeadInv .any l.toArray n (Array.replicate l.toArray.size false) :=
    ⟨by simp, fun j oj _ hl => by rw [getD_replicate_false] at hl; exact absurd hl (by simp), fun t _ h2 => getD_in (by simpa using h2) (getD_replicate_false _ _)⟩
  have hcnt : ∀ k, k ≤ l.toArray.size → cntN (Array.replicate l.toArray.size false) k = k := by
    intro k
    induction k with
    | zero => intro _; rfl
    | succ k ih => intro hk; simp only [cntN]; rw [ih (by omega), if_pos (getD_in (by simp at hk ⊢; omega) (getD_replicate_false _ _))]
  refine wp_region_any hm ?_
  have key := wpAny_facts (P := P) (md := .any) (ops := l.toArray) (n := n) (g := l.toArray.size - n) (Q := Q) (C := C) (Rel := Rel) (F := F) (a0 := a) (ds := ds) (tl := l.drop n) hs hc hn he (by omega) hseq (fun j => by simp [List.getElem?_drop]) (by simp) hds hnd hdz
    (fun i hi o ho => by
      have h1 : i < l.length := by omega
      have h2 : l[i] = o := by simpa [h1] using ho
      have h3 := congrArg (fun x => x[i]?) hdl
      simp only [List.getElem?_map, List.getElem?_take, show i < n by omega, if_true, List.getElem?_eq_getElem h1, List.getElem?_eq_getElem hi, Option.map_some, Option.some.injEq, h2] at h3
      exact h3) hF hstep htail n (Array.replicate l.toArray.size false) a w.drew (fun _ => undef) (hcnt n (by omega)) inv (by
      have : lst (Array.replicate l.toArray.size false) = fun _ => false := funext fun j => getD_replicate_false _ _
      rw [this]; exact hC)
    ⟨rfl, rfl, fun _ _ => rfl, fun j _ hl => by rw [getD_replicate_false] at hl; exact absurd hl (by simp), fun j _ hl => by rw [getD_replicate_false] at hl; exact absurd hl (by simp)⟩
  rw [show n + (l.toArray.size - n) = l.toArray.size from by omega] at key
  exact key
end Go.Proofs.Ytjchindjoailbaa

/- Rows of the call's own, made one after the other. -/
namespace Go.Proofs.Ytjchindjoailbaa
set_option linter.unusedSimpArgs false
set_option linter.unusedVariables false
open Go.RowKit

/-- k of the rows are whole, 'cur' stands in the next one's place -/
structure GT (w : World) (base g N k : Nat) (T e : TypeId) (s B : Nat) (r c : Nat → Nat) (xs : Nat → List Value) (cur : Value) : Prop where
  og : w.rowIs g T N (fun i => if i < k then .slice (some ⟨r i, 0, none⟩) N (c i) else if i = k then cur else .slice none 0 0)
  rows : ∀ i, i < k → w.ownsRow base e s (.slice (some ⟨r i, 0, none⟩) N (c i)) N (xs i)
  lt : ∀ i, i < k → r i < B
  ne : ∀ i, i < k → ¬ r i = g
  inj : ∀ i j, i < k → j < k → r i = r j → i = j
  gB : g < B
section
variable {w w' : World} {base g N k : Nat} {T e : TypeId} {s B : Nat} {r c : Nat → Nat} {xs : Nat → List Value} {cur : Value}
theorem GT.below (h : GT w base g N k T e s B r c xs cur) (hb : Below w.heap.size w w') : GT w' base g N k T e s B r c xs cur :=
  ⟨h.og.of_block (hb.block _ h.og.lt), fun i hi => own_below (h.rows i hi) hb, h.lt, h.ne, h.inj, h.gB⟩
theorem GT.grown {row : Option Nat} (h : GT w base g N k T e s B r c xs cur) (hg : w.grownBy w' row) (hr : ∀ b, row = some b → B ≤ b) : GT w' base g N k T e s B r c xs cur :=
  ⟨h.og.of_block (hg.block g h.og.lt (fun e => by have := hr g e.symm; have := h.gB; omega)), fun i hi => (h.rows i hi).kept hg (.inr (fun e => by have := hr (r i) e.symm; have := h.lt i hi; omega)), h.lt, h.ne, h.inj, h.gB⟩
theorem GT.setCur (h : GT w base g N k T e s B r c xs cur) (hk : k < N) (v : Value) : GT (w.setCell ⟨g, k, none⟩ v) base g N k T e s B r c xs v := by
  refine ⟨(h.og.set k v).congr (fun i hi => ?_), fun i hi => (h.rows i hi).kept (grown_set' _ ⟨g, k, none⟩ v) (.inr (fun e => h.ne i hi (by simpa [Value.ownBlock] using e))), h.lt, h.ne, h.inj, h.gB⟩
  by_cases e : i = k
  · subst e; simp
  · simp [e]
theorem GT.next {b c0 : Nat} {ys : List Value} (h : GT w base g N k T e s B r c xs (.slice (some ⟨b, 0, none⟩) N c0)) (ho : w.ownsRow B e s (.slice (some ⟨b, 0, none⟩) N c0) N ys) (hbase : base ≤ B) :
    GT w base g N (k + 1) T e s w.heap.size (fun i => if i = k then b else r i) (fun i => if i = k then c0 else c i) (fun i => if i = k then ys else xs i) (.slice none 0 0) := by
  have hb := own_base ho _ rfl
  simp only at hb
  have hgl := h.og.lt
  have hgB := h.gB
  refine ⟨h.og.congr (fun i hi => ?_), fun i hi => ?_, fun i hi => ?_, fun i hi => ?_, fun i j hi hj e => ?_, hgl⟩
  · by_cases e : i = k
    · subst e; simp
    · by_cases e2 : i < k
      · simp [e, e2, show i < k + 1 from by omega]
      · simp [e, e2, show ¬ i < k + 1 from by omega]
  · by_cases e : i = k
    · subst e; simp only [if_true]; exact ho.mono hbase
    · simp only [if_neg e]; exact h.rows i (by omega)
  · by_cases e : i = k
    · simp only [if_pos e]; omega
    · simp only [if_neg e]; have := h.lt i (by omega); omega
  · by_cases e : i = k
    · simp only [if_pos e]; omega
    · simp only [if_neg e]; exact h.ne i (by omega)
  · by_cases e1 : i = k
    · by_cases e2 : j = k
      · omega
      · simp only [if_pos e1, if_neg e2] at e
        have := h.lt j (by omega)
        omega
    · by_cases e2 : j = k
      · simp only [if_neg e1, if_pos e2] at e
        have := h.lt i (by omega)
        omega
      · simp only [if_neg e1, if_neg e2] at e
        exact h.inj i j (by omega) (by omega) e
theorem GT.start (w : World) (base N : Nat) (T e : TypeId) (s : Nat) (r c : Nat → Nat) (xs : Nat → List Value) : GT (w.alloc (.cells (madeCells #[Value.slice none 0 0] N) T)) base w.heap.size N 0 T e s (w.heap.size + 1) r c xs (.slice none 0 0) :=
  ⟨(World.rowIs_made w (.slice none 0 0) N T).congr (fun i _ => by simp), fun i h => absurd h (by omega), fun i h => absurd h (by omega), fun i h => absurd h (by omega), fun i j h => absurd h (by omega), by omega⟩
theorem GT.up (h : GT w base g N k T e s B r c xs cur) {B' : Nat} (hB : B ≤ B') : GT w base g N k T e s B' r c xs cur :=
  ⟨h.og, h.rows, fun i hi => by have := h.lt i hi; omega, h.ne, h.inj, by have := h.gB; omega⟩
theorem GT.congr (h : GT w base g N k T e s B r c xs cur) {xs' : Nat → List Value} (hx : ∀ i, i < k → xs i = xs' i) : GT w base g N k T e s B r c xs' cur :=
  ⟨h.og, fun i hi => by rw [← hx i hi]; exact h.rows i hi, h.lt, h.ne, h.inj, h.gB⟩
theorem GT.mono (h : GT w base g N k T e s B r c xs cur) {base' : Nat} (hb : base' ≤ base) : GT w base' g N k T e s B r c xs cur :=
  ⟨h.og, fun i hi => (h.rows i hi).mono hb, h.lt, h.ne, h.inj, h.gB⟩
theorem GT.outer (h : GT w base g N k T e s B r c xs cur) {i : Nat} (hi : i < k) (hN : k ≤ N) : w.cell? ⟨g, i, none⟩ = some (.slice (some ⟨r i, 0, none⟩) N (c i)) := by
  have := h.og.cell (i := i) (by omega)
  rw [if_pos hi] at this; exact this
theorem GT.curAt (h : GT w base g N k T e s B r c xs cur) (hN : k < N) : w.cell? ⟨g, k, none⟩ = some cur := by
  have := h.og.cell (i := k) hN
  rw [if_neg (by omega), if_pos rfl] at this; exact this
end
def topRow (M F : Nat) (l : List Wz) (i k : Nat) : List Int := (upto k).map fun j => topW M F l i j
theorem topRow_succ (M F : Nat) (l : List Wz) (i k : Nat) : topRow M F l i (k + 1) = topRow M F l i k ++ [topW M F l i k] := by simp [topRow, upto_succ]
theorem topRow_len (M F : Nat) (l : List Wz) (i k : Nat) : (topRow M F l i k).length = k := by simp [topRow, upto_len]
end Go.Proofs.Ytjchindjoailbaa

/- Single operations, by what their operands hold. -/
namespace Go.Proofs.Ytjchindjoailbaa
set_option linter.unusedSimpArgs false
set_option linter.unusedVariables false
open Go.RowKit

section
variable {w : World} {o : Oper} {a : Act} {K : Act → World → Prop} {Q : Exit → Act → World → Prop}
theorem wp_move1 (x : Operand) (v : Value) (hop : o.op = .move x) (hx : a.eval x = v) (hK : K (a.put o.dst v) w) : Oper.wp Try.prog o a w K Q := by
  unfold Oper.wp
  simp [execOp, hop, hx]
  exact hK
set_option maxRecDepth 100000 in
set_option maxHeartbeats 4000000 in
theorem wp_indexI (x y : Operand) (g n c i : Nat) (hop : o.op = .indexAddr 114 x y) (hx : a.eval x = .slice (some ⟨g, 0, none⟩) n c) (hy : a.eval y = .int .i64 i) (hi : i < n)
    (hK : K (a.put o.dst (.pointer (some ⟨g, i, none⟩))) w) : Oper.wp Try.prog o a w K Q := by
  have h1 : (0 : Int) ≤ i := by omega
  have h2 : (i : Int) < n := by omega
  unfold Oper.wp
  simp only [execOp, hop, hx, hy]
  go_simp
  exact hK
set_option maxRecDepth 100000 in
set_option maxHeartbeats 4000000 in
theorem wp_loadI (x : Operand) (g i : Nat) (v : Value) (hop : o.op = .load 79 x) (hx : a.eval x = .pointer (some ⟨g, i, none⟩)) (hc : w.cell? ⟨g, i, none⟩ = some v) (hK : K (a.put o.dst v) w) : Oper.wp Try.prog o a w K Q := by
  unfold Oper.wp
  simp only [execOp, hop, hx]
  go_simp
  exact hK
set_option maxRecDepth 100000 in
set_option maxHeartbeats 4000000 in
theorem wp_indexR (x y : Operand) (g n c i : Nat) (hop : o.op = .indexAddr 76 x y) (hx : a.eval x = .slice (some ⟨g, 0, none⟩) n c) (hy : a.eval y = .int .i64 i) (hi : i < n)
    (hK : K (a.put o.dst (.pointer (some ⟨g, i, none⟩))) w) : Oper.wp Try.prog o a w K Q := by
  have h1 : (0 : Int) ≤ i := by omega
  have h2 : (i : Int) < n := by omega
  unfold Oper.wp
  simp only [execOp, hop, hx, hy]
  go_simp
  exact hK
set_option maxRecDepth 100000 in
set_option maxHeartbeats 4000000 in
theorem wp_loadR (x : Operand) (g i : Nat) (v : Value) (hop : o.op = .load 28 x) (hx : a.eval x = .pointer (some ⟨g, i, none⟩)) (hc : w.cell? ⟨g, i, none⟩ = some v) (hK : K (a.put o.dst v) w) : Oper.wp Try.prog o a w K Q := by
  unfold Oper.wp
  simp only [execOp, hop, hx]
  go_simp
  exact hK
set_option maxRecDepth 100000 in
set_option maxHeartbeats 4000000 in
theorem wp_buildI (x : Operand) (k : Int) (hop : o.op = .buildSlice 79 1 #[(0, x)]) (hx : a.eval x = .int .i64 k)
    (hK : K (a.put o.dst (.slice (some ⟨w.heap.size, 0, none⟩) 1 1)) (w.alloc (.cells #[.int .i64 k] 3))) : Oper.wp Try.prog o a w K Q := by
  unfold Oper.wp
  simp only [execOp, hop, hx, List.map_toArray, List.map_cons, List.map_nil]
  go_simp
  exact hK
set_option maxRecDepth 100000 in
set_option maxHeartbeats 4000000 in
theorem wp_buildR (x : Operand) (p q : Int) (hop : o.op = .buildSlice 28 1 #[(0, x)]) (hx : a.eval x = ratV p q)
    (hK : K (a.put o.dst (.slice (some ⟨w.heap.size, 0, none⟩) 1 1)) (w.alloc (.cells #[.int .i64 p, .int .i64 q] 32))) : Oper.wp Try.prog o a w K Q := by
  unfold Oper.wp
  simp only [execOp, hop, hx, List.map_toArray, List.map_cons, List.map_nil]
  go_simp
  exact hK
set_option maxRecDepth 100000 in
set_option maxHeartbeats 4000000 in
theorem wp_callDet (x0 x1 x2 : Operand) (ats : Array TypeId) (u0 u1 u2 : Value) (hop : o.op = .call { callee := .value (.func 139), args := #[x0, x1, x2], argTypes := ats }) (h0 : a.eval x0 = u0) (h1 : a.eval x1 = u1) (h2 : a.eval x2 = u2) {R : Ending → World → Prop}
    (hc : Calls Try.prog 139 #[u0, u1, u2] w R) (v : Value) (hK : ∀ e w', R e w' → e = .returned v ∧ K (a.put o.dst v) w') : Oper.wp Try.prog o a w K Q := by
  unfold Oper.wp
  simp only [execOp, hop, resolve, List.map_toArray, List.map_cons, List.map_nil, h0, h1, h2]
  clear h0 h1 h2 hop
  go_simp
  refine hc.mono ?_
  intro e w' h
  obtain ⟨rfl, h2⟩ := hK e w' h
  exact h2
set_option maxRecDepth 100000 in
set_option maxHeartbeats 4000000 in
theorem wp_callRat (x0 x1 : Operand) (ats : Array TypeId) (u0 u1 : Value) (hop : o.op = .call { callee := .value (.func 21), args := #[x0, x1], argTypes := ats }) (h0 : a.eval x0 = u0) (h1 : a.eval x1 = u1) {R : Ending → World → Prop}
    (hc : Calls Try.prog 21 #[u0, u1] w R) (v : Value) (hK : ∀ e w', R e w' → e = .returned v ∧ K (a.put o.dst v) w') : Oper.wp Try.prog o a w K Q := by
  unfold Oper.wp
  simp only [execOp, hop, resolve, List.map_toArray, List.map_cons, List.map_nil, h0, h1]
  clear h0 h1 hop
  go_simp
  refine hc.mono ?_
  intro e w' h
  obtain ⟨rfl, h2⟩ := hK e w' h
  exact h2
end
end Go.Proofs.Ytjchindjoailbaa

/- The program's response and ResponseOf. -/
namespace Go.Proofs.Ytjchindjoailbaa
set_option linter.unusedSimpArgs false
set_option linter.unusedVariables false
open Go.RowKit

theorem infoSlI : (Try.prog.info? 79).map (fun i => (i.zero, i.size, i.bytes)) = some (some (.slice none 0 0), 1, 24) := by kernel_rfl
set_option maxRecDepth 100000 in
set_option maxHeartbeats 16000000 in
theorem implResponse (M F : Nat) (S : Int) (a : Option Addr) (n c : Nat) (l : List Wz) (hF0 : 1 ≤ F) (hF : F ≤ M) (hok : NetOk M F S l) (w : World) (hr : ArgRow w a n c 3 (wires l)) (hl : l.length = n) :
    Calls Try.prog 105 #[netV M F S a n c] w fun e w' => ∃ g r cc B, e = .returned (.tuple #[.slice (some ⟨g, 0, none⟩) F F, .int .i64 (S * downW M F l)]) ∧ GT w' w.heap.size g F F 79 3 1 B r cc (fun q => ints (topRow M F l q F)) (.slice none 0 0) ∧ w.heap.size ≤ g ∧ Below w.heap.size w w' := by
  obtain ⟨i0, hi, hz0, hz1, hz2⟩ := info_parts infoInt
  have HI := Lib.hid (And.intro hi (And.intro hz0 (And.intro hz1 hz2)))
  clear hi hz0 hz1 hz2
  have hM5 : M ≤ 5 := by have := hok.h.n5; omega
  have hMx : M ≤ maxLen := by unfold maxLen; omega
  have hmk := run_make_row' (P := Try.prog) 114 79 (.slice none 0 0) 24 Try.underlying114 (by kernel_rfl) rfl .i64 .i64 F (by omega) (by omega)
  obtain ⟨z1, hz1⟩ : ∃ z1, madeCells #[Value.slice none 0 0] F = z1 := ⟨_, rfl⟩
  have HGS := Lib.hid (fun (w : World) (base : Nat) (r c : Nat → Nat) (xs : Nat → List Value) => GT.start w base F 79 3 1 r c xs)
  simp only [hz1] at hmk HGS
  clear hz1
  have HR := Lib.hid hr
  have KL := Lib.hid (fun (w : World) r => implLapl M F S a n c l hok w r hl)
  have KI := Lib.hid (fun (w : World) => implInner M F S a n c hM5 hF w)
  have KD := Lib.hid (fun (i j : Int) (hi : 0 ≤ i ∧ i < F) (hj : 0 ≤ j ∧ j < F) am arr acc cm crr ccc (w : World) hm h1 h2 => implDet M (tab M (lapE l)) hM5 (tab_sq M _) (i :: innerK F (M - F)) (j :: innerK F (M - F)) am arr acc cm (1 + (M - F)) crr (1 + (M - F)) ccc w hm h1 h2 rfl (by omega)
    (fun x hx => by rcases List.mem_cons.1 hx with rfl | hx; omega; exact innerK_in hF x hx) (fun x hx => by rcases List.mem_cons.1 hx with rfl | hx; omega; exact innerK_in hF x hx))
  have HV : Hid (∀ i j : Int, detW (ent (tab M (lapE l))) (i :: innerK F (M - F)) (j :: innerK F (M - F)) = topW M F l i j) := fun i j => rfl
  simp only [HV.out] at KD
  have KN := Lib.hid (fun am arr acc cm crr ccc (w : World) hm h1 h2 => implDet M (tab M (lapE l)) hM5 (tab_sq M _) (innerK F (M - F)) (innerK F (M - F)) am arr acc cm (M - F) crr (M - F) ccc w hm h1 h2 rfl (by omega) (innerK_in hF) (innerK_in hF))
  have HV2 : Hid (detW (ent (tab M (lapE l))) (innerK F (M - F)) (innerK F (M - F)) = downW M F l) := rfl
  rw [HV2.out] at KN
  clear HV2 HV
  have hd := hok.sdown hF0 hF
  have HTS := Lib.hid (fun (i k : Nat) => topRow_succ M F l i k)
  have HT0 : Hid (∀ i : Nat, topRow M F l i 0 = []) := fun i => rfl
  generalize downW M F l = D at KN hd ⊢
  have hm : IntKind.i64.wrap (S * D) = S * D := IntWalk.i64_in _ (by omega)
  have hm2 : wrap64 (S * D) = S * D := by unfold wrap64; omega
  clear hr hok
  go_enter Try.func105, Try.ntmps105
  go_wp2_with fail
  refine (KL.out _ (HR.out.below (by (repeat' (first | (with_reducible exact Below.refl _ _) | (with_reducible assumption) | (with_reducible refine balloc ?_ _) | (with_reducible refine Below.drew ?_) | (with_reducible refine below_drewN ?_ _) | (with_reducible refine bset ?_ ?_ _) | (with_reducible refine bstep ?_ (by assumption)) | go_size))))).mono ?_
  rintro e wL ⟨gm, rm, rfl, oL, hbL⟩
  have GL := Lib.hid (PG.grid oL hMx)
  have hgm := oL.og.lt
  have HB1 : Hid (Below (w.heap.size + 1) (NBox M F S a n c w) wL) := by have := hbL; simpa [Hid] using this
  clear oL hbL
  obtain ⟨hB1, hz1, u1, hz2, hz3⟩ := nbox_cells HB1.out
  clear hB1
  go_wp2_with fail
  refine (KI.out _).mono ?_
  rintro e wI ⟨gi, ci, rfl, oI, hbI⟩
  have RI := Lib.hid (ArgRow.own oI)
  have hgi := (own_base oI _ rfl).2
  simp only at hgi
  have HB2 : Hid (Below (w.heap.size + 1) (NBox M F S a n c w) wI) := HB1.out.trans (hbI.mono (by omega))
  have GL2 := Lib.hid (GL.out.below hbI)
  have hwI : w.heap.size + 1 ≤ wI.heap.size := by have := HB2.out.size; simpa using this
  clear oI hbI HB1 GL hz1 u1 hz2 hz3
  obtain ⟨hB1, hz1, u1, hz2, hz3⟩ := nbox_cells HB2.out
  clear hB1
  go_wp2_with fail
  go_loopw [18] (fun v wr => ∃ (i : Nat) (r c : Nat → Nat), i ≤ F ∧ v = .int .i64 i ∧ Hid (GT wr (w.heap.size + 1) wI.heap.size F i 79 3 1 wr.heap.size r c (fun q => ints (topRow M F l q F)) (.slice none 0 0)) ∧ Hid (Below wI.heap.size wI wr)) (fun v _ => F - (intOf v).toNat)
  case atStart => exact ⟨0, fun _ => 0, fun _ => 0, by omega, rfl, by
    have := HGS.out wI (w.heap.size + 1) (fun _ => 0) (fun _ => 0) (fun q => ints (topRow M F l q F))
    exact (show GT _ _ _ _ _ _ _ _ _ _ _ _ _ from by simpa using this), balloc (Below.refl _ _) _⟩
  case round =>
    obtain ⟨i, rr, cq, hi, rfl, HG, HB⟩ := hrel
    by_cases hlt : i < F
    · go_wp2_with fail
      obtain ⟨wo, rfl⟩ : ∃ wo : World, wo = wr := ⟨_, rfl⟩
      go_loopw [23] (fun v wr => ∃ (j : Nat) (cur : Value), j ≤ F ∧ v = .int .i64 j ∧ Hid (GT wr (w.heap.size + 1) wI.heap.size F i 79 3 1 wo.heap.size rr cq (fun q => ints (topRow M F l q F)) cur) ∧ Hid (wr.ownsRow wo.heap.size 3 1 cur j (ints (topRow M F l i j))) ∧ wo.heap.size ≤ wr.heap.size ∧ Hid (Below wI.heap.size wI wr)) (fun v _ => F - (intOf v).toNat)
      case atStart => exact ⟨0, .slice none 0 0, by omega, rfl, HG.out, by show World.ownsRow _ _ _ _ _ _ _; rw [HT0.out]; exact World.ownsRow_nil _ _ _ _, Nat.le_refl _, HB.out⟩
      case round =>
        obtain ⟨j, cur, hj, rfl, HG5, HO5, hsz5, HB5⟩ := hrel
        by_cases hlj : j < F
        · go_wp2_with fail
          have hcur := HG5.out.curAt hlt
          have hgo := HG5.out.og.lt
          have hgB := HG5.out.gB
          clear hz1 u1 hz2 hz3
          refine region_facts (C := fun L w' => if L 17 = true then wr.grownBy w' cur.ownBlock else Below wr.heap.size wr w') (Rel := fun q w1 w2 => if q = 17 then w1.grownBy w2 cur.ownBlock else Below w1.heap.size w1 w2)
            (F := fun L q v w' => match q with
              | 0 => v = .slice (some ⟨wI.heap.size, 0, none⟩) F F
              | 1 => v = .int .i64 i
              | 2 => v = .slice (some ⟨wI.heap.size, 0, none⟩) F F
              | 3 => v = .int .i64 i
              | 4 => v = .pointer (some ⟨wI.heap.size, i, none⟩)
              | 5 => v = cur
              | 6 => v = .slice (some ⟨gm, 0, none⟩) M M
              | 7 => v = .int .i64 i
              | 8 => L 17 = true ∨ ∃ g, v = .slice (some ⟨g, 0, none⟩) 1 1 ∧ w'.cell? ⟨g, 0, none⟩ = some (.int .i64 (i))
              | 9 => v = .slice (some ⟨gi, 0, none⟩) (M - F : Nat) ci
              | 10 => L 17 = true ∨ ∃ g c, v = .slice (some ⟨g, 0, none⟩) (1 + (M - F) : Nat) c ∧ ArgRow w' (some ⟨g, 0, none⟩) (1 + (M - F)) c 1 (ints ((i : Int) :: innerK F (M - F)))
              | 11 => v = .int .i64 j
              | 12 => L 17 = true ∨ ∃ g, v = .slice (some ⟨g, 0, none⟩) 1 1 ∧ w'.cell? ⟨g, 0, none⟩ = some (.int .i64 (j))
              | 13 => v = .slice (some ⟨gi, 0, none⟩) (M - F : Nat) ci
              | 14 => L 17 = true ∨ ∃ g c, v = .slice (some ⟨g, 0, none⟩) (1 + (M - F) : Nat) c ∧ ArgRow w' (some ⟨g, 0, none⟩) (1 + (M - F)) c 1 (ints ((j : Int) :: innerK F (M - F)))
              | 15 => v = .int .i64 (topW M F l i j)
              | 16 => L 17 = true ∨ ∃ g, v = .slice (some ⟨g, 0, none⟩) 1 1 ∧ w'.cell? ⟨g, 0, none⟩ = some (.int .i64 (topW M F l i j))
              | 17 => w'.ownsRow wo.heap.size 3 1 v (j + 1) (ints (topRow M F l i (j + 1)))
              | _ => v = .pointer (some ⟨wI.heap.size, i, none⟩)) 19 [26, 27, 28, 29, 30, 31, 32, 33, 34, 35, 36, 37, 38, 39, 40, 41, 42, 43, 44] (by kernel_rfl) (by kernel_rfl) (by rfl) (by decide) (by simp) ?hC ?hF ?hstep ?htail
          case hC => exact (Below.refl _ _).drew
          case hF =>
            intro L p q v w1 w2 hp hq hne hLq hLp hf hC hR
            have hq' : q = 0 ∨ q = 1 ∨ q = 2 ∨ q = 3 ∨ q = 4 ∨ q = 5 ∨ q = 6 ∨ q = 7 ∨ q = 8 ∨ q = 9 ∨ q = 10 ∨ q = 11 ∨ q = 12 ∨ q = 13 ∨ q = 14 ∨ q = 15 ∨ q = 16 ∨ q = 17 ∨ q = 18 := by omega
            by_cases hp17 : p = 17
            · subst hp17
              rcases hq' with rfl | rfl | rfl | rfl | rfl | rfl | rfl | rfl | rfl | rfl | rfl | rfl | rfl | rfl | rfl | rfl | rfl | rfl | rfl
              all_goals (first | exact hf | exact .inl rfl | exact absurd rfl hne)
            · have hR' : Below w1.heap.size w1 w2 := by simpa [hp17] using hR
              have e17 : (if 17 = p then true else L 17) = L 17 := if_neg (Ne.symm hp17)
              rcases hq' with rfl | rfl | rfl | rfl | rfl | rfl | rfl | rfl | rfl | rfl | rfl | rfl | rfl | rfl | rfl | rfl | rfl | rfl | rfl
              · exact hf
              · exact hf
              · exact hf
              · exact hf
              · exact hf
              · exact hf
              · exact hf
              · exact hf
              · rcases hf with h | ⟨g, e, h⟩
                · exact .inl (e17.trans h)
                · exact .inr ⟨g, e, cell_up hR' h⟩
              · exact hf
              · rcases hf with h | ⟨g, c, e, h⟩
                · exact .inl (e17.trans h)
                · exact .inr ⟨g, c, e, h.below hR'⟩
              · exact hf
              · rcases hf with h | ⟨g, e, h⟩
                · exact .inl (e17.trans h)
                · exact .inr ⟨g, e, cell_up hR' h⟩
              · exact hf
              · rcases hf with h | ⟨g, c, e, h⟩
                · exact .inl (e17.trans h)
                · exact .inr ⟨g, c, e, h.below hR'⟩
              · exact hf
              · rcases hf with h | ⟨g, e, h⟩
                · exact .inl (e17.trans h)
                · exact .inr ⟨g, e, cell_up hR' h⟩
              · have hf' : w1.ownsRow wo.heap.size 3 1 v (j + 1) (ints (topRow M F l i (j + 1))) := hf
                obtain ⟨g, c, rfl⟩ := own_slice hf'
                exact own_below hf' hR'
              · exact hf
          case hstep =>
            intro q o hq ho L a' w1 vs hC hL K hK
            have hq' : q = 0 ∨ q = 1 ∨ q = 2 ∨ q = 3 ∨ q = 4 ∨ q = 5 ∨ q = 6 ∨ q = 7 ∨ q = 8 ∨ q = 9 ∨ q = 10 ∨ q = 11 ∨ q = 12 ∨ q = 13 ∨ q = 14 ∨ q = 15 ∨ q = 16 ∨ q = 17 ∨ q = 18 := by omega
            rcases hq' with rfl | rfl | rfl | rfl | rfl | rfl | rfl | rfl | rfl | rfl | rfl | rfl | rfl | rfl | rfl | rfl | rfl | rfl | rfl
            · cases ho
              exact wp_move1 (.tmp 6) (.slice (some ⟨wI.heap.size, 0, none⟩) F F) rfl (hL.old 6 (by decide)) (hK _ _ (by simpa using hC) (Below.refl _ _) rfl)
            · cases ho
              exact wp_move1 (.tmp 7) (.int .i64 i) rfl (hL.old 7 (by decide)) (hK _ _ (by simpa using hC) (Below.refl _ _) rfl)
            · cases ho
              exact wp_move1 (.tmp 6) (.slice (some ⟨wI.heap.size, 0, none⟩) F F) rfl (hL.old 6 (by decide)) (hK _ _ (by simpa using hC) (Below.refl _ _) rfl)
            · cases ho
              exact wp_move1 (.tmp 7) (.int .i64 i) rfl (hL.old 7 (by decide)) (hK _ _ (by simpa using hC) (Below.refl _ _) rfl)
            · cases ho
              have v2 : a'.eval (.tmp 28) = .slice (some ⟨wI.heap.size, 0, none⟩) F F := (hL.new 2 (by decide) (by kernel_rfl)).1.trans (hL.new 2 (by decide) (by kernel_rfl)).2
              have v3 : a'.eval (.tmp 29) = .int .i64 i := (hL.new 3 (by decide) (by kernel_rfl)).1.trans (hL.new 3 (by decide) (by kernel_rfl)).2
              exact wp_indexI (.tmp 28) (.tmp 29) wI.heap.size F F i rfl v2 v3 hlt (hK _ _ (by simpa using hC) (Below.refl _ _) rfl)
            · cases ho
              have h17 : L 17 = false := by
                cases e : L 17 with
                | false => rfl
                | true =>
                  exfalso
                  have c5 := hL.cl 17 5 e (by kernel_rfl)
                  rw [hL.un] at c5
                  cases c5
              have hC1 : Below wr.heap.size wr w1 := by rw [if_neg (by rw [h17]; simp)] at hC; exact hC
              have v4 : a'.eval (.tmp 30) = .pointer (some ⟨wI.heap.size, i, none⟩) := (hL.new 4 (by decide) (by kernel_rfl)).1.trans (hL.new 4 (by decide) (by kernel_rfl)).2
              exact wp_loadI (.tmp 30) wI.heap.size i cur rfl v4 (cell_up hC1 hcur) (hK _ _ (by simpa using hC) (Below.refl _ _) rfl)
            · cases ho
              exact wp_move1 (.tmp 4) (.slice (some ⟨gm, 0, none⟩) M M) rfl (hL.old 4 (by decide)) (hK _ _ (by simpa using hC) (Below.refl _ _) rfl)
            · cases ho
              exact wp_move1 (.tmp 7) (.int .i64 i) rfl (hL.old 7 (by decide)) (hK _ _ (by simpa using hC) (Below.refl _ _) rfl)
            · cases ho
              have h17 : L 17 = false := by
                cases e : L 17 with
                | false => rfl
                | true =>
                  exfalso
                  have c17 := e
                  have c16 := hL.cl 17 16 c17 (by kernel_rfl)
                  have c15 := hL.cl 16 15 c16 (by kernel_rfl)
                  have c10 := hL.cl 15 10 c15 (by kernel_rfl)
                  have c8 := hL.cl 10 8 c10 (by kernel_rfl)
                  rw [hL.un] at c8
                  cases c8
              have hC1 : Below wr.heap.size wr w1 := by rw [if_neg (by rw [h17]; simp)] at hC; exact hC
              have v7 : a'.eval (.tmp 33) = .int .i64 i := (hL.new 7 (by decide) (by kernel_rfl)).1.trans (hL.new 7 (by decide) (by kernel_rfl)).2
              have hb1 : Below w1.heap.size w1 (w1.alloc (.cells #[.int .i64 (i)] 3)) := balloc (Below.refl _ _) _
              exact wp_buildI (.tmp 33) (i) rfl v7 (hK _ _ (by simpa [h17] using (show Below wr.heap.size wr _ from bstep hC1 hb1)) hb1 (.inr ⟨_, rfl, cell_lit rfl⟩))
            · cases ho
              exact wp_move1 (.tmp 5) (.slice (some ⟨gi, 0, none⟩) (M - F : Nat) ci) rfl (hL.old 5 (by decide)) (hK _ _ (by simpa using hC) (Below.refl _ _) rfl)
            · cases ho
              have h17 : L 17 = false := by
                cases e : L 17 with
                | false => rfl
                | true =>
                  exfalso
                  have c17 := e
                  have c16 := hL.cl 17 16 c17 (by kernel_rfl)
                  have c15 := hL.cl 16 15 c16 (by kernel_rfl)
                  have c10 := hL.cl 15 10 c15 (by kernel_rfl)
                  rw [hL.un] at c10
                  cases c10
              have hC1 : Below wr.heap.size wr w1 := by rw [if_neg (by rw [h17]; simp)] at hC; exact hC
              have v9 : a'.eval (.tmp 35) = .slice (some ⟨gi, 0, none⟩) (M - F : Nat) ci := (hL.new 9 (by decide) (by kernel_rfl)).1.trans (hL.new 9 (by decide) (by kernel_rfl)).2
              obtain ⟨z1, z2⟩ := hL.new 8 (by decide) (by kernel_rfl)
              rcases z2 with z2 | ⟨g8, z2, z3⟩
              · rw [h17] at z2; cases z2
              exact wp_append_lit (.tmp 34) (.tmp 35) rfl g8 (i : Int) (z1.trans z2) z3 gi (M - F) ci (innerK F (M - F)) v9 (RI.out.below (HB5.out.trans (hC1.mono HB5.out.size))) (by omega) (fun g9 c9 w9 h9 hb9 => hK _ _ (by simpa [h17] using (show Below wr.heap.size wr _ from bstep hC1 hb9)) hb9 (.inr ⟨g9, c9, rfl, h9⟩))
            · cases ho
              exact wp_move1 (.tmp 8) (.int .i64 j) rfl (hL.old 8 (by decide)) (hK _ _ (by simpa using hC) (Below.refl _ _) rfl)
            · cases ho
              have h17 : L 17 = false := by
                cases e : L 17 with
                | false => rfl
                | true =>
                  exfalso
                  have c17 := e
                  have c16 := hL.cl 17 16 c17 (by kernel_rfl)
                  have c15 := hL.cl 16 15 c16 (by kernel_rfl)
                  have c14 := hL.cl 15 14 c15 (by kernel_rfl)
                  have c12 := hL.cl 14 12 c14 (by kernel_rfl)
                  rw [hL.un] at c12
                  cases c12
              have hC1 : Below wr.heap.size wr w1 := by rw [if_neg (by rw [h17]; simp)] at hC; exact hC
              have v11 : a'.eval (.tmp 37) = .int .i64 j := (hL.new 11 (by decide) (by kernel_rfl)).1.trans (hL.new 11 (by decide) (by kernel_rfl)).2
              have hb1 : Below w1.heap.size w1 (w1.alloc (.cells #[.int .i64 (j)] 3)) := balloc (Below.refl _ _) _
              exact wp_buildI (.tmp 37) (j) rfl v11 (hK _ _ (by simpa [h17] using (show Below wr.heap.size wr _ from bstep hC1 hb1)) hb1 (.inr ⟨_, rfl, cell_lit rfl⟩))
            · cases ho
              exact wp_move1 (.tmp 5) (.slice (some ⟨gi, 0, none⟩) (M - F : Nat) ci) rfl (hL.old 5 (by decide)) (hK _ _ (by simpa using hC) (Below.refl _ _) rfl)
            · cases ho
              have h17 : L 17 = false := by
                cases e : L 17 with
                | false => rfl
                | true =>
                  exfalso
                  have c17 := e
                  have c16 := hL.cl 17 16 c17 (by kernel_rfl)
                  have c15 := hL.cl 16 15 c16 (by kernel_rfl)
                  have c14 := hL.cl 15 14 c15 (by kernel_rfl)
                  rw [hL.un] at c14
                  cases c14
              have hC1 : Below wr.heap.size wr w1 := by rw [if_neg (by rw [h17]; simp)] at hC; exact hC
              have v13 : a'.eval (.tmp 39) = .slice (some ⟨gi, 0, none⟩) (M - F : Nat) ci := (hL.new 13 (by decide) (by kernel_rfl)).1.trans (hL.new 13 (by decide) (by kernel_rfl)).2
              obtain ⟨z1, z2⟩ := hL.new 12 (by decide) (by kernel_rfl)
              rcases z2 with z2 | ⟨g8, z2, z3⟩
              · rw [h17] at z2; cases z2
              exact wp_append_lit (.tmp 38) (.tmp 39) rfl g8 (j : Int) (z1.trans z2) z3 gi (M - F) ci (innerK F (M - F)) v13 (RI.out.below (HB5.out.trans (hC1.mono HB5.out.size))) (by omega) (fun g9 c9 w9 h9 hb9 => hK _ _ (by simpa [h17] using (show Below wr.heap.size wr _ from bstep hC1 hb9)) hb9 (.inr ⟨g9, c9, rfl, h9⟩))
            · cases ho
              have h17 : L 17 = false := by
                cases e : L 17 with
                | false => rfl
                | true =>
                  exfalso
                  have c17 := e
                  have c16 := hL.cl 17 16 c17 (by kernel_rfl)
                  have c15 := hL.cl 16 15 c16 (by kernel_rfl)
                  rw [hL.un] at c15
                  cases c15
              have hC1 : Below wr.heap.size wr w1 := by rw [if_neg (by rw [h17]; simp)] at hC; exact hC
              have v6 : a'.eval (.tmp 32) = .slice (some ⟨gm, 0, none⟩) M M := (hL.new 6 (by decide) (by kernel_rfl)).1.trans (hL.new 6 (by decide) (by kernel_rfl)).2
              obtain ⟨zA1, zA2⟩ := hL.new 10 (by decide) (by kernel_rfl)
              rcases zA2 with zA2 | ⟨gA, cA, zA2, zA3⟩
              · rw [h17] at zA2; cases zA2
              obtain ⟨zB1, zB2⟩ := hL.new 14 (by decide) (by kernel_rfl)
              rcases zB2 with zB2 | ⟨gB, cB, zB2, zB3⟩
              · rw [h17] at zB2; cases zB2
              have eA := zA1.trans zA2
              have eB := zB1.trans zB2
              have hM1 := GL2.out.below (HB5.out.trans (hC1.mono HB5.out.size))
              refine wp_callDet (.tmp 32) (.tmp 36) (.tmp 40) _ _ _ _ rfl v6 eA eB (KD.out i j ⟨by omega, by omega⟩ ⟨by omega, by omega⟩ _ _ _ _ _ _ _ hM1 zA3 zB3) (.int .i64 (topW M F l i j)) ?_
              rintro e w9 ⟨rfl, hb9⟩
              exact ⟨rfl, hK _ _ (by simpa [h17] using (show Below wr.heap.size wr _ from bstep hC1 hb9)) hb9 rfl⟩
            · cases ho
              have h17 : L 17 = false := by
                cases e : L 17 with
                | false => rfl
                | true =>
                  exfalso
                  have c17 := e
                  have c16 := hL.cl 17 16 c17 (by kernel_rfl)
                  rw [hL.un] at c16
                  cases c16
              have hC1 : Below wr.heap.size wr w1 := by rw [if_neg (by rw [h17]; simp)] at hC; exact hC
              have v15 : a'.eval (.tmp 41) = .int .i64 (topW M F l i j) := (hL.new 15 (by decide) (by kernel_rfl)).1.trans (hL.new 15 (by decide) (by kernel_rfl)).2
              have hb1 : Below w1.heap.size w1 (w1.alloc (.cells #[.int .i64 (topW M F l i j)] 3)) := balloc (Below.refl _ _) _
              exact wp_buildI (.tmp 41) (topW M F l i j) rfl v15 (hK _ _ (by simpa [h17] using (show Below wr.heap.size wr _ from bstep hC1 hb1)) hb1 (.inr ⟨_, rfl, cell_lit rfl⟩))
            · cases ho
              have h17 : L 17 = false := hL.un
              have hC1 : Below wr.heap.size wr w1 := by rw [if_neg (by rw [h17]; simp)] at hC; exact hC
              have v5 : a'.eval (.tmp 31) = cur := (hL.new 5 (by decide) (by kernel_rfl)).1.trans (hL.new 5 (by decide) (by kernel_rfl)).2
              obtain ⟨z1, z2⟩ := hL.new 16 (by decide) (by kernel_rfl)
              rcases z2 with z2 | ⟨g8, z2, z3⟩
              · rw [h17] at z2; cases z2
              obtain ⟨ac, cc, rfl⟩ := own_slice HO5.out
              have hown := own_below HO5.out hC1
              refine wp_append_own _ (.tmp 31) (.tmp 42) 79 rfl wo.heap.size 3 i0 (.int .i64 0) 1 8 Try.underlying79 HI.out.1 HI.out.2.1 HI.out.2.2.1 HI.out.2.2.2 rfl (by decide) _ j _ v5 hown ⟨g8, 0, none⟩ 1 1 [.int .i64 (topW M F l i j)] (z1.trans z2) rfl (fun p u hu => ?_) (fun u hu => by simp at hu; subst hu; rfl) (by unfold maxLen; omega) (by omega) (by have := hC1.size; omega) (fun v9 w9 h9 hg9 _ => hK _ _ ?_ (by exact hg9) ?_)
              · rcases p with _ | p
                · simp at hu; subst hu; rw [Addr.add_lit]; exact z3
                · simp at hu
              · exact grown_trans (grown_below hC1) hg9
              · show World.ownsRow _ _ _ _ _ _ _
                rw [HTS.out, ints_append]; exact h9
            · cases ho
              have v0 : a'.eval (.tmp 26) = .slice (some ⟨wI.heap.size, 0, none⟩) F F := (hL.new 0 (by decide) (by kernel_rfl)).1.trans (hL.new 0 (by decide) (by kernel_rfl)).2
              have v1 : a'.eval (.tmp 27) = .int .i64 i := (hL.new 1 (by decide) (by kernel_rfl)).1.trans (hL.new 1 (by decide) (by kernel_rfl)).2
              exact wp_indexI (.tmp 26) (.tmp 27) wI.heap.size F F i rfl v0 v1 hlt (hK _ _ (by simpa using hC) (Below.refl _ _) rfl)
          case htail =>
            intro L w1 vs hL hC hF
            have o17 : w1.ownsRow wo.heap.size 3 1 (vs 17) (j + 1) (ints (topRow M F l i (j + 1))) := hF 17 (by decide)
            have e18 : vs 18 = .pointer (some ⟨wI.heap.size, i, none⟩) := hF 18 (by decide)
            have hg : wr.grownBy w1 cur.ownBlock := by rw [if_pos (hL 17 (by decide))] at hC; exact hC
            have hlow : ∀ b, cur.ownBlock = some b → wo.heap.size ≤ b := fun b hb => (HO5.out.lt b hb).1
            simp only [putAll, Act.put, List.setIfInBounds_toArray, List.set_cons_zero, List.set_cons_succ]
            rw [e18]
            generalize vs 17 = v17 at o17 ⊢
            obtain ⟨g3, c3, rfl⟩ := own_some o17 (by omega)
            have hg3 := own_base o17 _ rfl
            simp only at hg3
            have HG6 := HG5.out.grown hg hlow
            have hc6 : ∃ u, w1.cell? ⟨wI.heap.size, i, none⟩ = some u := ⟨_, HG6.curAt hlt⟩
            obtain ⟨u6, hc6⟩ := hc6
            have hf6 := HG6.og.frozen i
            have HG7 := Lib.hid (HG6.setCur hlt (.slice (some ⟨g3, 0, none⟩) (j + 1) c3))
            have HO7 := Lib.hid (o17.kept (grown_set' _ ⟨wI.heap.size, i, none⟩ (.slice (some ⟨g3, 0, none⟩) (j + 1) c3)) (.inr (by simp [Value.ownBlock]; omega)))
            have hsz7 : wo.heap.size ≤ w1.heap.size := by omega
            have HB7 : Hid (Below wI.heap.size wI (w1.setCell ⟨wI.heap.size, i, none⟩ (.slice (some ⟨g3, 0, none⟩) (j + 1) c3))) := bset (HB5.out.grown hg (by omega) (fun b hb => by have := hlow b hb; omega)) (Nat.le_refl _) _
            clear HG6 o17 hg hlow hC hF hcur
            go_wp2_with fail
            go_roundw
            case rel => exact ⟨j + 1, _, by omega, by go_num, HG7.out, HO7.out, by simpa using hsz7, HB7.out⟩
            case measure => simp [intOf]; omega
        · skip
          obtain rfl : j = F := by omega
          obtain ⟨g3, c3, rfl⟩ := own_some HO5.out (by omega)
          have hg3 := own_base HO5.out _ rfl
          simp only at hg3
          have HG8 := HG5.out.next HO5.out (by have := HB.out.size; omega)
          have HG9 := Lib.hid (HG8.congr (xs' := fun q => ints (topRow M j l q j)) (fun q hq => by
            by_cases e : q = i
            · simp only [e, if_true]
            · simp only [if_neg e]))
          clear HG8
          go_wp2_with fail
          go_roundw
          case rel => exact ⟨i + 1, _, _, by omega, by go_num, HG9.out, HB5.out⟩
          case measure => simp [intOf]; omega
    · skip
      obtain rfl : i = F := by omega
      have HB3 : Hid (Below (w.heap.size + 1) (NBox M i S a n c w) wr) := HB2.out.trans (HB.out.mono (by omega))
      have GL3 := Lib.hid (GL2.out.below HB.out)
      have RI3 := Lib.hid (RI.out.below HB.out)
      have HGF := HG.out
      clear HB2 GL2 RI HB HG hz1 u1 hz2 hz3
      obtain ⟨hB1, hz1, u1, hz2, hz3⟩ := nbox_cells HB3.out
      have HBW := Lib.hid hB1
      have HGF := Lib.hid HGF
      clear hB1
      go_wp2_with fail
      go_region_held3 (fun w' => w'.cell? ⟨w.heap.size, 2, none⟩ = some (.int .i64 S)) (go_keep)
        ((go_at_call 139; ((with_reducible refine (KN.out (some ⟨gm, 0, none⟩) (some ⟨gi, 0, none⟩) (some ⟨gi, 0, none⟩) M ci ci _ (GL3.out.below (Below.refl _ _).drew) (RI3.out.below (Below.refl _ _).drew) (RI3.out.below (Below.refl _ _).drew)).mono ?_); rintro e wX ⟨rfl, hbX⟩); (try (replace hbX := bdrew hbX)); (try (have hq_ := bltn hbX (b := w.heap.size) (by (first | omega | (simp only [World.size_alloc, World.size_setCell, World.size_drew, World.heap_drewN]; omega))); obtain ⟨uu, vv, zz, nn, mm⟩ := hq_))))
      all_goals
        go_wp2_with fail
        go_returns
        exact ⟨_, _, _, _, rfl, (HGF.out.below hbX).mono (by omega), by omega, bstep HBW.out hbX⟩
end Go.Proofs.Ytjchindjoailbaa

/- ResponseOf of the program. -/
namespace Go.Proofs.Ytjchindjoailbaa
set_option linter.unusedSimpArgs false
set_option linter.unusedVariables false
open Go.RowKit

theorem GT.gridR {w : World} {base g F B : Nat} {T e : TypeId} {r c : Nat → Nat} {RR : Nat → List Rz} {cur : Value} (h : GT w base g F F T e 2 B r c (fun q => rats (RR q)) cur) (hl : ∀ q, (RR q).length = F) (hF : F ≤ maxLen) : RGrid w (some ⟨g, 0, none⟩) F F ((List.range F).map RR) := by
  refine ⟨(List.range F).map fun i => (some ⟨r i, 0, none⟩, c i, RR i), ?_, ⟨?_, Nat.le_refl _, hF, ?_⟩, ?_⟩
  · simp [Function.comp_def]
  · simp
  · by_cases h0 : F = 0
    · exact .inl h0
    · refine .inr ⟨g, 0, rfl, h.og.lt, fun j hj => ?_⟩
      simp at hj
      rw [Nat.zero_add, h.outer hj (Nat.le_refl _)]
      simp [slV, hl]
  · intro x hx
    simp only [List.mem_map, List.mem_range] at hx
    obtain ⟨i, hi, rfl⟩ := hx
    have := ArgRow.own (h.rows i hi)
    simp only [hl]
    exact this
set_option maxRecDepth 100000 in
set_option maxHeartbeats 8000000 in
theorem implResponseOf0 (N E S : Int) (a : Option Addr) (n c : Nat) (l : List Wz) (hno : ¬ NetOk N E S l) (w : World) (hr : ArgRow w a n c 3 (wires l)) (hl : l.length = n) :
    Calls Try.prog 57 #[netV N E S a n c] w fun e w' => e = .returned (.tuple #[.slice none 0 0, .bool false]) ∧ Below w.heap.size w w' := by
  have HR := Lib.hid hr
  have KN := Lib.hid (fun (w : World) rr => implNetOk N E S a n c l false ⟨(fun h => by cases h), fun h => absurd h hno⟩ w rr hl)
  clear hr hno
  go_enter Try.func57, Try.ntmps57
  go_wp2_with fail
  refine (KN.out _ (HR.out.below (by (repeat' (first | (with_reducible exact Below.refl _ _) | (with_reducible assumption) | (with_reducible refine balloc ?_ _) | (with_reducible refine Below.drew ?_) | (with_reducible refine below_drewN ?_ _) | (with_reducible refine bset ?_ ?_ _) | (with_reducible refine bstep ?_ (by assumption)) | go_size))))).mono ?_
  rintro e w1 ⟨rfl, hb1⟩
  have B1 : Hid (Below w.heap.size w w1) := bstep (by (repeat' (first | (with_reducible exact Below.refl _ _) | (with_reducible assumption) | (with_reducible refine balloc ?_ _) | (with_reducible refine Below.drew ?_) | (with_reducible refine below_drewN ?_ _) | (with_reducible refine bset ?_ ?_ _) | (with_reducible refine bstep ?_ (by assumption)) | go_size))) hb1
  go_wp2_with fail
  go_returns
  exact ⟨rfl, B1.out⟩
set_option maxRecDepth 100000 in
set_option maxHeartbeats 16000000 in
theorem implResponseOf (M F : Nat) (S : Int) (a : Option Addr) (n c : Nat) (l : List Wz) (hF0 : 1 ≤ F) (hF : F ≤ M) (hok : NetOk M F S l) (w : World) (hr : ArgRow w a n c 3 (wires l)) (hl : l.length = n) :
    Calls Try.prog 57 #[netV M F S a n c] w fun e w' => ∃ g c', e = .returned (.tuple #[.slice (some ⟨g, 0, none⟩) F c', .bool true]) ∧ RGrid w' (some ⟨g, 0, none⟩) F c' (respM M F S l) ∧ Below w.heap.size w w' := by
  obtain ⟨i0, hi, hz0, hz1, hz2⟩ := info_parts infoRat
  have HI := Lib.hid (And.intro hi (And.intro hz0 (And.intro hz1 hz2)))
  clear hi hz0 hz1 hz2
  have hM5 : M ≤ 5 := by have := hok.h.n5; omega
  have hmk := run_make_row' (P := Try.prog) 76 28 (.slice none 0 0) 24 Try.underlying76 (by kernel_rfl) rfl .i64 .i64 F (by omega) (by omega)
  obtain ⟨z1, hz1⟩ : ∃ z1, madeCells #[Value.slice none 0 0] F = z1 := ⟨_, rfl⟩
  have HGS := Lib.hid (fun (w : World) (base : Nat) (r c : Nat → Nat) (xs : Nat → List Value) => GT.start w base F 28 32 2 r c xs)
  simp only [hz1] at hmk HGS
  clear hz1
  have HR := Lib.hid hr
  have KN := Lib.hid (fun (w : World) r => implNetOk M F S a n c l true ⟨fun _ => hok, fun _ => rfl⟩ w r hl)
  have KP := Lib.hid (fun (w : World) r => implResponse M F S a n c l hF0 hF hok w r hl)
  have hd := hok.sdown hF0 hF
  have HT := Lib.hid (fun (i j : Int) => hok.top_bd hF0 hF i j)
  have HSU := Lib.hid (fun (i j : Nat) => respRow_succ M F S l i j)
  have HRV : Hid (∀ i j : Nat, respV M F S l i j = Gn.rat (topW M F l i j) (S * downW M F l)) := fun i j => rfl
  have HRL := Lib.hid (fun (i j : Nat) => respRow_len M F S l i j)
  have HR0 : Hid (∀ i : Nat, respRow M F S l i 0 = []) := fun i => rfl
  have HRM : Hid (respM M F S l = (List.range F).map fun i => respRow M F S l i F) := rfl
  have HTL := Lib.hid (fun (i k : Nat) => topRow_len M F l i k)
  have HTA : Hid (∀ (i j : Nat) (h : j < (topRow M F l i F).length), (topRow M F l i F)[j] = topW M F l i j) := fun i j h => by simp [topRow, upto_at]
  simp only [HRV.out] at HSU
  generalize respRow M F S l = RR at HSU HRL HR0 HRM
  generalize respM M F S l = RM at HRM ⊢
  clear HRV
  generalize S * downW M F l = D at KP hd HSU
  clear hr hok
  go_enter Try.func57, Try.ntmps57
  go_wp2_with fail
  refine (KN.out _ (HR.out.below (by (repeat' (first | (with_reducible exact Below.refl _ _) | (with_reducible assumption) | (with_reducible refine balloc ?_ _) | (with_reducible refine Below.drew ?_) | (with_reducible refine below_drewN ?_ _) | (with_reducible refine bset ?_ ?_ _) | (with_reducible refine bstep ?_ (by assumption)) | go_size))))).mono ?_
  rintro e w1 ⟨rfl, hb1⟩
  have HB1 : Hid (Below (w.heap.size + 1) (NBox M F S a n c w) w1) := by have := hb1; simpa [Hid] using this
  clear hb1
  obtain ⟨hB1, hz1, u1, hz2, hz3⟩ := nbox_cells HB1.out
  have HR1 := Lib.hid (HR.out.below hB1)
  clear hB1
  go_wp2_with fail
  refine (KP.out _ HR1.out).mono ?_
  rintro e wI ⟨gm, rm, cm, Bm, rfl, oG, _, hbI⟩
  have GM := Lib.hid oG
  have hgm := oG.og.lt
  have HB2 : Hid (Below (w.heap.size + 1) (NBox M F S a n c w) wI) := HB1.out.trans (hbI.mono (by omega))
  have hwI : w.heap.size + 1 ≤ wI.heap.size := by have := HB2.out.size; simpa using this
  clear oG hbI HB1 HR1 hz1 u1 hz2 hz3
  go_wp2_with fail
  go_loopw [23] (fun v wr => ∃ (i : Nat) (r c : Nat → Nat), i ≤ F ∧ v = .int .i64 i ∧ Hid (GT wr (w.heap.size + 1) wI.heap.size F i 28 32 2 wr.heap.size r c (fun q => rats (RR q F)) (.slice none 0 0)) ∧ Hid (Below wI.heap.size wI wr)) (fun v _ => F - (intOf v).toNat)
  case atStart => exact ⟨0, fun _ => 0, fun _ => 0, by omega, rfl, by
    have := HGS.out wI (w.heap.size + 1) (fun _ => 0) (fun _ => 0) (fun q => rats (RR q F))
    exact (show GT _ _ _ _ _ _ _ _ _ _ _ _ _ from by simpa using this), balloc (Below.refl _ _) _⟩
  case round =>
    obtain ⟨i, rr, cq, hi, rfl, HG, HB⟩ := hrel
    by_cases hlt : i < F
    · have GMo := GM.out.below HB.out
      have hmc := GMo.outer hlt (Nat.le_refl _)
      have hgm2 : gm < wr.heap.size := Nat.lt_of_lt_of_le hgm HB.out.size
      clear GMo
      go_wp2_with fail
      obtain ⟨wo, rfl⟩ : ∃ wo : World, wo = wr := ⟨_, rfl⟩
      clear hmc hgm2
      go_loopw [31] (fun v wr => ∃ (j : Nat) (cur : Value), j ≤ F ∧ v = .int .i64 j ∧ Hid (GT wr (w.heap.size + 1) wI.heap.size F i 28 32 2 wo.heap.size rr cq (fun q => rats (RR q F)) cur) ∧ Hid (wr.ownsRow wo.heap.size 32 2 cur j (rats (RR i j))) ∧ wo.heap.size ≤ wr.heap.size ∧ Hid (Below wI.heap.size wI wr)) (fun v _ => F - (intOf v).toNat)
      case atStart => exact ⟨0, .slice none 0 0, by omega, rfl, HG.out, by show World.ownsRow _ _ _ _ _ _ _; rw [HR0.out]; exact World.ownsRow_nil _ _ _ _, Nat.le_refl _, HB.out⟩
      case round =>
        obtain ⟨j, cur, hj, rfl, HG5, HO5, hsz5, HB5⟩ := hrel
        by_cases hlj : j < F
        · have hrw := (GM.out.below HB5.out).rows i hlt
          have hrl := own_base hrw _ rfl
          have hrc := hrw.cellAt j (by omega)
          have hjl : j < (topRow M F l i F).length := by rw [HTL.out]; exact hlj
          have hrv : wr.cell? ⟨rm i, j, none⟩ = some (.int .i64 (topW M F l i j)) := by
            rw [hrc, List.getElem?_eq_getElem (by rw [ints_len]; exact hjl), ints_at _ j hjl, HTA.out i j hjl]
          have hrl2 := hrl.2
          simp only at hrl2
          have hTb := HT.out i j
          have HS := HSU.out i j
          generalize topW M F l i j = TT at hrv hTb HS
          clear hrw hrl hrc hjl
          have KRA := Lib.hid (fun (w : World) => implRatioOf TT D w (by omega) (by omega) (by omega) (by omega))
          generalize Gn.rat TT D = Q at KRA HS
          obtain ⟨R0, R1⟩ := Q
          have HS := Lib.hid HS
          go_wp2_with fail
          have hcur := HG5.out.curAt hlt
          have hgo := HG5.out.og.lt
          have hgB := HG5.out.gB
          refine region_facts (C := fun L w' => if L 10 = true then wr.grownBy w' cur.ownBlock else Below wr.heap.size wr w') (Rel := fun q w1 w2 => if q = 10 then w1.grownBy w2 cur.ownBlock else Below w1.heap.size w1 w2)
            (F := fun L q v w' => match q with
              | 0 => v = .slice (some ⟨wI.heap.size, 0, none⟩) F F
              | 1 => v = .int .i64 i
              | 2 => v = .slice (some ⟨wI.heap.size, 0, none⟩) F F
              | 3 => v = .int .i64 i
              | 4 => v = .pointer (some ⟨wI.heap.size, i, none⟩)
              | 5 => v = cur
              | 6 => v = .int .i64 TT
              | 7 => v = .int .i64 D
              | 8 => v = ratV R0 R1
              | 9 => L 10 = true ∨ ∃ g, v = .slice (some ⟨g, 0, none⟩) 1 1 ∧ w'.cell? ⟨g, 0, none⟩ = some (.int .i64 R0) ∧ w'.cell? ⟨g, 1, none⟩ = some (.int .i64 R1)
              | 10 => w'.ownsRow wo.heap.size 32 2 v (j + 1) (rats (RR i (j + 1)))
              | _ => v = .pointer (some ⟨wI.heap.size, i, none⟩)) 12 [35, 36, 37, 38, 39, 40, 41, 42, 43, 44, 45, 46] (by kernel_rfl) (by kernel_rfl) (by rfl) (by decide) (by simp) ?hC ?hF ?hstep ?htail
          case hC => exact (Below.refl _ _).drew
          case hF =>
            intro L p q v w1 w2 hp hq hne hLq hLp hf hC hR
            have hq' : q = 0 ∨ q = 1 ∨ q = 2 ∨ q = 3 ∨ q = 4 ∨ q = 5 ∨ q = 6 ∨ q = 7 ∨ q = 8 ∨ q = 9 ∨ q = 10 ∨ q = 11 := by omega
            by_cases hp17 : p = 10
            · subst hp17
              rcases hq' with rfl | rfl | rfl | rfl | rfl | rfl | rfl | rfl | rfl | rfl | rfl | rfl
              all_goals (first | exact hf | exact .inl rfl | exact absurd rfl hne)
            · have hR' : Below w1.heap.size w1 w2 := by simpa [hp17] using hR
              have e17 : (if 10 = p then true else L 10) = L 10 := if_neg (Ne.symm hp17)
              rcases hq' with rfl | rfl | rfl | rfl | rfl | rfl | rfl | rfl | rfl | rfl | rfl | rfl
              · exact hf
              · exact hf
              · exact hf
              · exact hf
              · exact hf
              · exact hf
              · exact hf
              · exact hf
              · exact hf
              · rcases hf with h | ⟨g, e, h, h'⟩
                · exact .inl (e17.trans h)
                · exact .inr ⟨g, e, cell_up hR' h, cell_up hR' h'⟩
              · have hf' : w1.ownsRow wo.heap.size 32 2 v (j + 1) (rats (RR i (j + 1))) := hf
                obtain ⟨g, c, rfl⟩ := own_slice hf'
                exact own_below hf' hR'
              · exact hf
          case hstep =>
            intro q o hq ho L a' w1 vs hC hL K hK
            have hq' : q = 0 ∨ q = 1 ∨ q = 2 ∨ q = 3 ∨ q = 4 ∨ q = 5 ∨ q = 6 ∨ q = 7 ∨ q = 8 ∨ q = 9 ∨ q = 10 ∨ q = 11 := by omega
            rcases hq' with rfl | rfl | rfl | rfl | rfl | rfl | rfl | rfl | rfl | rfl | rfl | rfl
            · cases ho
              exact wp_move1 (.tmp 6) (.slice (some ⟨wI.heap.size, 0, none⟩) F F) rfl (hL.old 6 (by decide)) (hK _ _ (by simpa using hC) (Below.refl _ _) rfl)
            · cases ho
              exact wp_move1 (.tmp 7) (.int .i64 i) rfl (hL.old 7 (by decide)) (hK _ _ (by simpa using hC) (Below.refl _ _) rfl)
            · cases ho
              exact wp_move1 (.tmp 6) (.slice (some ⟨wI.heap.size, 0, none⟩) F F) rfl (hL.old 6 (by decide)) (hK _ _ (by simpa using hC) (Below.refl _ _) rfl)
            · cases ho
              exact wp_move1 (.tmp 7) (.int .i64 i) rfl (hL.old 7 (by decide)) (hK _ _ (by simpa using hC) (Below.refl _ _) rfl)
            · cases ho
              have v2 : a'.eval (.tmp 37) = .slice (some ⟨wI.heap.size, 0, none⟩) F F := (hL.new 2 (by decide) (by kernel_rfl)).1.trans (hL.new 2 (by decide) (by kernel_rfl)).2
              have v3 : a'.eval (.tmp 38) = .int .i64 i := (hL.new 3 (by decide) (by kernel_rfl)).1.trans (hL.new 3 (by decide) (by kernel_rfl)).2
              exact wp_indexR (.tmp 37) (.tmp 38) wI.heap.size F F i rfl v2 v3 hlt (hK _ _ (by simpa using hC) (Below.refl _ _) rfl)
            · cases ho
              have h17 : L 10 = false := by
                cases e : L 10 with
                | false => rfl
                | true =>
                  exfalso
                  have c10 := e
                  have c5 := hL.cl 10 5 c10 (by kernel_rfl)
                  rw [hL.un] at c5
                  cases c5
              have hC1 : Below wr.heap.size wr w1 := by rw [if_neg (by rw [h17]; simp)] at hC; exact hC
              have v4 : a'.eval (.tmp 39) = .pointer (some ⟨wI.heap.size, i, none⟩) := (hL.new 4 (by decide) (by kernel_rfl)).1.trans (hL.new 4 (by decide) (by kernel_rfl)).2
              exact wp_loadR (.tmp 39) wI.heap.size i cur rfl v4 (cell_up hC1 hcur) (hK _ _ (by simpa using hC) (Below.refl _ _) rfl)
            · cases ho
              exact wp_move1 (.tmp 9) (.int .i64 TT) rfl (hL.old 9 (by decide)) (hK _ _ (by simpa using hC) (Below.refl _ _) rfl)
            · cases ho
              exact wp_move1 (.tmp 5) (.int .i64 D) rfl (hL.old 5 (by decide)) (hK _ _ (by simpa using hC) (Below.refl _ _) rfl)
            · cases ho
              have h17 : L 10 = false := by
                cases e : L 10 with
                | false => rfl
                | true =>
                  exfalso
                  have c10 := e
                  have c9 := hL.cl 10 9 c10 (by kernel_rfl)
                  have c8 := hL.cl 9 8 c9 (by kernel_rfl)
                  rw [hL.un] at c8
                  cases c8
              have hC1 : Below wr.heap.size wr w1 := by rw [if_neg (by rw [h17]; simp)] at hC; exact hC
              have v6 : a'.eval (.tmp 41) = .int .i64 TT := (hL.new 6 (by decide) (by kernel_rfl)).1.trans (hL.new 6 (by decide) (by kernel_rfl)).2
              have v7 : a'.eval (.tmp 42) = .int .i64 D := (hL.new 7 (by decide) (by kernel_rfl)).1.trans (hL.new 7 (by decide) (by kernel_rfl)).2
              refine wp_callRat (.tmp 41) (.tmp 42) _ _ _ rfl v6 v7 (KRA.out _) (ratV R0 R1) ?_
              rintro e w9 ⟨rfl, hb9⟩
              exact ⟨rfl, hK _ _ (by simpa [h17] using (show Below wr.heap.size wr _ from bstep hC1 hb9)) hb9 rfl⟩
            · cases ho
              have h17 : L 10 = false := by
                cases e : L 10 with
                | false => rfl
                | true =>
                  exfalso
                  have c10 := e
                  have c9 := hL.cl 10 9 c10 (by kernel_rfl)
                  rw [hL.un] at c9
                  cases c9
              have hC1 : Below wr.heap.size wr w1 := by rw [if_neg (by rw [h17]; simp)] at hC; exact hC
              have v8 : a'.eval (.tmp 43) = ratV R0 R1 := (hL.new 8 (by decide) (by kernel_rfl)).1.trans (hL.new 8 (by decide) (by kernel_rfl)).2
              have hb1 : Below w1.heap.size w1 (w1.alloc (.cells #[.int .i64 R0, .int .i64 R1] 32)) := balloc (Below.refl _ _) _
              have hcc : (w1.alloc (.cells #[.int .i64 R0, .int .i64 R1] 32)).cell? ⟨w1.heap.size, 0, none⟩ = some (.int .i64 R0) ∧ (w1.alloc (.cells #[.int .i64 R0, .int .i64 R1] 32)).cell? ⟨w1.heap.size, 1, none⟩ = some (.int .i64 R1) := ⟨by simp [go_sem], by simp [go_sem]⟩
              exact wp_buildR (.tmp 43) R0 R1 rfl v8 (hK _ _ (by simpa [h17] using (show Below wr.heap.size wr _ from bstep hC1 hb1)) hb1 (.inr ⟨_, rfl, hcc.1, hcc.2⟩))
            · cases ho
              have h17 : L 10 = false := hL.un
              have hC1 : Below wr.heap.size wr w1 := by rw [if_neg (by rw [h17]; simp)] at hC; exact hC
              have v5 : a'.eval (.tmp 40) = cur := (hL.new 5 (by decide) (by kernel_rfl)).1.trans (hL.new 5 (by decide) (by kernel_rfl)).2
              obtain ⟨z1, z2⟩ := hL.new 9 (by decide) (by kernel_rfl)
              rcases z2 with z2 | ⟨g8, z2, z3, z4⟩
              · rw [h17] at z2; cases z2
              obtain ⟨ac, cc, rfl⟩ := own_slice HO5.out
              have hown := own_below HO5.out hC1
              refine wp_append_own _ (.tmp 40) (.tmp 44) 28 rfl wo.heap.size 32 i0 (.agg #[.int .i64 0, .int .i64 0]) 2 16 Try.underlying28 HI.out.1 HI.out.2.1 HI.out.2.2.1 HI.out.2.2.2 rfl (by decide) _ j _ v5 hown ⟨g8, 0, none⟩ 1 1 [.int .i64 R0, .int .i64 R1] (z1.trans z2) rfl (fun p u hu => ?_) (fun u hu => by simp at hu; rcases hu with rfl | rfl <;> rfl) (by unfold maxLen; omega) (by omega) (by have := hC1.size; omega) (fun v9 w9 h9 hg9 _ => hK _ _ ?_ (by exact hg9) ?_)
              · rcases p with _ | _ | p
                · simp at hu; subst hu; rw [Addr.add_lit]; exact z3
                · simp at hu; subst hu; rw [Addr.add_lit]; exact z4
                · simp at hu
              · exact grown_trans (grown_below hC1) hg9
              · show World.ownsRow _ _ _ _ _ _ _
                rw [HS.out, rats_snoc]; exact h9
            · cases ho
              have v0 : a'.eval (.tmp 35) = .slice (some ⟨wI.heap.size, 0, none⟩) F F := (hL.new 0 (by decide) (by kernel_rfl)).1.trans (hL.new 0 (by decide) (by kernel_rfl)).2
              have v1 : a'.eval (.tmp 36) = .int .i64 i := (hL.new 1 (by decide) (by kernel_rfl)).1.trans (hL.new 1 (by decide) (by kernel_rfl)).2
              exact wp_indexR (.tmp 35) (.tmp 36) wI.heap.size F F i rfl v0 v1 hlt (hK _ _ (by simpa using hC) (Below.refl _ _) rfl)
          case htail =>
            intro L w1 vs hL hC hF
            have o17 : w1.ownsRow wo.heap.size 32 2 (vs 10) (j + 1) (rats (RR i (j + 1))) := hF 10 (by decide)
            have e18 : vs 11 = .pointer (some ⟨wI.heap.size, i, none⟩) := hF 11 (by decide)
            have hg : wr.grownBy w1 cur.ownBlock := by rw [if_pos (hL 10 (by decide))] at hC; exact hC
            have hlow : ∀ b, cur.ownBlock = some b → wo.heap.size ≤ b := fun b hb => (HO5.out.lt b hb).1
            simp only [putAll, Act.put, List.setIfInBounds_toArray, List.set_cons_zero, List.set_cons_succ]
            rw [e18]
            generalize vs 10 = v17 at o17 ⊢
            obtain ⟨g3, c3, rfl⟩ := own_some o17 (by omega)
            have hg3 := own_base o17 _ rfl
            simp only at hg3
            have HG6 := HG5.out.grown hg hlow
            have hc6 : ∃ u, w1.cell? ⟨wI.heap.size, i, none⟩ = some u := ⟨_, HG6.curAt hlt⟩
            obtain ⟨u6, hc6⟩ := hc6
            have hf6 := HG6.og.frozen i
            have HG7 := Lib.hid (HG6.setCur hlt (.slice (some ⟨g3, 0, none⟩) (j + 1) c3))
            have HO7 := Lib.hid (o17.kept (grown_set' _ ⟨wI.heap.size, i, none⟩ (.slice (some ⟨g3, 0, none⟩) (j + 1) c3)) (.inr (by simp [Value.ownBlock]; omega)))
            have hsz7 : wo.heap.size ≤ w1.heap.size := by omega
            have HB7 : Hid (Below wI.heap.size wI (w1.setCell ⟨wI.heap.size, i, none⟩ (.slice (some ⟨g3, 0, none⟩) (j + 1) c3))) := bset (HB5.out.grown hg (by omega) (fun b hb => by have := hlow b hb; omega)) (Nat.le_refl _) _
            clear HG6 o17 hg hlow hC hF hcur hrv
            go_wp2_with fail
            go_roundw
            case rel => exact ⟨j + 1, _, by omega, by go_num, HG7.out, HO7.out, by simpa using hsz7, HB7.out⟩
            case measure => simp [intOf]; omega
        · skip
          obtain rfl : j = F := by omega
          obtain ⟨g3, c3, rfl⟩ := own_some HO5.out (by omega)
          have hg3 := own_base HO5.out _ rfl
          simp only at hg3
          have HG8 := HG5.out.next HO5.out (by have := HB.out.size; omega)
          have HG9 := Lib.hid (HG8.congr (xs' := fun q => rats (RR q j)) (fun q hq => by
            by_cases e : q = i
            · simp only [e, if_true]
            · simp only [if_neg e]))
          clear HG8
          go_wp2_with fail
          go_roundw
          case rel => exact ⟨i + 1, _, _, by omega, by go_num, HG9.out, HB5.out⟩
          case measure => simp [intOf]; omega
    · skip
      obtain rfl : i = F := by omega
      have HB3 : Hid (Below (w.heap.size + 1) (NBox M i S a n c w) wr) := HB2.out.trans (HB.out.mono (by omega))
      have HGF := Lib.hid (GT.gridR HG.out (fun q => HRL.out q i) (by unfold maxLen; omega))
      clear HB2 HB HG
      obtain ⟨hB1, hz1, u1, hz2, hz3⟩ := nbox_cells HB3.out
      go_wp2_with fail
      go_returns
      exact ⟨_, _, rfl, by rw [HRM.out]; exact HGF.out, hB1⟩
end Go.Proofs.Ytjchindjoailbaa
