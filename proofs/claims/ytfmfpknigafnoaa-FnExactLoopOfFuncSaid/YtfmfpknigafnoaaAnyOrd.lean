/- A region that draws its order, walked by facts: what each operation leaves, whatever came before it; no order is named. Plain laws. -/
import Derived.Test.YtfmfpknigafnoaaApp
import Derived.Orders
namespace Go.Proofs.Ytfmfpknigafnoaa
open Go.RowKit
set_option linter.all false

/-- What an operation leaves, said of its value and the memory; what is added to memory leaves it true. -/
structure Fact where
  p : Value → World → Prop
  mono : ∀ v w w', p v w → Below w.heap.size w w' → p v w'
def factAt (fs : List Fact) (i : Nat) (v : Value) (w : World) : Prop := match fs[i]? with | some f => f.p v w | none => True
theorem factAt_mono {fs : List Fact} {i : Nat} {v : Value} {w w' : World} (h : factAt fs i v w) (hb : Below w.heap.size w w') : factAt fs i v w' := by
  unfold factAt at *
  split
  · rename_i f hf; rw [hf] at h; exact f.mono _ _ _ h hb
  · trivial
/-- One operation: from the facts of those that it waits for, its own. -/
def StepOk (P : Program) (fs : List Fact) (ds : List Nat) (Q : Exit → Act → World → Prop) (a0 : Act) (w0 : World) (i : Nat) (o : Oper) : Prop :=
  ∀ a w, Below w0.heap.size w0 w → (∀ t, ds.contains t = false → a.eval (.tmp t) = a0.eval (.tmp t)) →
    (∀ e ∈ o.after, Region.binds .any e = true → ∀ d, ds[e.on]? = some d → factAt fs e.on (a.eval (.tmp d)) w) →
    ∀ K : Act → World → Prop, (∀ v w', factAt fs i v w' → Below w.heap.size w w' → K (a.put o.dst v) w') → o.wp P a w K Q
def AllFrom (R : Nat → Oper → Prop) : Nat → List Oper → Prop
  | _, [] => True
  | k, o :: l => R k o ∧ AllFrom R (k + 1) l
theorem AllFrom.get {R : Nat → Oper → Prop} : ∀ {l : List Oper} {k : Nat}, AllFrom R k l → ∀ {j : Nat} {o : Oper}, l[j]? = some o → R (k + j) o
  | [], _, _, j, o, h => by simp at h
  | o' :: l, k, h, 0, o, hj => by simp at hj; subst hj; exact h.1
  | o' :: l, k, h, j + 1, o, hj => by
    have := h.2.get (j := j) (o := o) (by simpa using hj)
    rw [show k + (j + 1) = k + 1 + j by omega]; exact this
/-- The region's form: a slot for each operation, no guard, and no operation waits for a later one. -/
def regionOk (l : List Oper) (ds : List Nat) (n : Nat) : Bool :=
  decide (l.map (·.dst) = ds.map some) && decide ds.Nodup && ds.all (fun d => decide (d < n)) && l.all (fun o => o.guard.isNone) &&
    (List.range l.length).all fun i => match l[i]? with | some o => o.after.all fun e => decide (e.on < i) | none => true

def unlisted (b : Array Bool) : Nat := (b.toList.filter (!·)).length
theorem unlisted_set (b : Array Bool) (i : Nat) (h : b[i]? = some false) : unlisted (b.setIfInBounds i true) + 1 = unlisted b := by
  unfold unlisted
  have hi : i < b.size := (Array.getElem?_eq_some_iff.1 h).1
  have hx : b.toList[i]? = some false := by simpa using h
  rw [Array.toList_setIfInBounds]
  obtain ⟨l⟩ := b
  simp only at hx ⊢
  clear h hi
  induction l generalizing i with
  | nil => simp at hx
  | cons x l ih =>
    cases i with
    | zero => simp at hx; subst hx; simp
    | succ i =>
      rw [List.set_cons_succ, List.filter_cons, List.filter_cons]
      have := ih i (by simpa using hx)
      cases x <;> simp <;> omega
theorem all_of_none {b : Array Bool} (h : unlisted b = 0) (i : Nat) (hi : i < b.size) : b[i]? = some true := by
  unfold unlisted at h
  have h2 := List.eq_nil_of_length_eq_zero h
  rw [List.filter_eq_nil_iff] at h2
  have hx : b.toList[i]'(by simpa using hi) ∈ b.toList := List.getElem_mem _
  have := h2 _ hx
  rw [Array.getElem?_eq_getElem hi]
  simpa using this

theorem region_facts {P : Program} {id : Nat} {l : List Oper} {Q : Exit → Act → World → Prop} {a0 : Act} {w0 : World} (hm : P.follows .mixedOrders = true) (fs : List Fact) (ds : List Nat) (hok : regionOk l ds a0.tmps.size = true)
    (hstep : AllFrom (StepOk P fs ds Q a0 w0) 0 l)
    (hend : ∀ a w, Below w0.heap.size w0 w → a.defers = a0.defers → a.tmps.size = a0.tmps.size → (∀ t, ds.contains t = false → a.eval (.tmp t) = a0.eval (.tmp t)) → (∀ i d, ds[i]? = some d → factAt fs i (a.eval (.tmp d)) w) → Q .normal a w) :
    (Code.region id l.toArray true).wp P Q a0 w0 := by
  unfold regionOk at hok
  simp only [Bool.and_eq_true, decide_eq_true_eq, List.all_eq_true, List.mem_range] at hok
  obtain ⟨⟨⟨⟨hd, hnd⟩, hsz⟩, hgd⟩, hac⟩ := hok
  have hlen : l.length = ds.length := by have := congrArg List.length hd; simpa using this
  have hdst : ∀ {i : Nat} {o : Oper}, l[i]? = some o → ∃ d, o.dst = some d ∧ ds[i]? = some d := by
    intro i o h
    have h1 : (l.map (·.dst))[i]? = some o.dst := by rw [List.getElem?_map, h]; rfl
    rw [hd, List.getElem?_map] at h1
    cases h2 : ds[i]? with
    | none => rw [h2] at h1; simp at h1
    | some d => rw [h2] at h1; simp at h1; exact ⟨d, h1.symm, rfl⟩
  refine wp_region_any hm ?_
  have main : ∀ (fuel : Nat) (b : Array Bool) (a : Act) (w : World), unlisted b ≤ fuel → b.size = l.length → Below w0.heap.size w0 w → a.defers = a0.defers → a.tmps.size = a0.tmps.size → (∀ t, ds.contains t = false → a.eval (.tmp t) = a0.eval (.tmp t)) →
      (∀ i d, b[i]? = some true → ds[i]? = some d → factAt fs i (a.eval (.tmp d)) w) → wpAny P .any l.toArray Q fuel b a w := by
    have done : ∀ (b : Array Bool) (a : Act) (w : World), b.size = l.length → Below w0.heap.size w0 w → a.defers = a0.defers → a.tmps.size = a0.tmps.size → (∀ t, ds.contains t = false → a.eval (.tmp t) = a0.eval (.tmp t)) →
        (∀ i d, b[i]? = some true → ds[i]? = some d → factAt fs i (a.eval (.tmp d)) w) → Region.ready .any l.toArray b = [] → Q .normal a w := by
      intro b a w hbs hB hdf hts hin hf hr
      have hall : ∀ i, i < l.length → b[i]? = some true := by
        intro i
        induction i using Nat.strongRecOn with
        | _ i ih =>
          intro hi
          cases hbi : b[i]'(by omega) with
          | true => rw [Array.getElem?_eq_getElem (by omega), hbi]
          | false =>
            exfalso
            have hmem : i ∈ Region.ready .any l.toArray b := by
              rw [mem_ready]
              refine ⟨by simp [Array.getD, show i < b.size by omega, hbi], l[i], by simp [hi], fun e he _ => ?_⟩
              have h1 := hac i hi
              rw [List.getElem?_eq_getElem hi] at h1
              simp only [Array.all_eq_true_iff_forall_mem, decide_eq_true_eq] at h1
              have h2 := h1 e he
              have h3 := ih e.on h2 (by omega)
              simp [h3]
            rw [hr] at hmem; cases hmem
      refine hend a w hB hdf hts hin fun i d hid => ?_
      have hi : i < l.length := by rw [hlen]; exact (List.getElem?_eq_some_iff.1 hid).1
      exact hf i d (hall i hi) hid
    intro fuel
    induction fuel with
    | zero =>
      intro b a w hu hbs hB hdf hts hin hf
      have hr : Region.ready .any l.toArray b = [] := by
        rw [List.eq_nil_iff_forall_not_mem]
        intro i hi
        obtain ⟨h1, o, h2, _⟩ := mem_ready.1 hi
        have hil : i < l.length := by have := (Array.getElem?_eq_some_iff.1 h2).1; simpa using this
        have h3 := all_of_none (b := b) (by omega) i (by omega)
        simp [h3] at h1
      exact ⟨hr, done b a w hbs hB hdf hts hin hf hr⟩
    | succ fuel ih =>
      intro b a w hu hbs hB hdf hts hin hf
      refine ⟨done b a w hbs hB hdf hts hin hf, fun i hi => ?_⟩
      obtain ⟨h1, o, h2, h3⟩ := mem_ready.1 hi
      have hil : i < l.length := by have := (Array.getElem?_eq_some_iff.1 h2).1; simpa using this
      have ho : l[i]? = some o := by simpa using h2
      obtain ⟨d, hod, hid⟩ := hdst ho
      have hbi : b[i]? = some false := by
        rw [Array.getElem?_eq_getElem (by omega)]
        simp [Array.getD, show i < b.size by omega] at h1
        rw [h1]
      have hs := hstep.get ho
      rw [Nat.zero_add] at hs
      have hgn : o.guard = none := by have := hgd o (List.mem_of_getElem? ho); simpa using this
      unfold wpOp
      simp only [h2]
      have hw : Region.wanted o (yielded l.toArray a.tmps) = true := by simp [Region.wanted, hgn]
      rw [if_pos hw]
      refine .inl (hs a w hB hin (fun e he hb d' hd' => ?_) _ fun v w' hv hb' => ?_)
      · have h4 := h3 e he hb
        refine hf e.on d' ?_ hd'
        have hon : e.on < l.length := by rw [hlen]; exact (List.getElem?_eq_some_iff.1 hd').1
        rw [Array.getElem?_eq_getElem (by omega)]
        simp [Array.getD, show e.on < b.size by omega] at h4
        rw [h4]
      · have hev : ∀ t, t ≠ d → (a.put o.dst v).eval (.tmp t) = a.eval (.tmp t) := fun t ht => Act.eval_put fun d' hd' e => by
          rw [hod] at hd'; injection hd' with hd'; injection e with e; exact ht (by rw [hd']; exact e)
        have hdm : d ∈ ds := List.mem_of_getElem? hid
        have hself : (a.put o.dst v).eval (.tmp d) = v := by
          rw [hod]
          have := hsz d hdm
          simp [Act.put, Act.eval, hts, this]
        refine ih _ _ _ (by have := unlisted_set b i hbi; omega) (by simp [hbs]) (hB.trans (hb'.mono hB.size)) ?_ ?_ ?_ ?_
        · rw [hod]; exact hdf
        · rw [hod]; simp [Act.put, hts]
        · intro t ht
          rw [hev t (by rintro rfl; simp [hdm] at ht)]
          exact hin t ht
        · intro j d' hj hd'
          by_cases hji : j = i
          · subst hji
            rw [hid] at hd'; injection hd' with hd'; subst hd'
            rw [hself]; exact hv
          · have hne : d' ≠ d := by
              rintro rfl
              have e1 := (List.getElem?_eq_some_iff.1 hd')
              have e2 := (List.getElem?_eq_some_iff.1 hid)
              obtain ⟨a1, a2⟩ := e1
              obtain ⟨b1, b2⟩ := e2
              have hpw := List.pairwise_iff_getElem.1 hnd
              rcases Nat.lt_or_gt_of_ne hji with hlt | hlt
              · exact hpw j i a1 b1 hlt (by rw [a2, b2])
              · exact hpw i j b1 a1 hlt (by rw [a2, b2])
            rw [hev d' hne]
            refine factAt_mono (hf j d' ?_ hd') hb'
            rw [Array.getElem?_setIfInBounds_ne (Ne.symm hji)] at hj
            exact hj
  refine main l.toArray.size _ a0 _ ?_ (by simp) ?_ rfl rfl (fun _ _ => rfl) ?_
  · unfold unlisted; simp
  · exact ⟨rfl, rfl, rfl, Nat.le_refl _, fun _ _ => rfl⟩
  · intro i d hi _
    rw [Array.getElem?_replicate] at hi
    split at hi <;> simp at hi
end Go.Proofs.Ytfmfpknigafnoaa
