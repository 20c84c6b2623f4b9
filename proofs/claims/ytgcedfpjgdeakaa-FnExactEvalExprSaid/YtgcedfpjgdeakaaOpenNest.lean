/- How the laws' arguments that are slices of slices are opened. -/
import Derived.Test.YtgcedfpjgdeakaaOpenRec
import Derived.Test.YtgcedfpjgdeakaaHeld
namespace Go.Proofs.Ytgcedfpjgdeakaa
open Go.ChangeShapes Go.WideShapes Go.ChangeAt Go.RowKit Go.Deep
set_option linter.all false

section
variable {H : Type} {enc : TypeId × Value → H} {P : Program} {w : World} {base : Nat} {spare : Nat → Bool} {held : Bool}

/-- A slice in a cell. -/
theorem slice_cell {α : Type} (f : α → List Value) (ok : α → Prop) {s : Nat} (hs : ∀ x, (f x).length = s) (hs0 : 0 < s) {e e2 : TypeId} (he : P.underlying e = some (.slice e2)) (hC2 : P.cellsOf e2 = s)
    (helem : ∀ fuel cs x, DataW.trod enc P w base spare held fuel e2 cs = some x → ∃ a, cs = f a ∧ ok a) {fuel : Nat} {cs : List Value} {x : DataW H × List MemPlace} (h : DataW.trod enc P w base spare held fuel e cs = some x) :
    ∃ (A : Option Addr) (c : Nat) (t : List α), cs = [.slice A t.length c] ∧ Args s w A t.length (rows f t) ∧ (∀ x ∈ t, ok x) ∧ t.length ≤ maxLen := by
  rcases open_slice he h with ⟨rfl, _⟩ | ⟨a, len, cap, m, n', D, Pl, rfl, _, _, _, _, _, _⟩
  · exact ⟨none, 0, [], rfl, Args.of_nil _ _ _, by simp, by simp [maxLen]⟩
  · obtain ⟨t, ht, hok, hm⟩ := args_of_trod f ok hs hs0 he hC2 helem (A := some a) (n := len) (c := cap) (d := x.1) (ps := x.2) ⟨fuel, h⟩
    have hl : t.length = len := by have := ht.1; rw [rows_len hs] at this; exact Nat.eq_of_mul_eq_mul_right hs0 this
    subst hl
    exact ⟨some a, cap, t, rfl, ht, hok, hm⟩

theorem arg_nested {α : Type} (f : α → List Value) (ok : α → Prop) {s : Nat} (hs : ∀ x, (f x).length = s) (hs0 : 0 < s) {t e e2 : TypeId} {A : Option Addr} {n c : Nat} {d : DataW H} {ps : List MemPlace} (ht : P.underlying t = some (.slice e)) (hC : P.cellsOf e = 1) (he : P.underlying e = some (.slice e2)) (hC2 : P.cellsOf e2 = s)
    (helem : ∀ fuel cs x, DataW.trod enc P w base spare held fuel e2 cs = some x → ∃ a, cs = f a ∧ ok a)
    (h : DataW.Trod enc P w base spare held t (.slice A n c) d ps) : ∃ (vs : List Value) (ts : List (List α)), Arg w A n vs ∧ Ins s f w vs ts ∧ (∀ t ∈ ts, (∀ x ∈ t, ok x) ∧ t.length ≤ maxLen) ∧ n ≤ maxLen := by
  obtain ⟨ps2, h1, h2, h3⟩ := arg_of_trod (α := Value × List α) (fun p => p.1) (fun p => (∃ A c, p.1 = .slice A p.2.length c ∧ Args s w A p.2.length (rows f p.2)) ∧ (∀ x ∈ p.2, ok x) ∧ p.2.length ≤ maxLen) ht hC (fun fuel cs x hx => by
    obtain ⟨A, c, t, rfl, ha, hok, hm⟩ := slice_cell f ok hs hs0 he hC2 helem hx
    exact ⟨(.slice A t.length c, t), rfl, ⟨A, c, rfl, ha⟩, hok, hm⟩) h
  refine ⟨ps2.map (·.1), ps2.map (·.2), h1, ⟨by simp, fun j v t hv ht => ?_⟩, fun t ht => ?_, h3⟩
  · rw [List.getElem?_map] at hv ht
    obtain ⟨p, hp, rfl⟩ := Option.map_eq_some_iff.1 hv
    rw [hp] at ht
    simp at ht
    subst ht
    obtain ⟨⟨A, c, e1, ha⟩, _⟩ := h2 p (List.mem_of_getElem? hp)
    exact ⟨A, c, e1, ha⟩
  · obtain ⟨p, hp, rfl⟩ := List.mem_map.1 ht
    exact (h2 p hp).2

theorem elem_int {e : TypeId} (he : P.underlying e = some (.int .i64)) : ∀ fuel cs x, DataW.trod enc P w base spare held fuel e cs = some x → ∃ a, cs = oneI a ∧ Wf64 a := fun fuel cs x hx => by
  obtain ⟨b, hb, _, hw⟩ := DataW.trod_int he hx
  exact ⟨b, hb, wf64_of hw⟩
theorem elem_bool {e : TypeId} (he : P.underlying e = some .bool) : ∀ fuel cs x, DataW.trod enc P w base spare held fuel e cs = some x → ∃ a, cs = oneB a ∧ True := fun fuel cs x hx => by
  obtain ⟨b, hb, _⟩ := DataW.trod_bool he hx
  exact ⟨b, hb, trivial⟩
theorem elem_rec2 {e : TypeId} {f0 f1 : Field} (hC : P.cellsOf e = 2) (he : P.underlying e = some (.struct #[f0, f1])) (hone : oneCellFields P #[f0, f1] = true)
    (h0 : P.underlying f0.type = some (.int .i64)) (h1 : P.underlying f1.type = some (.int .i64)) : ∀ fuel cs x, DataW.trod enc P w base spare held fuel e cs = some x → ∃ a, cs = R2.vs a ∧ R2.wf a := fun fuel cs x hx => by
  obtain ⟨xs, n', _, hx', hcl, hlen, hg⟩ := DataW.trod_struct he hx
  obtain ⟨o0, k0⟩ := hone_of hone 0 f0 rfl
  obtain ⟨o1, k1⟩ := hone_of hone 1 f1 rfl
  rw [hC] at hcl
  match cs, hcl with
  | [c0, c1], _ =>
    match xs, hlen with
    | [y0, y1], _ =>
      obtain ⟨a0, rfl, w0⟩ := one_of h0 (by simpa [o0, k0] using hg 0 f0 rfl)
      obtain ⟨a1, rfl, w1⟩ := one_of h1 (by simpa [o1, k1] using hg 1 f1 rfl)
      exact ⟨⟨a0, a1⟩, rfl, w0, w1⟩
end
end Go.Proofs.Ytgcedfpjgdeakaa
