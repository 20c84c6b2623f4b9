/- How the laws' arguments are opened: a slice that came in reads as a list of its elements' cells. -/
import Derived.Test.YtgcedfpjgdeakaaBase
import Derived.ProofKit
import Derived.OpenShut
import Derived.ShutString
import Derived.ChangeOld
import Derived.Deep.Slices
namespace Go.Proofs.Ytgcedfpjgdeakaa
open Go.ChangeShapes Go.WideShapes Go.ChangeAt Go.RowKit Go.Deep
open Go.ChangeMaps (open_string shut_string)

theorem own : ownKnob Try.prog.godebug = none := by kernel_rfl
theorem laidOut : laidOutB Try.prog = true := by kernel_rfl

theorem list_of_fun {α : Type} (n : Nat) (p : Nat → α → Prop) (h : ∀ i, i < n → ∃ x, p i x) : ∃ xs : List α, xs.length = n ∧ ∀ i x, xs[i]? = some x → p i x := by
  induction n with
  | zero => exact ⟨[], rfl, by simp⟩
  | succ n ih =>
    obtain ⟨xs, hl, hp⟩ := ih (fun i hi => h i (by omega))
    obtain ⟨x, hx⟩ := h n (by omega)
    refine ⟨xs ++ [x], by simp [hl], fun i y hy => ?_⟩
    rw [List.getElem?_append] at hy
    split at hy
    · exact hp i y hy
    · rw [List.getElem?_singleton] at hy
      split at hy
      · injection hy with hy
        subst hy
        obtain rfl : i = n := by omega
        exact hx
      · cases hy

theorem add_none {b off j : Nat} : (⟨b, off, none⟩ : Addr).add j = ⟨b, off + j, none⟩ := by
  unfold Addr.add
  split
  · rename_i h; subst h; rfl
  · rfl

section
variable {H : Type} {enc : TypeId × Value → H} {P : Program} {w : World} {base : Nat} {spare : Nat → Bool} {held : Bool}

/-- A slice of one-cell elements that came in. 'helem' says how an element's cell reads. -/
theorem arg_of_trod {α : Type} (f : α → Value) (ok : α → Prop) {t e : TypeId} {A : Option Addr} {n c : Nat} {d : DataW H} {ps : List MemPlace} (ht : P.underlying t = some (.slice e)) (hC : P.cellsOf e = 1)
    (helem : ∀ fuel cs x, DataW.trod enc P w base spare held fuel e cs = some x → ∃ a, cs = [f a] ∧ ok a)
    (h : DataW.Trod enc P w base spare held t (.slice A n c) d ps) : ∃ xs : List α, Arg w A n (xs.map f) ∧ (∀ x ∈ xs, ok x) ∧ n ≤ maxLen := by
  obtain ⟨fuel, hf⟩ := h
  rcases open_slice ht hf with ⟨h0, _⟩ | ⟨a, len, cap, m, n', D, Pl, hcs, _, hl, hm, hmm, _, hi⟩
  · simp [Value.cells] at h0
    obtain ⟨rfl, rfl, rfl⟩ := h0
    exact ⟨[], Arg.of_nil _ _, by simp, by simp [maxLen]⟩
  · simp [Value.cells] at hcs
    obtain ⟨rfl, rfl, rfl⟩ := hcs
    have hnm : n ≤ m := by rw [hmm]; split <;> omega
    have hex : ∀ i, i < n → ∃ x : α, w.cell? (a.add i) = some (f x) ∧ ok x := by
      intro i hin
      obtain ⟨cs', hc, ht'⟩ := hi i (by omega)
      rw [hC] at hc
      obtain ⟨x, rfl, hok⟩ := helem _ _ _ ht'
      obtain ⟨_, _, hat⟩ := World.cells?_some hc
      refine ⟨x, ?_, hok⟩
      have := hat 0 (by omega)
      simpa [Addr.add] using this
    obtain ⟨xs, hlen, hp⟩ := list_of_fun n _ hex
    refine ⟨xs, ⟨by simp [hlen], ?_⟩, fun x hx => by obtain ⟨i, hi⟩ := List.getElem?_of_mem hx; exact (hp i x hi).2, by omega⟩
    rcases Nat.eq_zero_or_pos n with h0 | h0
    · exact .inl h0
    · obtain ⟨b, off, spot⟩ := a
      obtain ⟨x0, hx0, _⟩ := hex 0 h0
      have hspot : spot = none := by simpa [Addr.add] using World.cell?_spot hx0
      subst hspot
      refine .inr ⟨b, off, rfl, World.block_lt_of_cell? w _ (by simpa [Addr.add] using hx0), fun j u hu => ?_⟩
      rw [List.getElem?_map] at hu
      obtain ⟨x, hx, rfl⟩ := Option.map_eq_some_iff.1 hu
      rw [← add_none]
      exact (hp j x hx).1

theorem arg_bools {t e : TypeId} {A : Option Addr} {n c : Nat} {d : DataW H} {ps : List MemPlace} (ht : P.underlying t = some (.slice e)) (hC : P.cellsOf e = 1) (he : P.underlying e = some .bool)
    (h : DataW.Trod enc P w base spare held t (.slice A n c) d ps) : ∃ xs : List Bool, Arg w A n (xs.map Value.bool) ∧ n ≤ maxLen := by
  obtain ⟨xs, h1, _, h3⟩ := arg_of_trod Value.bool (fun _ => True) ht hC (fun fuel cs x hx => by obtain ⟨b, hb, _⟩ := DataW.trod_bool he hx; exact ⟨b, hb, trivial⟩) h
  exact ⟨xs, h1, h3⟩

theorem arg_ints {k : IntKind} {t e : TypeId} {A : Option Addr} {n c : Nat} {d : DataW H} {ps : List MemPlace} (ht : P.underlying t = some (.slice e)) (hC : P.cellsOf e = 1) (he : P.underlying e = some (.int k))
    (h : DataW.Trod enc P w base spare held t (.slice A n c) d ps) : ∃ xs : List Int, Arg w A n (xs.map (Value.int k)) ∧ (∀ x ∈ xs, (Lit.int k x).wf = true) ∧ n ≤ maxLen :=
  arg_of_trod (Value.int k) (fun x => (Lit.int k x).wf = true) ht hC (fun fuel cs x hx => by obtain ⟨b, hb, _, hw⟩ := DataW.trod_int he hx; exact ⟨b, hb, hw⟩) h

theorem arg_strings {t e : TypeId} {A : Option Addr} {n c : Nat} {d : DataW H} {ps : List MemPlace} (ht : P.underlying t = some (.slice e)) (hC : P.cellsOf e = 1) (he : P.underlying e = some .string)
    (h : DataW.Trod enc P w base spare held t (.slice A n c) d ps) : ∃ xs : List ByteArray, Arg w A n (xs.map Value.string) ∧ (∀ x ∈ xs, x.size ≤ maxLen) ∧ n ≤ maxLen :=
  arg_of_trod Value.string (fun x => x.size ≤ maxLen) ht hC (fun fuel cs x hx => by obtain ⟨b, hb, _, hw⟩ := DataW.trod_string he hx; exact ⟨b, hb, hw⟩) h
end
end Go.Proofs.Ytgcedfpjgdeakaa
