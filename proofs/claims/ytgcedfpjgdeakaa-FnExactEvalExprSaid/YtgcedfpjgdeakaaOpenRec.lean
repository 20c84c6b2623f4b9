/- How the laws' arguments that are slices of records of numbers are opened. -/
import Derived.Test.YtgcedfpjgdeakaaOpen
import Derived.Test.YtgcedfpjgdeakaaRec
import Derived.Deep.Fields
import Derived.ChangeSame
namespace Go.Proofs.Ytgcedfpjgdeakaa
open Go.ChangeShapes Go.WideShapes Go.ChangeAt Go.RowKit Go.Deep
set_option linter.all false

section
variable {H : Type} {enc : TypeId × Value → H} {P : Program} {w : World} {base : Nat} {spare : Nat → Bool} {held : Bool}

theorem args_of_trod {α : Type} (f : α → List Value) (ok : α → Prop) {s : Nat} (hs : ∀ x, (f x).length = s) (hs0 : 0 < s) {t e : TypeId} {A : Option Addr} {n c : Nat} {d : DataW H} {ps : List MemPlace} (ht : P.underlying t = some (.slice e)) (hC : P.cellsOf e = s)
    (helem : ∀ fuel cs x, DataW.trod enc P w base spare held fuel e cs = some x → ∃ a, cs = f a ∧ ok a)
    (h : DataW.Trod enc P w base spare held t (.slice A n c) d ps) : ∃ xs : List α, Args s w A n (rows f xs) ∧ (∀ x ∈ xs, ok x) ∧ n ≤ maxLen := by
  obtain ⟨fuel, hf⟩ := h
  rcases open_slice ht hf with ⟨h0, _⟩ | ⟨a, len, cap, m, n', D, Pl, hcs, _, hl, hm, hmm, _, hi⟩
  · simp [Value.cells] at h0
    obtain ⟨rfl, rfl, rfl⟩ := h0
    exact ⟨[], Args.of_nil _ _ _, by simp, by simp [maxLen]⟩
  · simp [Value.cells] at hcs
    obtain ⟨rfl, rfl, rfl⟩ := hcs
    have hnm : n ≤ m := by rw [hmm]; split <;> omega
    have hex : ∀ i, i < n → ∃ x : α, (∀ j u, (f x)[j]? = some u → w.cell? (a.add (i * s + j)) = some u) ∧ ok x := by
      intro i hin
      obtain ⟨cs', hc, ht'⟩ := hi i (by omega)
      rw [hC] at hc
      obtain ⟨x, rfl, hok⟩ := helem _ _ _ ht'
      obtain ⟨_, _, hat⟩ := World.cells?_some hc
      refine ⟨x, fun j u hu => ?_, hok⟩
      have hj : j < s := by rw [← hs x]; exact (List.getElem?_eq_some_iff.1 hu).1
      have := hat j hj
      rw [← Go.Deep.add_add, this, hu]
    obtain ⟨xs, hlen, hp⟩ := list_of_fun n _ hex
    refine ⟨xs, ⟨by rw [rows_len hs, hlen], ?_⟩, fun x hx => by obtain ⟨i, hi⟩ := List.getElem?_of_mem hx; exact (hp i x hi).2, by omega⟩
    rcases Nat.eq_zero_or_pos n with h0 | h0
    · exact .inl h0
    · obtain ⟨b, off, spot⟩ := a
      obtain ⟨x0, hx0, _⟩ := hex 0 h0
      have hx0' := hx0 0 ((f x0)[0]'(by rw [hs]; exact hs0)) (List.getElem?_eq_getElem _)
      have hspot : spot = none := by simpa [Addr.add] using World.cell?_spot hx0'
      subst hspot
      refine .inr ⟨b, off, rfl, World.block_lt_of_cell? w _ (by simpa [Addr.add] using hx0'), fun j u hu => ?_⟩
      have hjl : j < n * s := by have := (List.getElem?_eq_some_iff.1 hu).1; rw [rows_len hs, hlen] at this; exact this
      have hq : j / s < n := Nat.div_lt_of_lt_mul (by rw [Nat.mul_comm]; exact hjl)
      have hm : j % s < s := Nat.mod_lt _ hs0
      have hjj : j = j / s * s + j % s := by rw [Nat.mul_comm]; exact (Nat.div_add_mod j s).symm
      have hx : xs[j / s]? = some (xs[j / s]'(by omega)) := List.getElem?_eq_getElem _
      rw [hjj, rows_at hs hx hm] at hu
      rw [hjj, ← add_none]
      exact (hp _ _ hx).1 _ _ hu

theorem one_of {n : Nat} {ty : TypeId} {v : Value} {y : DataW H × List MemPlace} (hu : P.underlying ty = some (.int .i64)) (h : DataW.trod enc P w base spare held n ty [v] = some y) : ∃ x : Int, v = .int .i64 x ∧ Wf64 x := by
  obtain ⟨b, hb, _, hw⟩ := DataW.trod_int hu h
  exact ⟨b, by simpa using hb, wf64_of hw⟩

theorem args_recs2 {t e : TypeId} {f0 f1 : Field} {A : Option Addr} {n c : Nat} {d : DataW H} {ps : List MemPlace} (ht : P.underlying t = some (.slice e)) (hC : P.cellsOf e = 2) (he : P.underlying e = some (.struct #[f0, f1])) (hone : oneCellFields P #[f0, f1] = true)
    (h0 : P.underlying f0.type = some (.int .i64)) (h1 : P.underlying f1.type = some (.int .i64)) (h : DataW.Trod enc P w base spare held t (.slice A n c) d ps) : ∃ xs : List R2, Args 2 w A n (rows R2.vs xs) ∧ (∀ x ∈ xs, x.wf) ∧ n ≤ maxLen := by
  refine args_of_trod R2.vs R2.wf R2.vs_len (by omega) ht hC (fun fuel cs x hx => ?_) h
  obtain ⟨xs, n', _, hx', hcl, hlen, hg⟩ := DataW.trod_struct he hx
  obtain ⟨o0, k0⟩ := hone_of hone 0 f0 rfl
  obtain ⟨o1, k1⟩ := hone_of hone 1 f1 rfl
  rw [hC] at hcl
  match cs, hcl with
  | [c0, c1], _ =>
    match xs, hlen with
    | [y0, y1], _ =>
      obtain ⟨a0, rfl, w0⟩ := one_of h0 (by simpa [o0, k0] using hg 0 f0 rfl)
      obtain ⟨a1, rfl, w1⟩ := one_of h1 (by simpa [o1, k1] using hg 1 f1 rfl)
      exact ⟨⟨a0, a1⟩, rfl, w0, w1⟩

theorem args_recs3 {t e : TypeId} {f0 f1 f2 : Field} {A : Option Addr} {n c : Nat} {d : DataW H} {ps : List MemPlace} (ht : P.underlying t = some (.slice e)) (hC : P.cellsOf e = 3) (he : P.underlying e = some (.struct #[f0, f1, f2])) (hone : oneCellFields P #[f0, f1, f2] = true)
    (h0 : P.underlying f0.type = some (.int .i64)) (h1 : P.underlying f1.type = some (.int .i64)) (h2 : P.underlying f2.type = some (.int .i64)) (h : DataW.Trod enc P w base spare held t (.slice A n c) d ps) : ∃ xs : List R3, Args 3 w A n (rows R3.vs xs) ∧ (∀ x ∈ xs, x.wf) ∧ n ≤ maxLen := by
  refine args_of_trod R3.vs R3.wf R3.vs_len (by omega) ht hC (fun fuel cs x hx => ?_) h
  obtain ⟨xs, n', _, hx', hcl, hlen, hg⟩ := DataW.trod_struct he hx
  obtain ⟨o0, k0⟩ := hone_of hone 0 f0 rfl
  obtain ⟨o1, k1⟩ := hone_of hone 1 f1 rfl
  obtain ⟨o2, k2⟩ := hone_of hone 2 f2 rfl
  rw [hC] at hcl
  match cs, hcl with
  | [c0, c1, c2], _ =>
    match xs, hlen with
    | [y0, y1, y2], _ =>
      obtain ⟨a0, rfl, w0⟩ := one_of h0 (by simpa [o0, k0] using hg 0 f0 rfl)
      obtain ⟨a1, rfl, w1⟩ := one_of h1 (by simpa [o1, k1] using hg 1 f1 rfl)
      obtain ⟨a2, rfl, w2⟩ := one_of h2 (by simpa [o2, k2] using hg 2 f2 rfl)
      exact ⟨⟨a0, a1, a2⟩, rfl, w0, w1, w2⟩

theorem args_recs4 {t e : TypeId} {f0 f1 f2 f3 : Field} {A : Option Addr} {n c : Nat} {d : DataW H} {ps : List MemPlace} (ht : P.underlying t = some (.slice e)) (hC : P.cellsOf e = 4) (he : P.underlying e = some (.struct #[f0, f1, f2, f3])) (hone : oneCellFields P #[f0, f1, f2, f3] = true)
    (h0 : P.underlying f0.type = some (.int .i64)) (h1 : P.underlying f1.type = some (.int .i64)) (h2 : P.underlying f2.type = some (.int .i64)) (h3 : P.underlying f3.type = some (.int .i64)) (h : DataW.Trod enc P w base spare held t (.slice A n c) d ps) : ∃ xs : List R4, Args 4 w A n (rows R4.vs xs) ∧ (∀ x ∈ xs, x.wf) ∧ n ≤ maxLen := by
  refine args_of_trod R4.vs R4.wf R4.vs_len (by omega) ht hC (fun fuel cs x hx => ?_) h
  obtain ⟨xs, n', _, hx', hcl, hlen, hg⟩ := DataW.trod_struct he hx
  obtain ⟨o0, k0⟩ := hone_of hone 0 f0 rfl
  obtain ⟨o1, k1⟩ := hone_of hone 1 f1 rfl
  obtain ⟨o2, k2⟩ := hone_of hone 2 f2 rfl
  obtain ⟨o3, k3⟩ := hone_of hone 3 f3 rfl
  rw [hC] at hcl
  match cs, hcl with
  | [c0, c1, c2, c3], _ =>
    match xs, hlen with
    | [y0, y1, y2, y3], _ =>
      obtain ⟨a0, rfl, w0⟩ := one_of h0 (by simpa [o0, k0] using hg 0 f0 rfl)
      obtain ⟨a1, rfl, w1⟩ := one_of h1 (by simpa [o1, k1] using hg 1 f1 rfl)
      obtain ⟨a2, rfl, w2⟩ := one_of h2 (by simpa [o2, k2] using hg 2 f2 rfl)
      obtain ⟨a3, rfl, w3⟩ := one_of h3 (by simpa [o3, k3] using hg 3 f3 rfl)
      exact ⟨⟨a0, a1, a2, a3⟩, rfl, w0, w1, w2, w3⟩
end
end Go.Proofs.Ytgcedfpjgdeakaa
