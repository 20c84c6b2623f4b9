/- How the laws' arguments that are one record are opened. -/
import Derived.Test.YtjakgeblmkdbpaaOpenNest
namespace Go.Proofs.Ytjakgeblmkdbpaa
open Go.ChangeShapes Go.WideShapes Go.ChangeAt Go.RowKit Go.Deep
set_option linter.all false

section
variable {H : Type} {enc : TypeId × Value → H} {P : Program} {w : World} {base : Nat} {spare : Nat → Bool} {held : Bool}
theorem elem_rec3 {e : TypeId} {f0 f1 f2 : Field} (hC : P.cellsOf e = 3) (he : P.underlying e = some (.struct #[f0, f1, f2])) (hone : oneCellFields P #[f0, f1, f2] = true)
    (h0 : P.underlying f0.type = some (.int .i64)) (h1 : P.underlying f1.type = some (.int .i64)) (h2 : P.underlying f2.type = some (.int .i64)) : ∀ fuel cs x, DataW.trod enc P w base spare held fuel e cs = some x → ∃ a, cs = R3.vs a ∧ R3.wf a := fun fuel cs x hx => by
  obtain ⟨xs, n', _, hx', hcl, hlen, hg⟩ := DataW.trod_struct he hx
  obtain ⟨o0, k0⟩ := hone_of hone 0 f0 rfl
  obtain ⟨o1, k1⟩ := hone_of hone 1 f1 rfl
  obtain ⟨o2, k2⟩ := hone_of hone 2 f2 rfl
  rw [hC] at hcl
  match cs, hcl with
  | [c0, c1, c2], _ =>
    match xs, hlen with
    | [y0, y1, y2], _ =>
      obtain ⟨a0, rfl, w0⟩ := one_of h0 (by simpa [o0, k0] using hg 0 f0 rfl)
      obtain ⟨a1, rfl, w1⟩ := one_of h1 (by simpa [o1, k1] using hg 1 f1 rfl)
      obtain ⟨a2, rfl, w2⟩ := one_of h2 (by simpa [o2, k2] using hg 2 f2 rfl)
      exact ⟨⟨a0, a1, a2⟩, rfl, w0, w1, w2⟩
/-- A slice of slices in a cell. -/
theorem nested_cell {α : Type} (f : α → List Value) (ok : α → Prop) {s : Nat} (hs : ∀ x, (f x).length = s) (hs0 : 0 < s) {t e e2 : TypeId} (ht : P.underlying t = some (.slice e)) (hC : P.cellsOf e = 1) (he : P.underlying e = some (.slice e2)) (hC2 : P.cellsOf e2 = s)
    (helem : ∀ fuel cs x, DataW.trod enc P w base spare held fuel e2 cs = some x → ∃ a, cs = f a ∧ ok a) {fuel : Nat} {cs : List Value} {x : DataW H × List MemPlace} (h : DataW.trod enc P w base spare held fuel t cs = some x) :
    ∃ (A : Option Addr) (n c : Nat) (vs : List Value) (ts : List (List α)), cs = [.slice A n c] ∧ Arg w A n vs ∧ Ins s f w vs ts ∧ (∀ t ∈ ts, (∀ x ∈ t, ok x) ∧ t.length ≤ maxLen) ∧ n ≤ maxLen := by
  rcases open_slice ht h with ⟨rfl, _⟩ | ⟨a, len, cap, m, n', D, Pl, rfl, _, _, _, _, _, _⟩
  · exact ⟨none, 0, 0, [], [], rfl, Arg.of_nil _ _, ⟨rfl, by intro j v t h1; simp at h1⟩, by simp, by simp [maxLen]⟩
  · obtain ⟨vs, ts, h1, h2, h3, h4⟩ := arg_nested f ok hs hs0 ht hC he hC2 helem (A := some a) (n := len) (c := cap) (d := x.1) (ps := x.2) ⟨fuel, h⟩
    exact ⟨some a, len, cap, vs, ts, rfl, h1, h2, h3, h4⟩
theorem oneTag {t e1 e1b e2 : TypeId} {f0 f1 f2 : Field} {v : Value} {d : DataW H} {ps : List MemPlace} (ht : P.underlying t = some (.struct #[f0, f1, f2])) (hC : P.cellsOf t = 3) (hone : oneCellFields P #[f0, f1, f2] = true) (h0 : P.underlying f0.type = some (.int .i64)) (h1 : P.underlying f1.type = some (.slice e1)) (hC1 : P.cellsOf e1 = 1) (g1 : P.underlying e1 = some (.slice e1b)) (hC1b : P.cellsOf e1b = 1) (el1 : ∀ fuel cs x, DataW.trod enc P w base spare held fuel e1b cs = some x → ∃ a : Int, cs = oneI a ∧ Wf64 a) (h2 : P.underlying f2.type = some (.slice e2)) (hC2 : P.cellsOf e2 = 1) (el2 : ∀ fuel cs x, DataW.trod enc P w base spare held fuel e2 cs = some x → ∃ a : Int, cs = oneI a ∧ Wf64 a) {r : Reach} {b0 : Nat} (hw : Value.okWide P w r b0 t v) (h : DataW.Trod enc P w base spare held t v d ps) :
    ∃ (a0 : Int) (A1 : Option Addr) (n1 c1 : Nat) (v1 : List Value) (x1 : List (List Int)) (A2 : Option Addr) (n2 c2 : Nat) (x2 : List Int), v = .agg #[.int .i64 a0, .slice A1 n1 c1, .slice A2 n2 c2] ∧ Wf64 a0 ∧ Arg w A1 n1 v1 ∧ Ins 1 oneI w v1 x1 ∧ n1 ≤ maxLen ∧ (∀ t ∈ x1, (∀ x ∈ t, Wf64 x) ∧ t.length ≤ maxLen) ∧ Arg w A2 n2 (x2.map (Value.int .i64)) ∧ n2 ≤ maxLen ∧ Wf64s x2 := by
  obtain ⟨cs, rfl, hsz⟩ := okWide_struct ht hw
  obtain ⟨fuel, hx⟩ := h
  obtain ⟨xs, n', _, hx', hcl, hlen, hg⟩ := DataW.trod_struct ht hx
  obtain ⟨o0, k0⟩ := hone_of hone 0 f0 rfl
  obtain ⟨o1, k1⟩ := hone_of hone 1 f1 rfl
  obtain ⟨o2, k2⟩ := hone_of hone 2 f2 rfl
  rw [hC] at hsz
  obtain ⟨l⟩ := cs
  match l, hsz with
  | [c0, c1, c2], _ =>
    match xs, hlen with
    | [y0, y1, y2], _ =>
      obtain ⟨a0, rfl, w0⟩ := one_of h0 (by simpa [o0, k0, Value.cells] using hg 0 f0 rfl)
      obtain ⟨A1, n1, q1, v1, x1, hb1, g11, g21, w1, l1⟩ := nested_cell oneI Wf64 (s := 1) (fun _ => rfl) (by omega) h1 hC1 g1 hC1b el1 (by simpa [o1, k1, Value.cells] using hg 1 f1 rfl)
      obtain rfl : c1 = .slice A1 n1 q1 := by simpa using hb1
      obtain ⟨A2, q2, x2, hb2, g12, w2, l2⟩ := slice_cell (s := 1) oneI Wf64 (fun _ => rfl) (by omega) h2 hC2 el2 (by simpa [o2, k2, Value.cells] using hg 2 f2 rfl)
      obtain rfl : c2 = .slice A2 x2.length q2 := by simpa using hb2
      exact ⟨a0, A1, n1, q1, v1, x1, A2, x2.length, q2, x2, rfl, w0, g11, g21, l1, w1, (by rw [← rows_oneI]; exact arg_args g12), l2, w2⟩
theorem oneMachine {t e2 : TypeId} {f0 f1 f2 : Field} {v : Value} {d : DataW H} {ps : List MemPlace} (ht : P.underlying t = some (.struct #[f0, f1, f2])) (hC : P.cellsOf t = 3) (hone : oneCellFields P #[f0, f1, f2] = true) (h0 : P.underlying f0.type = some (.int .i64)) (h1 : P.underlying f1.type = some (.int .i64)) (h2 : P.underlying f2.type = some (.slice e2)) (hC2 : P.cellsOf e2 = 3) (el2 : ∀ fuel cs x, DataW.trod enc P w base spare held fuel e2 cs = some x → ∃ a : R3, cs = R3.vs a ∧ R3.wf a) {r : Reach} {b0 : Nat} (hw : Value.okWide P w r b0 t v) (h : DataW.Trod enc P w base spare held t v d ps) :
    ∃ (a0 : Int) (a1 : Int) (A2 : Option Addr) (n2 c2 : Nat) (x2 : List R3), v = .agg #[.int .i64 a0, .int .i64 a1, .slice A2 n2 c2] ∧ Wf64 a0 ∧ Wf64 a1 ∧ Args 3 w A2 n2 (rows R3.vs x2) ∧ n2 ≤ maxLen ∧ (∀ x ∈ x2, x.wf) := by
  obtain ⟨cs, rfl, hsz⟩ := okWide_struct ht hw
  obtain ⟨fuel, hx⟩ := h
  obtain ⟨xs, n', _, hx', hcl, hlen, hg⟩ := DataW.trod_struct ht hx
  obtain ⟨o0, k0⟩ := hone_of hone 0 f0 rfl
  obtain ⟨o1, k1⟩ := hone_of hone 1 f1 rfl
  obtain ⟨o2, k2⟩ := hone_of hone 2 f2 rfl
  rw [hC] at hsz
  obtain ⟨l⟩ := cs
  match l, hsz with
  | [c0, c1, c2], _ =>
    match xs, hlen with
    | [y0, y1, y2], _ =>
      obtain ⟨a0, rfl, w0⟩ := one_of h0 (by simpa [o0, k0, Value.cells] using hg 0 f0 rfl)
      obtain ⟨a1, rfl, w1⟩ := one_of h1 (by simpa [o1, k1, Value.cells] using hg 1 f1 rfl)
      obtain ⟨A2, q2, x2, hb2, g12, w2, l2⟩ := slice_cell (s := 3) R3.vs R3.wf R3.vs_len (by omega) h2 hC2 el2 (by simpa [o2, k2, Value.cells] using hg 2 f2 rfl)
      obtain rfl : c2 = .slice A2 x2.length q2 := by simpa using hb2
      exact ⟨a0, a1, A2, x2.length, q2, x2, rfl, w0, w1, g12, l2, w2⟩
theorem oneConfig {t e1 e2 : TypeId} {f0 f1 f2 : Field} {v : Value} {d : DataW H} {ps : List MemPlace} (ht : P.underlying t = some (.struct #[f0, f1, f2])) (hC : P.cellsOf t = 3) (hone : oneCellFields P #[f0, f1, f2] = true) (h0 : P.underlying f0.type = some (.int .i64)) (h1 : P.underlying f1.type = some (.slice e1)) (hC1 : P.cellsOf e1 = 1) (el1 : ∀ fuel cs x, DataW.trod enc P w base spare held fuel e1 cs = some x → ∃ a : Int, cs = oneI a ∧ Wf64 a) (h2 : P.underlying f2.type = some (.slice e2)) (hC2 : P.cellsOf e2 = 1) (el2 : ∀ fuel cs x, DataW.trod enc P w base spare held fuel e2 cs = some x → ∃ a : Int, cs = oneI a ∧ Wf64 a) {r : Reach} {b0 : Nat} (hw : Value.okWide P w r b0 t v) (h : DataW.Trod enc P w base spare held t v d ps) :
    ∃ (a0 : Int) (A1 : Option Addr) (n1 c1 : Nat) (x1 : List Int) (A2 : Option Addr) (n2 c2 : Nat) (x2 : List Int), v = .agg #[.int .i64 a0, .slice A1 n1 c1, .slice A2 n2 c2] ∧ Wf64 a0 ∧ Arg w A1 n1 (x1.map (Value.int .i64)) ∧ n1 ≤ maxLen ∧ Wf64s x1 ∧ Arg w A2 n2 (x2.map (Value.int .i64)) ∧ n2 ≤ maxLen ∧ Wf64s x2 := by
  obtain ⟨cs, rfl, hsz⟩ := okWide_struct ht hw
  obtain ⟨fuel, hx⟩ := h
  obtain ⟨xs, n', _, hx', hcl, hlen, hg⟩ := DataW.trod_struct ht hx
  obtain ⟨o0, k0⟩ := hone_of hone 0 f0 rfl
  obtain ⟨o1, k1⟩ := hone_of hone 1 f1 rfl
  obtain ⟨o2, k2⟩ := hone_of hone 2 f2 rfl
  rw [hC] at hsz
  obtain ⟨l⟩ := cs
  match l, hsz with
  | [c0, c1, c2], _ =>
    match xs, hlen with
    | [y0, y1, y2], _ =>
      obtain ⟨a0, rfl, w0⟩ := one_of h0 (by simpa [o0, k0, Value.cells] using hg 0 f0 rfl)
      obtain ⟨A1, q1, x1, hb1, g11, w1, l1⟩ := slice_cell (s := 1) oneI Wf64 (fun _ => rfl) (by omega) h1 hC1 el1 (by simpa [o1, k1, Value.cells] using hg 1 f1 rfl)
      obtain rfl : c1 = .slice A1 x1.length q1 := by simpa using hb1
      obtain ⟨A2, q2, x2, hb2, g12, w2, l2⟩ := slice_cell (s := 1) oneI Wf64 (fun _ => rfl) (by omega) h2 hC2 el2 (by simpa [o2, k2, Value.cells] using hg 2 f2 rfl)
      obtain rfl : c2 = .slice A2 x2.length q2 := by simpa using hb2
      exact ⟨a0, A1, x1.length, q1, x1, A2, x2.length, q2, x2, rfl, w0, (by rw [← rows_oneI]; exact arg_args g11), l1, w1, (by rw [← rows_oneI]; exact arg_args g12), l2, w2⟩
end
end Go.Proofs.Ytjakgeblmkdbpaa
