/- How the laws' arguments of type Rewrite and []Rewrite are opened. -/
import Derived.Test.YtjakgeblmkdbpaaOpenNest
import Derived.Test.YtjakgeblmkdbpaaHelpRewrite
namespace Go.Proofs.Ytjakgeblmkdbpaa
open Go.ChangeShapes Go.WideShapes Go.ChangeAt Go.RowKit Go.Deep
set_option linter.all false
variable {H : Type} {enc : TypeId × Value → H} {P : Program} {w : World} {base : Nat} {spare : Nat → Bool} {held : Bool}
theorem elemRewrite {e e0 e1 : TypeId} {f0 f1 : Field} (hC : P.cellsOf e = 2) (he : P.underlying e = some (.struct #[f0, f1])) (hone : oneCellFields P #[f0, f1] = true) (h0 : P.underlying f0.type = some (.slice e0)) (hC0 : P.cellsOf e0 = 1) (el0 : ∀ fuel cs x, DataW.trod enc P w base spare held fuel e0 cs = some x → ∃ a : Int, cs = oneI a ∧ Wf64 a) (h1 : P.underlying f1.type = some (.slice e1)) (hC1 : P.cellsOf e1 = 1) (el1 : ∀ fuel cs x, DataW.trod enc P w base spare held fuel e1 cs = some x → ∃ a : Int, cs = oneI a ∧ Wf64 a) :
    ∀ fuel cs x, DataW.trod enc P w base spare held fuel e cs = some x → ∃ a : ERewrite, cs = ERewrite.vs a ∧ (RdRewrite w a ∧ wbRewrite maxLen a.d ∧ a.d.wf) := fun fuel cs x hx => by
  obtain ⟨xs, n', _, hx', hcl, hlen, hg⟩ := DataW.trod_struct he hx
  obtain ⟨o0, k0⟩ := hone_of hone 0 f0 rfl
  obtain ⟨o1, k1⟩ := hone_of hone 1 f1 rfl
  rw [hC] at hcl
  match cs, hcl with
  | [c0, c1], _ =>
    match xs, hlen with
    | [y0, y1], _ =>
      obtain ⟨A0, q0, a0, hb0, g0, w0, l0⟩ := slice_cell (s := 1) oneI Wf64 (fun _ => rfl) (by omega) h0 hC0 el0 (by simpa [o0, k0] using hg 0 f0 rfl)
      obtain rfl : c0 = .slice A0 a0.length q0 := by simpa using hb0
      obtain ⟨A1, q1, a1, hb1, g1, w1, l1⟩ := slice_cell (s := 1) oneI Wf64 (fun _ => rfl) (by omega) h1 hC1 el1 (by simpa [o1, k1] using hg 1 f1 rfl)
      obtain rfl : c1 = .slice A1 a1.length q1 := by simpa using hb1
      exact ⟨⟨⟨a0, a1⟩, .slice A0 a0.length q0, .slice A1 a1.length q1⟩, rfl, ⟨⟨A0, q0, rfl, g0⟩, ⟨A1, q1, rfl, g1⟩, trivial⟩, ⟨l0, l1, trivial⟩, w0, w1⟩
theorem argsRewrite {t e : TypeId} {A : Option Addr} {n c : Nat} {d : DataW H} {ps : List MemPlace} (ht : P.underlying t = some (.slice e)) (hC : P.cellsOf e = 2)
    (hel : ∀ fuel cs x, DataW.trod enc P w base spare held fuel e cs = some x → ∃ a : ERewrite, cs = ERewrite.vs a ∧ (RdRewrite w a ∧ wbRewrite maxLen a.d ∧ a.d.wf))
    (h : DataW.Trod enc P w base spare held t (.slice A n c) d ps) : ∃ es : List ERewrite, Args 2 w A n (rows ERewrite.vs es) ∧ RdsRewrite w es ∧ (∀ e ∈ es, wbRewrite 9223372036854775807 e.d ∧ e.d.wf) ∧ n ≤ maxLen := by
  obtain ⟨es, h1, h2, h3⟩ := args_of_trod ERewrite.vs _ (fun _ => rfl) (by omega) ht hC hel h
  exact ⟨es, h1, fun e he => (h2 e he).1, fun e he => ⟨(h2 e he).2.1, (h2 e he).2.2⟩, h3⟩
end Go.Proofs.Ytjakgeblmkdbpaa
