/- How the laws' arguments of type Command and []Command are opened. -/
import Derived.Test.YtfmfpknigafnoaaOpenNest
import Derived.Test.YtfmfpknigafnoaaHelpCommand
namespace Go.Proofs.Ytfmfpknigafnoaa
open Go.ChangeShapes Go.WideShapes Go.ChangeAt Go.RowKit Go.Deep
set_option linter.all false
variable {H : Type} {enc : TypeId × Value → H} {P : Program} {w : World} {base : Nat} {spare : Nat → Bool} {held : Bool}
theorem elemCommand {e e3 : TypeId} {f0 f1 f2 f3 : Field} (hC : P.cellsOf e = 4) (he : P.underlying e = some (.struct #[f0, f1, f2, f3])) (hone : oneCellFields P #[f0, f1, f2, f3] = true) (h0 : P.underlying f0.type = some (.int .i64)) (h1 : P.underlying f1.type = some (.int .i64)) (h2 : P.underlying f2.type = some (.int .i64)) (h3 : P.underlying f3.type = some (.slice e3)) (hC3 : P.cellsOf e3 = 2) (el3 : ∀ fuel cs x, DataW.trod enc P w base spare held fuel e3 cs = some x → ∃ a : R2, cs = R2.vs a ∧ R2.wf a) :
    ∀ fuel cs x, DataW.trod enc P w base spare held fuel e cs = some x → ∃ a : ECommand, cs = ECommand.vs a ∧ (RdCommand w a ∧ wbCommand maxLen a.d ∧ a.d.wf) := fun fuel cs x hx => by
  obtain ⟨xs, n', _, hx', hcl, hlen, hg⟩ := DataW.trod_struct he hx
  obtain ⟨o0, k0⟩ := hone_of hone 0 f0 rfl
  obtain ⟨o1, k1⟩ := hone_of hone 1 f1 rfl
  obtain ⟨o2, k2⟩ := hone_of hone 2 f2 rfl
  obtain ⟨o3, k3⟩ := hone_of hone 3 f3 rfl
  rw [hC] at hcl
  match cs, hcl with
  | [c0, c1, c2, c3], _ =>
    match xs, hlen with
    | [y0, y1, y2, y3], _ =>
      obtain ⟨a0, rfl, w0⟩ := one_of h0 (by simpa [o0, k0] using hg 0 f0 rfl)
      obtain ⟨a1, rfl, w1⟩ := one_of h1 (by simpa [o1, k1] using hg 1 f1 rfl)
      obtain ⟨a2, rfl, w2⟩ := one_of h2 (by simpa [o2, k2] using hg 2 f2 rfl)
      obtain ⟨A3, q3, a3, hb3, g3, w3, l3⟩ := slice_cell R2.vs R2.wf R2.vs_len (by omega) h3 hC3 el3 (by simpa [o3, k3] using hg 3 f3 rfl)
      obtain rfl : c3 = .slice A3 a3.length q3 := by simpa using hb3
      exact ⟨⟨⟨a0, a1, a2, a3⟩, .slice A3 a3.length q3⟩, rfl, ⟨⟨A3, q3, rfl, g3⟩, trivial⟩, ⟨l3, trivial⟩, w0, w1, w2, w3⟩
theorem argsCommand {t e : TypeId} {A : Option Addr} {n c : Nat} {d : DataW H} {ps : List MemPlace} (ht : P.underlying t = some (.slice e)) (hC : P.cellsOf e = 4)
    (hel : ∀ fuel cs x, DataW.trod enc P w base spare held fuel e cs = some x → ∃ a : ECommand, cs = ECommand.vs a ∧ (RdCommand w a ∧ wbCommand maxLen a.d ∧ a.d.wf))
    (h : DataW.Trod enc P w base spare held t (.slice A n c) d ps) : ∃ es : List ECommand, Args 4 w A n (rows ECommand.vs es) ∧ RdsCommand w es ∧ (∀ e ∈ es, wbCommand 9223372036854775807 e.d ∧ e.d.wf) ∧ n ≤ maxLen := by
  obtain ⟨es, h1, h2, h3⟩ := args_of_trod ECommand.vs _ (fun _ => rfl) (by omega) ht hC hel h
  exact ⟨es, h1, fun e he => (h2 e he).1, fun e he => ⟨(h2 e he).2.1, (h2 e he).2.2⟩, h3⟩
end Go.Proofs.Ytfmfpknigafnoaa
