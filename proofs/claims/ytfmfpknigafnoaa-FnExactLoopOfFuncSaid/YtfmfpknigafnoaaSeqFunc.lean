/- Library functions on rows of Func: IndexFunc, ContainsFunc with whatever function value, Clone; size. -/
import Derived.Test.YtfmfpknigafnoaaSeq
import Derived.Test.YtfmfpknigafnoaaApp
import Derived.Test.YtfmfpknigafnoaaHelpFunc
namespace Go.Proofs.Ytfmfpknigafnoaa
open Go.RowKit
set_option linter.all false

theorem one_rows_Func (xs : List R3) : ∀ u ∈ rows R3.vs xs, u.oneCell' = true := by
  intro u hu
  simp only [rows, List.mem_flatMap, R3.vs] at hu
  obtain ⟨x, _, hu⟩ := hu
  simp at hu
  rcases hu with rfl | rfl | rfl <;> rfl

set_option maxRecDepth 100000 in
theorem sizeOf_Func_any (A : Option Addr) (n c : Nat) (w : World) : Calls Try.prog 137 #[.slice A n c] w fun e w' => e = .returned (.int .i64 n) ∧ w = w' := by
  go_enter Try.func137, Try.ntmps137
  go_wp2
  go_ret
  exact ⟨rfl, rfl⟩

end Go.Proofs.Ytfmfpknigafnoaa
