/- The marks as numbers. -/
import Derived.Test.YtjakgeblmkdbpaaSGrid
import Derived.Test.YtjakgeblmkdbpaaInInt64S
namespace Go.Proofs.Ytjakgeblmkdbpaa
set_option linter.all false
theorem rows_runI (k : Int) (n : Nat) : rows oneI (runI k n) = marks mkInt64S k (n * 1) := by
  rw [rows_oneI, Nat.mul_one]
  simp only [runI, marks, mkInt64S, List.map_map]
  rfl
end Go.Proofs.Ytjakgeblmkdbpaa
