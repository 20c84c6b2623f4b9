/- slices.Sort, slices.Compact and slices.Clone on rows of numbers of the call's own; SortList, rising, l00Put. -/
import Derived.Test.YtkiaclajjlidoaaDoorSortRow
import Derived.Test.YtkiaclajjlidoaaDoorApp
import Derived.Test.YtkiaclajjlidoaaDoorNums
import Derived.Test.YtkiaclajjlidoaaDoorHelpInt
namespace Go.Proofs.YtkiaclajjlidoaaDoor
open Go.RowKit Go.Sort
set_option linter.all false
