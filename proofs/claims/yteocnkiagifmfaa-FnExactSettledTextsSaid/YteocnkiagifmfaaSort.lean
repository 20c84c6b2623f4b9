/- slices.Sort, slices.Compact and slices.Clone on rows of numbers of the call's own; SortList, rising, l00Put. -/
import Derived.Test.YteocnkiagifmfaaSortRow
import Derived.Test.YteocnkiagifmfaaApp
import Derived.Test.YteocnkiagifmfaaNums
import Derived.Test.YteocnkiagifmfaaHelpInt
namespace Go.Proofs.Yteocnkiagifmfaa
open Go.RowKit Go.Sort
set_option linter.all false
