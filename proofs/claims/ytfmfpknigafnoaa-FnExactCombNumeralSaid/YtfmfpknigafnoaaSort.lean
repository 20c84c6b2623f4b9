/- slices.Sort, slices.Compact and slices.Clone on rows of numbers of the call's own; SortList, rising, l00Put. -/
import Derived.Test.YtfmfpknigafnoaaSortRow
import Derived.Test.YtfmfpknigafnoaaApp
import Derived.Test.YtfmfpknigafnoaaNums
import Derived.Test.YtfmfpknigafnoaaHelpInt
namespace Go.Proofs.Ytfmfpknigafnoaa
open Go.RowKit Go.Sort
set_option linter.all false
