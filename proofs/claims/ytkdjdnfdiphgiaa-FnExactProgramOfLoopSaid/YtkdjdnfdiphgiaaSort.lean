/- slices.Sort, slices.Compact and slices.Clone on rows of numbers of the call's own; SortList, rising, l00Put. -/
import Derived.Test.YtkdjdnfdiphgiaaSortRow
import Derived.Test.YtkdjdnfdiphgiaaApp
import Derived.Test.YtkdjdnfdiphgiaaNums
import Derived.Test.YtkdjdnfdiphgiaaHelpInt
namespace Go.Proofs.Ytkdjdnfdiphgiaa
open Go.RowKit Go.Sort
set_option linter.all false
