/- slices.Sort, slices.Compact and slices.Clone on rows of numbers of the call's own; SortList, rising, l00Put. -/
import Derived.Test.YtkiaclajjlidoaaGreatDoorSortRow
import Derived.Test.YtkiaclajjlidoaaGreatDoorApp
import Derived.Test.YtkiaclajjlidoaaGreatDoorNums
import Derived.Test.YtkiaclajjlidoaaGreatDoorHelpInt
namespace Go.Proofs.YtkiaclajjlidoaaGreatDoor
open Go.RowKit Go.Sort
set_option linter.all false
