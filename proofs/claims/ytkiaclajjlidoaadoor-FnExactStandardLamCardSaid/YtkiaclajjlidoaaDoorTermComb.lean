/- Terms in a row of Comb: size and termEnd with whatever function that tells how many terms follow. -/
import Derived.Test.YtkiaclajjlidoaaDoorTerms
import Derived.Test.YtkiaclajjlidoaaDoorHelpComb
namespace Go.Proofs.YtkiaclajjlidoaaDoor
open Go.RowKit
set_option linter.all false

end Go.Proofs.YtkiaclajjlidoaaDoor
