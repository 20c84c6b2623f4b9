/- Loop programs without LoopAgain: slices.ContainsFunc and IndexFunc with IsBounded's closure, IsBounded, the reference's IsBounded. -/
import Derived.Test.YtjakgeblmkdbpaaDoorLoops
namespace Go.Proofs.YtjakgeblmkdbpaaDoor
open Go.RowKit
set_option linter.all false

def isAgain (x : R3) : Bool := decide (x.a = 4)
def isBoundedB (xs : List R3) : Bool := validL xs && !xs.any isAgain

end Go.Proofs.YtjakgeblmkdbpaaDoor
