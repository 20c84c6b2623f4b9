/- areCombs: whether all of some lists are combinator terms; shortComb, l18Fit, substituted, SubstituteComb on both sides. -/
import Derived.Test.YtfmfpknigafnoaaCombs
import Derived.Test.YtfmfpknigafnoaaSeqComb
import Derived.Test.YtfmfpknigafnoaaApp
import Derived.Test.YtfmfpknigafnoaaRws
namespace Go.Proofs.Ytfmfpknigafnoaa
open Go.RowKit
set_option linter.all false
