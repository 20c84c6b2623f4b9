/- Contracts of the laws' helpers on []int64: copy, compare, mark, look at the marks. For slices of at most 1048576 elements. -/
import Derived.Test.YtkiaclajjlidoaaGreatDoorBase
namespace Go.Proofs.YtkiaclajjlidoaaGreatDoor
open Go.RowKit

theorem infoInt64S : (Tryz.prog.info? 2).map (fun i => (i.zero, i.size, i.bytes)) = some (some (Value.int .i64 0), 1, 8) := by kernel_rfl

def mkInt64S (k : Int) : Value := .int .i64 k

end Go.Proofs.YtkiaclajjlidoaaGreatDoor
