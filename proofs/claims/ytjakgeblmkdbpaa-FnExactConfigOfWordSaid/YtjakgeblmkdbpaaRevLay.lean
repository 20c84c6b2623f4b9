/- The contract of slices.Reverse at this seat: the numbers of the functions and types that it speaks of. -/
import Derived.Shelf.SlicesG.Reverse
import Derived.Test.YtjakgeblmkdbpaaRows
namespace Go.Proofs
open Go.Shelf
def Try.layReverse_ren : Go.Shelf.Ren := ⟨fun | 35 => 166 | n => n, fun | 22 => 25 | 23 => 2 | 3 => 3 | 4 => 4 | 0 => 0 | n => n, fun | n => n⟩
theorem Try.layReverse : Go.Proofs.SlLaysN.n35 Try.prog Try.layReverse_ren := {
  mixed := by kernel_rfl
  f35 := ⟨Try.f166.name, by decide, Try.func166.trans (congrArg some (by kernel_rfl))⟩
  t0 := Try.underlying0
  a0 := Try.isAgg0
  z0 := Try.sizeOf0
  v0 := Try.zeroValue0
  t3 := Try.underlying3
  a3 := Try.isAgg3
  z3 := Try.sizeOf3
  v3 := Try.zeroValue3
  t4 := Try.underlying4
  a4 := Try.isAgg4
  z4 := Try.sizeOf4
  v4 := Try.zeroValue4
  t22 := Try.underlying25
  a22 := Try.isAgg25
  z22 := Try.sizeOf25
  v22 := Try.zeroValue25
  t23 := Try.underlying2
  a23 := Try.isAgg2
  z23 := Try.sizeOf2
  v23 := Try.zeroValue2 }
end Go.Proofs
