/- The contract of slices.Reverse at this seat: the numbers of the functions and types that it speaks of. -/
import Derived.Shelf.SlicesG.Reverse
import Derived.Test.YtgcedfpjgdeakaaDoorRows
namespace Go.Proofs
open Go.Shelf
def Tryd.layReverse_ren : Go.Shelf.Ren := ⟨fun | 35 => 90 | n => n, fun | 22 => 82 | 23 => 2 | 3 => 3 | 4 => 4 | 0 => 0 | n => n, fun | n => n⟩
theorem Tryd.layReverse : Go.Proofs.SlLaysN.n35 Tryd.prog Tryd.layReverse_ren := {
  mixed := by kernel_rfl
  f35 := ⟨Tryd.f90.name, by decide, Tryd.func90.trans (congrArg some (by kernel_rfl))⟩
  t0 := Tryd.underlying0
  a0 := Tryd.isAgg0
  z0 := Tryd.sizeOf0
  v0 := Tryd.zeroValue0
  t3 := Tryd.underlying3
  a3 := Tryd.isAgg3
  z3 := Tryd.sizeOf3
  v3 := Tryd.zeroValue3
  t4 := Tryd.underlying4
  a4 := Tryd.isAgg4
  z4 := Tryd.sizeOf4
  v4 := Tryd.zeroValue4
  t22 := Tryd.underlying82
  a22 := Tryd.isAgg82
  z22 := Tryd.sizeOf82
  v22 := Tryd.zeroValue82
  t23 := Tryd.underlying2
  a23 := Tryd.isAgg2
  z23 := Tryd.sizeOf2
  v23 := Tryd.zeroValue2 }
end Go.Proofs
