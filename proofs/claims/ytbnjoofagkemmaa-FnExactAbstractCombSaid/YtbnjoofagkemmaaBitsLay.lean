/- The contracts of math/bits.Mul and slices.Contains at this seat: the numbers of the functions and types that they speak of. -/
import Derived.Shelf.Bits.Mul64
import Derived.Shelf.SlicesQ.Contains
import Derived.Test.YtbnjoofagkemmaaRows
namespace Go.Proofs
open Go.Shelf
def Try.layMul_ren : Go.Shelf.Ren := ⟨fun | 212 => 99 | 263 => 113 | 264 => 114 | n => n, fun | 46 => 113 | 51 => 129 | 146 => 132 | 53 => 131 | 148 => 134 | n => n, fun | n => n⟩
theorem Try.layMul : Go.Proofs.Lays.n212 Try.prog Try.layMul_ren := {
  mixed := by kernel_rfl
  f212 := Try.func99.trans (congrArg some (by kernel_rfl))
  f263 := Try.func113.trans (congrArg some (by kernel_rfl))
  f264 := Try.func114.trans (congrArg some (by kernel_rfl))
  t46 := Try.underlying113
  a46 := Try.isAgg113
  z46 := Try.sizeOf113
  v46 := Try.zeroValue113
  t51 := Try.underlying129
  a51 := Try.isAgg129
  z51 := Try.sizeOf129
  v51 := Try.zeroValue129
  t53 := Try.underlying131
  a53 := Try.isAgg131
  z53 := Try.sizeOf131
  v53 := Try.zeroValue131
  t146 := Try.underlying132
  a146 := Try.isAgg132
  z146 := Try.sizeOf132
  v146 := Try.zeroValue132
  t148 := Try.underlying134
  a148 := Try.isAgg134
  z148 := Try.sizeOf134
  v148 := Try.zeroValue134 }
end Go.Proofs
