/- The contracts of math/bits.Mul and slices.Contains at this seat: the numbers of the functions and types that they speak of. -/
import Derived.Shelf.Bits.Mul64
import Derived.Shelf.SlicesQ.Contains
import Derived.Test.YtdnkkmmkkfbhhaaRows
namespace Go.Proofs
open Go.Shelf
def Try.layMul_ren : Go.Shelf.Ren := ⟨fun | 212 => 75 | 263 => 76 | 264 => 77 | n => n, fun | 46 => 118 | 51 => 121 | 146 => 122 | 53 => 124 | 148 => 125 | n => n, fun | n => n⟩
theorem Try.layMul : Go.Proofs.Lays.n212 Try.prog Try.layMul_ren := {
  mixed := by kernel_rfl
  f212 := Try.func75.trans (congrArg some (by kernel_rfl))
  f263 := Try.func76.trans (congrArg some (by kernel_rfl))
  f264 := Try.func77.trans (congrArg some (by kernel_rfl))
  t46 := Try.underlying118
  a46 := Try.isAgg118
  z46 := Try.sizeOf118
  v46 := Try.zeroValue118
  t51 := Try.underlying121
  a51 := Try.isAgg121
  z51 := Try.sizeOf121
  v51 := Try.zeroValue121
  t53 := Try.underlying124
  a53 := Try.isAgg124
  z53 := Try.sizeOf124
  v53 := Try.zeroValue124
  t146 := Try.underlying122
  a146 := Try.isAgg122
  z146 := Try.sizeOf122
  v146 := Try.zeroValue122
  t148 := Try.underlying125
  a148 := Try.isAgg125
  z148 := Try.sizeOf125
  v148 := Try.zeroValue125 }
end Go.Proofs
