/- The contracts of math/bits.Mul and slices.Contains at this seat: the numbers of the functions and types that they speak of. -/
import Derived.Shelf.Bits.Mul64
import Derived.Shelf.SlicesQ.Contains
import Derived.Test.YtkdjdnfdiphgiaaRows
namespace Go.Proofs
open Go.Shelf
def Try.layMul_ren : Go.Shelf.Ren := ⟨fun | 212 => 163 | 263 => 166 | 264 => 167 | n => n, fun | 46 => 195 | 51 => 200 | 146 => 201 | 53 => 203 | 148 => 204 | n => n, fun | n => n⟩
theorem Try.layMul : Go.Proofs.Lays.n212 Try.prog Try.layMul_ren := {
  mixed := by kernel_rfl
  f212 := Try.func163.trans (congrArg some (by kernel_rfl))
  f263 := Try.func166.trans (congrArg some (by kernel_rfl))
  f264 := Try.func167.trans (congrArg some (by kernel_rfl))
  t46 := Try.underlying195
  a46 := Try.isAgg195
  z46 := Try.sizeOf195
  v46 := Try.zeroValue195
  t51 := Try.underlying200
  a51 := Try.isAgg200
  z51 := Try.sizeOf200
  v51 := Try.zeroValue200
  t53 := Try.underlying203
  a53 := Try.isAgg203
  z53 := Try.sizeOf203
  v53 := Try.zeroValue203
  t146 := Try.underlying201
  a146 := Try.isAgg201
  z146 := Try.sizeOf201
  v146 := Try.zeroValue201
  t148 := Try.underlying204
  a148 := Try.isAgg204
  z148 := Try.sizeOf204
  v148 := Try.zeroValue204 }
end Go.Proofs
