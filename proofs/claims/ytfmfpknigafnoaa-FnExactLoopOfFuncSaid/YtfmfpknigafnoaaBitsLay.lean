/- The contracts of math/bits.Mul and slices.Contains at this seat: the numbers of the functions and types that they speak of. -/
import Derived.Shelf.Bits.Mul64
import Derived.Shelf.SlicesQ.Contains
import Derived.Test.YtfmfpknigafnoaaRows
namespace Go.Proofs
open Go.Shelf
def Try.layMul_ren : Go.Shelf.Ren := ⟨fun | 212 => 229 | 263 => 232 | 264 => 233 | n => n, fun | 46 => 261 | 51 => 264 | 146 => 265 | 53 => 267 | 148 => 268 | n => n, fun | n => n⟩
theorem Try.layMul : Go.Proofs.Lays.n212 Try.prog Try.layMul_ren := {
  mixed := by kernel_rfl
  f212 := Try.func229.trans (congrArg some (by kernel_rfl))
  f263 := Try.func232.trans (congrArg some (by kernel_rfl))
  f264 := Try.func233.trans (congrArg some (by kernel_rfl))
  t46 := Try.underlying261
  a46 := Try.isAgg261
  z46 := Try.sizeOf261
  v46 := Try.zeroValue261
  t51 := Try.underlying264
  a51 := Try.isAgg264
  z51 := Try.sizeOf264
  v51 := Try.zeroValue264
  t53 := Try.underlying267
  a53 := Try.isAgg267
  z53 := Try.sizeOf267
  v53 := Try.zeroValue267
  t146 := Try.underlying265
  a146 := Try.isAgg265
  z146 := Try.sizeOf265
  v146 := Try.zeroValue265
  t148 := Try.underlying268
  a148 := Try.isAgg268
  z148 := Try.sizeOf268
  v148 := Try.zeroValue268 }
end Go.Proofs
