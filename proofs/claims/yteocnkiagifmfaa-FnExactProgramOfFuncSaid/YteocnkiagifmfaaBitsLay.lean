/- The contracts of math/bits.Mul and slices.Contains at this seat: the numbers of the functions and types that they speak of. -/
import Derived.Shelf.Bits.Mul64
import Derived.Shelf.SlicesQ.Contains
import Derived.Test.YteocnkiagifmfaaRows
namespace Go.Proofs
open Go.Shelf
def Try.layMul_ren : Go.Shelf.Ren := ⟨fun | 212 => 288 | 263 => 299 | 264 => 300 | n => n, fun | 46 => 325 | 51 => 340 | 146 => 341 | 53 => 343 | 148 => 344 | n => n, fun | n => n⟩
theorem Try.layMul : Go.Proofs.Lays.n212 Try.prog Try.layMul_ren := {
  mixed := by kernel_rfl
  f212 := Try.func288.trans (congrArg some (by kernel_rfl))
  f263 := Try.func299.trans (congrArg some (by kernel_rfl))
  f264 := Try.func300.trans (congrArg some (by kernel_rfl))
  t46 := Try.underlying325
  a46 := Try.isAgg325
  z46 := Try.sizeOf325
  v46 := Try.zeroValue325
  t51 := Try.underlying340
  a51 := Try.isAgg340
  z51 := Try.sizeOf340
  v51 := Try.zeroValue340
  t53 := Try.underlying343
  a53 := Try.isAgg343
  z53 := Try.sizeOf343
  v53 := Try.zeroValue343
  t146 := Try.underlying341
  a146 := Try.isAgg341
  z146 := Try.sizeOf341
  v146 := Try.zeroValue341
  t148 := Try.underlying344
  a148 := Try.isAgg344
  z148 := Try.sizeOf344
  v148 := Try.zeroValue344 }
end Go.Proofs
