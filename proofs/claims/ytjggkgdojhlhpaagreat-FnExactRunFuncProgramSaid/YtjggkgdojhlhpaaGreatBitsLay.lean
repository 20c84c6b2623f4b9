/- The contracts of math/bits.Mul and slices.Contains at this seat: the numbers of the functions and types that they speak of. -/
import Derived.Shelf.Bits.Mul64
import Derived.Shelf.SlicesQ.Contains
import Derived.Test.YtjggkgdojhlhpaaGreatRows
namespace Go.Proofs
open Go.Shelf
def Tryz.layMul_ren : Go.Shelf.Ren := ⟨fun | 212 => 101 | 263 => 102 | 264 => 103 | n => n, fun | 46 => 136 | 51 => 139 | 146 => 140 | 53 => 142 | 148 => 143 | n => n, fun | n => n⟩
theorem Tryz.layMul : Go.Proofs.Lays.n212 Tryz.prog Tryz.layMul_ren := {
  mixed := by kernel_rfl
  f212 := Tryz.func101.trans (congrArg some (by kernel_rfl))
  f263 := Tryz.func102.trans (congrArg some (by kernel_rfl))
  f264 := Tryz.func103.trans (congrArg some (by kernel_rfl))
  t46 := Tryz.underlying136
  a46 := Tryz.isAgg136
  z46 := Tryz.sizeOf136
  v46 := Tryz.zeroValue136
  t51 := Tryz.underlying139
  a51 := Tryz.isAgg139
  z51 := Tryz.sizeOf139
  v51 := Tryz.zeroValue139
  t53 := Tryz.underlying142
  a53 := Tryz.isAgg142
  z53 := Tryz.sizeOf142
  v53 := Tryz.zeroValue142
  t146 := Tryz.underlying140
  a146 := Tryz.isAgg140
  z146 := Tryz.sizeOf140
  v146 := Tryz.zeroValue140
  t148 := Tryz.underlying143
  a148 := Tryz.isAgg143
  z148 := Tryz.sizeOf143
  v148 := Tryz.zeroValue143 }
end Go.Proofs
