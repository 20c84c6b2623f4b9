/- Register programs: which are valid. isRegister, validInstr, ValidProgram and the reference's l07Register, l07Is. -/
import Derived.Test.YteocnkiagifmfaaSeqInstr
import Derived.Test.YteocnkiagifmfaaNums
import Derived.Deep.DrawnRows
namespace Go.Proofs.Yteocnkiagifmfaa
open Go.RowKit
set_option linter.all false
attribute [local go_sem ↓] Go.wp_at_zero Go.wp_at_succ

def iOk (n : Int) (x : R4) : Bool := inB x.b 0 23 && (inB x.c 0 n && (if x.a = 0 then decide (x.d = 0) else decide (x.a = 1) && inB x.d 0 n))
def validP (xs : List R4) : Bool := decide (xs.length ≤ 400) && xs.all (iOk xs.length)

theorem iOk_no1 {n : Int} {x : R4} (h : inB x.b 0 23 = false) : iOk n x = false := by simp [iOk, h]
theorem iOk_no2 {n : Int} {x : R4} (h : inB x.c 0 n = false) : iOk n x = false := by simp [iOk, h]

end Go.Proofs.Yteocnkiagifmfaa
