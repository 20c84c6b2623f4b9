/- Combinator terms: which are valid; combFollow, combEnd, ValidComb and the reference's l12Comb, l12CombEnd. -/
import Derived.Test.YtkiaclajjlidoaaDoorTermComb
namespace Go.Proofs.YtkiaclajjlidoaaDoor
open Go.RowKit
set_option linter.all false

def kFol (x : R2) : Nat := if x.a = 0 then 2 else 0
theorem kFol_le (x : R2) : kFol x ≤ 2 := by unfold kFol; split <;> omega
def kOk (x : R2) : Bool := inB x.a 0 4 && inB x.b 0 399 && (decide (x.a = 4) || decide (x.b = 0))
def validC (xs : List R2) : Bool := inB xs.length 1 400 && (xs.all kOk && fit kFol 1 xs)
theorem all_drop {α : Type} {p : α → Bool} {xs : List α} {k : Nat} {x : α} (h : xs[k]? = some x) : (xs.drop k).all p = (p x && (xs.drop (k + 1)).all p) := by rw [drop_at h]; simp

end Go.Proofs.YtkiaclajjlidoaaDoor
