/- slices.Grow of the nil slice and slices.Concat, elements bool. -/
import Derived.Test.YtgcedfpjgdeakaaApp
import Derived.Test.YtgcedfpjgdeakaaHelpBool
namespace Go.Proofs.Ytgcedfpjgdeakaa
open Go.RowKit
set_option linter.all false

/-- Slices in the cells of another one. -/
def SrcsBoolS (w : World) (vs : List Value) (ns : List Nat) (xss : List (List Value)) : Prop :=
  vs.length = xss.length ∧ vs.length = ns.length ∧ ∀ (j : Nat) (v : Value) (n : Nat) (xs : List Value), vs[j]? = some v → ns[j]? = some n → xss[j]? = some xs → Src 1 w v n xs ∧ ∀ u ∈ xs, u.oneCell' = true
theorem SrcsBoolS.below {w w' : World} {vs : List Value} {ns : List Nat} {xss : List (List Value)} (h : SrcsBoolS w vs ns xss) (hb : Below w.heap.size w w') : SrcsBoolS w' vs ns xss :=
  ⟨h.1, h.2.1, fun j v n xs h1 h2 h3 => ⟨(h.2.2 j v n xs h1 h2 h3).1.below hb, (h.2.2 j v n xs h1 h2 h3).2⟩⟩

theorem sum_take_le (ns : List Nat) (k : Nat) : (ns.take k).sum ≤ ns.sum := by
  induction ns generalizing k with
  | nil => simp
  | cons n ns ih =>
    cases k with
    | zero => simp
    | succ k => simp; exact ih k
theorem sum_take_succ (ns : List Nat) (k n : Nat) (h : ns[k]? = some n) : (ns.take (k + 1)).sum = (ns.take k).sum + n := by
  rw [List.take_add_one, h]; simp
