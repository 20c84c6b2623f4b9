/- The variables of a combinator term: combVariables, CombVariables and the reference's l18Names, CombVariables. -/
import Derived.Test.YtkiaclajjlidoaaGreatDoorCombs
import Derived.Test.YtkiaclajjlidoaaGreatDoorPut
namespace Go.Proofs.YtkiaclajjlidoaaGreatDoor
open Go.RowKit
set_option linter.all false

/-- The variables, in order. -/
def varsC : List R2 → List Int
  | [] => []
  | x :: l => (if x.a = 4 then [x.b] else []) ++ varsC l
theorem varsC_app (xs ys : List R2) : varsC (xs ++ ys) = varsC xs ++ varsC ys := by
  induction xs with
  | nil => rfl
  | cons x l ih => simp [varsC, ih]
theorem varsC_len (xs : List R2) : (varsC xs).length ≤ xs.length := by
  induction xs with
  | nil => simp [varsC]
  | cons x l ih => rw [varsC]; split <;> simp <;> omega
theorem varsC_step {xs : List R2} {k : Nat} {x : R2} (h : xs[k]? = some x) : varsC (xs.take (k + 1)) = varsC (xs.take k) ++ (if x.a = 4 then [x.b] else []) := by
  rw [List.take_add_one, h, varsC_app]; simp [varsC]
theorem validC_len {xs : List R2} (h : validC xs = true) : 1 ≤ xs.length ∧ xs.length ≤ 400 := by
  unfold validC at h
  have := (inB_iff _ _ _).1 (Bool.and_eq_true _ _ ▸ h).1
  omega

def combVars (xs : List R2) : List Int × Int := if validC xs then (sortU (varsC xs), 0) else ([], 1)
theorem bndCombVariables0 (xs : List R2) (h : xs.length ≤ 1048576) : (combVars xs).1.length ≤ 1048576 := by
  unfold combVars
  split
  · have h1 := sortU_len (varsC xs)
    have h2 := varsC_len xs
    show (sortU (varsC xs)).length ≤ _
    omega
  · simp
