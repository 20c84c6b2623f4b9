/- SubstituteComb on both sides. -/
import Derived.Test.YtkdjdnfdiphgiaaAreCombs
namespace Go.Proofs.Ytkdjdnfdiphgiaa
open Go.RowKit
set_option linter.all false

theorem validC_len' {xs : List R2} (h : validC xs = true) : 1 ≤ xs.length ∧ xs.length ≤ 400 := by
  unfold validC at h
  have := (inB_iff _ _ _).1 (Bool.and_eq_true _ _ ▸ h).1
  omega
/-- What an element becomes. -/
def subE (k : Int) (ys : List R2) (x : R2) : List R2 := if x.a = 4 ∧ x.b = k then ys else [x]
def subC (k : Int) (ys xs : List R2) : List R2 := xs.flatMap (subE k ys)
theorem flatMap_step {α β : Type} (f : α → List β) {xs : List α} {k : Nat} {x : α} (h : xs[k]? = some x) : (xs.take (k + 1)).flatMap f = (xs.take k).flatMap f ++ f x := by
  rw [List.take_add_one, h]; simp
theorem flatMap_len {α β : Type} (f : α → List β) (m : Nat) (h : ∀ x, (f x).length ≤ m) (xs : List α) : (xs.flatMap f).length ≤ m * xs.length := by
  induction xs with
  | nil => simp
  | cons x l ih => rw [List.flatMap_cons, List.length_append, List.length_cons, Nat.mul_succ]; have := h x; omega
theorem subE_len (k : Int) (ys : List R2) (x : R2) (h : 1 ≤ ys.length) : (subE k ys x).length ≤ ys.length := by unfold subE; split <;> simp <;> omega

/-- What SubstituteComb gives. -/
def substComb (xs : List R2) (k : Int) (ys : List R2) : List R2 × Int :=
  if validC xs && validC ys then (if inB k 0 399 then fitC (subC k ys xs) else ([], 2)) else ([], 1)
theorem bndSubstituteComb0 (xs : List R2) (k : Int) (ys : List R2) (h : xs.length ≤ 1048576) (h2 : ys.length ≤ 1048576) : (substComb xs k ys).1.length ≤ 1048576 := by
  unfold substComb
  split
  · split
    · have := fitC_len (subC k ys xs); omega
    · simp
  · simp
