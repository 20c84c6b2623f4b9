/- Terms in prefix form: where a term ends, told by how many terms follow each element. Plain lemmas, and the law of a function value. -/
import Derived.Test.YtgcedfpjgdeakaaRec
import Derived.Test.YtgcedfpjgdeakaaSeq
import Derived.Test.YtgcedfpjgdeakaaNums
namespace Go.Proofs.Ytgcedfpjgdeakaa
open Go.RowKit
set_option linter.all false

section
variable {α : Type} (fol : α → Nat)
/-- The place behind op terms that begin at place k, or -1. -/
def tPosAt : Nat → Nat → List α → Int
  | 0, k, _ => k
  | _ + 1, _, [] => -1
  | op + 1, k, x :: l => tPosAt (op + fol x) (k + 1) l
  termination_by _ _ l => l.length
theorem tPosAt_zero (k : Nat) (l : List α) : tPosAt fol 0 k l = k := by cases l <;> rw [tPosAt]
theorem tPosAt_succ (op k : Nat) (x : α) (l : List α) : tPosAt fol (op + 1) k (x :: l) = tPosAt fol (op + fol x) (k + 1) l := by rw [tPosAt]
theorem tPosAt_none (op k : Nat) : tPosAt fol (op + 1) k [] = -1 := by rw [tPosAt]
def tPos (k : Nat) (l : List α) : Int := tPosAt fol 1 k l
/-- The elements are just op terms. -/
def fit : Nat → List α → Bool
  | 0, [] => true
  | 0, _ :: _ => false
  | _ + 1, [] => false
  | op + 1, x :: l => fit (op + fol x) l
  termination_by _ l => l.length
theorem fit_00 : fit fol 0 [] = true := by rw [fit]
theorem fit_0c (x : α) (l : List α) : fit fol 0 (x :: l) = false := by rw [fit]
theorem fit_s0 (op : Nat) : fit fol (op + 1) [] = false := by rw [fit]
theorem fit_sc (op : Nat) (x : α) (l : List α) : fit fol (op + 1) (x :: l) = fit fol (op + fol x) l := by rw [fit]
theorem tPosAt_le (l : List α) : ∀ op k : Nat, tPosAt fol op k l ≤ k + l.length := by
  induction l with
  | nil => intro op k; cases op with
    | zero => rw [tPosAt_zero]; simp
    | succ op => rw [tPosAt_none]; simp <;> omega
  | cons x l ih => intro op k; cases op with
    | zero => rw [tPosAt_zero]; simp <;> omega
    | succ op => rw [tPosAt_succ]; have := ih (op + fol x) (k + 1); simp <;> omega
theorem fit_iff (l : List α) : ∀ op k : Nat, decide (tPosAt fol op k l = (k + l.length : Nat)) = fit fol op l := by
  induction l with
  | nil => intro op k; cases op with
    | zero => rw [tPosAt_zero, fit_00]; simp
    | succ op => rw [tPosAt_none, fit_s0]; simp <;> omega
  | cons x l ih => intro op k; cases op with
    | zero => rw [tPosAt_zero, fit_0c]; simp <;> omega
    | succ op =>
      rw [tPosAt_succ, fit_sc, ← ih (op + fol x) (k + 1)]
      have : k + 1 + l.length = k + (x :: l).length := by simp; omega
      rw [this]
theorem fit_pos (l : List α) : decide (tPos fol 0 l = (l.length : Int)) = fit fol 1 l := by
  have := fit_iff fol l 1 0
  rw [Nat.zero_add] at this
  exact this
end
end Go.Proofs.Ytgcedfpjgdeakaa
