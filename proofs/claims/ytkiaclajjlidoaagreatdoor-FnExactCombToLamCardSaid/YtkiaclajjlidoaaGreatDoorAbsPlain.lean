/- Abstraction of combinator terms: plain lemmas. -/
import Derived.Test.YtkiaclajjlidoaaGreatDoorTerms
import Derived.Test.YtkiaclajjlidoaaGreatDoorSorted
namespace Go.Proofs.YtkiaclajjlidoaaGreatDoor
set_option linter.all false

section
variable {α : Type} (fol : α → Nat)
/-- Where a row of terms parts. -/
theorem fit_split (l : List α) : ∀ a b k : Nat, fit fol (a + b) l = true → ∃ q, q ≤ l.length ∧ tPosAt fol a k l = ((k + q : Nat) : Int) ∧ fit fol a (l.take q) = true ∧ fit fol b (l.drop q) = true ∧ (0 < a → 0 < q) := by
  induction l with
  | nil =>
    intro a b k h
    cases a with
    | zero => rw [Nat.zero_add] at h; exact ⟨0, by simp, by rw [tPosAt_zero]; simp, by simp [fit_00], by simpa using h, by omega⟩
    | succ a => rw [show a + 1 + b = (a + b) + 1 by omega, fit_s0] at h; cases h
  | cons x l ih =>
    intro a b k h
    cases a with
    | zero => rw [Nat.zero_add] at h; exact ⟨0, by simp, by rw [tPosAt_zero]; simp, by simp [fit_00], by simpa using h, by omega⟩
    | succ a =>
      rw [show a + 1 + b = (a + b) + 1 by omega, fit_sc, show a + b + fol x = (a + fol x) + b by omega] at h
      obtain ⟨q, h1, h2, h3, h4, _⟩ := ih (a + fol x) b (k + 1) h
      refine ⟨q + 1, by simp; omega, ?_, ?_, by simpa using h4, by omega⟩
      · rw [tPosAt_succ, h2]; congr 1; omega
      · rw [List.take_succ_cons, fit_sc]; exact h3
theorem fit_ne (l : List α) (op : Nat) (h : fit fol (op + 1) l = true) : 0 < l.length := by
  cases l with
  | nil => rw [fit_s0] at h; cases h
  | cons x l => simp
end
end Go.Proofs.YtkiaclajjlidoaaGreatDoor
