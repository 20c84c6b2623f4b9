/- Where terms end, told from another place. Plain lemmas. -/
import Derived.Test.YtfmfpknigafnoaaAbsPlain
namespace Go.Proofs.Ytfmfpknigafnoaa
set_option linter.all false

theorem tPosAt_shift {α : Type} (fol : α → Nat) (l : List α) : ∀ a k k' : Nat, (tPosAt fol a k l = -1 ∧ tPosAt fol a k' l = -1) ∨ ∃ q : Nat, tPosAt fol a k l = ((k + q : Nat) : Int) ∧ tPosAt fol a k' l = ((k' + q : Nat) : Int) := by
  induction l with
  | nil =>
    intro a k k'
    cases a with
    | zero => exact .inr ⟨0, by rw [tPosAt_zero]; rfl, by rw [tPosAt_zero]; rfl⟩
    | succ a => exact .inl ⟨tPosAt_none fol a k, tPosAt_none fol a k'⟩
  | cons x l ih =>
    intro a k k'
    cases a with
    | zero => exact .inr ⟨0, by rw [tPosAt_zero]; rfl, by rw [tPosAt_zero]; rfl⟩
    | succ a =>
      rw [tPosAt_succ, tPosAt_succ]
      rcases ih (a + fol x) (k + 1) (k' + 1) with h | ⟨q, h1, h2⟩
      · exact .inl h
      · exact .inr ⟨q + 1, by rw [h1]; congr 1; omega, by rw [h2]; congr 1; omega⟩
theorem tPosAt_from {α : Type} {fol : α → Nat} {l : List α} {a k q : Nat} (h : tPosAt fol a k l = ((k + q : Nat) : Int)) (k' : Nat) : tPosAt fol a k' l = ((k' + q : Nat) : Int) := by
  rcases tPosAt_shift fol l a k k' with ⟨h1, _⟩ | ⟨q', h1, h2⟩
  · rw [h1] at h; omega
  · have : q' = q := by rw [h1] at h; omega
    subst this
    exact h2
/-- Only the elements of the terms count. -/
theorem tPosAt_take {α : Type} (fol : α → Nat) (l : List α) : ∀ a k q m : Nat, tPosAt fol a k l = ((k + q : Nat) : Int) → q ≤ m → tPosAt fol a k (l.take m) = ((k + q : Nat) : Int) := by
  induction l with
  | nil => intro a k q m h _; rw [List.take_nil]; exact h
  | cons x l ih =>
    intro a k q m h hm
    cases a with
    | zero => rw [tPosAt_zero] at h ⊢; exact h
    | succ a =>
      rw [tPosAt_succ] at h
      have hq : 1 ≤ q := by
        rcases tPosAt_shift fol l (a + fol x) (k + 1) 0 with ⟨h1, _⟩ | ⟨q', h1, _⟩
        · rw [h1] at h; omega
        · rw [h1] at h; omega
      obtain ⟨m', rfl⟩ : ∃ m', m = m' + 1 := ⟨m - 1, by omega⟩
      obtain ⟨q', rfl⟩ : ∃ q', q = q' + 1 := ⟨q - 1, by omega⟩
      rw [List.take_succ_cons, tPosAt_succ]
      have := ih (a + fol x) (k + 1) q' m' (by rw [h]; congr 1; omega) (by omega)
      rw [this]; congr 1; omega
end Go.Proofs.Ytfmfpknigafnoaa
