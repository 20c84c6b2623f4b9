/- Which while programs are valid: the plain law, that a stack of ends and a recursion agree. -/
import Derived.Test.YtfmfpknigafnoaaHelpCommand
import Derived.Test.YtfmfpknigafnoaaExprs
namespace Go.Proofs.Ytfmfpknigafnoaa
open Go.RowKit
set_option linter.all false

def okC (x : DCommand) : Bool := validE x.f3 && inB x.f1 0 5
def validCs : List DCommand → Bool
  | [] => true
  | x :: xs => okC x && (if x.f0 = 0 then decide (x.f2 = 0) && validCs xs
      else if x.f0 = 1 then decide (x.f1 = 0) && (inB x.f2 0 xs.length && (validCs (xs.take x.f2.toNat) && validCs (xs.drop x.f2.toNat))) else false)
termination_by xs => xs.length
decreasing_by all_goals first | (simp; done) | (simp; omega)
def validWhile (xs : List DCommand) : Bool := decide (xs.length ≤ 80) && validCs xs

/-- Ends of bodies that end here are taken off. -/
def popE (i : Nat) : List Nat → List Nat
  | e :: e2 :: r => if e = i then popE i (e2 :: r) else e :: e2 :: r
  | l => l
/-- The reference's loop. -/
def sRun : Nat → List Nat → List DCommand → Bool
  | _, _, [] => true
  | i, ends, x :: xs => match popE i ends with
    | [] => false
    | e :: r => okC x && (if x.f0 = 0 then decide (x.f2 = 0) && sRun (i + 1) (e :: r) xs
        else if x.f0 = 1 then decide (x.f1 = 0) && (inB x.f2 0 ((e : Int) - i - 1) && sRun (i + 1) ((i + 1 + x.f2.toNat) :: e :: r) xs) else false)
theorem sRun_pop (i e2 : Nat) (r : List Nat) (ys : List DCommand) : sRun i (i :: e2 :: r) ys = sRun i (e2 :: r) ys := by
  cases ys with
  | nil => simp [sRun]
  | cons y ys => simp [sRun, popE]
theorem popE_top {i e : Nat} {r : List Nat} (h : r = [] ∨ e ≠ i) : popE i (e :: r) = e :: r := by
  cases r with
  | nil => rfl
  | cons e2 r => rcases h with h | h; simp at h; simp [popE, h]
theorem sRun_step {i e : Nat} {r : List Nat} (h : r = [] ∨ e ≠ i) (x : DCommand) (xs : List DCommand) : sRun i (e :: r) (x :: xs) = (okC x && (if x.f0 = 0 then decide (x.f2 = 0) && sRun (i + 1) (e :: r) xs
        else if x.f0 = 1 then decide (x.f1 = 0) && (inB x.f2 0 ((e : Int) - i - 1) && sRun (i + 1) ((i + 1 + x.f2.toNat) :: e :: r) xs) else false)) := by
  rw [sRun, popE_top h]
theorem validCs_cons (x : DCommand) (xs : List DCommand) : validCs (x :: xs) = (okC x && (if x.f0 = 0 then decide (x.f2 = 0) && validCs xs
      else if x.f0 = 1 then decide (x.f1 = 0) && (inB x.f2 0 xs.length && (validCs (xs.take x.f2.toNat) && validCs (xs.drop x.f2.toNat))) else false)) := by rw [validCs]

theorem sRun_eq : ∀ (m i e : Nat) (r : List Nat) (xs : List DCommand), e = i + m → m ≤ xs.length → sRun i (e :: r) xs = (validCs (xs.take m) && sRun e (e :: r) (xs.drop m)) := by
  intro m
  induction m using Nat.strongRecOn with
  | _ m ih =>
    intro i e r xs he hm
    subst he
    match m, xs, hm, ih with
    | 0, xs, _, _ => simp [validCs]
    | m + 1, x :: xs, hm, ih =>
      rw [sRun_step (.inr (by omega)), List.take_succ_cons, List.drop_succ_cons, validCs_cons]
      have hm' : m ≤ xs.length := by simpa using hm
      have hlen : ((xs.take m).length : Int) = ((i + (m + 1) : Nat) : Int) - i - 1 := by rw [List.length_take, Nat.min_eq_left hm']; omega
      rw [← hlen]
      cases okC x
      · rfl
      simp only [Bool.true_and]
      by_cases h0 : x.f0 = 0
      · rw [if_pos h0, if_pos h0, Bool.and_assoc, ← ih m (by omega) (i + 1) (i + (m + 1)) r xs (by omega) hm']
      rw [if_neg h0, if_neg h0]
      by_cases h1 : x.f0 = 1
      rotate_left
      · rw [if_neg h1, if_neg h1]; rfl
      rw [if_pos h1, if_pos h1]
      cases decide (x.f1 = 0)
      · rfl
      simp only [Bool.true_and]
      rcases Bool.eq_false_or_eq_true (inB x.f2 0 ((xs.take m).length : Int)) with hb | hb
      rotate_left
      · rw [hb]; rfl
      rw [hb]
      simp only [Bool.true_and]
      have hin := (inB_iff _ _ _).1 hb
      rw [List.length_take, Nat.min_eq_left hm'] at hin
      obtain ⟨l, hl⟩ : ∃ l : Nat, l = x.f2.toNat := ⟨_, rfl⟩
      have hlm : l ≤ m := by omega
      rw [← hl]
      rw [ih l (by omega) (i + 1) (i + 1 + l) ((i + (m + 1)) :: r) xs rfl (by omega), sRun_pop,
        ih (m - l) (by omega) (i + 1 + l) (i + (m + 1)) r (xs.drop l) (by omega) (by rw [List.length_drop]; omega),
        List.take_take, Nat.min_eq_left hlm, List.drop_take, List.drop_drop, Bool.and_assoc]
      congr 3
      congr 1
      omega
theorem sRun_all (xs : List DCommand) : sRun 0 [xs.length] xs = validCs xs := by
  rw [sRun_eq xs.length 0 xs.length [] xs (by omega) (Nat.le_refl _), List.take_length, List.drop_length]
  simp [sRun]
end Go.Proofs.Ytfmfpknigafnoaa
