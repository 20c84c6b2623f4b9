/- The Markov rules of a tag system: plain lemmas. -/
import Derived.Test.YtcfkjigapnknnaaHelpMarkovRule
namespace Go.Proofs.Ytcfkjigapnknnaa
set_option linter.all false

/-- 0 .. n - 1. -/
def ltrs (n : Nat) : List Int := (List.range n).map fun (a : Nat) => (a : Int)
/-- All words of a length over n letters, as the program makes them. -/
def wordsN (n : Nat) : Nat → List (List Int)
  | 0 => [[]]
  | l + 1 => (wordsN n l).flatMap fun w => (ltrs n).map fun a => w ++ [a]
/-- The same, by the first letter. -/
def wordsC (n : Nat) : Nat → List (List Int)
  | 0 => [[]]
  | l + 1 => (ltrs n).flatMap fun a => (wordsC n l).map fun w => a :: w
theorem wordsC_eq (n : Nat) : ∀ l, wordsC n l = wordsN n l := by
  have h : ∀ l, wordsC n (l + 1) = (wordsC n l).flatMap fun w => (ltrs n).map fun a => w ++ [a] := by
    intro l
    induction l with
    | zero => simp [wordsC]; 
              induction ltrs n with
              | nil => rfl
              | cons a t ih => simp [List.flatMap_cons, ih]
    | succ l ih =>
      rw [wordsC]
      conv => rhs; rw [wordsC]
      rw [List.flatMap_assoc]
      congr 1
      funext a
      rw [ih, List.map_flatMap, List.flatMap_map]
      congr 1
      funext w
      rw [List.map_map]
      rfl
  intro l
  induction l with
  | zero => rfl
  | succ l ih => rw [h, ih]; rfl
/-- The word behind a word; nothing behind the last. -/
def nextW (n : Nat) : List Int → Option (List Int)
  | [] => none
  | a :: x => match nextW n x with
    | some y => some (a :: y)
    | none => if a = (n : Int) - 1 then none else some ((a + 1) :: List.replicate x.length 0)
theorem nextW_len (n : Nat) : ∀ (x y : List Int), nextW n x = some y → y.length = x.length := by
  intro x
  induction x with
  | nil => intro y h; cases h
  | cons a x ih =>
    intro y h
    rw [nextW] at h
    cases hx : nextW n x with
    | some z => rw [hx] at h; injection h with h; subst h; simp [ih z hx]
    | none =>
      rw [hx] at h
      simp only at h
      split at h
      · cases h
      · injection h with h; subst h; simp
/-- A list goes on word by word from x, and behind its last word there is none. -/
inductive ChainW (n : Nat) : List Int → List (List Int) → Prop
  | last {x : List Int} (h : nextW n x = none) : ChainW n x [x]
  | step {x y : List Int} {l : List (List Int)} (h : nextW n x = some y) (t : ChainW n y l) : ChainW n x (x :: l)
theorem chain_map {n : Nat} {a : Int} : ∀ {x : List Int} {l : List (List Int)}, ChainW n x l → ∀ {m : List (List Int)}, (a = (n : Int) - 1 → m = []) → (¬ a = (n : Int) - 1 → ChainW n ((a + 1) :: List.replicate x.length 0) m) → ChainW n (a :: x) (l.map (a :: ·) ++ m) := by
  intro x l h
  induction h with
  | @last x h =>
    intro m h1 h2
    by_cases ha : a = (n : Int) - 1
    · rw [h1 ha]; exact .last (by rw [nextW, h]; simp [ha])
    · exact .step (by rw [nextW, h]; simp [ha]) (h2 ha)
  | @step x y l h t ih =>
    intro m h1 h2
    refine .step (y := a :: y) (by rw [nextW, h]) (ih h1 fun ha => ?_)
    rw [nextW_len n x y h]; exact h2 ha
theorem chain_words (n : Nat) (hn : 0 < n) : ∀ l, ChainW n (List.replicate l 0) (wordsC n l) := by
  intro l
  induction l with
  | zero => exact .last rfl
  | succ l ih =>
    have main : ∀ (k a : Nat), a + k + 1 = n → ChainW n ((a : Int) :: List.replicate l 0) (((List.range' a (k + 1)).map fun (a : Nat) => (a : Int)).flatMap fun a => (wordsC n l).map fun w => a :: w) := by
      intro k
      induction k with
      | zero =>
        intro a ha
        have := chain_map (a := (a : Int)) ih (m := []) (fun _ => rfl) (fun h => absurd (by omega) h)
        simpa using this
      | succ k ihk =>
        intro a ha
        rw [List.range'_succ, List.map_cons, List.flatMap_cons]
        refine chain_map ih (fun h => by omega) (fun _ => ?_)
        rw [List.length_replicate]
        have := ihk (a + 1) (by omega)
        rwa [Int.natCast_add] at this
    have := main (n - 1) 0 (by omega)
    rw [show n - 1 + 1 = n by omega] at this
    rw [wordsC, ltrs, List.range_eq_range']
    exact this
end Go.Proofs.Ytcfkjigapnknnaa
