/- ReplaceAt and ReplaceFirst: the walks. -/
import Derived.Test.YtjakgeblmkdbpaaReplace
namespace Go.Proofs.Ytjakgeblmkdbpaa
open Go.RowKit
set_option linter.all false

def wordsB (x p y : List Int) : Bool := isWordB x && isWordB p && isWordB y
def replaceAt (x : List Int) (at' : Int) (p y : List Int) : List Int × Int :=
  if wordsB x p y then
    if inB at' 0 x.length then
      if startsB x at'.toNat p then fitL (putL x at'.toNat p.length y) else ([], 3)
    else ([], 2)
  else ([], 1)
theorem fitL_bnd (xs : List Int) : (fitL xs).1.length ≤ 1048576 := by unfold fitL; split <;> simp <;> omega
theorem bndReplaceAt0 (x : List Int) (at' : Int) (p y : List Int) (h1 : x.length ≤ 1048576) (h2 : p.length ≤ 1048576) (h3 : y.length ≤ 1048576) : (replaceAt x at' p y).1.length ≤ 1048576 := by
  unfold replaceAt; split
  · split
    · split
      · exact fitL_bnd _
      · simp
    · simp
  · simp
theorem starts_le {x p : List Int} {k : Nat} (h : startsB x k p = true) : k + p.length ≤ x.length := by unfold startsB at h; simp at h; exact h.1
theorem starts_drop (x p : List Int) (k : Nat) (h : k ≤ x.length) : startsB (x.drop k) 0 p = startsB x k p := by
  unfold startsB
  simp only [List.drop_zero, List.length_drop, Nat.zero_add]
  congr 1
  rw [decide_eq_decide]; omega
theorem ends2 {v : Value} {a b : Int} (h : a = b) : Ending.returned (.tuple #[v, .int .i64 a]) = .returned (.tuple #[v, .int .i64 b]) := by rw [h]
/-- How the word laws end. -/
theorem own_nil' {w : World} {B : Nat} {r : List Int × Int} {k : Int} (h : r = ([], k)) : w.ownsRow B 2 1 (.slice none 0 0) r.1.length (r.1.map (.int .i64)) := by
  rw [h]; exact World.ownsRow_nil _ _ _ _
theorem own_fit {w : World} {B n : Nat} {v : Value} {r : List Int × Int} {k : Int} {xs : List Int} (h : r = (xs, k)) (hl : xs.length = n) (ho : w.ownsRow B 2 1 v n (xs.map (.int .i64))) : w.ownsRow B 2 1 v r.1.length (r.1.map (.int .i64)) := by
  subst hl; rw [h]; exact ho
