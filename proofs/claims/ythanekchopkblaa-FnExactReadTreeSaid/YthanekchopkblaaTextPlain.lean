/- The text of a tree: plain facts, no program. -/
import Derived.Test.YthanekchopkblaaTreesPlain
namespace Go.Proofs.Ythanekchopkblaa
set_option linter.all false

def T.text : T → List UInt8
  | .nil => [46]
  | .pair a b => 40 :: (a.text ++ (b.text ++ [41]))
/-- What is written behind a node without parts, over a stack of open pairs (its top first), and the stack then. -/
def closeSt : List Nat → List UInt8 × List Nat
  | [] => ([], [])
  | c :: r => if 1 < c then ([], (c - 1) :: r) else (41 :: (closeSt r).1, (closeSt r).2)
def txt (st : List Nat) : List Bool → List UInt8
  | [] => []
  | true :: l => 40 :: txt (2 :: st) l
  | false :: l => 46 :: ((closeSt st).1 ++ txt (closeSt st).2 l)
theorem txt_enc (x : T) : ∀ st l, txt st (x.enc ++ l) = x.text ++ ((closeSt st).1 ++ txt (closeSt st).2 l) := by
  induction x with
  | nil => intro st l; simp [T.enc, T.text, txt]
  | pair a b ha hb =>
    intro st l
    simp only [T.enc, List.cons_append, txt, List.append_assoc, ha, hb, T.text]
    simp [closeSt]
theorem txt_text (x : T) : txt [] x.enc = x.text := by
  have := txt_enc x [] []
  simpa [closeSt, txt] using this
theorem text_le (x : T) : x.text.length ≤ 2 * x.nodes ∧ 1 ≤ x.text.length := by
  induction x with
  | nil => simp [T.text, T.nodes]
  | pair a b ha hb => simp [T.text, T.nodes]; omega
theorem txt_true {l : List Bool} {k : Nat} {st : List Nat} (h : l[k]? = some true) : txt st (l.drop k) = 40 :: txt (2 :: st) (l.drop (k + 1)) := by
  have hk := List.getElem?_eq_some_iff.1 h
  rw [List.drop_eq_getElem_cons hk.1, hk.2]; rfl
theorem txt_false {l : List Bool} {k : Nat} {st : List Nat} (h : l[k]? = some false) : txt st (l.drop k) = 46 :: ((closeSt st).1 ++ txt (closeSt st).2 (l.drop (k + 1))) := by
  have hk := List.getElem?_eq_some_iff.1 h
  rw [List.drop_eq_getElem_cons hk.1, hk.2]; rfl
end Go.Proofs.Ythanekchopkblaa
