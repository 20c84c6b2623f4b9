/- What TagToMarkov gives: plain lemmas. -/
import Derived.Test.YtcfkjigapnknnaaTagPlain
import Derived.Test.YtcfkjigapnknnaaRwValid
namespace Go.Proofs.Ytcfkjigapnknnaa
set_option linter.all false

def rulesA (n : Nat) : List DMarkovRule := (ltrs n).flatMap fun i => (ltrs n).map fun k => ⟨[(n : Int) + i, k], [k, (n : Int) + i], false⟩
def rulesB (n : Nat) (ws : List (List Int)) : List DMarkovRule := ws.mapIdx fun i w => ⟨[(n : Int) + (i : Int)], w, false⟩
def rulesC (n l : Nat) (hs : List Int) : List DMarkovRule := (ltrs n).flatMap fun i => if hs.contains i then [] else (wordsN n l).map fun x => ⟨[2 * (n : Int), i] ++ x, [2 * (n : Int), (n : Int) + i], false⟩
def tagRules (d : Int) (ws : List (List Int)) (hs : List Int) : List DMarkovRule := rulesA ws.length ++ rulesB ws.length ws ++ rulesC ws.length (d - 1).toNat hs
/-- The reference's rules so far against those that are meant: the same, or both too many. -/
def MkRel (acc full : List DMarkovRule) : Prop := acc = full ∨ (60 < acc.length ∧ 60 < full.length)
theorem MkRel.app {acc full : List DMarkovRule} (h : MkRel acc full) (l : List DMarkovRule) : MkRel (acc ++ l) (full ++ l) := by
  rcases h with rfl | ⟨h1, h2⟩
  · exact .inl rfl
  · exact .inr ⟨by rw [List.length_append]; omega, by rw [List.length_append]; omega⟩
theorem MkRel.cut {acc full : List DMarkovRule} (h : MkRel acc full) (hl : 60 < acc.length) (l : List DMarkovRule) : MkRel acc (full ++ l) := by
  rcases h with rfl | ⟨h1, h2⟩
  · exact .inr ⟨hl, by rw [List.length_append]; omega⟩
  · exact .inr ⟨h1, by rw [List.length_append]; omega⟩
theorem MkRel.yes {acc full : List DMarkovRule} (h : MkRel acc full) (hv : validMks acc = true) : acc = full := by
  rcases h with h | ⟨h1, _⟩
  · exact h
  · have := validMks_len hv; omega
theorem MkRel.no {acc full : List DMarkovRule} (h : MkRel acc full) (hv : validMks acc = false) : validMks full = false := by
  rcases h with rfl | ⟨_, h2⟩
  · exact hv
  · cases hf : validMks full with
    | false => rfl
    | true => have := validMks_len hf; omega
end Go.Proofs.Ytcfkjigapnknnaa
