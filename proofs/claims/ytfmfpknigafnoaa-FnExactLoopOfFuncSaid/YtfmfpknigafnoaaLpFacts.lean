/- Loop programs of recursive functions, the program's side: facts for the drawn regions of loopsOf. -/
import Derived.Test.YtfmfpknigafnoaaLpImpl1
import Derived.Test.YtfmfpknigafnoaaFacts
namespace Go.Proofs.Ytfmfpknigafnoaa
open Go.RowKit
set_option linter.all false
def ksrc (n : Nat) (xs : List Value) : Fact := ⟨fun x w => Src 3 w x n xs, fun _ _ _ h hb => h.below hb⟩
def ksrcs (k : Nat) (ns : List Nat) (xss : List (List Value)) : Fact := ⟨fun x w => ∃ g vs, x = .slice (some ⟨g, 0, none⟩) k k ∧ Sl w g 0 vs ∧ SrcsLoop w vs ns xss, fun _ _ _ ⟨g, vs, h1, h2, h3⟩ hb => ⟨g, vs, h1, h2.below' hb, h3.below hb⟩⟩
def kown (B : Nat) (n : Nat) (xs : List Value) : Fact := ⟨fun x w => w.ownsRow B 128 3 x n xs, fun _ _ _ h hb => own_below' h hb⟩
theorem srcsL_nil (w : World) : SrcsLoop w [] [] [] := ⟨rfl, rfl, fun j v n xs h => by simp at h⟩
theorem srcsL_cons {w : World} {v : Value} {n : Nat} {xs : List Value} {vs : List Value} {ns : List Nat} {xss : List (List Value)} (h : Src 3 w v n xs) (h1 : ∀ u ∈ xs, u.oneCell' = true) (k : SrcsLoop w vs ns xss) : SrcsLoop w (v :: vs) (n :: ns) (xs :: xss) := by
  refine ⟨by simp [k.1], by simp [k.2.1], fun j v' n' xs' e1 e2 e3 => ?_⟩
  cases j with
  | zero => simp at e1 e2 e3; subst e1 e2 e3; exact ⟨h, h1⟩
  | succ j => rw [List.getElem?_cons_succ] at e1 e2 e3; exact k.2.2 j v' n' xs' e1 e2 e3
theorem one_flat_nil : ∀ u ∈ ([] : List (List Value)).flatten, u.oneCell' = true := by simp
theorem one_flat_cons {xs : List Value} {xss : List (List Value)} (h : ∀ u ∈ xs, u.oneCell' = true) (k : ∀ u ∈ xss.flatten, u.oneCell' = true) : ∀ u ∈ (xs :: xss).flatten, u.oneCell' = true := by
  rw [List.flatten_cons]; exact one_app h k
end Go.Proofs.Ytfmfpknigafnoaa
