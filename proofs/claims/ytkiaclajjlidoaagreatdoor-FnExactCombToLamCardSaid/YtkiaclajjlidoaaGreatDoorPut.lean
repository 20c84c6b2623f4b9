/- l00Put puts a number to its place among rising ones. -/
import Derived.Test.YtkiaclajjlidoaaGreatDoorSort
import Derived.Test.YtkiaclajjlidoaaGreatDoorRec
import Derived.Test.YtkiaclajjlidoaaGreatDoorSeq
namespace Go.Proofs.YtkiaclajjlidoaaGreatDoor
open Go.RowKit
set_option linter.all false

theorem own_cap' {w : World} {base : Nat} {e : TypeId} {size n : Nat} {v : Value} {xs : List Value} (h : w.ownsRow base e size v n xs) : ∀ A c, v = .slice A n c → n ≤ c := by
  intro A c hv
  rcases h.2 with ⟨h0, h1⟩ | ⟨g, cap, cur, h0, _, _, h1, _⟩
  · omega
  · rw [h0] at hv; injection hv with _ _ h3; omega
theorem grown_cell_new {wr w2 : World} {o : Obj} {base : Nat} {e : TypeId} {size n : Nat} {v : Value} {xs : List Value} (hown : wr.ownsRow base e size v n xs) (hg : (wr.alloc o).grownBy w2 v.ownBlock) {j : Nat} {u : Value} (h : (wr.alloc o).cell? ⟨wr.heap.size, j, none⟩ = some u) : w2.cell? ⟨wr.heap.size, j, none⟩ = some u :=
  hg.cell h (by intro e; have := hown.lt _ e.symm; simp at this)

theorem put_lt {n y : Int} {xs : List Int} {k : Nat} (hy : xs[k]? = some y) (h : n < y) : put n (xs.drop k) = n :: y :: xs.drop (k + 1) := by
  rw [drop_at hy, put, if_pos (by omega), if_pos h]
theorem put_eqv {n y : Int} {xs : List Int} {k : Nat} (hy : xs[k]? = some y) (h : n = y) : put n (xs.drop k) = y :: xs.drop (k + 1) := by
  rw [drop_at hy, put, if_pos (by omega), if_neg (by omega)]
theorem put_gt {n y : Int} {xs : List Int} {k : Nat} (hy : xs[k]? = some y) (h : y < n) : put n (xs.drop k) = y :: put n (xs.drop (k + 1)) := by
  rw [drop_at hy, put, if_neg (by omega)]
theorem take_snoc' {xs : List Int} {k : Nat} {y : Int} (hy : xs[k]? = some y) : xs.take (k + 1) = xs.take k ++ [y] := by
  rw [List.take_add_one, hy]; rfl

end Go.Proofs.YtkiaclajjlidoaaGreatDoor
