/- Contracts of the laws' helpers on []string: copy, compare, mark, look at the marks. For slices of at most 1048576 elements. -/
import Derived.Test.YtjakgeblmkdbpaaDoorBase
namespace Go.Proofs.YtjakgeblmkdbpaaDoor
open Go.RowKit

theorem infoStringS : (Tryd.prog.info? 9).map (fun i => (i.zero, i.size, i.bytes)) = some (some (Value.string ⟨#[]⟩), 1, 16) := by kernel_rfl

theorem ba_ext {x y : ByteArray} (h : x.toList = y.toList) : x = y := by
  rw [ByteArray.toList_eq, ByteArray.toList_eq] at h
  cases x; cases y
  simp at h
  rw [h]

/-- The size of a list of strings, as the laws reckon it. -/
def szStr (xs : List ByteArray) : Nat := xs.length + (xs.map ByteArray.size).sum
theorem szStr_len (xs : List ByteArray) : xs.length ≤ szStr xs := by unfold szStr; omega
theorem szStr_mem {xs : List ByteArray} {x : ByteArray} (h : x ∈ xs) : x.size ≤ szStr xs := by
  unfold szStr
  induction xs with
  | nil => cases h
  | cons y ys ih =>
    rw [List.map_cons, List.sum_cons, List.length_cons]
    rcases List.mem_cons.1 h with rfl | h
    · omega
    · have := ih h; omega
/-- The length and the first 'k' strings. -/
def szTo (xs : List ByteArray) (k : Nat) : Nat := xs.length + ((xs.take k).map ByteArray.size).sum
theorem szTo_succ {xs : List ByteArray} {k : Nat} {x : ByteArray} (h : xs[k]? = some x) : szTo xs (k + 1) = szTo xs k + x.size := by
  unfold szTo; rw [List.take_add_one, h]; simp; omega
theorem szTo_le (xs : List ByteArray) (k : Nat) : szTo xs k ≤ szStr xs := by
  unfold szTo szStr
  have h : xs.map ByteArray.size = (xs.take k).map ByteArray.size ++ (xs.drop k).map ByteArray.size := by rw [← List.map_append, List.take_append_drop]
  rw [h, List.sum_append]; omega
theorem szTo_all {xs : List ByteArray} {k : Nat} (h : xs.length ≤ k) : szTo xs k = szStr xs := by unfold szTo szStr; rw [List.take_of_length_le h]
