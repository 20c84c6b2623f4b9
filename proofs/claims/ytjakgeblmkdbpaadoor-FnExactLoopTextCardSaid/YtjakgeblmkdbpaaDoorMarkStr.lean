/- The laws' markText and markStringS: that they end, and what they write over. -/
import Derived.Test.YtjakgeblmkdbpaaDoorHelpStr
import Derived.Test.YtjakgeblmkdbpaaDoorApp
import Derived.Lib.UnsafeStr
import Derived.Laws.BytesString
namespace Go.Proofs.YtjakgeblmkdbpaaDoor
open Go.RowKit
set_option linter.all false

theorem fold_push2 (l : List UInt8) : ∀ s : ByteArray, (l.map fun b : UInt8 => (b.toNat : Int)).foldl (fun r n => r.push (UInt8.ofNat n.toNat)) s = ⟨(s.data.toList ++ l).toArray⟩ := by
  induction l with
  | nil => intro s; simp
  | cons b l ih =>
    intro s
    rw [List.map_cons, List.foldl_cons, ih]
    congr 1
    simp [ByteArray.push]
theorem run_str2 {w : World} {base : Nat} {v : Value} {l : List UInt8} (h : w.ownsRow base 5 1 v l.length (Lib.byteCells l)) : (convert 130 9 v).run Tryd.prog w = .ok (.string ⟨l.toArray⟩) w := by
  rcases h.2 with ⟨rfl, h0⟩ | ⟨g, cap, cur, rfl, _⟩
  · rw [run_convert_bytes_string w _ _ 5 _ _ _ Tryd.underlying130 Tryd.underlying5 Tryd.underlying9]
    have : l = [] := List.eq_nil_of_length_eq_zero h0
    subst this
    rfl
  · rw [run_convert_bytes_string w _ _ 5 _ _ _ Tryd.underlying130 Tryd.underlying5 Tryd.underlying9]
    have hf := run_firstCells_some (P := Tryd.prog) w 1 l.length ⟨g, 0, none⟩ l.length cap (Lib.byteCells l) (by simp [Lib.byteCells]) (h.cells (g := g) rfl)
    have e : Lib.byteCells l = (l.map fun b : UInt8 => (b.toNat : Int)).map (Value.int .u8) := by simp [Lib.byteCells]
    rw [e] at hf
    have hl : (loadCells ⟨g, 0, none⟩ l.length).run Tryd.prog w = .ok ((l.map fun b : UInt8 => (b.toNat : Int)).map (Value.int .u8)).toArray w := by simpa [Builtin.firstCells] using hf
    rw [run_bytesToString w _ _ _ _ hl, fold_push2]
    simp

/-- One digit, as a string. -/
theorem digit_str (wr : World) (k : Nat) : ∃ s1 : ByteArray, s1.size = 1 ∧ (convert 130 9 (.slice (some ⟨wr.heap.size, 0, none⟩) 1 1)).run Tryd.prog (wr.alloc (.cells #[.int .u8 (48 + (k : Int) % 10)] 5)) = .ok (.string s1) (wr.alloc (.cells #[.int .u8 (48 + (k : Int) % 10)] 5)) := by
  have e : (48 + (k : Int) % 10) = (((UInt8.ofNat (48 + k % 10)).toNat : Nat) : Int) := by
    rw [UInt8.toNat_ofNat', Nat.mod_eq_of_lt (by omega)]; omega
  have hO : (wr.alloc (.cells #[.int .u8 (48 + (k : Int) % 10)] 5)).ownsRow wr.heap.size 5 1 (.slice (some ⟨wr.heap.size, 0, none⟩) 1 1) [UInt8.ofNat (48 + k % 10)].length (Lib.byteCells [UInt8.ofNat (48 + k % 10)]) :=
    ⟨rfl, .inr ⟨wr.heap.size, 1, #[.int .u8 (48 + (k : Int) % 10)], rfl, Nat.le_refl _, heap_alloc_new _ _, Nat.le_refl _, by simp [maxLen], rfl, by show [Value.int .u8 (48 + (k : Int) % 10)] = [Value.int .u8 (((UInt8.ofNat (48 + k % 10)).toNat : Nat) : Int)]; rw [e]⟩⟩
  exact ⟨_, rfl, run_str2 hO⟩
