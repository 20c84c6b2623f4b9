/- Bytes to a string. -/
import Derived.Test.YthanekchopkblaaBuilder
namespace Go.Proofs.Ythanekchopkblaa
open Go.RowKit
set_option linter.all false
theorem fold_push (l : List UInt8) : ∀ s : ByteArray, (l.map fun b : UInt8 => (b.toNat : Int)).foldl (fun r n => r.push (UInt8.ofNat n.toNat)) s = ⟨(s.data.toList ++ l).toArray⟩ := by
  induction l with
  | nil => intro s; simp
  | cons b l ih =>
    intro s
    rw [List.map_cons, List.foldl_cons, ih]
    congr 1
    simp [ByteArray.push]
theorem run_str {w : World} {base : Nat} {v : Value} {l : List UInt8} (h : w.ownsRow base 5 1 v l.length (Lib.byteCells l)) : (convert 96 9 v).run Try.prog w = .ok (.string ⟨l.toArray⟩) w := by
  rcases h.2 with ⟨rfl, h0⟩ | ⟨g, cap, cur, rfl, _⟩
  · rw [run_convert_bytes_string w _ _ 5 _ _ _ Try.underlying96 Try.underlying5 Try.underlying9]
    have : l = [] := List.eq_nil_of_length_eq_zero h0
    subst this
    rfl
  · rw [run_convert_bytes_string w _ _ 5 _ _ _ Try.underlying96 Try.underlying5 Try.underlying9]
    have hf := run_firstCells_some (P := Try.prog) w 1 l.length ⟨g, 0, none⟩ l.length cap (Lib.byteCells l) (by simp [Lib.byteCells]) (h.cells (g := g) rfl)
    have e : Lib.byteCells l = (l.map fun b : UInt8 => (b.toNat : Int)).map (Value.int .u8) := by simp [Lib.byteCells]
    rw [e] at hf
    have hl : (loadCells ⟨g, 0, none⟩ l.length).run Try.prog w = .ok ((l.map fun b : UInt8 => (b.toNat : Int)).map (Value.int .u8)).toArray w := by simpa [Builtin.firstCells] using hf
    rw [run_bytesToString w _ _ _ _ hl, fold_push]
    simp
end Go.Proofs.Ythanekchopkblaa
