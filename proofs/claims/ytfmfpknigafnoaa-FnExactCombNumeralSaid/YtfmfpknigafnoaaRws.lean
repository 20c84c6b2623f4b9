/- Slices of records of two numbers in the cells of another slice. -/
import Derived.Test.YtfmfpknigafnoaaRec
import Derived.Test.YtfmfpknigafnoaaApp
namespace Go.Proofs.Ytfmfpknigafnoaa
open Go.RowKit
set_option linter.all false
/-- Slices of records in the cells of another slice. -/
def Rws (w : World) (vs : List Value) (ts : List (List R2)) : Prop :=
  vs.length = ts.length ∧ ∀ (j : Nat) (v : Value) (t : List R2), vs[j]? = some v → ts[j]? = some t → Src 2 w v t.length (rows R2.vs t) ∧ t.length ≤ 1048576
theorem Rws.below {w w' : World} {vs : List Value} {ts : List (List R2)} (h : Rws w vs ts) (hb : Below w.heap.size w w') : Rws w' vs ts :=
  ⟨h.1, fun j v t h1 h2 => by obtain ⟨hs, hl⟩ := h.2 j v t h1 h2; exact ⟨hs.below hb, hl⟩⟩
end Go.Proofs.Ytfmfpknigafnoaa
