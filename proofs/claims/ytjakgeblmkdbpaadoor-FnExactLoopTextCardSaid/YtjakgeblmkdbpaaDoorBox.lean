/- A variable that holds a record: the block that holds its cells. Plain lemma. -/
import Derived.Test.YtjakgeblmkdbpaaDoorHeld
import Derived.Test.YtjakgeblmkdbpaaDoorSeq
namespace Go.Proofs.YtjakgeblmkdbpaaDoor
open Go.RowKit
theorem box_held {w : World} {k : Nat} {o : Obj} (h : w.heap[k]? = some o) : Held k (k + 1) (fun W => W.heap[k]? = some o) w :=
  ⟨heap_lt h, h, fun _ _ ha hk => (hk k (Nat.le_refl _) (Nat.lt_succ_self _)).trans ha⟩
end Go.Proofs.YtjakgeblmkdbpaaDoor
