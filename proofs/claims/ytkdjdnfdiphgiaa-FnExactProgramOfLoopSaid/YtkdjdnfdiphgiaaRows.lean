/-
  No cell of these rows narrows 'for every input' (looked for: loops, veiled, ifaces, maps, wideKeys, modest, calm, conditions, laid).
  DERIVED. THE GIVEN ROWS OF THIS SEAT. 5 by the template 'for every input the law returns true; each argument reads behind the call as it read before'; 0 by the template 'total and deterministic' (their statements: YtkdjdnfdiphgiaaTotals.lean).
  GIVEN WITH THE SEED: the statements are not yours to turn. If you find one false, say at which input.
  Laid BY PROGRAM, IN A SANDBOX (cutbox-rows.mjs): the forced cells as the released guide's own fill.sh prints them over the translation 2f1731395ce7fde6… (all of the seat's roots in one cut). By AI agents, Wed Nov 11 2026. No macro, syntax, notation, axiom, sorry.
-/
import Derived.Test.YtkdjdnfdiphgiaaChecked
import GoSem.Claim
import GoSem.ClaimJoined
import GoSem.ClaimMapViews
import Derived.JoinedTies
import Derived.KernelRfl
namespace Go.Proofs.Ytkdjdnfdiphgiaa
/- THE CELL 'sum', in the pinned program and in every row, IS THE sha256 OF THE DUMP (.gsa) THAT YtkdjdnfdiphgiaaProg.lean LOADS. Nothing in Lean hashes anything: it is a label: what it is worth is what the hold of that sum in a sandbox is worth. -/
noncomputable def Try.pinned : Pinned := { name := "ytkdjdnfdiphgiaa", sum := "2f1731395ce7fde6c9dd9060828b407c9254c19dc2104c92efd749738bfb8e06", checked := Try.checked }
namespace Rows
def none {H : Type} : Left H := { results := [], args := [] }

/-- 'laws.FnExactProgramOfLoop': WHATEVER THE INPUT: true; the input reads as it did. -/
def fnExactProgramOfLoopSpec : ChangeSpec := { name := "fnExactProgramOfLoop", fn := fun _ => fun
  | [d] => { results := [.lit (.bool true)], args := [d] }
  | _ => none }
def fnExactProgramOfLoopRow : OpenClaim := { program := "ytkdjdnfdiphgiaa", sum := "2f1731395ce7fde6c9dd9060828b407c9254c19dc2104c92efd749738bfb8e06", func := "loop.example/g01079/laws.FnExactProgramOfLoop", spec := "fnExactProgramOfLoop", unfollowed := true, recurses := true, apart := false }
def FnExactProgramOfLoopSaid : Prop := fnExactProgramOfLoopRow.holds Try.pinned (OpenSpec.ofChange fnExactProgramOfLoopSpec)

/-- ITS FALSE NEIGHBOUR: 'it returns false'. Refute it at one input. -/
def fnExactProgramOfLoopWrong : ChangeSpec := { name := "fnExactProgramOfLoop", fn := fun _ => fun
  | [d] => { results := [.lit (.bool false)], args := [d] }
  | _ => none }
def FnExactProgramOfLoopWrongFalsely : Prop := fnExactProgramOfLoopRow.holds Try.pinned (OpenSpec.ofChange fnExactProgramOfLoopWrong)

/-- 'laws.FnExactLoopOfFunc': WHATEVER THE INPUT: true; the input reads as it did. -/
def fnExactLoopOfFuncSpec : ChangeSpec := { name := "fnExactLoopOfFunc", fn := fun _ => fun
  | [d] => { results := [.lit (.bool true)], args := [d] }
  | _ => none }
def fnExactLoopOfFuncRow : OpenClaim := { program := "ytkdjdnfdiphgiaa", sum := "2f1731395ce7fde6c9dd9060828b407c9254c19dc2104c92efd749738bfb8e06", func := "loop.example/g01079/laws.FnExactLoopOfFunc", spec := "fnExactLoopOfFunc", recurses := true, apart := false }
def FnExactLoopOfFuncSaid : Prop := fnExactLoopOfFuncRow.holds Try.pinned (OpenSpec.ofChange fnExactLoopOfFuncSpec)

/-- ITS FALSE NEIGHBOUR: 'it returns false'. Refute it at one input. -/
def fnExactLoopOfFuncWrong : ChangeSpec := { name := "fnExactLoopOfFunc", fn := fun _ => fun
  | [d] => { results := [.lit (.bool false)], args := [d] }
  | _ => none }
def FnExactLoopOfFuncWrongFalsely : Prop := fnExactLoopOfFuncRow.holds Try.pinned (OpenSpec.ofChange fnExactLoopOfFuncWrong)

/-- 'laws.FnExactLamToComb': WHATEVER THE INPUT: true; the input reads as it did. -/
def fnExactLamToCombSpec : ChangeSpec := { name := "fnExactLamToComb", fn := fun _ => fun
  | [d1, d2] => { results := [.lit (.bool true)], args := [d1, d2] }
  | _ => none }
def fnExactLamToCombRow : OpenClaim := { program := "ytkdjdnfdiphgiaa", sum := "2f1731395ce7fde6c9dd9060828b407c9254c19dc2104c92efd749738bfb8e06", func := "loop.example/g01079/laws.FnExactLamToComb", spec := "fnExactLamToComb", unfollowed := true, recurses := true, apart := false }
def FnExactLamToCombSaid : Prop := fnExactLamToCombRow.holds Try.pinned (OpenSpec.ofChange fnExactLamToCombSpec)

/-- ITS FALSE NEIGHBOUR: 'it returns false'. Refute it at one input. -/
def fnExactLamToCombWrong : ChangeSpec := { name := "fnExactLamToComb", fn := fun _ => fun
  | [d1, d2] => { results := [.lit (.bool false)], args := [d1, d2] }
  | _ => none }
def FnExactLamToCombWrongFalsely : Prop := fnExactLamToCombRow.holds Try.pinned (OpenSpec.ofChange fnExactLamToCombWrong)

/-- 'laws.FnExactCombNumeral': WHATEVER THE INPUT: true; the input reads as it did. -/
def fnExactCombNumeralSpec : ChangeSpec := { name := "fnExactCombNumeral", fn := fun _ => fun
  | [d1, d2] => { results := [.lit (.bool true)], args := [d1, d2] }
  | _ => none }
def fnExactCombNumeralRow : OpenClaim := { program := "ytkdjdnfdiphgiaa", sum := "2f1731395ce7fde6c9dd9060828b407c9254c19dc2104c92efd749738bfb8e06", func := "loop.example/g01079/laws.FnExactCombNumeral", spec := "fnExactCombNumeral", unfollowed := true, recurses := true, apart := false }
def FnExactCombNumeralSaid : Prop := fnExactCombNumeralRow.holds Try.pinned (OpenSpec.ofChange fnExactCombNumeralSpec)

/-- ITS FALSE NEIGHBOUR: 'it returns false'. Refute it at one input. -/
def fnExactCombNumeralWrong : ChangeSpec := { name := "fnExactCombNumeral", fn := fun _ => fun
  | [d1, d2] => { results := [.lit (.bool false)], args := [d1, d2] }
  | _ => none }
def FnExactCombNumeralWrongFalsely : Prop := fnExactCombNumeralRow.holds Try.pinned (OpenSpec.ofChange fnExactCombNumeralWrong)

/-- 'laws.FnExactApplyComb': WHATEVER THE INPUT: true; the input reads as it did. -/
def fnExactApplyCombSpec : ChangeSpec := { name := "fnExactApplyComb", fn := fun _ => fun
  | [d1, d2] => { results := [.lit (.bool true)], args := [d1, d2] }
  | _ => none }
def fnExactApplyCombRow : OpenClaim := { program := "ytkdjdnfdiphgiaa", sum := "2f1731395ce7fde6c9dd9060828b407c9254c19dc2104c92efd749738bfb8e06", func := "loop.example/g01079/laws.FnExactApplyComb", spec := "fnExactApplyComb", unfollowed := true, recurses := true, apart := false }
def FnExactApplyCombSaid : Prop := fnExactApplyCombRow.holds Try.pinned (OpenSpec.ofChange fnExactApplyCombSpec)

/-- ITS FALSE NEIGHBOUR: 'it returns false'. Refute it at one input. -/
def fnExactApplyCombWrong : ChangeSpec := { name := "fnExactApplyComb", fn := fun _ => fun
  | [d1, d2] => { results := [.lit (.bool false)], args := [d1, d2] }
  | _ => none }
def FnExactApplyCombWrongFalsely : Prop := fnExactApplyCombRow.holds Try.pinned (OpenSpec.ofChange fnExactApplyCombWrong)

/- THE SECOND FORM. 'bulk': how many values and letters a reading holds, each counted each time it is reached (what is shared counts as often as it is met; a slice's spare places count too). A statement '..UptoSaid' is the law's where the arguments, and the package variables that the reading takes, are together of bulk at most 1048576: NARROWER than '..Said'. Prove '..Said' where nothing that the law and all that it calls make is longer than what came in: it says more and counts as full. Else prove '..UptoSaid'. A law counts once. -/
mutual
def uptoBulk {H : Type} : DataW H → Nat
  | .lit (.string bytes) => bytes.length + 1
  | .lit _ => 1
  | .nil => 1
  | .ptr d => uptoBulk d + 1
  | .slice elems spare => uptoBulkAll elems + uptoBulkAll spare + 1
  | .agg parts => uptoBulkAll parts + 1
  | .iface _ d => uptoBulk d + 1
  | .map entries => uptoBulkEntries entries + 1
  | .held _ => 1
def uptoBulkAll {H : Type} : List (DataW H) → Nat
  | [] => 0
  | d :: r => uptoBulk d + uptoBulkAll r
def uptoBulkEntries {H : Type} : List (Lit × DataW H) → Nat
  | [] => 0
  | x :: r => uptoBulkEntry x + uptoBulkEntries r
def uptoBulkEntry {H : Type} : Lit × DataW H → Nat
  | (.string bytes, d) => bytes.length + uptoBulk d + 1
  | (_, d) => uptoBulk d + 1
 end
def uptoSmall : (H : Type) → List (DataW H) → Bool := fun _ ds => decide (uptoBulkAll ds ≤ 1048576)
def OpenSpec.upto (s : _root_.Go.ChangeSpec) : _root_.Go.OpenSpec := { _root_.Go.OpenSpec.ofChange s with cond := some uptoSmall }

/-- 'laws.FnExactProgramOfLoop', WHERE WHAT IT READS IS OF BULK AT MOST 1048576: true; the input reads as it did. -/
def fnExactProgramOfLoopUptoRow : OpenClaim := { program := "ytkdjdnfdiphgiaa", sum := "2f1731395ce7fde6c9dd9060828b407c9254c19dc2104c92efd749738bfb8e06", func := "loop.example/g01079/laws.FnExactProgramOfLoop", spec := "fnExactProgramOfLoop", unfollowed := true, recurses := true, apart := false, narrowed := true }
def FnExactProgramOfLoopUptoSaid : Prop := fnExactProgramOfLoopUptoRow.holds Try.pinned (OpenSpec.upto fnExactProgramOfLoopSpec)

/-- 'laws.FnExactLoopOfFunc', WHERE WHAT IT READS IS OF BULK AT MOST 1048576: true; the input reads as it did. -/
def fnExactLoopOfFuncUptoRow : OpenClaim := { program := "ytkdjdnfdiphgiaa", sum := "2f1731395ce7fde6c9dd9060828b407c9254c19dc2104c92efd749738bfb8e06", func := "loop.example/g01079/laws.FnExactLoopOfFunc", spec := "fnExactLoopOfFunc", recurses := true, apart := false, narrowed := true }
def FnExactLoopOfFuncUptoSaid : Prop := fnExactLoopOfFuncUptoRow.holds Try.pinned (OpenSpec.upto fnExactLoopOfFuncSpec)

/-- 'laws.FnExactLamToComb', WHERE WHAT IT READS IS OF BULK AT MOST 1048576: true; the input reads as it did. -/
def fnExactLamToCombUptoRow : OpenClaim := { program := "ytkdjdnfdiphgiaa", sum := "2f1731395ce7fde6c9dd9060828b407c9254c19dc2104c92efd749738bfb8e06", func := "loop.example/g01079/laws.FnExactLamToComb", spec := "fnExactLamToComb", unfollowed := true, recurses := true, apart := false, narrowed := true }
def FnExactLamToCombUptoSaid : Prop := fnExactLamToCombUptoRow.holds Try.pinned (OpenSpec.upto fnExactLamToCombSpec)

/-- 'laws.FnExactCombNumeral', WHERE WHAT IT READS IS OF BULK AT MOST 1048576: true; the input reads as it did. -/
def fnExactCombNumeralUptoRow : OpenClaim := { program := "ytkdjdnfdiphgiaa", sum := "2f1731395ce7fde6c9dd9060828b407c9254c19dc2104c92efd749738bfb8e06", func := "loop.example/g01079/laws.FnExactCombNumeral", spec := "fnExactCombNumeral", unfollowed := true, recurses := true, apart := false, narrowed := true }
def FnExactCombNumeralUptoSaid : Prop := fnExactCombNumeralUptoRow.holds Try.pinned (OpenSpec.upto fnExactCombNumeralSpec)

/-- 'laws.FnExactApplyComb', WHERE WHAT IT READS IS OF BULK AT MOST 1048576: true; the input reads as it did. -/
def fnExactApplyCombUptoRow : OpenClaim := { program := "ytkdjdnfdiphgiaa", sum := "2f1731395ce7fde6c9dd9060828b407c9254c19dc2104c92efd749738bfb8e06", func := "loop.example/g01079/laws.FnExactApplyComb", spec := "fnExactApplyComb", unfollowed := true, recurses := true, apart := false, narrowed := true }
def FnExactApplyCombUptoSaid : Prop := fnExactApplyCombUptoRow.holds Try.pinned (OpenSpec.upto fnExactApplyCombSpec)

end Rows
end Go.Proofs.Ytkdjdnfdiphgiaa
