/-
  No cell of these rows narrows 'for every input' (looked for: loops, veiled, ifaces, maps, wideKeys, modest, calm, conditions, laid).
  DERIVED. THE GIVEN ROWS OF THIS SEAT. 10 by the template 'for every input the law returns true; each argument reads behind the call as it read before'; 0 by the template 'total and deterministic' (their statements: YthjehhiaedfodaaTotals.lean).
  GIVEN WITH THE SEED: the statements are not yours to turn. If you find one false, say at which input.
  Laid BY PROGRAM, IN A SANDBOX (cutbox-rows.mjs): the forced cells as the released guide's own fill.sh prints them over the translation 0f3c01fa4040a940… (all of the seat's roots in one cut). By AI agents, Wed Nov 11 2026. No macro, syntax, notation, axiom, sorry.
-/
import Derived.Test.YthjehhiaedfodaaChecked
import GoSem.Claim
import GoSem.ClaimJoined
import GoSem.ClaimMapViews
import Derived.JoinedTies
import Derived.KernelRfl
namespace Go.Proofs.Ythjehhiaedfodaa
/- THE CELL 'sum', in the pinned program and in every row, IS THE sha256 OF THE DUMP (.gsa) THAT YthjehhiaedfodaaProg.lean LOADS. Nothing in Lean hashes anything: it is a label: what it is worth is what the hold of that sum in a sandbox is worth. -/
noncomputable def Try.pinned : Pinned := { name := "ythjehhiaedfodaa", sum := "0f3c01fa4040a94079c3c6cd98b758d449c8f89971a9f7bf6a91c2daf9c973a8", checked := Try.checked }
namespace Rows
def none {H : Type} : Left H := { results := [], args := [] }

/-- 'laws.FnExactValidLoop': WHATEVER THE INPUT: true; the input reads as it did. -/
def fnExactValidLoopSpec : ChangeSpec := { name := "fnExactValidLoop", fn := fun _ => fun
  | [d] => { results := [.lit (.bool true)], args := [d] }
  | _ => none }
def fnExactValidLoopRow : OpenClaim := { program := "ythjehhiaedfodaa", sum := "0f3c01fa4040a94079c3c6cd98b758d449c8f89971a9f7bf6a91c2daf9c973a8", func := "loop.example/g01079/laws.FnExactValidLoop", spec := "fnExactValidLoop", recurses := true, apart := false }
def FnExactValidLoopSaid : Prop := fnExactValidLoopRow.holds Try.pinned (OpenSpec.ofChange fnExactValidLoopSpec)

/-- ITS FALSE NEIGHBOUR: 'it returns false'. Refute it at one input. -/
def fnExactValidLoopWrong : ChangeSpec := { name := "fnExactValidLoop", fn := fun _ => fun
  | [d] => { results := [.lit (.bool false)], args := [d] }
  | _ => none }
def FnExactValidLoopWrongFalsely : Prop := fnExactValidLoopRow.holds Try.pinned (OpenSpec.ofChange fnExactValidLoopWrong)

/-- 'laws.FnExactIsBounded': WHATEVER THE INPUT: true; the input reads as it did. -/
def fnExactIsBoundedSpec : ChangeSpec := { name := "fnExactIsBounded", fn := fun _ => fun
  | [d] => { results := [.lit (.bool true)], args := [d] }
  | _ => none }
def fnExactIsBoundedRow : OpenClaim := { program := "ythjehhiaedfodaa", sum := "0f3c01fa4040a94079c3c6cd98b758d449c8f89971a9f7bf6a91c2daf9c973a8", func := "loop.example/g01079/laws.FnExactIsBounded", spec := "fnExactIsBounded", unfollowed := true, recurses := true, apart := false }
def FnExactIsBoundedSaid : Prop := fnExactIsBoundedRow.holds Try.pinned (OpenSpec.ofChange fnExactIsBoundedSpec)

/-- ITS FALSE NEIGHBOUR: 'it returns false'. Refute it at one input. -/
def fnExactIsBoundedWrong : ChangeSpec := { name := "fnExactIsBounded", fn := fun _ => fun
  | [d] => { results := [.lit (.bool false)], args := [d] }
  | _ => none }
def FnExactIsBoundedWrongFalsely : Prop := fnExactIsBoundedRow.holds Try.pinned (OpenSpec.ofChange fnExactIsBoundedWrong)

/-- 'laws.FnExactNestingOf': WHATEVER THE INPUT: true; the input reads as it did. -/
def fnExactNestingOfSpec : ChangeSpec := { name := "fnExactNestingOf", fn := fun _ => fun
  | [d] => { results := [.lit (.bool true)], args := [d] }
  | _ => none }
def fnExactNestingOfRow : OpenClaim := { program := "ythjehhiaedfodaa", sum := "0f3c01fa4040a94079c3c6cd98b758d449c8f89971a9f7bf6a91c2daf9c973a8", func := "loop.example/g01079/laws.FnExactNestingOf", spec := "fnExactNestingOf", unfollowed := true, recurses := true, apart := false }
def FnExactNestingOfSaid : Prop := fnExactNestingOfRow.holds Try.pinned (OpenSpec.ofChange fnExactNestingOfSpec)

/-- ITS FALSE NEIGHBOUR: 'it returns false'. Refute it at one input. -/
def fnExactNestingOfWrong : ChangeSpec := { name := "fnExactNestingOf", fn := fun _ => fun
  | [d] => { results := [.lit (.bool false)], args := [d] }
  | _ => none }
def FnExactNestingOfWrongFalsely : Prop := fnExactNestingOfRow.holds Try.pinned (OpenSpec.ofChange fnExactNestingOfWrong)

/-- 'laws.FnExactLoopProgram': WHATEVER THE INPUT: true; the input reads as it did. -/
def fnExactLoopProgramSpec : ChangeSpec := { name := "fnExactLoopProgram", fn := fun _ => fun
  | [d1, d2] => { results := [.lit (.bool true)], args := [d1, d2] }
  | _ => none }
def fnExactLoopProgramRow : OpenClaim := { program := "ythjehhiaedfodaa", sum := "0f3c01fa4040a94079c3c6cd98b758d449c8f89971a9f7bf6a91c2daf9c973a8", func := "loop.example/g01079/laws.FnExactLoopProgram", spec := "fnExactLoopProgram", unfollowed := true, recurses := true, apart := false }
def FnExactLoopProgramSaid : Prop := fnExactLoopProgramRow.holds Try.pinned (OpenSpec.ofChange fnExactLoopProgramSpec)

/-- ITS FALSE NEIGHBOUR: 'it returns false'. Refute it at one input. -/
def fnExactLoopProgramWrong : ChangeSpec := { name := "fnExactLoopProgram", fn := fun _ => fun
  | [d1, d2] => { results := [.lit (.bool false)], args := [d1, d2] }
  | _ => none }
def FnExactLoopProgramWrongFalsely : Prop := fnExactLoopProgramRow.holds Try.pinned (OpenSpec.ofChange fnExactLoopProgramWrong)

/-- 'laws.FnExactBranchProgram': WHATEVER THE INPUT: true; the input reads as it did. -/
def fnExactBranchProgramSpec : ChangeSpec := { name := "fnExactBranchProgram", fn := fun _ => fun
  | [d1, d2, d3] => { results := [.lit (.bool true)], args := [d1, d2, d3] }
  | _ => none }
def fnExactBranchProgramRow : OpenClaim := { program := "ythjehhiaedfodaa", sum := "0f3c01fa4040a94079c3c6cd98b758d449c8f89971a9f7bf6a91c2daf9c973a8", func := "loop.example/g01079/laws.FnExactBranchProgram", spec := "fnExactBranchProgram", unfollowed := true, recurses := true, apart := false }
def FnExactBranchProgramSaid : Prop := fnExactBranchProgramRow.holds Try.pinned (OpenSpec.ofChange fnExactBranchProgramSpec)

/-- ITS FALSE NEIGHBOUR: 'it returns false'. Refute it at one input. -/
def fnExactBranchProgramWrong : ChangeSpec := { name := "fnExactBranchProgram", fn := fun _ => fun
  | [d1, d2, d3] => { results := [.lit (.bool false)], args := [d1, d2, d3] }
  | _ => none }
def FnExactBranchProgramWrongFalsely : Prop := fnExactBranchProgramRow.holds Try.pinned (OpenSpec.ofChange fnExactBranchProgramWrong)

/-- 'laws.FnExactProgramOfLoop': WHATEVER THE INPUT: true; the input reads as it did. -/
def fnExactProgramOfLoopSpec : ChangeSpec := { name := "fnExactProgramOfLoop", fn := fun _ => fun
  | [d] => { results := [.lit (.bool true)], args := [d] }
  | _ => none }
def fnExactProgramOfLoopRow : OpenClaim := { program := "ythjehhiaedfodaa", sum := "0f3c01fa4040a94079c3c6cd98b758d449c8f89971a9f7bf6a91c2daf9c973a8", func := "loop.example/g01079/laws.FnExactProgramOfLoop", spec := "fnExactProgramOfLoop", unfollowed := true, recurses := true, apart := false }
def FnExactProgramOfLoopSaid : Prop := fnExactProgramOfLoopRow.holds Try.pinned (OpenSpec.ofChange fnExactProgramOfLoopSpec)

/-- ITS FALSE NEIGHBOUR: 'it returns false'. Refute it at one input. -/
def fnExactProgramOfLoopWrong : ChangeSpec := { name := "fnExactProgramOfLoop", fn := fun _ => fun
  | [d] => { results := [.lit (.bool false)], args := [d] }
  | _ => none }
def FnExactProgramOfLoopWrongFalsely : Prop := fnExactProgramOfLoopRow.holds Try.pinned (OpenSpec.ofChange fnExactProgramOfLoopWrong)

/-- 'laws.FnExactLoopOfFunc': WHATEVER THE INPUT: true; the input reads as it did. -/
def fnExactLoopOfFuncSpec : ChangeSpec := { name := "fnExactLoopOfFunc", fn := fun _ => fun
  | [d] => { results := [.lit (.bool true)], args := [d] }
  | _ => none }
def fnExactLoopOfFuncRow : OpenClaim := { program := "ythjehhiaedfodaa", sum := "0f3c01fa4040a94079c3c6cd98b758d449c8f89971a9f7bf6a91c2daf9c973a8", func := "loop.example/g01079/laws.FnExactLoopOfFunc", spec := "fnExactLoopOfFunc", recurses := true, apart := false }
def FnExactLoopOfFuncSaid : Prop := fnExactLoopOfFuncRow.holds Try.pinned (OpenSpec.ofChange fnExactLoopOfFuncSpec)

/-- ITS FALSE NEIGHBOUR: 'it returns false'. Refute it at one input. -/
def fnExactLoopOfFuncWrong : ChangeSpec := { name := "fnExactLoopOfFunc", fn := fun _ => fun
  | [d] => { results := [.lit (.bool false)], args := [d] }
  | _ => none }
def FnExactLoopOfFuncWrongFalsely : Prop := fnExactLoopOfFuncRow.holds Try.pinned (OpenSpec.ofChange fnExactLoopOfFuncWrong)

/-- 'laws.FnExactVariablesOf': WHATEVER THE INPUT: true; the input reads as it did. -/
def fnExactVariablesOfSpec : ChangeSpec := { name := "fnExactVariablesOf", fn := fun _ => fun
  | [d] => { results := [.lit (.bool true)], args := [d] }
  | _ => none }
def fnExactVariablesOfRow : OpenClaim := { program := "ythjehhiaedfodaa", sum := "0f3c01fa4040a94079c3c6cd98b758d449c8f89971a9f7bf6a91c2daf9c973a8", func := "loop.example/g01079/laws.FnExactVariablesOf", spec := "fnExactVariablesOf", recurses := true, apart := false }
def FnExactVariablesOfSaid : Prop := fnExactVariablesOfRow.holds Try.pinned (OpenSpec.ofChange fnExactVariablesOfSpec)

/-- ITS FALSE NEIGHBOUR: 'it returns false'. Refute it at one input. -/
def fnExactVariablesOfWrong : ChangeSpec := { name := "fnExactVariablesOf", fn := fun _ => fun
  | [d] => { results := [.lit (.bool false)], args := [d] }
  | _ => none }
def FnExactVariablesOfWrongFalsely : Prop := fnExactVariablesOfRow.holds Try.pinned (OpenSpec.ofChange fnExactVariablesOfWrong)

/-- 'laws.FnExactClearRegister': WHATEVER THE INPUT: true; the input reads as it did. -/
def fnExactClearRegisterSpec : ChangeSpec := { name := "fnExactClearRegister", fn := fun _ => fun
  | [d] => { results := [.lit (.bool true)], args := [d] }
  | _ => none }
def fnExactClearRegisterRow : OpenClaim := { program := "ythjehhiaedfodaa", sum := "0f3c01fa4040a94079c3c6cd98b758d449c8f89971a9f7bf6a91c2daf9c973a8", func := "loop.example/g01079/laws.FnExactClearRegister", spec := "fnExactClearRegister", recurses := true, apart := false }
def FnExactClearRegisterSaid : Prop := fnExactClearRegisterRow.holds Try.pinned (OpenSpec.ofChange fnExactClearRegisterSpec)

/-- ITS FALSE NEIGHBOUR: 'it returns false'. Refute it at one input. -/
def fnExactClearRegisterWrong : ChangeSpec := { name := "fnExactClearRegister", fn := fun _ => fun
  | [d] => { results := [.lit (.bool false)], args := [d] }
  | _ => none }
def FnExactClearRegisterWrongFalsely : Prop := fnExactClearRegisterRow.holds Try.pinned (OpenSpec.ofChange fnExactClearRegisterWrong)

/-- 'laws.FnExactMoveRegister': WHATEVER THE INPUT: true; the input reads as it did. -/
def fnExactMoveRegisterSpec : ChangeSpec := { name := "fnExactMoveRegister", fn := fun _ => fun
  | [d1, d2] => { results := [.lit (.bool true)], args := [d1, d2] }
  | _ => none }
def fnExactMoveRegisterRow : OpenClaim := { program := "ythjehhiaedfodaa", sum := "0f3c01fa4040a94079c3c6cd98b758d449c8f89971a9f7bf6a91c2daf9c973a8", func := "loop.example/g01079/laws.FnExactMoveRegister", spec := "fnExactMoveRegister", recurses := true, apart := false }
def FnExactMoveRegisterSaid : Prop := fnExactMoveRegisterRow.holds Try.pinned (OpenSpec.ofChange fnExactMoveRegisterSpec)

/-- ITS FALSE NEIGHBOUR: 'it returns false'. Refute it at one input. -/
def fnExactMoveRegisterWrong : ChangeSpec := { name := "fnExactMoveRegister", fn := fun _ => fun
  | [d1, d2] => { results := [.lit (.bool false)], args := [d1, d2] }
  | _ => none }
def FnExactMoveRegisterWrongFalsely : Prop := fnExactMoveRegisterRow.holds Try.pinned (OpenSpec.ofChange fnExactMoveRegisterWrong)

/- THE SECOND FORM. 'bulk': how many values and letters a reading holds, each counted each time it is reached (what is shared counts as often as it is met; a slice's spare places count too). A statement '..UptoSaid' is the law's where the arguments, and the package variables that the reading takes, are together of bulk at most 1048576: NARROWER than '..Said'. Prove '..Said' where nothing that the law and all that it calls make is longer than what came in: it says more and counts as full. Else prove '..UptoSaid'. A law counts once. -/
mutual
def uptoBulk {H : Type} : DataW H → Nat
  | .lit (.string bytes) => bytes.length + 1
  | .lit _ => 1
  | .nil => 1
  | .ptr d => uptoBulk d + 1
  | .slice elems spare => uptoBulkAll elems + uptoBulkAll spare + 1
  | .agg parts => uptoBulkAll parts + 1
  | .iface _ d => uptoBulk d + 1
  | .map entries => uptoBulkEntries entries + 1
  | .held _ => 1
def uptoBulkAll {H : Type} : List (DataW H) → Nat
  | [] => 0
  | d :: r => uptoBulk d + uptoBulkAll r
def uptoBulkEntries {H : Type} : List (Lit × DataW H) → Nat
  | [] => 0
  | x :: r => uptoBulkEntry x + uptoBulkEntries r
def uptoBulkEntry {H : Type} : Lit × DataW H → Nat
  | (.string bytes, d) => bytes.length + uptoBulk d + 1
  | (_, d) => uptoBulk d + 1
 end
def uptoSmall : (H : Type) → List (DataW H) → Bool := fun _ ds => decide (uptoBulkAll ds ≤ 1048576)
def OpenSpec.upto (s : _root_.Go.ChangeSpec) : _root_.Go.OpenSpec := { _root_.Go.OpenSpec.ofChange s with cond := some uptoSmall }

/-- 'laws.FnExactValidLoop', WHERE WHAT IT READS IS OF BULK AT MOST 1048576: true; the input reads as it did. -/
def fnExactValidLoopUptoRow : OpenClaim := { program := "ythjehhiaedfodaa", sum := "0f3c01fa4040a94079c3c6cd98b758d449c8f89971a9f7bf6a91c2daf9c973a8", func := "loop.example/g01079/laws.FnExactValidLoop", spec := "fnExactValidLoop", recurses := true, apart := false, narrowed := true }
def FnExactValidLoopUptoSaid : Prop := fnExactValidLoopUptoRow.holds Try.pinned (OpenSpec.upto fnExactValidLoopSpec)

/-- 'laws.FnExactIsBounded', WHERE WHAT IT READS IS OF BULK AT MOST 1048576: true; the input reads as it did. -/
def fnExactIsBoundedUptoRow : OpenClaim := { program := "ythjehhiaedfodaa", sum := "0f3c01fa4040a94079c3c6cd98b758d449c8f89971a9f7bf6a91c2daf9c973a8", func := "loop.example/g01079/laws.FnExactIsBounded", spec := "fnExactIsBounded", unfollowed := true, recurses := true, apart := false, narrowed := true }
def FnExactIsBoundedUptoSaid : Prop := fnExactIsBoundedUptoRow.holds Try.pinned (OpenSpec.upto fnExactIsBoundedSpec)

/-- 'laws.FnExactNestingOf', WHERE WHAT IT READS IS OF BULK AT MOST 1048576: true; the input reads as it did. -/
def fnExactNestingOfUptoRow : OpenClaim := { program := "ythjehhiaedfodaa", sum := "0f3c01fa4040a94079c3c6cd98b758d449c8f89971a9f7bf6a91c2daf9c973a8", func := "loop.example/g01079/laws.FnExactNestingOf", spec := "fnExactNestingOf", unfollowed := true, recurses := true, apart := false, narrowed := true }
def FnExactNestingOfUptoSaid : Prop := fnExactNestingOfUptoRow.holds Try.pinned (OpenSpec.upto fnExactNestingOfSpec)

/-- 'laws.FnExactLoopProgram', WHERE WHAT IT READS IS OF BULK AT MOST 1048576: true; the input reads as it did. -/
def fnExactLoopProgramUptoRow : OpenClaim := { program := "ythjehhiaedfodaa", sum := "0f3c01fa4040a94079c3c6cd98b758d449c8f89971a9f7bf6a91c2daf9c973a8", func := "loop.example/g01079/laws.FnExactLoopProgram", spec := "fnExactLoopProgram", unfollowed := true, recurses := true, apart := false, narrowed := true }
def FnExactLoopProgramUptoSaid : Prop := fnExactLoopProgramUptoRow.holds Try.pinned (OpenSpec.upto fnExactLoopProgramSpec)

/-- 'laws.FnExactBranchProgram', WHERE WHAT IT READS IS OF BULK AT MOST 1048576: true; the input reads as it did. -/
def fnExactBranchProgramUptoRow : OpenClaim := { program := "ythjehhiaedfodaa", sum := "0f3c01fa4040a94079c3c6cd98b758d449c8f89971a9f7bf6a91c2daf9c973a8", func := "loop.example/g01079/laws.FnExactBranchProgram", spec := "fnExactBranchProgram", unfollowed := true, recurses := true, apart := false, narrowed := true }
def FnExactBranchProgramUptoSaid : Prop := fnExactBranchProgramUptoRow.holds Try.pinned (OpenSpec.upto fnExactBranchProgramSpec)

/-- 'laws.FnExactProgramOfLoop', WHERE WHAT IT READS IS OF BULK AT MOST 1048576: true; the input reads as it did. -/
def fnExactProgramOfLoopUptoRow : OpenClaim := { program := "ythjehhiaedfodaa", sum := "0f3c01fa4040a94079c3c6cd98b758d449c8f89971a9f7bf6a91c2daf9c973a8", func := "loop.example/g01079/laws.FnExactProgramOfLoop", spec := "fnExactProgramOfLoop", unfollowed := true, recurses := true, apart := false, narrowed := true }
def FnExactProgramOfLoopUptoSaid : Prop := fnExactProgramOfLoopUptoRow.holds Try.pinned (OpenSpec.upto fnExactProgramOfLoopSpec)

/-- 'laws.FnExactLoopOfFunc', WHERE WHAT IT READS IS OF BULK AT MOST 1048576: true; the input reads as it did. -/
def fnExactLoopOfFuncUptoRow : OpenClaim := { program := "ythjehhiaedfodaa", sum := "0f3c01fa4040a94079c3c6cd98b758d449c8f89971a9f7bf6a91c2daf9c973a8", func := "loop.example/g01079/laws.FnExactLoopOfFunc", spec := "fnExactLoopOfFunc", recurses := true, apart := false, narrowed := true }
def FnExactLoopOfFuncUptoSaid : Prop := fnExactLoopOfFuncUptoRow.holds Try.pinned (OpenSpec.upto fnExactLoopOfFuncSpec)

/-- 'laws.FnExactVariablesOf', WHERE WHAT IT READS IS OF BULK AT MOST 1048576: true; the input reads as it did. -/
def fnExactVariablesOfUptoRow : OpenClaim := { program := "ythjehhiaedfodaa", sum := "0f3c01fa4040a94079c3c6cd98b758d449c8f89971a9f7bf6a91c2daf9c973a8", func := "loop.example/g01079/laws.FnExactVariablesOf", spec := "fnExactVariablesOf", recurses := true, apart := false, narrowed := true }
def FnExactVariablesOfUptoSaid : Prop := fnExactVariablesOfUptoRow.holds Try.pinned (OpenSpec.upto fnExactVariablesOfSpec)

/-- 'laws.FnExactClearRegister', WHERE WHAT IT READS IS OF BULK AT MOST 1048576: true; the input reads as it did. -/
def fnExactClearRegisterUptoRow : OpenClaim := { program := "ythjehhiaedfodaa", sum := "0f3c01fa4040a94079c3c6cd98b758d449c8f89971a9f7bf6a91c2daf9c973a8", func := "loop.example/g01079/laws.FnExactClearRegister", spec := "fnExactClearRegister", recurses := true, apart := false, narrowed := true }
def FnExactClearRegisterUptoSaid : Prop := fnExactClearRegisterUptoRow.holds Try.pinned (OpenSpec.upto fnExactClearRegisterSpec)

/-- 'laws.FnExactMoveRegister', WHERE WHAT IT READS IS OF BULK AT MOST 1048576: true; the input reads as it did. -/
def fnExactMoveRegisterUptoRow : OpenClaim := { program := "ythjehhiaedfodaa", sum := "0f3c01fa4040a94079c3c6cd98b758d449c8f89971a9f7bf6a91c2daf9c973a8", func := "loop.example/g01079/laws.FnExactMoveRegister", spec := "fnExactMoveRegister", recurses := true, apart := false, narrowed := true }
def FnExactMoveRegisterUptoSaid : Prop := fnExactMoveRegisterUptoRow.holds Try.pinned (OpenSpec.upto fnExactMoveRegisterSpec)

end Rows
end Go.Proofs.Ythjehhiaedfodaa
