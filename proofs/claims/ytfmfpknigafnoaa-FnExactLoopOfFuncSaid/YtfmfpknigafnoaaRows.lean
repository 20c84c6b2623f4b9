/-
  No cell of these rows narrows 'for every input' (looked for: loops, veiled, ifaces, maps, wideKeys, modest, calm, conditions, laid).
  DERIVED. THE GIVEN ROWS OF THIS SEAT. 6 by the template 'for every input the law returns true; each argument reads behind the call as it read before'; 0 by the template 'total and deterministic' (their statements: YtfmfpknigafnoaaTotals.lean).
  GIVEN WITH THE SEED: the statements are not yours to turn. If you find one false, say at which input.
  Laid BY PROGRAM, IN A SANDBOX (cutbox-rows.mjs): the forced cells as the released guide's own fill.sh prints them over the translation 40be6861bba6943a… (all of the seat's roots in one cut). By AI agents, Wed Nov 11 2026. No macro, syntax, notation, axiom, sorry.
-/
import Derived.Test.YtfmfpknigafnoaaChecked
import GoSem.Claim
import GoSem.ClaimJoined
import GoSem.ClaimMapViews
import Derived.JoinedTies
import Derived.KernelRfl
namespace Go.Proofs.Ytfmfpknigafnoaa
/- THE CELL 'sum', in the pinned program and in every row, IS THE sha256 OF THE DUMP (.gsa) THAT YtfmfpknigafnoaaProg.lean LOADS. Nothing in Lean hashes anything: it is a label: what it is worth is what the hold of that sum in a sandbox is worth. -/
noncomputable def Try.pinned : Pinned := { name := "ytfmfpknigafnoaa", sum := "40be6861bba6943a40170c0ffe6d2de8c06b81a56468c2d82723224844a2e873", checked := Try.checked }
namespace Rows
def none {H : Type} : Left H := { results := [], args := [] }

/-- 'laws.FnExactBranchWhile': WHATEVER THE INPUT: true; the input reads as it did. -/
def fnExactBranchWhileSpec : ChangeSpec := { name := "fnExactBranchWhile", fn := fun _ => fun
  | [d1, d2, d3, d4, d5] => { results := [.lit (.bool true)], args := [d1, d2, d3, d4, d5] }
  | _ => none }
def fnExactBranchWhileRow : OpenClaim := { program := "ytfmfpknigafnoaa", sum := "40be6861bba6943a40170c0ffe6d2de8c06b81a56468c2d82723224844a2e873", func := "loop.example/g01079/laws.FnExactBranchWhile", spec := "fnExactBranchWhile", unfollowed := true, recurses := true, apart := false }
def FnExactBranchWhileSaid : Prop := fnExactBranchWhileRow.holds Try.pinned (OpenSpec.ofChange fnExactBranchWhileSpec)

/-- ITS FALSE NEIGHBOUR: 'it returns false'. Refute it at one input. -/
def fnExactBranchWhileWrong : ChangeSpec := { name := "fnExactBranchWhile", fn := fun _ => fun
  | [d1, d2, d3, d4, d5] => { results := [.lit (.bool false)], args := [d1, d2, d3, d4, d5] }
  | _ => none }
def FnExactBranchWhileWrongFalsely : Prop := fnExactBranchWhileRow.holds Try.pinned (OpenSpec.ofChange fnExactBranchWhileWrong)

/-- 'laws.FnExactEvalExpr': WHATEVER THE INPUT: true; the input reads as it did. -/
def fnExactEvalExprSpec : ChangeSpec := { name := "fnExactEvalExpr", fn := fun _ => fun
  | [d1, d2] => { results := [.lit (.bool true)], args := [d1, d2] }
  | _ => none }
def fnExactEvalExprRow : OpenClaim := { program := "ytfmfpknigafnoaa", sum := "40be6861bba6943a40170c0ffe6d2de8c06b81a56468c2d82723224844a2e873", func := "loop.example/g01079/laws.FnExactEvalExpr", spec := "fnExactEvalExpr", unfollowed := true, recurses := true, apart := false }
def FnExactEvalExprSaid : Prop := fnExactEvalExprRow.holds Try.pinned (OpenSpec.ofChange fnExactEvalExprSpec)

/-- ITS FALSE NEIGHBOUR: 'it returns false'. Refute it at one input. -/
def fnExactEvalExprWrong : ChangeSpec := { name := "fnExactEvalExpr", fn := fun _ => fun
  | [d1, d2] => { results := [.lit (.bool false)], args := [d1, d2] }
  | _ => none }
def FnExactEvalExprWrongFalsely : Prop := fnExactEvalExprRow.holds Try.pinned (OpenSpec.ofChange fnExactEvalExprWrong)

/-- 'laws.FnExactProgramOfFunc': WHATEVER THE INPUT: true; the input reads as it did. -/
def fnExactProgramOfFuncSpec : ChangeSpec := { name := "fnExactProgramOfFunc", fn := fun _ => fun
  | [d] => { results := [.lit (.bool true)], args := [d] }
  | _ => none }
def fnExactProgramOfFuncRow : OpenClaim := { program := "ytfmfpknigafnoaa", sum := "40be6861bba6943a40170c0ffe6d2de8c06b81a56468c2d82723224844a2e873", func := "loop.example/g01079/laws.FnExactProgramOfFunc", spec := "fnExactProgramOfFunc", unfollowed := true, recurses := true, apart := false }
def FnExactProgramOfFuncSaid : Prop := fnExactProgramOfFuncRow.holds Try.pinned (OpenSpec.ofChange fnExactProgramOfFuncSpec)

/-- ITS FALSE NEIGHBOUR: 'it returns false'. Refute it at one input. -/
def fnExactProgramOfFuncWrong : ChangeSpec := { name := "fnExactProgramOfFunc", fn := fun _ => fun
  | [d] => { results := [.lit (.bool false)], args := [d] }
  | _ => none }
def FnExactProgramOfFuncWrongFalsely : Prop := fnExactProgramOfFuncRow.holds Try.pinned (OpenSpec.ofChange fnExactProgramOfFuncWrong)

/-- 'laws.FnExactLoopOfFunc': WHATEVER THE INPUT: true; the input reads as it did. -/
def fnExactLoopOfFuncSpec : ChangeSpec := { name := "fnExactLoopOfFunc", fn := fun _ => fun
  | [d] => { results := [.lit (.bool true)], args := [d] }
  | _ => none }
def fnExactLoopOfFuncRow : OpenClaim := { program := "ytfmfpknigafnoaa", sum := "40be6861bba6943a40170c0ffe6d2de8c06b81a56468c2d82723224844a2e873", func := "loop.example/g01079/laws.FnExactLoopOfFunc", spec := "fnExactLoopOfFunc", recurses := true, apart := false }
def FnExactLoopOfFuncSaid : Prop := fnExactLoopOfFuncRow.holds Try.pinned (OpenSpec.ofChange fnExactLoopOfFuncSpec)

/-- ITS FALSE NEIGHBOUR: 'it returns false'. Refute it at one input. -/
def fnExactLoopOfFuncWrong : ChangeSpec := { name := "fnExactLoopOfFunc", fn := fun _ => fun
  | [d] => { results := [.lit (.bool false)], args := [d] }
  | _ => none }
def FnExactLoopOfFuncWrongFalsely : Prop := fnExactLoopOfFuncRow.holds Try.pinned (OpenSpec.ofChange fnExactLoopOfFuncWrong)

/-- 'laws.FnExactCombNumeral': WHATEVER THE INPUT: true; the input reads as it did. -/
def fnExactCombNumeralSpec : ChangeSpec := { name := "fnExactCombNumeral", fn := fun _ => fun
  | [d1, d2] => { results := [.lit (.bool true)], args := [d1, d2] }
  | _ => none }
def fnExactCombNumeralRow : OpenClaim := { program := "ytfmfpknigafnoaa", sum := "40be6861bba6943a40170c0ffe6d2de8c06b81a56468c2d82723224844a2e873", func := "loop.example/g01079/laws.FnExactCombNumeral", spec := "fnExactCombNumeral", unfollowed := true, recurses := true, apart := false }
def FnExactCombNumeralSaid : Prop := fnExactCombNumeralRow.holds Try.pinned (OpenSpec.ofChange fnExactCombNumeralSpec)

/-- ITS FALSE NEIGHBOUR: 'it returns false'. Refute it at one input. -/
def fnExactCombNumeralWrong : ChangeSpec := { name := "fnExactCombNumeral", fn := fun _ => fun
  | [d1, d2] => { results := [.lit (.bool false)], args := [d1, d2] }
  | _ => none }
def FnExactCombNumeralWrongFalsely : Prop := fnExactCombNumeralRow.holds Try.pinned (OpenSpec.ofChange fnExactCombNumeralWrong)

/-- 'laws.FnExactLamToComb': WHATEVER THE INPUT: true; the input reads as it did. -/
def fnExactLamToCombSpec : ChangeSpec := { name := "fnExactLamToComb", fn := fun _ => fun
  | [d1, d2] => { results := [.lit (.bool true)], args := [d1, d2] }
  | _ => none }
def fnExactLamToCombRow : OpenClaim := { program := "ytfmfpknigafnoaa", sum := "40be6861bba6943a40170c0ffe6d2de8c06b81a56468c2d82723224844a2e873", func := "loop.example/g01079/laws.FnExactLamToComb", spec := "fnExactLamToComb", unfollowed := true, recurses := true, apart := false }
def FnExactLamToCombSaid : Prop := fnExactLamToCombRow.holds Try.pinned (OpenSpec.ofChange fnExactLamToCombSpec)

/-- ITS FALSE NEIGHBOUR: 'it returns false'. Refute it at one input. -/
def fnExactLamToCombWrong : ChangeSpec := { name := "fnExactLamToComb", fn := fun _ => fun
  | [d1, d2] => { results := [.lit (.bool false)], args := [d1, d2] }
  | _ => none }
def FnExactLamToCombWrongFalsely : Prop := fnExactLamToCombRow.holds Try.pinned (OpenSpec.ofChange fnExactLamToCombWrong)

/- THE SECOND FORM. 'bulk': how many values and letters a reading holds, each counted each time it is reached (what is shared counts as often as it is met; a slice's spare places count too). A statement '..UptoSaid' is the law's where the arguments, and the package variables that the reading takes, are together of bulk at most 1048576: NARROWER than '..Said'. Prove '..Said' where nothing that the law and all that it calls make is longer than what came in: it says more and counts as full. Else prove '..UptoSaid'. A law counts once. -/
mutual
def uptoBulk {H : Type} : DataW H → Nat
  | .lit (.string bytes) => bytes.length + 1
  | .lit _ => 1
  | .nil => 1
  | .ptr d => uptoBulk d + 1
  | .slice elems spare => uptoBulkAll elems + uptoBulkAll spare + 1
  | .agg parts => uptoBulkAll parts + 1
  | .iface _ d => uptoBulk d + 1
  | .map entries => uptoBulkEntries entries + 1
  | .held _ => 1
def uptoBulkAll {H : Type} : List (DataW H) → Nat
  | [] => 0
  | d :: r => uptoBulk d + uptoBulkAll r
def uptoBulkEntries {H : Type} : List (Lit × DataW H) → Nat
  | [] => 0
  | x :: r => uptoBulkEntry x + uptoBulkEntries r
def uptoBulkEntry {H : Type} : Lit × DataW H → Nat
  | (.string bytes, d) => bytes.length + uptoBulk d + 1
  | (_, d) => uptoBulk d + 1
 end
def uptoSmall : (H : Type) → List (DataW H) → Bool := fun _ ds => decide (uptoBulkAll ds ≤ 1048576)
def OpenSpec.upto (s : _root_.Go.ChangeSpec) : _root_.Go.OpenSpec := { _root_.Go.OpenSpec.ofChange s with cond := some uptoSmall }

/-- 'laws.FnExactBranchWhile', WHERE WHAT IT READS IS OF BULK AT MOST 1048576: true; the input reads as it did. -/
def fnExactBranchWhileUptoRow : OpenClaim := { program := "ytfmfpknigafnoaa", sum := "40be6861bba6943a40170c0ffe6d2de8c06b81a56468c2d82723224844a2e873", func := "loop.example/g01079/laws.FnExactBranchWhile", spec := "fnExactBranchWhile", unfollowed := true, recurses := true, apart := false, narrowed := true }
def FnExactBranchWhileUptoSaid : Prop := fnExactBranchWhileUptoRow.holds Try.pinned (OpenSpec.upto fnExactBranchWhileSpec)

/-- 'laws.FnExactEvalExpr', WHERE WHAT IT READS IS OF BULK AT MOST 1048576: true; the input reads as it did. -/
def fnExactEvalExprUptoRow : OpenClaim := { program := "ytfmfpknigafnoaa", sum := "40be6861bba6943a40170c0ffe6d2de8c06b81a56468c2d82723224844a2e873", func := "loop.example/g01079/laws.FnExactEvalExpr", spec := "fnExactEvalExpr", unfollowed := true, recurses := true, apart := false, narrowed := true }
def FnExactEvalExprUptoSaid : Prop := fnExactEvalExprUptoRow.holds Try.pinned (OpenSpec.upto fnExactEvalExprSpec)

/-- 'laws.FnExactProgramOfFunc', WHERE WHAT IT READS IS OF BULK AT MOST 1048576: true; the input reads as it did. -/
def fnExactProgramOfFuncUptoRow : OpenClaim := { program := "ytfmfpknigafnoaa", sum := "40be6861bba6943a40170c0ffe6d2de8c06b81a56468c2d82723224844a2e873", func := "loop.example/g01079/laws.FnExactProgramOfFunc", spec := "fnExactProgramOfFunc", unfollowed := true, recurses := true, apart := false, narrowed := true }
def FnExactProgramOfFuncUptoSaid : Prop := fnExactProgramOfFuncUptoRow.holds Try.pinned (OpenSpec.upto fnExactProgramOfFuncSpec)

/-- 'laws.FnExactLoopOfFunc', WHERE WHAT IT READS IS OF BULK AT MOST 1048576: true; the input reads as it did. -/
def fnExactLoopOfFuncUptoRow : OpenClaim := { program := "ytfmfpknigafnoaa", sum := "40be6861bba6943a40170c0ffe6d2de8c06b81a56468c2d82723224844a2e873", func := "loop.example/g01079/laws.FnExactLoopOfFunc", spec := "fnExactLoopOfFunc", recurses := true, apart := false, narrowed := true }
def FnExactLoopOfFuncUptoSaid : Prop := fnExactLoopOfFuncUptoRow.holds Try.pinned (OpenSpec.upto fnExactLoopOfFuncSpec)

/-- 'laws.FnExactCombNumeral', WHERE WHAT IT READS IS OF BULK AT MOST 1048576: true; the input reads as it did. -/
def fnExactCombNumeralUptoRow : OpenClaim := { program := "ytfmfpknigafnoaa", sum := "40be6861bba6943a40170c0ffe6d2de8c06b81a56468c2d82723224844a2e873", func := "loop.example/g01079/laws.FnExactCombNumeral", spec := "fnExactCombNumeral", unfollowed := true, recurses := true, apart := false, narrowed := true }
def FnExactCombNumeralUptoSaid : Prop := fnExactCombNumeralUptoRow.holds Try.pinned (OpenSpec.upto fnExactCombNumeralSpec)

/-- 'laws.FnExactLamToComb', WHERE WHAT IT READS IS OF BULK AT MOST 1048576: true; the input reads as it did. -/
def fnExactLamToCombUptoRow : OpenClaim := { program := "ytfmfpknigafnoaa", sum := "40be6861bba6943a40170c0ffe6d2de8c06b81a56468c2d82723224844a2e873", func := "loop.example/g01079/laws.FnExactLamToComb", spec := "fnExactLamToComb", unfollowed := true, recurses := true, apart := false, narrowed := true }
def FnExactLamToCombUptoSaid : Prop := fnExactLamToCombUptoRow.holds Try.pinned (OpenSpec.upto fnExactLamToCombSpec)

end Rows
end Go.Proofs.Ytfmfpknigafnoaa
