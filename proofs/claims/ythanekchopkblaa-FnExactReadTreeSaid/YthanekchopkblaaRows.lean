/-
  No cell of these rows narrows 'for every input' (looked for: loops, veiled, ifaces, maps, wideKeys, modest, calm, conditions, laid).
  DERIVED. THE GIVEN ROWS OF THIS SEAT. 12 by the template 'for every input the law returns true; each argument reads behind the call as it read before'; 0 by the template 'total and deterministic' (their statements: YthanekchopkblaaTotals.lean).
  GIVEN WITH THE SEED: the statements are not yours to turn. If you find one false, say at which input.
  Laid BY PROGRAM, IN A SANDBOX (cutbox-rows.mjs): the forced cells as the released guide's own fill.sh prints them over the translation b82ec87e37c79f7a… (all of the seat's roots in one cut). By AI agents, Wed Nov 11 2026. No macro, syntax, notation, axiom, sorry.
-/
import Derived.Test.YthanekchopkblaaChecked
import GoSem.Claim
import GoSem.ClaimJoined
import GoSem.ClaimMapViews
import Derived.JoinedTies
import Derived.KernelRfl
namespace Go.Proofs.Ythanekchopkblaa
/- THE CELL 'sum', in the pinned program and in every row, IS THE sha256 OF THE DUMP (.gsa) THAT YthanekchopkblaaProg.lean LOADS. Nothing in Lean hashes anything: it is a label: what it is worth is what the hold of that sum in a sandbox is worth. -/
noncomputable def Try.pinned : Pinned := { name := "ythanekchopkblaa", sum := "b82ec87e37c79f7af668c90127567ab04146417916fddc8409c69653974e94d0", checked := Try.checked }
namespace Rows
def none {H : Type} : Left H := { results := [], args := [] }

/-- 'laws.FnExactCompareTrees': WHATEVER THE INPUT: true; the input reads as it did. -/
def fnExactCompareTreesSpec : ChangeSpec := { name := "fnExactCompareTrees", fn := fun _ => fun
  | [d1, d2] => { results := [.lit (.bool true)], args := [d1, d2] }
  | _ => none }
def fnExactCompareTreesRow : OpenClaim := { program := "ythanekchopkblaa", sum := "b82ec87e37c79f7af668c90127567ab04146417916fddc8409c69653974e94d0", func := "loop.example/g01079/laws.FnExactCompareTrees", spec := "fnExactCompareTrees", apart := false }
def FnExactCompareTreesSaid : Prop := fnExactCompareTreesRow.holds Try.pinned (OpenSpec.ofChange fnExactCompareTreesSpec)

/-- ITS FALSE NEIGHBOUR: 'it returns false'. Refute it at one input. -/
def fnExactCompareTreesWrong : ChangeSpec := { name := "fnExactCompareTrees", fn := fun _ => fun
  | [d1, d2] => { results := [.lit (.bool false)], args := [d1, d2] }
  | _ => none }
def FnExactCompareTreesWrongFalsely : Prop := fnExactCompareTreesRow.holds Try.pinned (OpenSpec.ofChange fnExactCompareTreesWrong)

/-- 'laws.FnExactIsTree': WHATEVER THE INPUT: true; the input reads as it did. -/
def fnExactIsTreeSpec : ChangeSpec := { name := "fnExactIsTree", fn := fun _ => fun
  | [d] => { results := [.lit (.bool true)], args := [d] }
  | _ => none }
def fnExactIsTreeRow : OpenClaim := { program := "ythanekchopkblaa", sum := "b82ec87e37c79f7af668c90127567ab04146417916fddc8409c69653974e94d0", func := "loop.example/g01079/laws.FnExactIsTree", spec := "fnExactIsTree", unfollowed := true, recurses := true, apart := false }
def FnExactIsTreeSaid : Prop := fnExactIsTreeRow.holds Try.pinned (OpenSpec.ofChange fnExactIsTreeSpec)

/-- ITS FALSE NEIGHBOUR: 'it returns false'. Refute it at one input. -/
def fnExactIsTreeWrong : ChangeSpec := { name := "fnExactIsTree", fn := fun _ => fun
  | [d] => { results := [.lit (.bool false)], args := [d] }
  | _ => none }
def FnExactIsTreeWrongFalsely : Prop := fnExactIsTreeRow.holds Try.pinned (OpenSpec.ofChange fnExactIsTreeWrong)

/-- 'laws.FnExactGapsOf': WHATEVER THE INPUT: true; the input reads as it did. -/
def fnExactGapsOfSpec : ChangeSpec := { name := "fnExactGapsOf", fn := fun _ => fun
  | [d] => { results := [.lit (.bool true)], args := [d] }
  | _ => none }
def fnExactGapsOfRow : OpenClaim := { program := "ythanekchopkblaa", sum := "b82ec87e37c79f7af668c90127567ab04146417916fddc8409c69653974e94d0", func := "loop.example/g01079/laws.FnExactGapsOf", spec := "fnExactGapsOf", apart := false }
def FnExactGapsOfSaid : Prop := fnExactGapsOfRow.holds Try.pinned (OpenSpec.ofChange fnExactGapsOfSpec)

/-- ITS FALSE NEIGHBOUR: 'it returns false'. Refute it at one input. -/
def fnExactGapsOfWrong : ChangeSpec := { name := "fnExactGapsOf", fn := fun _ => fun
  | [d] => { results := [.lit (.bool false)], args := [d] }
  | _ => none }
def FnExactGapsOfWrongFalsely : Prop := fnExactGapsOfRow.holds Try.pinned (OpenSpec.ofChange fnExactGapsOfWrong)

/-- 'laws.FnExactTreeOfNumber': WHATEVER THE INPUT: true; the input reads as it did. -/
def fnExactTreeOfNumberSpec : ChangeSpec := { name := "fnExactTreeOfNumber", fn := fun _ => fun
  | [d] => { results := [.lit (.bool true)], args := [d] }
  | _ => none }
def fnExactTreeOfNumberRow : OpenClaim := { program := "ythanekchopkblaa", sum := "b82ec87e37c79f7af668c90127567ab04146417916fddc8409c69653974e94d0", func := "loop.example/g01079/laws.FnExactTreeOfNumber", spec := "fnExactTreeOfNumber", unfollowed := true, recurses := true, apart := false }
def FnExactTreeOfNumberSaid : Prop := fnExactTreeOfNumberRow.holds Try.pinned (OpenSpec.ofChange fnExactTreeOfNumberSpec)

/-- ITS FALSE NEIGHBOUR: 'it returns false'. Refute it at one input. -/
def fnExactTreeOfNumberWrong : ChangeSpec := { name := "fnExactTreeOfNumber", fn := fun _ => fun
  | [d] => { results := [.lit (.bool false)], args := [d] }
  | _ => none }
def FnExactTreeOfNumberWrongFalsely : Prop := fnExactTreeOfNumberRow.holds Try.pinned (OpenSpec.ofChange fnExactTreeOfNumberWrong)

/-- 'laws.FnExactComposeSimulations': WHATEVER THE INPUT: true; the input reads as it did. -/
def fnExactComposeSimulationsSpec : ChangeSpec := { name := "fnExactComposeSimulations", fn := fun _ => fun
  | [d1, d2] => { results := [.lit (.bool true)], args := [d1, d2] }
  | _ => none }
def fnExactComposeSimulationsRow : OpenClaim := { program := "ythanekchopkblaa", sum := "b82ec87e37c79f7af668c90127567ab04146417916fddc8409c69653974e94d0", func := "loop.example/g01079/laws.FnExactComposeSimulations", spec := "fnExactComposeSimulations", apart := false }
def FnExactComposeSimulationsSaid : Prop := fnExactComposeSimulationsRow.holds Try.pinned (OpenSpec.ofChange fnExactComposeSimulationsSpec)

/-- ITS FALSE NEIGHBOUR: 'it returns false'. Refute it at one input. -/
def fnExactComposeSimulationsWrong : ChangeSpec := { name := "fnExactComposeSimulations", fn := fun _ => fun
  | [d1, d2] => { results := [.lit (.bool false)], args := [d1, d2] }
  | _ => none }
def FnExactComposeSimulationsWrongFalsely : Prop := fnExactComposeSimulationsRow.holds Try.pinned (OpenSpec.ofChange fnExactComposeSimulationsWrong)

/-- 'laws.FnExactDepthOf': WHATEVER THE INPUT: true; the input reads as it did. -/
def fnExactDepthOfSpec : ChangeSpec := { name := "fnExactDepthOf", fn := fun _ => fun
  | [d] => { results := [.lit (.bool true)], args := [d] }
  | _ => none }
def fnExactDepthOfRow : OpenClaim := { program := "ythanekchopkblaa", sum := "b82ec87e37c79f7af668c90127567ab04146417916fddc8409c69653974e94d0", func := "loop.example/g01079/laws.FnExactDepthOf", spec := "fnExactDepthOf", unfollowed := true, recurses := true, apart := false }
def FnExactDepthOfSaid : Prop := fnExactDepthOfRow.holds Try.pinned (OpenSpec.ofChange fnExactDepthOfSpec)

/-- ITS FALSE NEIGHBOUR: 'it returns false'. Refute it at one input. -/
def fnExactDepthOfWrong : ChangeSpec := { name := "fnExactDepthOf", fn := fun _ => fun
  | [d] => { results := [.lit (.bool false)], args := [d] }
  | _ => none }
def FnExactDepthOfWrongFalsely : Prop := fnExactDepthOfRow.holds Try.pinned (OpenSpec.ofChange fnExactDepthOfWrong)

/-- 'laws.FnExactNumberOfTree': WHATEVER THE INPUT: true; the input reads as it did. -/
def fnExactNumberOfTreeSpec : ChangeSpec := { name := "fnExactNumberOfTree", fn := fun _ => fun
  | [d] => { results := [.lit (.bool true)], args := [d] }
  | _ => none }
def fnExactNumberOfTreeRow : OpenClaim := { program := "ythanekchopkblaa", sum := "b82ec87e37c79f7af668c90127567ab04146417916fddc8409c69653974e94d0", func := "loop.example/g01079/laws.FnExactNumberOfTree", spec := "fnExactNumberOfTree", unfollowed := true, recurses := true, apart := false }
def FnExactNumberOfTreeSaid : Prop := fnExactNumberOfTreeRow.holds Try.pinned (OpenSpec.ofChange fnExactNumberOfTreeSpec)

/-- ITS FALSE NEIGHBOUR: 'it returns false'. Refute it at one input. -/
def fnExactNumberOfTreeWrong : ChangeSpec := { name := "fnExactNumberOfTree", fn := fun _ => fun
  | [d] => { results := [.lit (.bool false)], args := [d] }
  | _ => none }
def FnExactNumberOfTreeWrongFalsely : Prop := fnExactNumberOfTreeRow.holds Try.pinned (OpenSpec.ofChange fnExactNumberOfTreeWrong)

/-- 'laws.FnExactPairTrees': WHATEVER THE INPUT: true; the input reads as it did. -/
def fnExactPairTreesSpec : ChangeSpec := { name := "fnExactPairTrees", fn := fun _ => fun
  | [d1, d2] => { results := [.lit (.bool true)], args := [d1, d2] }
  | _ => none }
def fnExactPairTreesRow : OpenClaim := { program := "ythanekchopkblaa", sum := "b82ec87e37c79f7af668c90127567ab04146417916fddc8409c69653974e94d0", func := "loop.example/g01079/laws.FnExactPairTrees", spec := "fnExactPairTrees", unfollowed := true, recurses := true, apart := false }
def FnExactPairTreesSaid : Prop := fnExactPairTreesRow.holds Try.pinned (OpenSpec.ofChange fnExactPairTreesSpec)

/-- ITS FALSE NEIGHBOUR: 'it returns false'. Refute it at one input. -/
def fnExactPairTreesWrong : ChangeSpec := { name := "fnExactPairTrees", fn := fun _ => fun
  | [d1, d2] => { results := [.lit (.bool false)], args := [d1, d2] }
  | _ => none }
def FnExactPairTreesWrongFalsely : Prop := fnExactPairTreesRow.holds Try.pinned (OpenSpec.ofChange fnExactPairTreesWrong)

/-- 'laws.FnExactTreeText': WHATEVER THE INPUT: true; the input reads as it did. -/
def fnExactTreeTextSpec : ChangeSpec := { name := "fnExactTreeText", fn := fun _ => fun
  | [d] => { results := [.lit (.bool true)], args := [d] }
  | _ => none }
def fnExactTreeTextRow : OpenClaim := { program := "ythanekchopkblaa", sum := "b82ec87e37c79f7af668c90127567ab04146417916fddc8409c69653974e94d0", func := "loop.example/g01079/laws.FnExactTreeText", spec := "fnExactTreeText", inPlace := ["internal/abi.NoEscape"], unfollowed := true, recurses := true, apart := false }
def FnExactTreeTextSaid : Prop := fnExactTreeTextRow.holds Try.pinned (OpenSpec.ofChange fnExactTreeTextSpec)

/-- ITS FALSE NEIGHBOUR: 'it returns false'. Refute it at one input. -/
def fnExactTreeTextWrong : ChangeSpec := { name := "fnExactTreeText", fn := fun _ => fun
  | [d] => { results := [.lit (.bool false)], args := [d] }
  | _ => none }
def FnExactTreeTextWrongFalsely : Prop := fnExactTreeTextRow.holds Try.pinned (OpenSpec.ofChange fnExactTreeTextWrong)

/-- 'laws.FnExactListOfTree': WHATEVER THE INPUT: true; the input reads as it did. -/
def fnExactListOfTreeSpec : ChangeSpec := { name := "fnExactListOfTree", fn := fun _ => fun
  | [d] => { results := [.lit (.bool true)], args := [d] }
  | _ => none }
def fnExactListOfTreeRow : OpenClaim := { program := "ythanekchopkblaa", sum := "b82ec87e37c79f7af668c90127567ab04146417916fddc8409c69653974e94d0", func := "loop.example/g01079/laws.FnExactListOfTree", spec := "fnExactListOfTree", unfollowed := true, recurses := true, apart := false }
def FnExactListOfTreeSaid : Prop := fnExactListOfTreeRow.holds Try.pinned (OpenSpec.ofChange fnExactListOfTreeSpec)

/-- ITS FALSE NEIGHBOUR: 'it returns false'. Refute it at one input. -/
def fnExactListOfTreeWrong : ChangeSpec := { name := "fnExactListOfTree", fn := fun _ => fun
  | [d] => { results := [.lit (.bool false)], args := [d] }
  | _ => none }
def FnExactListOfTreeWrongFalsely : Prop := fnExactListOfTreeRow.holds Try.pinned (OpenSpec.ofChange fnExactListOfTreeWrong)

/-- 'laws.FnExactReadTree': WHATEVER THE INPUT: true; the input reads as it did. -/
def fnExactReadTreeSpec : ChangeSpec := { name := "fnExactReadTree", fn := fun _ => fun
  | [d] => { results := [.lit (.bool true)], args := [d] }
  | _ => none }
def fnExactReadTreeRow : OpenClaim := { program := "ythanekchopkblaa", sum := "b82ec87e37c79f7af668c90127567ab04146417916fddc8409c69653974e94d0", func := "loop.example/g01079/laws.FnExactReadTree", spec := "fnExactReadTree", inPlace := ["internal/abi.NoEscape"], unfollowed := true, recurses := true, apart := false }
def FnExactReadTreeSaid : Prop := fnExactReadTreeRow.holds Try.pinned (OpenSpec.ofChange fnExactReadTreeSpec)

/-- ITS FALSE NEIGHBOUR: 'it returns false'. Refute it at one input. -/
def fnExactReadTreeWrong : ChangeSpec := { name := "fnExactReadTree", fn := fun _ => fun
  | [d] => { results := [.lit (.bool false)], args := [d] }
  | _ => none }
def FnExactReadTreeWrongFalsely : Prop := fnExactReadTreeRow.holds Try.pinned (OpenSpec.ofChange fnExactReadTreeWrong)

/-- 'laws.FnExactPartAt': WHATEVER THE INPUT: true; the input reads as it did. -/
def fnExactPartAtSpec : ChangeSpec := { name := "fnExactPartAt", fn := fun _ => fun
  | [d1, d2] => { results := [.lit (.bool true)], args := [d1, d2] }
  | _ => none }
def fnExactPartAtRow : OpenClaim := { program := "ythanekchopkblaa", sum := "b82ec87e37c79f7af668c90127567ab04146417916fddc8409c69653974e94d0", func := "loop.example/g01079/laws.FnExactPartAt", spec := "fnExactPartAt", unfollowed := true, recurses := true, apart := false }
def FnExactPartAtSaid : Prop := fnExactPartAtRow.holds Try.pinned (OpenSpec.ofChange fnExactPartAtSpec)

/-- ITS FALSE NEIGHBOUR: 'it returns false'. Refute it at one input. -/
def fnExactPartAtWrong : ChangeSpec := { name := "fnExactPartAt", fn := fun _ => fun
  | [d1, d2] => { results := [.lit (.bool false)], args := [d1, d2] }
  | _ => none }
def FnExactPartAtWrongFalsely : Prop := fnExactPartAtRow.holds Try.pinned (OpenSpec.ofChange fnExactPartAtWrong)

/- THE SECOND FORM. 'bulk': how many values and letters a reading holds, each counted each time it is reached (what is shared counts as often as it is met; a slice's spare places count too). A statement '..UptoSaid' is the law's where the arguments, and the package variables that the reading takes, are together of bulk at most 1048576: NARROWER than '..Said'. Prove '..Said' where nothing that the law and all that it calls make is longer than what came in: it says more and counts as full. Else prove '..UptoSaid'. A law counts once. -/
mutual
def uptoBulk {H : Type} : DataW H → Nat
  | .lit (.string bytes) => bytes.length + 1
  | .lit _ => 1
  | .nil => 1
  | .ptr d => uptoBulk d + 1
  | .slice elems spare => uptoBulkAll elems + uptoBulkAll spare + 1
  | .agg parts => uptoBulkAll parts + 1
  | .iface _ d => uptoBulk d + 1
  | .map entries => uptoBulkEntries entries + 1
  | .held _ => 1
def uptoBulkAll {H : Type} : List (DataW H) → Nat
  | [] => 0
  | d :: r => uptoBulk d + uptoBulkAll r
def uptoBulkEntries {H : Type} : List (Lit × DataW H) → Nat
  | [] => 0
  | x :: r => uptoBulkEntry x + uptoBulkEntries r
def uptoBulkEntry {H : Type} : Lit × DataW H → Nat
  | (.string bytes, d) => bytes.length + uptoBulk d + 1
  | (_, d) => uptoBulk d + 1
 end
def uptoSmall : (H : Type) → List (DataW H) → Bool := fun _ ds => decide (uptoBulkAll ds ≤ 1048576)
def OpenSpec.upto (s : _root_.Go.ChangeSpec) : _root_.Go.OpenSpec := { _root_.Go.OpenSpec.ofChange s with cond := some uptoSmall }

/-- 'laws.FnExactCompareTrees', WHERE WHAT IT READS IS OF BULK AT MOST 1048576: true; the input reads as it did. -/
def fnExactCompareTreesUptoRow : OpenClaim := { program := "ythanekchopkblaa", sum := "b82ec87e37c79f7af668c90127567ab04146417916fddc8409c69653974e94d0", func := "loop.example/g01079/laws.FnExactCompareTrees", spec := "fnExactCompareTrees", apart := false, narrowed := true }
def FnExactCompareTreesUptoSaid : Prop := fnExactCompareTreesUptoRow.holds Try.pinned (OpenSpec.upto fnExactCompareTreesSpec)

/-- 'laws.FnExactIsTree', WHERE WHAT IT READS IS OF BULK AT MOST 1048576: true; the input reads as it did. -/
def fnExactIsTreeUptoRow : OpenClaim := { program := "ythanekchopkblaa", sum := "b82ec87e37c79f7af668c90127567ab04146417916fddc8409c69653974e94d0", func := "loop.example/g01079/laws.FnExactIsTree", spec := "fnExactIsTree", unfollowed := true, recurses := true, apart := false, narrowed := true }
def FnExactIsTreeUptoSaid : Prop := fnExactIsTreeUptoRow.holds Try.pinned (OpenSpec.upto fnExactIsTreeSpec)

/-- 'laws.FnExactGapsOf', WHERE WHAT IT READS IS OF BULK AT MOST 1048576: true; the input reads as it did. -/
def fnExactGapsOfUptoRow : OpenClaim := { program := "ythanekchopkblaa", sum := "b82ec87e37c79f7af668c90127567ab04146417916fddc8409c69653974e94d0", func := "loop.example/g01079/laws.FnExactGapsOf", spec := "fnExactGapsOf", apart := false, narrowed := true }
def FnExactGapsOfUptoSaid : Prop := fnExactGapsOfUptoRow.holds Try.pinned (OpenSpec.upto fnExactGapsOfSpec)

/-- 'laws.FnExactTreeOfNumber', WHERE WHAT IT READS IS OF BULK AT MOST 1048576: true; the input reads as it did. -/
def fnExactTreeOfNumberUptoRow : OpenClaim := { program := "ythanekchopkblaa", sum := "b82ec87e37c79f7af668c90127567ab04146417916fddc8409c69653974e94d0", func := "loop.example/g01079/laws.FnExactTreeOfNumber", spec := "fnExactTreeOfNumber", unfollowed := true, recurses := true, apart := false, narrowed := true }
def FnExactTreeOfNumberUptoSaid : Prop := fnExactTreeOfNumberUptoRow.holds Try.pinned (OpenSpec.upto fnExactTreeOfNumberSpec)

/-- 'laws.FnExactComposeSimulations', WHERE WHAT IT READS IS OF BULK AT MOST 1048576: true; the input reads as it did. -/
def fnExactComposeSimulationsUptoRow : OpenClaim := { program := "ythanekchopkblaa", sum := "b82ec87e37c79f7af668c90127567ab04146417916fddc8409c69653974e94d0", func := "loop.example/g01079/laws.FnExactComposeSimulations", spec := "fnExactComposeSimulations", apart := false, narrowed := true }
def FnExactComposeSimulationsUptoSaid : Prop := fnExactComposeSimulationsUptoRow.holds Try.pinned (OpenSpec.upto fnExactComposeSimulationsSpec)

/-- 'laws.FnExactDepthOf', WHERE WHAT IT READS IS OF BULK AT MOST 1048576: true; the input reads as it did. -/
def fnExactDepthOfUptoRow : OpenClaim := { program := "ythanekchopkblaa", sum := "b82ec87e37c79f7af668c90127567ab04146417916fddc8409c69653974e94d0", func := "loop.example/g01079/laws.FnExactDepthOf", spec := "fnExactDepthOf", unfollowed := true, recurses := true, apart := false, narrowed := true }
def FnExactDepthOfUptoSaid : Prop := fnExactDepthOfUptoRow.holds Try.pinned (OpenSpec.upto fnExactDepthOfSpec)

/-- 'laws.FnExactNumberOfTree', WHERE WHAT IT READS IS OF BULK AT MOST 1048576: true; the input reads as it did. -/
def fnExactNumberOfTreeUptoRow : OpenClaim := { program := "ythanekchopkblaa", sum := "b82ec87e37c79f7af668c90127567ab04146417916fddc8409c69653974e94d0", func := "loop.example/g01079/laws.FnExactNumberOfTree", spec := "fnExactNumberOfTree", unfollowed := true, recurses := true, apart := false, narrowed := true }
def FnExactNumberOfTreeUptoSaid : Prop := fnExactNumberOfTreeUptoRow.holds Try.pinned (OpenSpec.upto fnExactNumberOfTreeSpec)

/-- 'laws.FnExactPairTrees', WHERE WHAT IT READS IS OF BULK AT MOST 1048576: true; the input reads as it did. -/
def fnExactPairTreesUptoRow : OpenClaim := { program := "ythanekchopkblaa", sum := "b82ec87e37c79f7af668c90127567ab04146417916fddc8409c69653974e94d0", func := "loop.example/g01079/laws.FnExactPairTrees", spec := "fnExactPairTrees", unfollowed := true, recurses := true, apart := false, narrowed := true }
def FnExactPairTreesUptoSaid : Prop := fnExactPairTreesUptoRow.holds Try.pinned (OpenSpec.upto fnExactPairTreesSpec)

/-- 'laws.FnExactTreeText', WHERE WHAT IT READS IS OF BULK AT MOST 1048576: true; the input reads as it did. -/
def fnExactTreeTextUptoRow : OpenClaim := { program := "ythanekchopkblaa", sum := "b82ec87e37c79f7af668c90127567ab04146417916fddc8409c69653974e94d0", func := "loop.example/g01079/laws.FnExactTreeText", spec := "fnExactTreeText", inPlace := ["internal/abi.NoEscape"], unfollowed := true, recurses := true, apart := false, narrowed := true }
def FnExactTreeTextUptoSaid : Prop := fnExactTreeTextUptoRow.holds Try.pinned (OpenSpec.upto fnExactTreeTextSpec)

/-- 'laws.FnExactListOfTree', WHERE WHAT IT READS IS OF BULK AT MOST 1048576: true; the input reads as it did. -/
def fnExactListOfTreeUptoRow : OpenClaim := { program := "ythanekchopkblaa", sum := "b82ec87e37c79f7af668c90127567ab04146417916fddc8409c69653974e94d0", func := "loop.example/g01079/laws.FnExactListOfTree", spec := "fnExactListOfTree", unfollowed := true, recurses := true, apart := false, narrowed := true }
def FnExactListOfTreeUptoSaid : Prop := fnExactListOfTreeUptoRow.holds Try.pinned (OpenSpec.upto fnExactListOfTreeSpec)

/-- 'laws.FnExactReadTree', WHERE WHAT IT READS IS OF BULK AT MOST 1048576: true; the input reads as it did. -/
def fnExactReadTreeUptoRow : OpenClaim := { program := "ythanekchopkblaa", sum := "b82ec87e37c79f7af668c90127567ab04146417916fddc8409c69653974e94d0", func := "loop.example/g01079/laws.FnExactReadTree", spec := "fnExactReadTree", inPlace := ["internal/abi.NoEscape"], unfollowed := true, recurses := true, apart := false, narrowed := true }
def FnExactReadTreeUptoSaid : Prop := fnExactReadTreeUptoRow.holds Try.pinned (OpenSpec.upto fnExactReadTreeSpec)

/-- 'laws.FnExactPartAt', WHERE WHAT IT READS IS OF BULK AT MOST 1048576: true; the input reads as it did. -/
def fnExactPartAtUptoRow : OpenClaim := { program := "ythanekchopkblaa", sum := "b82ec87e37c79f7af668c90127567ab04146417916fddc8409c69653974e94d0", func := "loop.example/g01079/laws.FnExactPartAt", spec := "fnExactPartAt", unfollowed := true, recurses := true, apart := false, narrowed := true }
def FnExactPartAtUptoSaid : Prop := fnExactPartAtUptoRow.holds Try.pinned (OpenSpec.upto fnExactPartAtSpec)

end Rows
end Go.Proofs.Ythanekchopkblaa
