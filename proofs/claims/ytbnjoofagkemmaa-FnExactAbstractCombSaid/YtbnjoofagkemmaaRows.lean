/-
  No cell of these rows narrows 'for every input' (looked for: loops, veiled, ifaces, maps, wideKeys, modest, calm, conditions, laid).
  DERIVED. THE GIVEN ROWS OF THIS SEAT. 6 by the template 'for every input the law returns true; each argument reads behind the call as it read before'; 0 by the template 'total and deterministic' (their statements: YtbnjoofagkemmaaTotals.lean).
  GIVEN WITH THE SEED: the statements are not yours to turn. If you find one false, say at which input.
  Laid BY PROGRAM, IN A SANDBOX (cutbox-rows.mjs): the forced cells as the released guide's own fill.sh prints them over the translation 093d1f871a646a60… (all of the seat's roots in one cut). By AI agents, Wed Nov 11 2026. No macro, syntax, notation, axiom, sorry.
-/
import Derived.Test.YtbnjoofagkemmaaChecked
import GoSem.Claim
import GoSem.ClaimJoined
import GoSem.ClaimMapViews
import Derived.JoinedTies
import Derived.KernelRfl
namespace Go.Proofs.Ytbnjoofagkemmaa
/- THE CELL 'sum', in the pinned program and in every row, IS THE sha256 OF THE DUMP (.gsa) THAT YtbnjoofagkemmaaProg.lean LOADS. Nothing in Lean hashes anything: it is a label: what it is worth is what the hold of that sum in a sandbox is worth. -/
noncomputable def Try.pinned : Pinned := { name := "ytbnjoofagkemmaa", sum := "093d1f871a646a60434bac232877fce754ff0378721afe542bd25508b6e3fc50", checked := Try.checked }
namespace Rows
def none {H : Type} : Left H := { results := [], args := [] }

/-- 'laws.FnExactSubstituteComb': WHATEVER THE INPUT: true; the input reads as it did. -/
def fnExactSubstituteCombSpec : ChangeSpec := { name := "fnExactSubstituteComb", fn := fun _ => fun
  | [d1, d2, d3] => { results := [.lit (.bool true)], args := [d1, d2, d3] }
  | _ => none }
def fnExactSubstituteCombRow : OpenClaim := { program := "ytbnjoofagkemmaa", sum := "093d1f871a646a60434bac232877fce754ff0378721afe542bd25508b6e3fc50", func := "loop.example/g01079/laws.FnExactSubstituteComb", spec := "fnExactSubstituteComb", unfollowed := true, recurses := true, apart := false }
def FnExactSubstituteCombSaid : Prop := fnExactSubstituteCombRow.holds Try.pinned (OpenSpec.ofChange fnExactSubstituteCombSpec)

/-- ITS FALSE NEIGHBOUR: 'it returns false'. Refute it at one input. -/
def fnExactSubstituteCombWrong : ChangeSpec := { name := "fnExactSubstituteComb", fn := fun _ => fun
  | [d1, d2, d3] => { results := [.lit (.bool false)], args := [d1, d2, d3] }
  | _ => none }
def FnExactSubstituteCombWrongFalsely : Prop := fnExactSubstituteCombRow.holds Try.pinned (OpenSpec.ofChange fnExactSubstituteCombWrong)

/-- 'laws.FnExactApplyComb': WHATEVER THE INPUT: true; the input reads as it did. -/
def fnExactApplyCombSpec : ChangeSpec := { name := "fnExactApplyComb", fn := fun _ => fun
  | [d1, d2] => { results := [.lit (.bool true)], args := [d1, d2] }
  | _ => none }
def fnExactApplyCombRow : OpenClaim := { program := "ytbnjoofagkemmaa", sum := "093d1f871a646a60434bac232877fce754ff0378721afe542bd25508b6e3fc50", func := "loop.example/g01079/laws.FnExactApplyComb", spec := "fnExactApplyComb", unfollowed := true, recurses := true, apart := false }
def FnExactApplyCombSaid : Prop := fnExactApplyCombRow.holds Try.pinned (OpenSpec.ofChange fnExactApplyCombSpec)

/-- ITS FALSE NEIGHBOUR: 'it returns false'. Refute it at one input. -/
def fnExactApplyCombWrong : ChangeSpec := { name := "fnExactApplyComb", fn := fun _ => fun
  | [d1, d2] => { results := [.lit (.bool false)], args := [d1, d2] }
  | _ => none }
def FnExactApplyCombWrongFalsely : Prop := fnExactApplyCombRow.holds Try.pinned (OpenSpec.ofChange fnExactApplyCombWrong)

/-- 'laws.FnExactAbstractComb': WHATEVER THE INPUT: true; the input reads as it did. -/
def fnExactAbstractCombSpec : ChangeSpec := { name := "fnExactAbstractComb", fn := fun _ => fun
  | [d1, d2, d3] => { results := [.lit (.bool true)], args := [d1, d2, d3] }
  | _ => none }
def fnExactAbstractCombRow : OpenClaim := { program := "ytbnjoofagkemmaa", sum := "093d1f871a646a60434bac232877fce754ff0378721afe542bd25508b6e3fc50", func := "loop.example/g01079/laws.FnExactAbstractComb", spec := "fnExactAbstractComb", unfollowed := true, recurses := true, apart := false }
def FnExactAbstractCombSaid : Prop := fnExactAbstractCombRow.holds Try.pinned (OpenSpec.ofChange fnExactAbstractCombSpec)

/-- ITS FALSE NEIGHBOUR: 'it returns false'. Refute it at one input. -/
def fnExactAbstractCombWrong : ChangeSpec := { name := "fnExactAbstractComb", fn := fun _ => fun
  | [d1, d2, d3] => { results := [.lit (.bool false)], args := [d1, d2, d3] }
  | _ => none }
def FnExactAbstractCombWrongFalsely : Prop := fnExactAbstractCombRow.holds Try.pinned (OpenSpec.ofChange fnExactAbstractCombWrong)

/-- 'laws.FnExactCombNumeral': WHATEVER THE INPUT: true; the input reads as it did. -/
def fnExactCombNumeralSpec : ChangeSpec := { name := "fnExactCombNumeral", fn := fun _ => fun
  | [d1, d2] => { results := [.lit (.bool true)], args := [d1, d2] }
  | _ => none }
def fnExactCombNumeralRow : OpenClaim := { program := "ytbnjoofagkemmaa", sum := "093d1f871a646a60434bac232877fce754ff0378721afe542bd25508b6e3fc50", func := "loop.example/g01079/laws.FnExactCombNumeral", spec := "fnExactCombNumeral", unfollowed := true, recurses := true, apart := false }
def FnExactCombNumeralSaid : Prop := fnExactCombNumeralRow.holds Try.pinned (OpenSpec.ofChange fnExactCombNumeralSpec)

/-- ITS FALSE NEIGHBOUR: 'it returns false'. Refute it at one input. -/
def fnExactCombNumeralWrong : ChangeSpec := { name := "fnExactCombNumeral", fn := fun _ => fun
  | [d1, d2] => { results := [.lit (.bool false)], args := [d1, d2] }
  | _ => none }
def FnExactCombNumeralWrongFalsely : Prop := fnExactCombNumeralRow.holds Try.pinned (OpenSpec.ofChange fnExactCombNumeralWrong)

/-- 'laws.FnExactLamToComb': WHATEVER THE INPUT: true; the input reads as it did. -/
def fnExactLamToCombSpec : ChangeSpec := { name := "fnExactLamToComb", fn := fun _ => fun
  | [d1, d2] => { results := [.lit (.bool true)], args := [d1, d2] }
  | _ => none }
def fnExactLamToCombRow : OpenClaim := { program := "ytbnjoofagkemmaa", sum := "093d1f871a646a60434bac232877fce754ff0378721afe542bd25508b6e3fc50", func := "loop.example/g01079/laws.FnExactLamToComb", spec := "fnExactLamToComb", unfollowed := true, recurses := true, apart := false }
def FnExactLamToCombSaid : Prop := fnExactLamToCombRow.holds Try.pinned (OpenSpec.ofChange fnExactLamToCombSpec)

/-- ITS FALSE NEIGHBOUR: 'it returns false'. Refute it at one input. -/
def fnExactLamToCombWrong : ChangeSpec := { name := "fnExactLamToComb", fn := fun _ => fun
  | [d1, d2] => { results := [.lit (.bool false)], args := [d1, d2] }
  | _ => none }
def FnExactLamToCombWrongFalsely : Prop := fnExactLamToCombRow.holds Try.pinned (OpenSpec.ofChange fnExactLamToCombWrong)

/-- 'laws.FnExactCombVariables': WHATEVER THE INPUT: true; the input reads as it did. -/
def fnExactCombVariablesSpec : ChangeSpec := { name := "fnExactCombVariables", fn := fun _ => fun
  | [d] => { results := [.lit (.bool true)], args := [d] }
  | _ => none }
def fnExactCombVariablesRow : OpenClaim := { program := "ytbnjoofagkemmaa", sum := "093d1f871a646a60434bac232877fce754ff0378721afe542bd25508b6e3fc50", func := "loop.example/g01079/laws.FnExactCombVariables", spec := "fnExactCombVariables", unfollowed := true, recurses := true, apart := false }
def FnExactCombVariablesSaid : Prop := fnExactCombVariablesRow.holds Try.pinned (OpenSpec.ofChange fnExactCombVariablesSpec)

/-- ITS FALSE NEIGHBOUR: 'it returns false'. Refute it at one input. -/
def fnExactCombVariablesWrong : ChangeSpec := { name := "fnExactCombVariables", fn := fun _ => fun
  | [d] => { results := [.lit (.bool false)], args := [d] }
  | _ => none }
def FnExactCombVariablesWrongFalsely : Prop := fnExactCombVariablesRow.holds Try.pinned (OpenSpec.ofChange fnExactCombVariablesWrong)

/- THE SECOND FORM. 'bulk': how many values and letters a reading holds, each counted each time it is reached (what is shared counts as often as it is met; a slice's spare places count too). A statement '..UptoSaid' is the law's where the arguments, and the package variables that the reading takes, are together of bulk at most 1048576: NARROWER than '..Said'. Prove '..Said' where nothing that the law and all that it calls make is longer than what came in: it says more and counts as full. Else prove '..UptoSaid'. A law counts once. -/
mutual
def uptoBulk {H : Type} : DataW H → Nat
  | .lit (.string bytes) => bytes.length + 1
  | .lit _ => 1
  | .nil => 1
  | .ptr d => uptoBulk d + 1
  | .slice elems spare => uptoBulkAll elems + uptoBulkAll spare + 1
  | .agg parts => uptoBulkAll parts + 1
  | .iface _ d => uptoBulk d + 1
  | .map entries => uptoBulkEntries entries + 1
  | .held _ => 1
def uptoBulkAll {H : Type} : List (DataW H) → Nat
  | [] => 0
  | d :: r => uptoBulk d + uptoBulkAll r
def uptoBulkEntries {H : Type} : List (Lit × DataW H) → Nat
  | [] => 0
  | x :: r => uptoBulkEntry x + uptoBulkEntries r
def uptoBulkEntry {H : Type} : Lit × DataW H → Nat
  | (.string bytes, d) => bytes.length + uptoBulk d + 1
  | (_, d) => uptoBulk d + 1
 end
def uptoSmall : (H : Type) → List (DataW H) → Bool := fun _ ds => decide (uptoBulkAll ds ≤ 1048576)
def OpenSpec.upto (s : _root_.Go.ChangeSpec) : _root_.Go.OpenSpec := { _root_.Go.OpenSpec.ofChange s with cond := some uptoSmall }

/-- 'laws.FnExactSubstituteComb', WHERE WHAT IT READS IS OF BULK AT MOST 1048576: true; the input reads as it did. -/
def fnExactSubstituteCombUptoRow : OpenClaim := { program := "ytbnjoofagkemmaa", sum := "093d1f871a646a60434bac232877fce754ff0378721afe542bd25508b6e3fc50", func := "loop.example/g01079/laws.FnExactSubstituteComb", spec := "fnExactSubstituteComb", unfollowed := true, recurses := true, apart := false, narrowed := true }
def FnExactSubstituteCombUptoSaid : Prop := fnExactSubstituteCombUptoRow.holds Try.pinned (OpenSpec.upto fnExactSubstituteCombSpec)

/-- 'laws.FnExactApplyComb', WHERE WHAT IT READS IS OF BULK AT MOST 1048576: true; the input reads as it did. -/
def fnExactApplyCombUptoRow : OpenClaim := { program := "ytbnjoofagkemmaa", sum := "093d1f871a646a60434bac232877fce754ff0378721afe542bd25508b6e3fc50", func := "loop.example/g01079/laws.FnExactApplyComb", spec := "fnExactApplyComb", unfollowed := true, recurses := true, apart := false, narrowed := true }
def FnExactApplyCombUptoSaid : Prop := fnExactApplyCombUptoRow.holds Try.pinned (OpenSpec.upto fnExactApplyCombSpec)

/-- 'laws.FnExactAbstractComb', WHERE WHAT IT READS IS OF BULK AT MOST 1048576: true; the input reads as it did. -/
def fnExactAbstractCombUptoRow : OpenClaim := { program := "ytbnjoofagkemmaa", sum := "093d1f871a646a60434bac232877fce754ff0378721afe542bd25508b6e3fc50", func := "loop.example/g01079/laws.FnExactAbstractComb", spec := "fnExactAbstractComb", unfollowed := true, recurses := true, apart := false, narrowed := true }
def FnExactAbstractCombUptoSaid : Prop := fnExactAbstractCombUptoRow.holds Try.pinned (OpenSpec.upto fnExactAbstractCombSpec)

/-- 'laws.FnExactCombNumeral', WHERE WHAT IT READS IS OF BULK AT MOST 1048576: true; the input reads as it did. -/
def fnExactCombNumeralUptoRow : OpenClaim := { program := "ytbnjoofagkemmaa", sum := "093d1f871a646a60434bac232877fce754ff0378721afe542bd25508b6e3fc50", func := "loop.example/g01079/laws.FnExactCombNumeral", spec := "fnExactCombNumeral", unfollowed := true, recurses := true, apart := false, narrowed := true }
def FnExactCombNumeralUptoSaid : Prop := fnExactCombNumeralUptoRow.holds Try.pinned (OpenSpec.upto fnExactCombNumeralSpec)

/-- 'laws.FnExactLamToComb', WHERE WHAT IT READS IS OF BULK AT MOST 1048576: true; the input reads as it did. -/
def fnExactLamToCombUptoRow : OpenClaim := { program := "ytbnjoofagkemmaa", sum := "093d1f871a646a60434bac232877fce754ff0378721afe542bd25508b6e3fc50", func := "loop.example/g01079/laws.FnExactLamToComb", spec := "fnExactLamToComb", unfollowed := true, recurses := true, apart := false, narrowed := true }
def FnExactLamToCombUptoSaid : Prop := fnExactLamToCombUptoRow.holds Try.pinned (OpenSpec.upto fnExactLamToCombSpec)

/-- 'laws.FnExactCombVariables', WHERE WHAT IT READS IS OF BULK AT MOST 1048576: true; the input reads as it did. -/
def fnExactCombVariablesUptoRow : OpenClaim := { program := "ytbnjoofagkemmaa", sum := "093d1f871a646a60434bac232877fce754ff0378721afe542bd25508b6e3fc50", func := "loop.example/g01079/laws.FnExactCombVariables", spec := "fnExactCombVariables", unfollowed := true, recurses := true, apart := false, narrowed := true }
def FnExactCombVariablesUptoSaid : Prop := fnExactCombVariablesUptoRow.holds Try.pinned (OpenSpec.upto fnExactCombVariablesSpec)

end Rows
end Go.Proofs.Ytbnjoofagkemmaa
