/-
  No cell of these rows narrows 'for every input' (looked for: loops, veiled, ifaces, maps, wideKeys, modest, calm, conditions, laid).
  DERIVED. THE GIVEN ROWS OF THIS SEAT. 12 by the template 'for every input the law returns true; each argument reads behind the call as it read before'; 0 by the template 'total and deterministic' (their statements: YtfjbiiklggogkaaTotals.lean).
  GIVEN WITH THE SEED: the statements are not yours to turn. If you find one false, say at which input.
  Laid BY PROGRAM, IN A SANDBOX (cutbox-rows.mjs): the forced cells as the released guide's own fill.sh prints them over the translation f3e6e7ae1847b274… (all of the seat's roots in one cut). By AI agents, Wed Nov 11 2026. No macro, syntax, notation, axiom, sorry.
-/
import Derived.Test.YtfjbiiklggogkaaChecked
import GoSem.Claim
import GoSem.ClaimJoined
import GoSem.ClaimMapViews
import Derived.JoinedTies
import Derived.KernelRfl
namespace Go.Proofs.Ytfjbiiklggogkaa
/- THE CELL 'sum', in the pinned program and in every row, IS THE sha256 OF THE DUMP (.gsa) THAT YtfjbiiklggogkaaProg.lean LOADS. Nothing in Lean hashes anything: it is a label: what it is worth is what the hold of that sum in a sandbox is worth. -/
noncomputable def Try.pinned : Pinned := { name := "ytfjbiiklggogkaa", sum := "f3e6e7ae1847b2746e61b0f5ef6997900fc783dca7f54b194372e8eb7f66a452", checked := Try.checked }
namespace Rows
def none {H : Type} : Left H := { results := [], args := [] }

/-- 'laws.FnExactBoundHolds': WHATEVER THE INPUT: true; the input reads as it did. -/
def fnExactBoundHoldsSpec : ChangeSpec := { name := "fnExactBoundHolds", fn := fun _ => fun
  | [d1, d2, d3, d4] => { results := [.lit (.bool true)], args := [d1, d2, d3, d4] }
  | _ => none }
def fnExactBoundHoldsRow : OpenClaim := { program := "ytfjbiiklggogkaa", sum := "f3e6e7ae1847b2746e61b0f5ef6997900fc783dca7f54b194372e8eb7f66a452", func := "loop.example/g01079/laws.FnExactBoundHolds", spec := "fnExactBoundHolds", apart := false }
def FnExactBoundHoldsSaid : Prop := fnExactBoundHoldsRow.holds Try.pinned (OpenSpec.ofChange fnExactBoundHoldsSpec)

/-- ITS FALSE NEIGHBOUR: 'it returns false'. Refute it at one input. -/
def fnExactBoundHoldsWrong : ChangeSpec := { name := "fnExactBoundHolds", fn := fun _ => fun
  | [d1, d2, d3, d4] => { results := [.lit (.bool false)], args := [d1, d2, d3, d4] }
  | _ => none }
def FnExactBoundHoldsWrongFalsely : Prop := fnExactBoundHoldsRow.holds Try.pinned (OpenSpec.ofChange fnExactBoundHoldsWrong)

/-- 'laws.FnExactLeastFactor': WHATEVER THE INPUT: true; the input reads as it did. -/
def fnExactLeastFactorSpec : ChangeSpec := { name := "fnExactLeastFactor", fn := fun _ => fun
  | [d1, d2, d3] => { results := [.lit (.bool true)], args := [d1, d2, d3] }
  | _ => none }
def fnExactLeastFactorRow : OpenClaim := { program := "ytfjbiiklggogkaa", sum := "f3e6e7ae1847b2746e61b0f5ef6997900fc783dca7f54b194372e8eb7f66a452", func := "loop.example/g01079/laws.FnExactLeastFactor", spec := "fnExactLeastFactor", apart := false }
def FnExactLeastFactorSaid : Prop := fnExactLeastFactorRow.holds Try.pinned (OpenSpec.ofChange fnExactLeastFactorSpec)

/-- ITS FALSE NEIGHBOUR: 'it returns false'. Refute it at one input. -/
def fnExactLeastFactorWrong : ChangeSpec := { name := "fnExactLeastFactor", fn := fun _ => fun
  | [d1, d2, d3] => { results := [.lit (.bool false)], args := [d1, d2, d3] }
  | _ => none }
def FnExactLeastFactorWrongFalsely : Prop := fnExactLeastFactorRow.holds Try.pinned (OpenSpec.ofChange fnExactLeastFactorWrong)

/-- 'laws.FnExactIsSimulation': WHATEVER THE INPUT: true; the input reads as it did. -/
def fnExactIsSimulationSpec : ChangeSpec := { name := "fnExactIsSimulation", fn := fun _ => fun
  | [d1, d2, d3] => { results := [.lit (.bool true)], args := [d1, d2, d3] }
  | _ => none }
def fnExactIsSimulationRow : OpenClaim := { program := "ytfjbiiklggogkaa", sum := "f3e6e7ae1847b2746e61b0f5ef6997900fc783dca7f54b194372e8eb7f66a452", func := "loop.example/g01079/laws.FnExactIsSimulation", spec := "fnExactIsSimulation", apart := false }
def FnExactIsSimulationSaid : Prop := fnExactIsSimulationRow.holds Try.pinned (OpenSpec.ofChange fnExactIsSimulationSpec)

/-- ITS FALSE NEIGHBOUR: 'it returns false'. Refute it at one input. -/
def fnExactIsSimulationWrong : ChangeSpec := { name := "fnExactIsSimulation", fn := fun _ => fun
  | [d1, d2, d3] => { results := [.lit (.bool false)], args := [d1, d2, d3] }
  | _ => none }
def FnExactIsSimulationWrongFalsely : Prop := fnExactIsSimulationRow.holds Try.pinned (OpenSpec.ofChange fnExactIsSimulationWrong)

/-- 'laws.FnExactSettledTexts': WHATEVER THE INPUT: true; the input reads as it did. -/
def fnExactSettledTextsSpec : ChangeSpec := { name := "fnExactSettledTexts", fn := fun _ => fun
  | [d] => { results := [.lit (.bool true)], args := [d] }
  | _ => none }
def fnExactSettledTextsRow : OpenClaim := { program := "ytfjbiiklggogkaa", sum := "f3e6e7ae1847b2746e61b0f5ef6997900fc783dca7f54b194372e8eb7f66a452", func := "loop.example/g01079/laws.FnExactSettledTexts", spec := "fnExactSettledTexts", unfollowed := true, recurses := true, apart := false }
def FnExactSettledTextsSaid : Prop := fnExactSettledTextsRow.holds Try.pinned (OpenSpec.ofChange fnExactSettledTextsSpec)

/-- ITS FALSE NEIGHBOUR: 'it returns false'. Refute it at one input. -/
def fnExactSettledTextsWrong : ChangeSpec := { name := "fnExactSettledTexts", fn := fun _ => fun
  | [d] => { results := [.lit (.bool false)], args := [d] }
  | _ => none }
def FnExactSettledTextsWrongFalsely : Prop := fnExactSettledTextsRow.holds Try.pinned (OpenSpec.ofChange fnExactSettledTextsWrong)

/-- 'laws.FnExactFindSimulation': WHATEVER THE INPUT: true; the input reads as it did. -/
def fnExactFindSimulationSpec : ChangeSpec := { name := "fnExactFindSimulation", fn := fun _ => fun
  | [d1, d2] => { results := [.lit (.bool true)], args := [d1, d2] }
  | _ => none }
def fnExactFindSimulationRow : OpenClaim := { program := "ytfjbiiklggogkaa", sum := "f3e6e7ae1847b2746e61b0f5ef6997900fc783dca7f54b194372e8eb7f66a452", func := "loop.example/g01079/laws.FnExactFindSimulation", spec := "fnExactFindSimulation", apart := false }
def FnExactFindSimulationSaid : Prop := fnExactFindSimulationRow.holds Try.pinned (OpenSpec.ofChange fnExactFindSimulationSpec)

/-- ITS FALSE NEIGHBOUR: 'it returns false'. Refute it at one input. -/
def fnExactFindSimulationWrong : ChangeSpec := { name := "fnExactFindSimulation", fn := fun _ => fun
  | [d1, d2] => { results := [.lit (.bool false)], args := [d1, d2] }
  | _ => none }
def FnExactFindSimulationWrongFalsely : Prop := fnExactFindSimulationRow.holds Try.pinned (OpenSpec.ofChange fnExactFindSimulationWrong)

/-- 'laws.FnExactReplaceAt': WHATEVER THE INPUT: true; the input reads as it did. -/
def fnExactReplaceAtSpec : ChangeSpec := { name := "fnExactReplaceAt", fn := fun _ => fun
  | [d1, d2, d3, d4] => { results := [.lit (.bool true)], args := [d1, d2, d3, d4] }
  | _ => none }
def fnExactReplaceAtRow : OpenClaim := { program := "ytfjbiiklggogkaa", sum := "f3e6e7ae1847b2746e61b0f5ef6997900fc783dca7f54b194372e8eb7f66a452", func := "loop.example/g01079/laws.FnExactReplaceAt", spec := "fnExactReplaceAt", unfollowed := true, recurses := true, apart := false }
def FnExactReplaceAtSaid : Prop := fnExactReplaceAtRow.holds Try.pinned (OpenSpec.ofChange fnExactReplaceAtSpec)

/-- ITS FALSE NEIGHBOUR: 'it returns false'. Refute it at one input. -/
def fnExactReplaceAtWrong : ChangeSpec := { name := "fnExactReplaceAt", fn := fun _ => fun
  | [d1, d2, d3, d4] => { results := [.lit (.bool false)], args := [d1, d2, d3, d4] }
  | _ => none }
def FnExactReplaceAtWrongFalsely : Prop := fnExactReplaceAtRow.holds Try.pinned (OpenSpec.ofChange fnExactReplaceAtWrong)

/-- 'laws.FnExactReplaceFirst': WHATEVER THE INPUT: true; the input reads as it did. -/
def fnExactReplaceFirstSpec : ChangeSpec := { name := "fnExactReplaceFirst", fn := fun _ => fun
  | [d1, d2, d3] => { results := [.lit (.bool true)], args := [d1, d2, d3] }
  | _ => none }
def fnExactReplaceFirstRow : OpenClaim := { program := "ytfjbiiklggogkaa", sum := "f3e6e7ae1847b2746e61b0f5ef6997900fc783dca7f54b194372e8eb7f66a452", func := "loop.example/g01079/laws.FnExactReplaceFirst", spec := "fnExactReplaceFirst", unfollowed := true, recurses := true, apart := false }
def FnExactReplaceFirstSaid : Prop := fnExactReplaceFirstRow.holds Try.pinned (OpenSpec.ofChange fnExactReplaceFirstSpec)

/-- ITS FALSE NEIGHBOUR: 'it returns false'. Refute it at one input. -/
def fnExactReplaceFirstWrong : ChangeSpec := { name := "fnExactReplaceFirst", fn := fun _ => fun
  | [d1, d2, d3] => { results := [.lit (.bool false)], args := [d1, d2, d3] }
  | _ => none }
def FnExactReplaceFirstWrongFalsely : Prop := fnExactReplaceFirstRow.holds Try.pinned (OpenSpec.ofChange fnExactReplaceFirstWrong)

/-- 'laws.FnExactApplyRewrite': WHATEVER THE INPUT: true; the input reads as it did. -/
def fnExactApplyRewriteSpec : ChangeSpec := { name := "fnExactApplyRewrite", fn := fun _ => fun
  | [d1, d2, d3, d4] => { results := [.lit (.bool true)], args := [d1, d2, d3, d4] }
  | _ => none }
def fnExactApplyRewriteRow : OpenClaim := { program := "ytfjbiiklggogkaa", sum := "f3e6e7ae1847b2746e61b0f5ef6997900fc783dca7f54b194372e8eb7f66a452", func := "loop.example/g01079/laws.FnExactApplyRewrite", spec := "fnExactApplyRewrite", unfollowed := true, recurses := true, apart := false }
def FnExactApplyRewriteSaid : Prop := fnExactApplyRewriteRow.holds Try.pinned (OpenSpec.ofChange fnExactApplyRewriteSpec)

/-- ITS FALSE NEIGHBOUR: 'it returns false'. Refute it at one input. -/
def fnExactApplyRewriteWrong : ChangeSpec := { name := "fnExactApplyRewrite", fn := fun _ => fun
  | [d1, d2, d3, d4] => { results := [.lit (.bool false)], args := [d1, d2, d3, d4] }
  | _ => none }
def FnExactApplyRewriteWrongFalsely : Prop := fnExactApplyRewriteRow.holds Try.pinned (OpenSpec.ofChange fnExactApplyRewriteWrong)

/-- 'laws.FnExactStepMarkov': WHATEVER THE INPUT: true; the input reads as it did. -/
def fnExactStepMarkovSpec : ChangeSpec := { name := "fnExactStepMarkov", fn := fun _ => fun
  | [d1, d2] => { results := [.lit (.bool true)], args := [d1, d2] }
  | _ => none }
def fnExactStepMarkovRow : OpenClaim := { program := "ytfjbiiklggogkaa", sum := "f3e6e7ae1847b2746e61b0f5ef6997900fc783dca7f54b194372e8eb7f66a452", func := "loop.example/g01079/laws.FnExactStepMarkov", spec := "fnExactStepMarkov", unfollowed := true, recurses := true, apart := false }
def FnExactStepMarkovSaid : Prop := fnExactStepMarkovRow.holds Try.pinned (OpenSpec.ofChange fnExactStepMarkovSpec)

/-- ITS FALSE NEIGHBOUR: 'it returns false'. Refute it at one input. -/
def fnExactStepMarkovWrong : ChangeSpec := { name := "fnExactStepMarkov", fn := fun _ => fun
  | [d1, d2] => { results := [.lit (.bool false)], args := [d1, d2] }
  | _ => none }
def FnExactStepMarkovWrongFalsely : Prop := fnExactStepMarkovRow.holds Try.pinned (OpenSpec.ofChange fnExactStepMarkovWrong)

/-- 'laws.FnExactRunMarkov': WHATEVER THE INPUT: true; the input reads as it did. -/
def fnExactRunMarkovSpec : ChangeSpec := { name := "fnExactRunMarkov", fn := fun _ => fun
  | [d1, d2, d3] => { results := [.lit (.bool true)], args := [d1, d2, d3] }
  | _ => none }
def fnExactRunMarkovRow : OpenClaim := { program := "ytfjbiiklggogkaa", sum := "f3e6e7ae1847b2746e61b0f5ef6997900fc783dca7f54b194372e8eb7f66a452", func := "loop.example/g01079/laws.FnExactRunMarkov", spec := "fnExactRunMarkov", unfollowed := true, recurses := true, apart := false }
def FnExactRunMarkovSaid : Prop := fnExactRunMarkovRow.holds Try.pinned (OpenSpec.ofChange fnExactRunMarkovSpec)

/-- ITS FALSE NEIGHBOUR: 'it returns false'. Refute it at one input. -/
def fnExactRunMarkovWrong : ChangeSpec := { name := "fnExactRunMarkov", fn := fun _ => fun
  | [d1, d2, d3] => { results := [.lit (.bool false)], args := [d1, d2, d3] }
  | _ => none }
def FnExactRunMarkovWrongFalsely : Prop := fnExactRunMarkovRow.holds Try.pinned (OpenSpec.ofChange fnExactRunMarkovWrong)

/-- 'laws.FnExactCheckDerivation': WHATEVER THE INPUT: true; the input reads as it did. -/
def fnExactCheckDerivationSpec : ChangeSpec := { name := "fnExactCheckDerivation", fn := fun _ => fun
  | [d1, d2, d3] => { results := [.lit (.bool true)], args := [d1, d2, d3] }
  | _ => none }
def fnExactCheckDerivationRow : OpenClaim := { program := "ytfjbiiklggogkaa", sum := "f3e6e7ae1847b2746e61b0f5ef6997900fc783dca7f54b194372e8eb7f66a452", func := "loop.example/g01079/laws.FnExactCheckDerivation", spec := "fnExactCheckDerivation", unfollowed := true, recurses := true, apart := false }
def FnExactCheckDerivationSaid : Prop := fnExactCheckDerivationRow.holds Try.pinned (OpenSpec.ofChange fnExactCheckDerivationSpec)

/-- ITS FALSE NEIGHBOUR: 'it returns false'. Refute it at one input. -/
def fnExactCheckDerivationWrong : ChangeSpec := { name := "fnExactCheckDerivation", fn := fun _ => fun
  | [d1, d2, d3] => { results := [.lit (.bool false)], args := [d1, d2, d3] }
  | _ => none }
def FnExactCheckDerivationWrongFalsely : Prop := fnExactCheckDerivationRow.holds Try.pinned (OpenSpec.ofChange fnExactCheckDerivationWrong)

/-- 'laws.FnExactSuccessorsOf': WHATEVER THE INPUT: true; the input reads as it did. -/
def fnExactSuccessorsOfSpec : ChangeSpec := { name := "fnExactSuccessorsOf", fn := fun _ => fun
  | [d1, d2] => { results := [.lit (.bool true)], args := [d1, d2] }
  | _ => none }
def fnExactSuccessorsOfRow : OpenClaim := { program := "ytfjbiiklggogkaa", sum := "f3e6e7ae1847b2746e61b0f5ef6997900fc783dca7f54b194372e8eb7f66a452", func := "loop.example/g01079/laws.FnExactSuccessorsOf", spec := "fnExactSuccessorsOf", unfollowed := true, recurses := true, apart := false }
def FnExactSuccessorsOfSaid : Prop := fnExactSuccessorsOfRow.holds Try.pinned (OpenSpec.ofChange fnExactSuccessorsOfSpec)

/-- ITS FALSE NEIGHBOUR: 'it returns false'. Refute it at one input. -/
def fnExactSuccessorsOfWrong : ChangeSpec := { name := "fnExactSuccessorsOf", fn := fun _ => fun
  | [d1, d2] => { results := [.lit (.bool false)], args := [d1, d2] }
  | _ => none }
def FnExactSuccessorsOfWrongFalsely : Prop := fnExactSuccessorsOfRow.holds Try.pinned (OpenSpec.ofChange fnExactSuccessorsOfWrong)

/- THE SECOND FORM. 'bulk': how many values and letters a reading holds, each counted each time it is reached (what is shared counts as often as it is met; a slice's spare places count too). A statement '..UptoSaid' is the law's where the arguments, and the package variables that the reading takes, are together of bulk at most 1048576: NARROWER than '..Said'. Prove '..Said' where nothing that the law and all that it calls make is longer than what came in: it says more and counts as full. Else prove '..UptoSaid'. A law counts once. -/
mutual
def uptoBulk {H : Type} : DataW H → Nat
  | .lit (.string bytes) => bytes.length + 1
  | .lit _ => 1
  | .nil => 1
  | .ptr d => uptoBulk d + 1
  | .slice elems spare => uptoBulkAll elems + uptoBulkAll spare + 1
  | .agg parts => uptoBulkAll parts + 1
  | .iface _ d => uptoBulk d + 1
  | .map entries => uptoBulkEntries entries + 1
  | .held _ => 1
def uptoBulkAll {H : Type} : List (DataW H) → Nat
  | [] => 0
  | d :: r => uptoBulk d + uptoBulkAll r
def uptoBulkEntries {H : Type} : List (Lit × DataW H) → Nat
  | [] => 0
  | x :: r => uptoBulkEntry x + uptoBulkEntries r
def uptoBulkEntry {H : Type} : Lit × DataW H → Nat
  | (.string bytes, d) => bytes.length + uptoBulk d + 1
  | (_, d) => uptoBulk d + 1
 end
def uptoSmall : (H : Type) → List (DataW H) → Bool := fun _ ds => decide (uptoBulkAll ds ≤ 1048576)
def OpenSpec.upto (s : _root_.Go.ChangeSpec) : _root_.Go.OpenSpec := { _root_.Go.OpenSpec.ofChange s with cond := some uptoSmall }

/-- 'laws.FnExactBoundHolds', WHERE WHAT IT READS IS OF BULK AT MOST 1048576: true; the input reads as it did. -/
def fnExactBoundHoldsUptoRow : OpenClaim := { program := "ytfjbiiklggogkaa", sum := "f3e6e7ae1847b2746e61b0f5ef6997900fc783dca7f54b194372e8eb7f66a452", func := "loop.example/g01079/laws.FnExactBoundHolds", spec := "fnExactBoundHolds", apart := false, narrowed := true }
def FnExactBoundHoldsUptoSaid : Prop := fnExactBoundHoldsUptoRow.holds Try.pinned (OpenSpec.upto fnExactBoundHoldsSpec)

/-- 'laws.FnExactLeastFactor', WHERE WHAT IT READS IS OF BULK AT MOST 1048576: true; the input reads as it did. -/
def fnExactLeastFactorUptoRow : OpenClaim := { program := "ytfjbiiklggogkaa", sum := "f3e6e7ae1847b2746e61b0f5ef6997900fc783dca7f54b194372e8eb7f66a452", func := "loop.example/g01079/laws.FnExactLeastFactor", spec := "fnExactLeastFactor", apart := false, narrowed := true }
def FnExactLeastFactorUptoSaid : Prop := fnExactLeastFactorUptoRow.holds Try.pinned (OpenSpec.upto fnExactLeastFactorSpec)

/-- 'laws.FnExactIsSimulation', WHERE WHAT IT READS IS OF BULK AT MOST 1048576: true; the input reads as it did. -/
def fnExactIsSimulationUptoRow : OpenClaim := { program := "ytfjbiiklggogkaa", sum := "f3e6e7ae1847b2746e61b0f5ef6997900fc783dca7f54b194372e8eb7f66a452", func := "loop.example/g01079/laws.FnExactIsSimulation", spec := "fnExactIsSimulation", apart := false, narrowed := true }
def FnExactIsSimulationUptoSaid : Prop := fnExactIsSimulationUptoRow.holds Try.pinned (OpenSpec.upto fnExactIsSimulationSpec)

/-- 'laws.FnExactSettledTexts', WHERE WHAT IT READS IS OF BULK AT MOST 1048576: true; the input reads as it did. -/
def fnExactSettledTextsUptoRow : OpenClaim := { program := "ytfjbiiklggogkaa", sum := "f3e6e7ae1847b2746e61b0f5ef6997900fc783dca7f54b194372e8eb7f66a452", func := "loop.example/g01079/laws.FnExactSettledTexts", spec := "fnExactSettledTexts", unfollowed := true, recurses := true, apart := false, narrowed := true }
def FnExactSettledTextsUptoSaid : Prop := fnExactSettledTextsUptoRow.holds Try.pinned (OpenSpec.upto fnExactSettledTextsSpec)

/-- 'laws.FnExactFindSimulation', WHERE WHAT IT READS IS OF BULK AT MOST 1048576: true; the input reads as it did. -/
def fnExactFindSimulationUptoRow : OpenClaim := { program := "ytfjbiiklggogkaa", sum := "f3e6e7ae1847b2746e61b0f5ef6997900fc783dca7f54b194372e8eb7f66a452", func := "loop.example/g01079/laws.FnExactFindSimulation", spec := "fnExactFindSimulation", apart := false, narrowed := true }
def FnExactFindSimulationUptoSaid : Prop := fnExactFindSimulationUptoRow.holds Try.pinned (OpenSpec.upto fnExactFindSimulationSpec)

/-- 'laws.FnExactReplaceAt', WHERE WHAT IT READS IS OF BULK AT MOST 1048576: true; the input reads as it did. -/
def fnExactReplaceAtUptoRow : OpenClaim := { program := "ytfjbiiklggogkaa", sum := "f3e6e7ae1847b2746e61b0f5ef6997900fc783dca7f54b194372e8eb7f66a452", func := "loop.example/g01079/laws.FnExactReplaceAt", spec := "fnExactReplaceAt", unfollowed := true, recurses := true, apart := false, narrowed := true }
def FnExactReplaceAtUptoSaid : Prop := fnExactReplaceAtUptoRow.holds Try.pinned (OpenSpec.upto fnExactReplaceAtSpec)

/-- 'laws.FnExactReplaceFirst', WHERE WHAT IT READS IS OF BULK AT MOST 1048576: true; the input reads as it did. -/
def fnExactReplaceFirstUptoRow : OpenClaim := { program := "ytfjbiiklggogkaa", sum := "f3e6e7ae1847b2746e61b0f5ef6997900fc783dca7f54b194372e8eb7f66a452", func := "loop.example/g01079/laws.FnExactReplaceFirst", spec := "fnExactReplaceFirst", unfollowed := true, recurses := true, apart := false, narrowed := true }
def FnExactReplaceFirstUptoSaid : Prop := fnExactReplaceFirstUptoRow.holds Try.pinned (OpenSpec.upto fnExactReplaceFirstSpec)

/-- 'laws.FnExactApplyRewrite', WHERE WHAT IT READS IS OF BULK AT MOST 1048576: true; the input reads as it did. -/
def fnExactApplyRewriteUptoRow : OpenClaim := { program := "ytfjbiiklggogkaa", sum := "f3e6e7ae1847b2746e61b0f5ef6997900fc783dca7f54b194372e8eb7f66a452", func := "loop.example/g01079/laws.FnExactApplyRewrite", spec := "fnExactApplyRewrite", unfollowed := true, recurses := true, apart := false, narrowed := true }
def FnExactApplyRewriteUptoSaid : Prop := fnExactApplyRewriteUptoRow.holds Try.pinned (OpenSpec.upto fnExactApplyRewriteSpec)

/-- 'laws.FnExactStepMarkov', WHERE WHAT IT READS IS OF BULK AT MOST 1048576: true; the input reads as it did. -/
def fnExactStepMarkovUptoRow : OpenClaim := { program := "ytfjbiiklggogkaa", sum := "f3e6e7ae1847b2746e61b0f5ef6997900fc783dca7f54b194372e8eb7f66a452", func := "loop.example/g01079/laws.FnExactStepMarkov", spec := "fnExactStepMarkov", unfollowed := true, recurses := true, apart := false, narrowed := true }
def FnExactStepMarkovUptoSaid : Prop := fnExactStepMarkovUptoRow.holds Try.pinned (OpenSpec.upto fnExactStepMarkovSpec)

/-- 'laws.FnExactRunMarkov', WHERE WHAT IT READS IS OF BULK AT MOST 1048576: true; the input reads as it did. -/
def fnExactRunMarkovUptoRow : OpenClaim := { program := "ytfjbiiklggogkaa", sum := "f3e6e7ae1847b2746e61b0f5ef6997900fc783dca7f54b194372e8eb7f66a452", func := "loop.example/g01079/laws.FnExactRunMarkov", spec := "fnExactRunMarkov", unfollowed := true, recurses := true, apart := false, narrowed := true }
def FnExactRunMarkovUptoSaid : Prop := fnExactRunMarkovUptoRow.holds Try.pinned (OpenSpec.upto fnExactRunMarkovSpec)

/-- 'laws.FnExactCheckDerivation', WHERE WHAT IT READS IS OF BULK AT MOST 1048576: true; the input reads as it did. -/
def fnExactCheckDerivationUptoRow : OpenClaim := { program := "ytfjbiiklggogkaa", sum := "f3e6e7ae1847b2746e61b0f5ef6997900fc783dca7f54b194372e8eb7f66a452", func := "loop.example/g01079/laws.FnExactCheckDerivation", spec := "fnExactCheckDerivation", unfollowed := true, recurses := true, apart := false, narrowed := true }
def FnExactCheckDerivationUptoSaid : Prop := fnExactCheckDerivationUptoRow.holds Try.pinned (OpenSpec.upto fnExactCheckDerivationSpec)

/-- 'laws.FnExactSuccessorsOf', WHERE WHAT IT READS IS OF BULK AT MOST 1048576: true; the input reads as it did. -/
def fnExactSuccessorsOfUptoRow : OpenClaim := { program := "ytfjbiiklggogkaa", sum := "f3e6e7ae1847b2746e61b0f5ef6997900fc783dca7f54b194372e8eb7f66a452", func := "loop.example/g01079/laws.FnExactSuccessorsOf", spec := "fnExactSuccessorsOf", unfollowed := true, recurses := true, apart := false, narrowed := true }
def FnExactSuccessorsOfUptoSaid : Prop := fnExactSuccessorsOfUptoRow.holds Try.pinned (OpenSpec.upto fnExactSuccessorsOfSpec)

end Rows
end Go.Proofs.Ytfjbiiklggogkaa
