/-
  No cell of these rows narrows 'for every input' (looked for: loops, veiled, ifaces, maps, wideKeys, modest, calm, conditions, laid).
  DERIVED. THE GIVEN ROWS OF THIS SEAT. 11 by the template 'for every input the law returns true; each argument reads behind the call as it read before'; 0 by the template 'total and deterministic' (their statements: YteocnkiagifmfaaTotals.lean).
  GIVEN WITH THE SEED: the statements are not yours to turn. If you find one false, say at which input.
  Laid BY PROGRAM, IN A SANDBOX (cutbox-rows.mjs): the forced cells as the released guide's own fill.sh prints them over the translation 11f1b7138e4fb902… (all of the seat's roots in one cut). By AI agents, Wed Nov 11 2026. No macro, syntax, notation, axiom, sorry.
-/
import Derived.Test.YteocnkiagifmfaaChecked
import GoSem.Claim
import GoSem.ClaimJoined
import GoSem.ClaimMapViews
import Derived.JoinedTies
import Derived.KernelRfl
namespace Go.Proofs.Yteocnkiagifmfaa
/- THE CELL 'sum', in the pinned program and in every row, IS THE sha256 OF THE DUMP (.gsa) THAT YteocnkiagifmfaaProg.lean LOADS. Nothing in Lean hashes anything: it is a label: what it is worth is what the hold of that sum in a sandbox is worth. -/
noncomputable def Try.pinned : Pinned := { name := "yteocnkiagifmfaa", sum := "11f1b7138e4fb902b1cbb1a8ef83480313ca5e73402cb90b22832c328ab8cea3", checked := Try.checked }
namespace Rows
def none {H : Type} : Left H := { results := [], args := [] }

/-- 'laws.FnExactSettledTexts': WHATEVER THE INPUT: true; the input reads as it did. -/
def fnExactSettledTextsSpec : ChangeSpec := { name := "fnExactSettledTexts", fn := fun _ => fun
  | [d] => { results := [.lit (.bool true)], args := [d] }
  | _ => none }
def fnExactSettledTextsRow : OpenClaim := { program := "yteocnkiagifmfaa", sum := "11f1b7138e4fb902b1cbb1a8ef83480313ca5e73402cb90b22832c328ab8cea3", func := "loop.example/g01079/laws.FnExactSettledTexts", spec := "fnExactSettledTexts", unfollowed := true, recurses := true, apart := false }
def FnExactSettledTextsSaid : Prop := fnExactSettledTextsRow.holds Try.pinned (OpenSpec.ofChange fnExactSettledTextsSpec)

/-- ITS FALSE NEIGHBOUR: 'it returns false'. Refute it at one input. -/
def fnExactSettledTextsWrong : ChangeSpec := { name := "fnExactSettledTexts", fn := fun _ => fun
  | [d] => { results := [.lit (.bool false)], args := [d] }
  | _ => none }
def FnExactSettledTextsWrongFalsely : Prop := fnExactSettledTextsRow.holds Try.pinned (OpenSpec.ofChange fnExactSettledTextsWrong)

/-- 'laws.FnExactApplyRewrite': WHATEVER THE INPUT: true; the input reads as it did. -/
def fnExactApplyRewriteSpec : ChangeSpec := { name := "fnExactApplyRewrite", fn := fun _ => fun
  | [d1, d2, d3, d4] => { results := [.lit (.bool true)], args := [d1, d2, d3, d4] }
  | _ => none }
def fnExactApplyRewriteRow : OpenClaim := { program := "yteocnkiagifmfaa", sum := "11f1b7138e4fb902b1cbb1a8ef83480313ca5e73402cb90b22832c328ab8cea3", func := "loop.example/g01079/laws.FnExactApplyRewrite", spec := "fnExactApplyRewrite", unfollowed := true, recurses := true, apart := false }
def FnExactApplyRewriteSaid : Prop := fnExactApplyRewriteRow.holds Try.pinned (OpenSpec.ofChange fnExactApplyRewriteSpec)

/-- ITS FALSE NEIGHBOUR: 'it returns false'. Refute it at one input. -/
def fnExactApplyRewriteWrong : ChangeSpec := { name := "fnExactApplyRewrite", fn := fun _ => fun
  | [d1, d2, d3, d4] => { results := [.lit (.bool false)], args := [d1, d2, d3, d4] }
  | _ => none }
def FnExactApplyRewriteWrongFalsely : Prop := fnExactApplyRewriteRow.holds Try.pinned (OpenSpec.ofChange fnExactApplyRewriteWrong)

/-- 'laws.FnExactStepMarkov': WHATEVER THE INPUT: true; the input reads as it did. -/
def fnExactStepMarkovSpec : ChangeSpec := { name := "fnExactStepMarkov", fn := fun _ => fun
  | [d1, d2] => { results := [.lit (.bool true)], args := [d1, d2] }
  | _ => none }
def fnExactStepMarkovRow : OpenClaim := { program := "yteocnkiagifmfaa", sum := "11f1b7138e4fb902b1cbb1a8ef83480313ca5e73402cb90b22832c328ab8cea3", func := "loop.example/g01079/laws.FnExactStepMarkov", spec := "fnExactStepMarkov", unfollowed := true, recurses := true, apart := false }
def FnExactStepMarkovSaid : Prop := fnExactStepMarkovRow.holds Try.pinned (OpenSpec.ofChange fnExactStepMarkovSpec)

/-- ITS FALSE NEIGHBOUR: 'it returns false'. Refute it at one input. -/
def fnExactStepMarkovWrong : ChangeSpec := { name := "fnExactStepMarkov", fn := fun _ => fun
  | [d1, d2] => { results := [.lit (.bool false)], args := [d1, d2] }
  | _ => none }
def FnExactStepMarkovWrongFalsely : Prop := fnExactStepMarkovRow.holds Try.pinned (OpenSpec.ofChange fnExactStepMarkovWrong)

/-- 'laws.FnExactRunMarkov': WHATEVER THE INPUT: true; the input reads as it did. -/
def fnExactRunMarkovSpec : ChangeSpec := { name := "fnExactRunMarkov", fn := fun _ => fun
  | [d1, d2, d3] => { results := [.lit (.bool true)], args := [d1, d2, d3] }
  | _ => none }
def fnExactRunMarkovRow : OpenClaim := { program := "yteocnkiagifmfaa", sum := "11f1b7138e4fb902b1cbb1a8ef83480313ca5e73402cb90b22832c328ab8cea3", func := "loop.example/g01079/laws.FnExactRunMarkov", spec := "fnExactRunMarkov", unfollowed := true, recurses := true, apart := false }
def FnExactRunMarkovSaid : Prop := fnExactRunMarkovRow.holds Try.pinned (OpenSpec.ofChange fnExactRunMarkovSpec)

/-- ITS FALSE NEIGHBOUR: 'it returns false'. Refute it at one input. -/
def fnExactRunMarkovWrong : ChangeSpec := { name := "fnExactRunMarkov", fn := fun _ => fun
  | [d1, d2, d3] => { results := [.lit (.bool false)], args := [d1, d2, d3] }
  | _ => none }
def FnExactRunMarkovWrongFalsely : Prop := fnExactRunMarkovRow.holds Try.pinned (OpenSpec.ofChange fnExactRunMarkovWrong)

/-- 'laws.FnExactCheckDerivation': WHATEVER THE INPUT: true; the input reads as it did. -/
def fnExactCheckDerivationSpec : ChangeSpec := { name := "fnExactCheckDerivation", fn := fun _ => fun
  | [d1, d2, d3] => { results := [.lit (.bool true)], args := [d1, d2, d3] }
  | _ => none }
def fnExactCheckDerivationRow : OpenClaim := { program := "yteocnkiagifmfaa", sum := "11f1b7138e4fb902b1cbb1a8ef83480313ca5e73402cb90b22832c328ab8cea3", func := "loop.example/g01079/laws.FnExactCheckDerivation", spec := "fnExactCheckDerivation", unfollowed := true, recurses := true, apart := false }
def FnExactCheckDerivationSaid : Prop := fnExactCheckDerivationRow.holds Try.pinned (OpenSpec.ofChange fnExactCheckDerivationSpec)

/-- ITS FALSE NEIGHBOUR: 'it returns false'. Refute it at one input. -/
def fnExactCheckDerivationWrong : ChangeSpec := { name := "fnExactCheckDerivation", fn := fun _ => fun
  | [d1, d2, d3] => { results := [.lit (.bool false)], args := [d1, d2, d3] }
  | _ => none }
def FnExactCheckDerivationWrongFalsely : Prop := fnExactCheckDerivationRow.holds Try.pinned (OpenSpec.ofChange fnExactCheckDerivationWrong)

/-- 'laws.FnExactSuccessorsOf': WHATEVER THE INPUT: true; the input reads as it did. -/
def fnExactSuccessorsOfSpec : ChangeSpec := { name := "fnExactSuccessorsOf", fn := fun _ => fun
  | [d1, d2] => { results := [.lit (.bool true)], args := [d1, d2] }
  | _ => none }
def fnExactSuccessorsOfRow : OpenClaim := { program := "yteocnkiagifmfaa", sum := "11f1b7138e4fb902b1cbb1a8ef83480313ca5e73402cb90b22832c328ab8cea3", func := "loop.example/g01079/laws.FnExactSuccessorsOf", spec := "fnExactSuccessorsOf", unfollowed := true, recurses := true, apart := false }
def FnExactSuccessorsOfSaid : Prop := fnExactSuccessorsOfRow.holds Try.pinned (OpenSpec.ofChange fnExactSuccessorsOfSpec)

/-- ITS FALSE NEIGHBOUR: 'it returns false'. Refute it at one input. -/
def fnExactSuccessorsOfWrong : ChangeSpec := { name := "fnExactSuccessorsOf", fn := fun _ => fun
  | [d1, d2] => { results := [.lit (.bool false)], args := [d1, d2] }
  | _ => none }
def FnExactSuccessorsOfWrongFalsely : Prop := fnExactSuccessorsOfRow.holds Try.pinned (OpenSpec.ofChange fnExactSuccessorsOfWrong)

/-- 'laws.FnExactConfigOfWord': WHATEVER THE INPUT: true; the input reads as it did. -/
def fnExactConfigOfWordSpec : ChangeSpec := { name := "fnExactConfigOfWord", fn := fun _ => fun
  | [d1, d2] => { results := [.lit (.bool true)], args := [d1, d2] }
  | _ => none }
def fnExactConfigOfWordRow : OpenClaim := { program := "yteocnkiagifmfaa", sum := "11f1b7138e4fb902b1cbb1a8ef83480313ca5e73402cb90b22832c328ab8cea3", func := "loop.example/g01079/laws.FnExactConfigOfWord", spec := "fnExactConfigOfWord", unfollowed := true, recurses := true, apart := false }
def FnExactConfigOfWordSaid : Prop := fnExactConfigOfWordRow.holds Try.pinned (OpenSpec.ofChange fnExactConfigOfWordSpec)

/-- ITS FALSE NEIGHBOUR: 'it returns false'. Refute it at one input. -/
def fnExactConfigOfWordWrong : ChangeSpec := { name := "fnExactConfigOfWord", fn := fun _ => fun
  | [d1, d2] => { results := [.lit (.bool false)], args := [d1, d2] }
  | _ => none }
def FnExactConfigOfWordWrongFalsely : Prop := fnExactConfigOfWordRow.holds Try.pinned (OpenSpec.ofChange fnExactConfigOfWordWrong)

/-- 'laws.FnExactTagToMarkov': WHATEVER THE INPUT: true; the input reads as it did. -/
def fnExactTagToMarkovSpec : ChangeSpec := { name := "fnExactTagToMarkov", fn := fun _ => fun
  | [d] => { results := [.lit (.bool true)], args := [d] }
  | _ => none }
def fnExactTagToMarkovRow : OpenClaim := { program := "yteocnkiagifmfaa", sum := "11f1b7138e4fb902b1cbb1a8ef83480313ca5e73402cb90b22832c328ab8cea3", func := "loop.example/g01079/laws.FnExactTagToMarkov", spec := "fnExactTagToMarkov", unfollowed := true, recurses := true, apart := false }
def FnExactTagToMarkovSaid : Prop := fnExactTagToMarkovRow.holds Try.pinned (OpenSpec.ofChange fnExactTagToMarkovSpec)

/-- ITS FALSE NEIGHBOUR: 'it returns false'. Refute it at one input. -/
def fnExactTagToMarkovWrong : ChangeSpec := { name := "fnExactTagToMarkov", fn := fun _ => fun
  | [d] => { results := [.lit (.bool false)], args := [d] }
  | _ => none }
def FnExactTagToMarkovWrongFalsely : Prop := fnExactTagToMarkovRow.holds Try.pinned (OpenSpec.ofChange fnExactTagToMarkovWrong)

/-- 'laws.FnExactRunTagByMarkov': WHATEVER THE INPUT: true; the input reads as it did. -/
def fnExactRunTagByMarkovSpec : ChangeSpec := { name := "fnExactRunTagByMarkov", fn := fun _ => fun
  | [d1, d2, d3] => { results := [.lit (.bool true)], args := [d1, d2, d3] }
  | _ => none }
def fnExactRunTagByMarkovRow : OpenClaim := { program := "yteocnkiagifmfaa", sum := "11f1b7138e4fb902b1cbb1a8ef83480313ca5e73402cb90b22832c328ab8cea3", func := "loop.example/g01079/laws.FnExactRunTagByMarkov", spec := "fnExactRunTagByMarkov", unfollowed := true, recurses := true, apart := false }
def FnExactRunTagByMarkovSaid : Prop := fnExactRunTagByMarkovRow.holds Try.pinned (OpenSpec.ofChange fnExactRunTagByMarkovSpec)

/-- ITS FALSE NEIGHBOUR: 'it returns false'. Refute it at one input. -/
def fnExactRunTagByMarkovWrong : ChangeSpec := { name := "fnExactRunTagByMarkov", fn := fun _ => fun
  | [d1, d2, d3] => { results := [.lit (.bool false)], args := [d1, d2, d3] }
  | _ => none }
def FnExactRunTagByMarkovWrongFalsely : Prop := fnExactRunTagByMarkovRow.holds Try.pinned (OpenSpec.ofChange fnExactRunTagByMarkovWrong)

/-- 'laws.FnExactStepCost': WHATEVER THE INPUT: true; the input reads as it did. -/
def fnExactStepCostSpec : ChangeSpec := { name := "fnExactStepCost", fn := fun _ => fun
  | [d1, d2] => { results := [.lit (.bool true)], args := [d1, d2] }
  | _ => none }
def fnExactStepCostRow : OpenClaim := { program := "yteocnkiagifmfaa", sum := "11f1b7138e4fb902b1cbb1a8ef83480313ca5e73402cb90b22832c328ab8cea3", func := "loop.example/g01079/laws.FnExactStepCost", spec := "fnExactStepCost", unfollowed := true, recurses := true, apart := false }
def FnExactStepCostSaid : Prop := fnExactStepCostRow.holds Try.pinned (OpenSpec.ofChange fnExactStepCostSpec)

/-- ITS FALSE NEIGHBOUR: 'it returns false'. Refute it at one input. -/
def fnExactStepCostWrong : ChangeSpec := { name := "fnExactStepCost", fn := fun _ => fun
  | [d1, d2] => { results := [.lit (.bool false)], args := [d1, d2] }
  | _ => none }
def FnExactStepCostWrongFalsely : Prop := fnExactStepCostRow.holds Try.pinned (OpenSpec.ofChange fnExactStepCostWrong)

/-- 'laws.FnExactProgramOfFunc': WHATEVER THE INPUT: true; the input reads as it did. -/
def fnExactProgramOfFuncSpec : ChangeSpec := { name := "fnExactProgramOfFunc", fn := fun _ => fun
  | [d] => { results := [.lit (.bool true)], args := [d] }
  | _ => none }
def fnExactProgramOfFuncRow : OpenClaim := { program := "yteocnkiagifmfaa", sum := "11f1b7138e4fb902b1cbb1a8ef83480313ca5e73402cb90b22832c328ab8cea3", func := "loop.example/g01079/laws.FnExactProgramOfFunc", spec := "fnExactProgramOfFunc", unfollowed := true, recurses := true, apart := false }
def FnExactProgramOfFuncSaid : Prop := fnExactProgramOfFuncRow.holds Try.pinned (OpenSpec.ofChange fnExactProgramOfFuncSpec)

/-- ITS FALSE NEIGHBOUR: 'it returns false'. Refute it at one input. -/
def fnExactProgramOfFuncWrong : ChangeSpec := { name := "fnExactProgramOfFunc", fn := fun _ => fun
  | [d] => { results := [.lit (.bool false)], args := [d] }
  | _ => none }
def FnExactProgramOfFuncWrongFalsely : Prop := fnExactProgramOfFuncRow.holds Try.pinned (OpenSpec.ofChange fnExactProgramOfFuncWrong)

/- THE SECOND FORM. 'bulk': how many values and letters a reading holds, each counted each time it is reached (what is shared counts as often as it is met; a slice's spare places count too). A statement '..UptoSaid' is the law's where the arguments, and the package variables that the reading takes, are together of bulk at most 1048576: NARROWER than '..Said'. Prove '..Said' where nothing that the law and all that it calls make is longer than what came in: it says more and counts as full. Else prove '..UptoSaid'. A law counts once. -/
mutual
def uptoBulk {H : Type} : DataW H → Nat
  | .lit (.string bytes) => bytes.length + 1
  | .lit _ => 1
  | .nil => 1
  | .ptr d => uptoBulk d + 1
  | .slice elems spare => uptoBulkAll elems + uptoBulkAll spare + 1
  | .agg parts => uptoBulkAll parts + 1
  | .iface _ d => uptoBulk d + 1
  | .map entries => uptoBulkEntries entries + 1
  | .held _ => 1
def uptoBulkAll {H : Type} : List (DataW H) → Nat
  | [] => 0
  | d :: r => uptoBulk d + uptoBulkAll r
def uptoBulkEntries {H : Type} : List (Lit × DataW H) → Nat
  | [] => 0
  | x :: r => uptoBulkEntry x + uptoBulkEntries r
def uptoBulkEntry {H : Type} : Lit × DataW H → Nat
  | (.string bytes, d) => bytes.length + uptoBulk d + 1
  | (_, d) => uptoBulk d + 1
 end
def uptoSmall : (H : Type) → List (DataW H) → Bool := fun _ ds => decide (uptoBulkAll ds ≤ 1048576)
def OpenSpec.upto (s : _root_.Go.ChangeSpec) : _root_.Go.OpenSpec := { _root_.Go.OpenSpec.ofChange s with cond := some uptoSmall }

/-- 'laws.FnExactSettledTexts', WHERE WHAT IT READS IS OF BULK AT MOST 1048576: true; the input reads as it did. -/
def fnExactSettledTextsUptoRow : OpenClaim := { program := "yteocnkiagifmfaa", sum := "11f1b7138e4fb902b1cbb1a8ef83480313ca5e73402cb90b22832c328ab8cea3", func := "loop.example/g01079/laws.FnExactSettledTexts", spec := "fnExactSettledTexts", unfollowed := true, recurses := true, apart := false, narrowed := true }
def FnExactSettledTextsUptoSaid : Prop := fnExactSettledTextsUptoRow.holds Try.pinned (OpenSpec.upto fnExactSettledTextsSpec)

/-- 'laws.FnExactApplyRewrite', WHERE WHAT IT READS IS OF BULK AT MOST 1048576: true; the input reads as it did. -/
def fnExactApplyRewriteUptoRow : OpenClaim := { program := "yteocnkiagifmfaa", sum := "11f1b7138e4fb902b1cbb1a8ef83480313ca5e73402cb90b22832c328ab8cea3", func := "loop.example/g01079/laws.FnExactApplyRewrite", spec := "fnExactApplyRewrite", unfollowed := true, recurses := true, apart := false, narrowed := true }
def FnExactApplyRewriteUptoSaid : Prop := fnExactApplyRewriteUptoRow.holds Try.pinned (OpenSpec.upto fnExactApplyRewriteSpec)

/-- 'laws.FnExactStepMarkov', WHERE WHAT IT READS IS OF BULK AT MOST 1048576: true; the input reads as it did. -/
def fnExactStepMarkovUptoRow : OpenClaim := { program := "yteocnkiagifmfaa", sum := "11f1b7138e4fb902b1cbb1a8ef83480313ca5e73402cb90b22832c328ab8cea3", func := "loop.example/g01079/laws.FnExactStepMarkov", spec := "fnExactStepMarkov", unfollowed := true, recurses := true, apart := false, narrowed := true }
def FnExactStepMarkovUptoSaid : Prop := fnExactStepMarkovUptoRow.holds Try.pinned (OpenSpec.upto fnExactStepMarkovSpec)

/-- 'laws.FnExactRunMarkov', WHERE WHAT IT READS IS OF BULK AT MOST 1048576: true; the input reads as it did. -/
def fnExactRunMarkovUptoRow : OpenClaim := { program := "yteocnkiagifmfaa", sum := "11f1b7138e4fb902b1cbb1a8ef83480313ca5e73402cb90b22832c328ab8cea3", func := "loop.example/g01079/laws.FnExactRunMarkov", spec := "fnExactRunMarkov", unfollowed := true, recurses := true, apart := false, narrowed := true }
def FnExactRunMarkovUptoSaid : Prop := fnExactRunMarkovUptoRow.holds Try.pinned (OpenSpec.upto fnExactRunMarkovSpec)

/-- 'laws.FnExactCheckDerivation', WHERE WHAT IT READS IS OF BULK AT MOST 1048576: true; the input reads as it did. -/
def fnExactCheckDerivationUptoRow : OpenClaim := { program := "yteocnkiagifmfaa", sum := "11f1b7138e4fb902b1cbb1a8ef83480313ca5e73402cb90b22832c328ab8cea3", func := "loop.example/g01079/laws.FnExactCheckDerivation", spec := "fnExactCheckDerivation", unfollowed := true, recurses := true, apart := false, narrowed := true }
def FnExactCheckDerivationUptoSaid : Prop := fnExactCheckDerivationUptoRow.holds Try.pinned (OpenSpec.upto fnExactCheckDerivationSpec)

/-- 'laws.FnExactSuccessorsOf', WHERE WHAT IT READS IS OF BULK AT MOST 1048576: true; the input reads as it did. -/
def fnExactSuccessorsOfUptoRow : OpenClaim := { program := "yteocnkiagifmfaa", sum := "11f1b7138e4fb902b1cbb1a8ef83480313ca5e73402cb90b22832c328ab8cea3", func := "loop.example/g01079/laws.FnExactSuccessorsOf", spec := "fnExactSuccessorsOf", unfollowed := true, recurses := true, apart := false, narrowed := true }
def FnExactSuccessorsOfUptoSaid : Prop := fnExactSuccessorsOfUptoRow.holds Try.pinned (OpenSpec.upto fnExactSuccessorsOfSpec)

/-- 'laws.FnExactConfigOfWord', WHERE WHAT IT READS IS OF BULK AT MOST 1048576: true; the input reads as it did. -/
def fnExactConfigOfWordUptoRow : OpenClaim := { program := "yteocnkiagifmfaa", sum := "11f1b7138e4fb902b1cbb1a8ef83480313ca5e73402cb90b22832c328ab8cea3", func := "loop.example/g01079/laws.FnExactConfigOfWord", spec := "fnExactConfigOfWord", unfollowed := true, recurses := true, apart := false, narrowed := true }
def FnExactConfigOfWordUptoSaid : Prop := fnExactConfigOfWordUptoRow.holds Try.pinned (OpenSpec.upto fnExactConfigOfWordSpec)

/-- 'laws.FnExactTagToMarkov', WHERE WHAT IT READS IS OF BULK AT MOST 1048576: true; the input reads as it did. -/
def fnExactTagToMarkovUptoRow : OpenClaim := { program := "yteocnkiagifmfaa", sum := "11f1b7138e4fb902b1cbb1a8ef83480313ca5e73402cb90b22832c328ab8cea3", func := "loop.example/g01079/laws.FnExactTagToMarkov", spec := "fnExactTagToMarkov", unfollowed := true, recurses := true, apart := false, narrowed := true }
def FnExactTagToMarkovUptoSaid : Prop := fnExactTagToMarkovUptoRow.holds Try.pinned (OpenSpec.upto fnExactTagToMarkovSpec)

/-- 'laws.FnExactRunTagByMarkov', WHERE WHAT IT READS IS OF BULK AT MOST 1048576: true; the input reads as it did. -/
def fnExactRunTagByMarkovUptoRow : OpenClaim := { program := "yteocnkiagifmfaa", sum := "11f1b7138e4fb902b1cbb1a8ef83480313ca5e73402cb90b22832c328ab8cea3", func := "loop.example/g01079/laws.FnExactRunTagByMarkov", spec := "fnExactRunTagByMarkov", unfollowed := true, recurses := true, apart := false, narrowed := true }
def FnExactRunTagByMarkovUptoSaid : Prop := fnExactRunTagByMarkovUptoRow.holds Try.pinned (OpenSpec.upto fnExactRunTagByMarkovSpec)

/-- 'laws.FnExactStepCost', WHERE WHAT IT READS IS OF BULK AT MOST 1048576: true; the input reads as it did. -/
def fnExactStepCostUptoRow : OpenClaim := { program := "yteocnkiagifmfaa", sum := "11f1b7138e4fb902b1cbb1a8ef83480313ca5e73402cb90b22832c328ab8cea3", func := "loop.example/g01079/laws.FnExactStepCost", spec := "fnExactStepCost", unfollowed := true, recurses := true, apart := false, narrowed := true }
def FnExactStepCostUptoSaid : Prop := fnExactStepCostUptoRow.holds Try.pinned (OpenSpec.upto fnExactStepCostSpec)

/-- 'laws.FnExactProgramOfFunc', WHERE WHAT IT READS IS OF BULK AT MOST 1048576: true; the input reads as it did. -/
def fnExactProgramOfFuncUptoRow : OpenClaim := { program := "yteocnkiagifmfaa", sum := "11f1b7138e4fb902b1cbb1a8ef83480313ca5e73402cb90b22832c328ab8cea3", func := "loop.example/g01079/laws.FnExactProgramOfFunc", spec := "fnExactProgramOfFunc", unfollowed := true, recurses := true, apart := false, narrowed := true }
def FnExactProgramOfFuncUptoSaid : Prop := fnExactProgramOfFuncUptoRow.holds Try.pinned (OpenSpec.upto fnExactProgramOfFuncSpec)

end Rows
end Go.Proofs.Yteocnkiagifmfaa
