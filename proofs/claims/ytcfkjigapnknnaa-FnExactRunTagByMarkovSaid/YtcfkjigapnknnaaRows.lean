/-
  No cell of these rows narrows 'for every input' (looked for: loops, veiled, ifaces, maps, wideKeys, modest, calm, conditions, laid).
  DERIVED. THE GIVEN ROWS OF THIS SEAT. 5 by the template 'for every input the law returns true; each argument reads behind the call as it read before'; 0 by the template 'total and deterministic' (their statements: YtcfkjigapnknnaaTotals.lean).
  GIVEN WITH THE SEED: the statements are not yours to turn. If you find one false, say at which input.
  Laid BY PROGRAM, IN A SANDBOX (cutbox-rows.mjs): the forced cells as the released guide's own fill.sh prints them over the translation 4a7c4e8ab15c6e26… (all of the seat's roots in one cut). By AI agents, Wed Nov 11 2026. No macro, syntax, notation, axiom, sorry.
-/
import Derived.Test.YtcfkjigapnknnaaChecked
import GoSem.Claim
import GoSem.ClaimJoined
import GoSem.ClaimMapViews
import Derived.JoinedTies
import Derived.KernelRfl
namespace Go.Proofs.Ytcfkjigapnknnaa
/- THE CELL 'sum', in the pinned program and in every row, IS THE sha256 OF THE DUMP (.gsa) THAT YtcfkjigapnknnaaProg.lean LOADS. Nothing in Lean hashes anything: it is a label: what it is worth is what the hold of that sum in a sandbox is worth. -/
noncomputable def Try.pinned : Pinned := { name := "ytcfkjigapnknnaa", sum := "4a7c4e8ab15c6e26fad2469694d562932122186020f0bc67dd7bfb09cb987744", checked := Try.checked }
namespace Rows
def none {H : Type} : Left H := { results := [], args := [] }

/-- 'laws.FnExactConfigOfWord': WHATEVER THE INPUT: true; the input reads as it did. -/
def fnExactConfigOfWordSpec : ChangeSpec := { name := "fnExactConfigOfWord", fn := fun _ => fun
  | [d1, d2] => { results := [.lit (.bool true)], args := [d1, d2] }
  | _ => none }
def fnExactConfigOfWordRow : OpenClaim := { program := "ytcfkjigapnknnaa", sum := "4a7c4e8ab15c6e26fad2469694d562932122186020f0bc67dd7bfb09cb987744", func := "loop.example/g01079/laws.FnExactConfigOfWord", spec := "fnExactConfigOfWord", unfollowed := true, recurses := true, apart := false }
def FnExactConfigOfWordSaid : Prop := fnExactConfigOfWordRow.holds Try.pinned (OpenSpec.ofChange fnExactConfigOfWordSpec)

/-- ITS FALSE NEIGHBOUR: 'it returns false'. Refute it at one input. -/
def fnExactConfigOfWordWrong : ChangeSpec := { name := "fnExactConfigOfWord", fn := fun _ => fun
  | [d1, d2] => { results := [.lit (.bool false)], args := [d1, d2] }
  | _ => none }
def FnExactConfigOfWordWrongFalsely : Prop := fnExactConfigOfWordRow.holds Try.pinned (OpenSpec.ofChange fnExactConfigOfWordWrong)

/-- 'laws.FnExactSuccessorsOf': WHATEVER THE INPUT: true; the input reads as it did. -/
def fnExactSuccessorsOfSpec : ChangeSpec := { name := "fnExactSuccessorsOf", fn := fun _ => fun
  | [d1, d2] => { results := [.lit (.bool true)], args := [d1, d2] }
  | _ => none }
def fnExactSuccessorsOfRow : OpenClaim := { program := "ytcfkjigapnknnaa", sum := "4a7c4e8ab15c6e26fad2469694d562932122186020f0bc67dd7bfb09cb987744", func := "loop.example/g01079/laws.FnExactSuccessorsOf", spec := "fnExactSuccessorsOf", unfollowed := true, recurses := true, apart := false }
def FnExactSuccessorsOfSaid : Prop := fnExactSuccessorsOfRow.holds Try.pinned (OpenSpec.ofChange fnExactSuccessorsOfSpec)

/-- ITS FALSE NEIGHBOUR: 'it returns false'. Refute it at one input. -/
def fnExactSuccessorsOfWrong : ChangeSpec := { name := "fnExactSuccessorsOf", fn := fun _ => fun
  | [d1, d2] => { results := [.lit (.bool false)], args := [d1, d2] }
  | _ => none }
def FnExactSuccessorsOfWrongFalsely : Prop := fnExactSuccessorsOfRow.holds Try.pinned (OpenSpec.ofChange fnExactSuccessorsOfWrong)

/-- 'laws.FnExactTagToMarkov': WHATEVER THE INPUT: true; the input reads as it did. -/
def fnExactTagToMarkovSpec : ChangeSpec := { name := "fnExactTagToMarkov", fn := fun _ => fun
  | [d] => { results := [.lit (.bool true)], args := [d] }
  | _ => none }
def fnExactTagToMarkovRow : OpenClaim := { program := "ytcfkjigapnknnaa", sum := "4a7c4e8ab15c6e26fad2469694d562932122186020f0bc67dd7bfb09cb987744", func := "loop.example/g01079/laws.FnExactTagToMarkov", spec := "fnExactTagToMarkov", unfollowed := true, recurses := true, apart := false }
def FnExactTagToMarkovSaid : Prop := fnExactTagToMarkovRow.holds Try.pinned (OpenSpec.ofChange fnExactTagToMarkovSpec)

/-- ITS FALSE NEIGHBOUR: 'it returns false'. Refute it at one input. -/
def fnExactTagToMarkovWrong : ChangeSpec := { name := "fnExactTagToMarkov", fn := fun _ => fun
  | [d] => { results := [.lit (.bool false)], args := [d] }
  | _ => none }
def FnExactTagToMarkovWrongFalsely : Prop := fnExactTagToMarkovRow.holds Try.pinned (OpenSpec.ofChange fnExactTagToMarkovWrong)

/-- 'laws.FnExactStepCost': WHATEVER THE INPUT: true; the input reads as it did. -/
def fnExactStepCostSpec : ChangeSpec := { name := "fnExactStepCost", fn := fun _ => fun
  | [d1, d2] => { results := [.lit (.bool true)], args := [d1, d2] }
  | _ => none }
def fnExactStepCostRow : OpenClaim := { program := "ytcfkjigapnknnaa", sum := "4a7c4e8ab15c6e26fad2469694d562932122186020f0bc67dd7bfb09cb987744", func := "loop.example/g01079/laws.FnExactStepCost", spec := "fnExactStepCost", unfollowed := true, recurses := true, apart := false }
def FnExactStepCostSaid : Prop := fnExactStepCostRow.holds Try.pinned (OpenSpec.ofChange fnExactStepCostSpec)

/-- ITS FALSE NEIGHBOUR: 'it returns false'. Refute it at one input. -/
def fnExactStepCostWrong : ChangeSpec := { name := "fnExactStepCost", fn := fun _ => fun
  | [d1, d2] => { results := [.lit (.bool false)], args := [d1, d2] }
  | _ => none }
def FnExactStepCostWrongFalsely : Prop := fnExactStepCostRow.holds Try.pinned (OpenSpec.ofChange fnExactStepCostWrong)

/-- 'laws.FnExactRunTagByMarkov': WHATEVER THE INPUT: true; the input reads as it did. -/
def fnExactRunTagByMarkovSpec : ChangeSpec := { name := "fnExactRunTagByMarkov", fn := fun _ => fun
  | [d1, d2, d3] => { results := [.lit (.bool true)], args := [d1, d2, d3] }
  | _ => none }
def fnExactRunTagByMarkovRow : OpenClaim := { program := "ytcfkjigapnknnaa", sum := "4a7c4e8ab15c6e26fad2469694d562932122186020f0bc67dd7bfb09cb987744", func := "loop.example/g01079/laws.FnExactRunTagByMarkov", spec := "fnExactRunTagByMarkov", unfollowed := true, recurses := true, apart := false }
def FnExactRunTagByMarkovSaid : Prop := fnExactRunTagByMarkovRow.holds Try.pinned (OpenSpec.ofChange fnExactRunTagByMarkovSpec)

/-- ITS FALSE NEIGHBOUR: 'it returns false'. Refute it at one input. -/
def fnExactRunTagByMarkovWrong : ChangeSpec := { name := "fnExactRunTagByMarkov", fn := fun _ => fun
  | [d1, d2, d3] => { results := [.lit (.bool false)], args := [d1, d2, d3] }
  | _ => none }
def FnExactRunTagByMarkovWrongFalsely : Prop := fnExactRunTagByMarkovRow.holds Try.pinned (OpenSpec.ofChange fnExactRunTagByMarkovWrong)

/- THE SECOND FORM. 'bulk': how many values and letters a reading holds, each counted each time it is reached (what is shared counts as often as it is met; a slice's spare places count too). A statement '..UptoSaid' is the law's where the arguments, and the package variables that the reading takes, are together of bulk at most 1048576: NARROWER than '..Said'. Prove '..Said' where nothing that the law and all that it calls make is longer than what came in: it says more and counts as full. Else prove '..UptoSaid'. A law counts once. -/
mutual
def uptoBulk {H : Type} : DataW H → Nat
  | .lit (.string bytes) => bytes.length + 1
  | .lit _ => 1
  | .nil => 1
  | .ptr d => uptoBulk d + 1
  | .slice elems spare => uptoBulkAll elems + uptoBulkAll spare + 1
  | .agg parts => uptoBulkAll parts + 1
  | .iface _ d => uptoBulk d + 1
  | .map entries => uptoBulkEntries entries + 1
  | .held _ => 1
def uptoBulkAll {H : Type} : List (DataW H) → Nat
  | [] => 0
  | d :: r => uptoBulk d + uptoBulkAll r
def uptoBulkEntries {H : Type} : List (Lit × DataW H) → Nat
  | [] => 0
  | x :: r => uptoBulkEntry x + uptoBulkEntries r
def uptoBulkEntry {H : Type} : Lit × DataW H → Nat
  | (.string bytes, d) => bytes.length + uptoBulk d + 1
  | (_, d) => uptoBulk d + 1
 end
def uptoSmall : (H : Type) → List (DataW H) → Bool := fun _ ds => decide (uptoBulkAll ds ≤ 1048576)
def OpenSpec.upto (s : _root_.Go.ChangeSpec) : _root_.Go.OpenSpec := { _root_.Go.OpenSpec.ofChange s with cond := some uptoSmall }

/-- 'laws.FnExactConfigOfWord', WHERE WHAT IT READS IS OF BULK AT MOST 1048576: true; the input reads as it did. -/
def fnExactConfigOfWordUptoRow : OpenClaim := { program := "ytcfkjigapnknnaa", sum := "4a7c4e8ab15c6e26fad2469694d562932122186020f0bc67dd7bfb09cb987744", func := "loop.example/g01079/laws.FnExactConfigOfWord", spec := "fnExactConfigOfWord", unfollowed := true, recurses := true, apart := false, narrowed := true }
def FnExactConfigOfWordUptoSaid : Prop := fnExactConfigOfWordUptoRow.holds Try.pinned (OpenSpec.upto fnExactConfigOfWordSpec)

/-- 'laws.FnExactSuccessorsOf', WHERE WHAT IT READS IS OF BULK AT MOST 1048576: true; the input reads as it did. -/
def fnExactSuccessorsOfUptoRow : OpenClaim := { program := "ytcfkjigapnknnaa", sum := "4a7c4e8ab15c6e26fad2469694d562932122186020f0bc67dd7bfb09cb987744", func := "loop.example/g01079/laws.FnExactSuccessorsOf", spec := "fnExactSuccessorsOf", unfollowed := true, recurses := true, apart := false, narrowed := true }
def FnExactSuccessorsOfUptoSaid : Prop := fnExactSuccessorsOfUptoRow.holds Try.pinned (OpenSpec.upto fnExactSuccessorsOfSpec)

/-- 'laws.FnExactTagToMarkov', WHERE WHAT IT READS IS OF BULK AT MOST 1048576: true; the input reads as it did. -/
def fnExactTagToMarkovUptoRow : OpenClaim := { program := "ytcfkjigapnknnaa", sum := "4a7c4e8ab15c6e26fad2469694d562932122186020f0bc67dd7bfb09cb987744", func := "loop.example/g01079/laws.FnExactTagToMarkov", spec := "fnExactTagToMarkov", unfollowed := true, recurses := true, apart := false, narrowed := true }
def FnExactTagToMarkovUptoSaid : Prop := fnExactTagToMarkovUptoRow.holds Try.pinned (OpenSpec.upto fnExactTagToMarkovSpec)

/-- 'laws.FnExactStepCost', WHERE WHAT IT READS IS OF BULK AT MOST 1048576: true; the input reads as it did. -/
def fnExactStepCostUptoRow : OpenClaim := { program := "ytcfkjigapnknnaa", sum := "4a7c4e8ab15c6e26fad2469694d562932122186020f0bc67dd7bfb09cb987744", func := "loop.example/g01079/laws.FnExactStepCost", spec := "fnExactStepCost", unfollowed := true, recurses := true, apart := false, narrowed := true }
def FnExactStepCostUptoSaid : Prop := fnExactStepCostUptoRow.holds Try.pinned (OpenSpec.upto fnExactStepCostSpec)

/-- 'laws.FnExactRunTagByMarkov', WHERE WHAT IT READS IS OF BULK AT MOST 1048576: true; the input reads as it did. -/
def fnExactRunTagByMarkovUptoRow : OpenClaim := { program := "ytcfkjigapnknnaa", sum := "4a7c4e8ab15c6e26fad2469694d562932122186020f0bc67dd7bfb09cb987744", func := "loop.example/g01079/laws.FnExactRunTagByMarkov", spec := "fnExactRunTagByMarkov", unfollowed := true, recurses := true, apart := false, narrowed := true }
def FnExactRunTagByMarkovUptoSaid : Prop := fnExactRunTagByMarkovUptoRow.holds Try.pinned (OpenSpec.upto fnExactRunTagByMarkovSpec)

end Rows
end Go.Proofs.Ytcfkjigapnknnaa
