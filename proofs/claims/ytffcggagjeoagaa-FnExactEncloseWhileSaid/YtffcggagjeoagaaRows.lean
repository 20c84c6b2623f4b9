/-
  No cell of these rows narrows 'for every input' (looked for: loops, veiled, ifaces, maps, wideKeys, modest, calm, conditions, laid).
  DERIVED. THE GIVEN ROWS OF THIS SEAT. 9 by the template 'for every input the law returns true; each argument reads behind the call as it read before'; 0 by the template 'total and deterministic' (their statements: YtffcggagjeoagaaTotals.lean).
  GIVEN WITH THE SEED: the statements are not yours to turn. If you find one false, say at which input.
  Laid BY PROGRAM, IN A SANDBOX (cutbox-rows.mjs): the forced cells as the released guide's own fill.sh prints them over the translation 8aaba73d855bfce9… (all of the seat's roots in one cut). By AI agents, Wed Nov 11 2026. No macro, syntax, notation, axiom, sorry.
-/
import Derived.Test.YtffcggagjeoagaaChecked
import GoSem.Claim
import GoSem.ClaimJoined
import GoSem.ClaimMapViews
import Derived.JoinedTies
import Derived.KernelRfl
namespace Go.Proofs.Ytffcggagjeoagaa
/- THE CELL 'sum', in the pinned program and in every row, IS THE sha256 OF THE DUMP (.gsa) THAT YtffcggagjeoagaaProg.lean LOADS. Nothing in Lean hashes anything: it is a label: what it is worth is what the hold of that sum in a sandbox is worth. -/
noncomputable def Try.pinned : Pinned := { name := "ytffcggagjeoagaa", sum := "8aaba73d855bfce95ea69b306a683e8065a23cfe9251ecc71b41b080f2bc0bb6", checked := Try.checked }
namespace Rows
def none {H : Type} : Left H := { results := [], args := [] }

/-- 'laws.FnExactNumberOfTree': WHATEVER THE INPUT: true; the input reads as it did. -/
def fnExactNumberOfTreeSpec : ChangeSpec := { name := "fnExactNumberOfTree", fn := fun _ => fun
  | [d] => { results := [.lit (.bool true)], args := [d] }
  | _ => none }
def fnExactNumberOfTreeRow : OpenClaim := { program := "ytffcggagjeoagaa", sum := "8aaba73d855bfce95ea69b306a683e8065a23cfe9251ecc71b41b080f2bc0bb6", func := "loop.example/g01079/laws.FnExactNumberOfTree", spec := "fnExactNumberOfTree", unfollowed := true, recurses := true, apart := false }
def FnExactNumberOfTreeSaid : Prop := fnExactNumberOfTreeRow.holds Try.pinned (OpenSpec.ofChange fnExactNumberOfTreeSpec)

/-- ITS FALSE NEIGHBOUR: 'it returns false'. Refute it at one input. -/
def fnExactNumberOfTreeWrong : ChangeSpec := { name := "fnExactNumberOfTree", fn := fun _ => fun
  | [d] => { results := [.lit (.bool false)], args := [d] }
  | _ => none }
def FnExactNumberOfTreeWrongFalsely : Prop := fnExactNumberOfTreeRow.holds Try.pinned (OpenSpec.ofChange fnExactNumberOfTreeWrong)

/-- 'laws.FnExactPartAt': WHATEVER THE INPUT: true; the input reads as it did. -/
def fnExactPartAtSpec : ChangeSpec := { name := "fnExactPartAt", fn := fun _ => fun
  | [d1, d2] => { results := [.lit (.bool true)], args := [d1, d2] }
  | _ => none }
def fnExactPartAtRow : OpenClaim := { program := "ytffcggagjeoagaa", sum := "8aaba73d855bfce95ea69b306a683e8065a23cfe9251ecc71b41b080f2bc0bb6", func := "loop.example/g01079/laws.FnExactPartAt", spec := "fnExactPartAt", unfollowed := true, recurses := true, apart := false }
def FnExactPartAtSaid : Prop := fnExactPartAtRow.holds Try.pinned (OpenSpec.ofChange fnExactPartAtSpec)

/-- ITS FALSE NEIGHBOUR: 'it returns false'. Refute it at one input. -/
def fnExactPartAtWrong : ChangeSpec := { name := "fnExactPartAt", fn := fun _ => fun
  | [d1, d2] => { results := [.lit (.bool false)], args := [d1, d2] }
  | _ => none }
def FnExactPartAtWrongFalsely : Prop := fnExactPartAtRow.holds Try.pinned (OpenSpec.ofChange fnExactPartAtWrong)

/-- 'laws.FnExactListOfTree': WHATEVER THE INPUT: true; the input reads as it did. -/
def fnExactListOfTreeSpec : ChangeSpec := { name := "fnExactListOfTree", fn := fun _ => fun
  | [d] => { results := [.lit (.bool true)], args := [d] }
  | _ => none }
def fnExactListOfTreeRow : OpenClaim := { program := "ytffcggagjeoagaa", sum := "8aaba73d855bfce95ea69b306a683e8065a23cfe9251ecc71b41b080f2bc0bb6", func := "loop.example/g01079/laws.FnExactListOfTree", spec := "fnExactListOfTree", unfollowed := true, recurses := true, apart := false }
def FnExactListOfTreeSaid : Prop := fnExactListOfTreeRow.holds Try.pinned (OpenSpec.ofChange fnExactListOfTreeSpec)

/-- ITS FALSE NEIGHBOUR: 'it returns false'. Refute it at one input. -/
def fnExactListOfTreeWrong : ChangeSpec := { name := "fnExactListOfTree", fn := fun _ => fun
  | [d] => { results := [.lit (.bool false)], args := [d] }
  | _ => none }
def FnExactListOfTreeWrongFalsely : Prop := fnExactListOfTreeRow.holds Try.pinned (OpenSpec.ofChange fnExactListOfTreeWrong)

/-- 'laws.FnExactSettledTexts': WHATEVER THE INPUT: true; the input reads as it did. -/
def fnExactSettledTextsSpec : ChangeSpec := { name := "fnExactSettledTexts", fn := fun _ => fun
  | [d] => { results := [.lit (.bool true)], args := [d] }
  | _ => none }
def fnExactSettledTextsRow : OpenClaim := { program := "ytffcggagjeoagaa", sum := "8aaba73d855bfce95ea69b306a683e8065a23cfe9251ecc71b41b080f2bc0bb6", func := "loop.example/g01079/laws.FnExactSettledTexts", spec := "fnExactSettledTexts", unfollowed := true, recurses := true, apart := false }
def FnExactSettledTextsSaid : Prop := fnExactSettledTextsRow.holds Try.pinned (OpenSpec.ofChange fnExactSettledTextsSpec)

/-- ITS FALSE NEIGHBOUR: 'it returns false'. Refute it at one input. -/
def fnExactSettledTextsWrong : ChangeSpec := { name := "fnExactSettledTexts", fn := fun _ => fun
  | [d] => { results := [.lit (.bool false)], args := [d] }
  | _ => none }
def FnExactSettledTextsWrongFalsely : Prop := fnExactSettledTextsRow.holds Try.pinned (OpenSpec.ofChange fnExactSettledTextsWrong)

/-- 'laws.FnExactSameWhile': WHATEVER THE INPUT: true; the input reads as it did. -/
def fnExactSameWhileSpec : ChangeSpec := { name := "fnExactSameWhile", fn := fun _ => fun
  | [d1, d2] => { results := [.lit (.bool true)], args := [d1, d2] }
  | _ => none }
def fnExactSameWhileRow : OpenClaim := { program := "ytffcggagjeoagaa", sum := "8aaba73d855bfce95ea69b306a683e8065a23cfe9251ecc71b41b080f2bc0bb6", func := "loop.example/g01079/laws.FnExactSameWhile", spec := "fnExactSameWhile", unfollowed := true, recurses := true, apart := false }
def FnExactSameWhileSaid : Prop := fnExactSameWhileRow.holds Try.pinned (OpenSpec.ofChange fnExactSameWhileSpec)

/-- ITS FALSE NEIGHBOUR: 'it returns false'. Refute it at one input. -/
def fnExactSameWhileWrong : ChangeSpec := { name := "fnExactSameWhile", fn := fun _ => fun
  | [d1, d2] => { results := [.lit (.bool false)], args := [d1, d2] }
  | _ => none }
def FnExactSameWhileWrongFalsely : Prop := fnExactSameWhileRow.holds Try.pinned (OpenSpec.ofChange fnExactSameWhileWrong)

/-- 'laws.FnExactValidWhile': WHATEVER THE INPUT: true; the input reads as it did. -/
def fnExactValidWhileSpec : ChangeSpec := { name := "fnExactValidWhile", fn := fun _ => fun
  | [d] => { results := [.lit (.bool true)], args := [d] }
  | _ => none }
def fnExactValidWhileRow : OpenClaim := { program := "ytffcggagjeoagaa", sum := "8aaba73d855bfce95ea69b306a683e8065a23cfe9251ecc71b41b080f2bc0bb6", func := "loop.example/g01079/laws.FnExactValidWhile", spec := "fnExactValidWhile", unfollowed := true, recurses := true, apart := false }
def FnExactValidWhileSaid : Prop := fnExactValidWhileRow.holds Try.pinned (OpenSpec.ofChange fnExactValidWhileSpec)

/-- ITS FALSE NEIGHBOUR: 'it returns false'. Refute it at one input. -/
def fnExactValidWhileWrong : ChangeSpec := { name := "fnExactValidWhile", fn := fun _ => fun
  | [d] => { results := [.lit (.bool false)], args := [d] }
  | _ => none }
def FnExactValidWhileWrongFalsely : Prop := fnExactValidWhileRow.holds Try.pinned (OpenSpec.ofChange fnExactValidWhileWrong)

/-- 'laws.FnExactEncloseWhile': WHATEVER THE INPUT: true; the input reads as it did. -/
def fnExactEncloseWhileSpec : ChangeSpec := { name := "fnExactEncloseWhile", fn := fun _ => fun
  | [d1, d2] => { results := [.lit (.bool true)], args := [d1, d2] }
  | _ => none }
def fnExactEncloseWhileRow : OpenClaim := { program := "ytffcggagjeoagaa", sum := "8aaba73d855bfce95ea69b306a683e8065a23cfe9251ecc71b41b080f2bc0bb6", func := "loop.example/g01079/laws.FnExactEncloseWhile", spec := "fnExactEncloseWhile", unfollowed := true, recurses := true, apart := false }
def FnExactEncloseWhileSaid : Prop := fnExactEncloseWhileRow.holds Try.pinned (OpenSpec.ofChange fnExactEncloseWhileSpec)

/-- ITS FALSE NEIGHBOUR: 'it returns false'. Refute it at one input. -/
def fnExactEncloseWhileWrong : ChangeSpec := { name := "fnExactEncloseWhile", fn := fun _ => fun
  | [d1, d2] => { results := [.lit (.bool false)], args := [d1, d2] }
  | _ => none }
def FnExactEncloseWhileWrongFalsely : Prop := fnExactEncloseWhileRow.holds Try.pinned (OpenSpec.ofChange fnExactEncloseWhileWrong)

/-- 'laws.FnExactSequenceWhile': WHATEVER THE INPUT: true; the input reads as it did. -/
def fnExactSequenceWhileSpec : ChangeSpec := { name := "fnExactSequenceWhile", fn := fun _ => fun
  | [d1, d2] => { results := [.lit (.bool true)], args := [d1, d2] }
  | _ => none }
def fnExactSequenceWhileRow : OpenClaim := { program := "ytffcggagjeoagaa", sum := "8aaba73d855bfce95ea69b306a683e8065a23cfe9251ecc71b41b080f2bc0bb6", func := "loop.example/g01079/laws.FnExactSequenceWhile", spec := "fnExactSequenceWhile", unfollowed := true, recurses := true, apart := false }
def FnExactSequenceWhileSaid : Prop := fnExactSequenceWhileRow.holds Try.pinned (OpenSpec.ofChange fnExactSequenceWhileSpec)

/-- ITS FALSE NEIGHBOUR: 'it returns false'. Refute it at one input. -/
def fnExactSequenceWhileWrong : ChangeSpec := { name := "fnExactSequenceWhile", fn := fun _ => fun
  | [d1, d2] => { results := [.lit (.bool false)], args := [d1, d2] }
  | _ => none }
def FnExactSequenceWhileWrongFalsely : Prop := fnExactSequenceWhileRow.holds Try.pinned (OpenSpec.ofChange fnExactSequenceWhileWrong)

/-- 'laws.FnExactBranchWhile': WHATEVER THE INPUT: true; the input reads as it did. -/
def fnExactBranchWhileSpec : ChangeSpec := { name := "fnExactBranchWhile", fn := fun _ => fun
  | [d1, d2, d3, d4, d5] => { results := [.lit (.bool true)], args := [d1, d2, d3, d4, d5] }
  | _ => none }
def fnExactBranchWhileRow : OpenClaim := { program := "ytffcggagjeoagaa", sum := "8aaba73d855bfce95ea69b306a683e8065a23cfe9251ecc71b41b080f2bc0bb6", func := "loop.example/g01079/laws.FnExactBranchWhile", spec := "fnExactBranchWhile", unfollowed := true, recurses := true, apart := false }
def FnExactBranchWhileSaid : Prop := fnExactBranchWhileRow.holds Try.pinned (OpenSpec.ofChange fnExactBranchWhileSpec)

/-- ITS FALSE NEIGHBOUR: 'it returns false'. Refute it at one input. -/
def fnExactBranchWhileWrong : ChangeSpec := { name := "fnExactBranchWhile", fn := fun _ => fun
  | [d1, d2, d3, d4, d5] => { results := [.lit (.bool false)], args := [d1, d2, d3, d4, d5] }
  | _ => none }
def FnExactBranchWhileWrongFalsely : Prop := fnExactBranchWhileRow.holds Try.pinned (OpenSpec.ofChange fnExactBranchWhileWrong)

/- THE SECOND FORM. 'bulk': how many values and letters a reading holds, each counted each time it is reached (what is shared counts as often as it is met; a slice's spare places count too). A statement '..UptoSaid' is the law's where the arguments, and the package variables that the reading takes, are together of bulk at most 1048576: NARROWER than '..Said'. Prove '..Said' where nothing that the law and all that it calls make is longer than what came in: it says more and counts as full. Else prove '..UptoSaid'. A law counts once. -/
mutual
def uptoBulk {H : Type} : DataW H → Nat
  | .lit (.string bytes) => bytes.length + 1
  | .lit _ => 1
  | .nil => 1
  | .ptr d => uptoBulk d + 1
  | .slice elems spare => uptoBulkAll elems + uptoBulkAll spare + 1
  | .agg parts => uptoBulkAll parts + 1
  | .iface _ d => uptoBulk d + 1
  | .map entries => uptoBulkEntries entries + 1
  | .held _ => 1
def uptoBulkAll {H : Type} : List (DataW H) → Nat
  | [] => 0
  | d :: r => uptoBulk d + uptoBulkAll r
def uptoBulkEntries {H : Type} : List (Lit × DataW H) → Nat
  | [] => 0
  | x :: r => uptoBulkEntry x + uptoBulkEntries r
def uptoBulkEntry {H : Type} : Lit × DataW H → Nat
  | (.string bytes, d) => bytes.length + uptoBulk d + 1
  | (_, d) => uptoBulk d + 1
 end
def uptoSmall : (H : Type) → List (DataW H) → Bool := fun _ ds => decide (uptoBulkAll ds ≤ 1048576)
def OpenSpec.upto (s : _root_.Go.ChangeSpec) : _root_.Go.OpenSpec := { _root_.Go.OpenSpec.ofChange s with cond := some uptoSmall }

/-- 'laws.FnExactNumberOfTree', WHERE WHAT IT READS IS OF BULK AT MOST 1048576: true; the input reads as it did. -/
def fnExactNumberOfTreeUptoRow : OpenClaim := { program := "ytffcggagjeoagaa", sum := "8aaba73d855bfce95ea69b306a683e8065a23cfe9251ecc71b41b080f2bc0bb6", func := "loop.example/g01079/laws.FnExactNumberOfTree", spec := "fnExactNumberOfTree", unfollowed := true, recurses := true, apart := false, narrowed := true }
def FnExactNumberOfTreeUptoSaid : Prop := fnExactNumberOfTreeUptoRow.holds Try.pinned (OpenSpec.upto fnExactNumberOfTreeSpec)

/-- 'laws.FnExactPartAt', WHERE WHAT IT READS IS OF BULK AT MOST 1048576: true; the input reads as it did. -/
def fnExactPartAtUptoRow : OpenClaim := { program := "ytffcggagjeoagaa", sum := "8aaba73d855bfce95ea69b306a683e8065a23cfe9251ecc71b41b080f2bc0bb6", func := "loop.example/g01079/laws.FnExactPartAt", spec := "fnExactPartAt", unfollowed := true, recurses := true, apart := false, narrowed := true }
def FnExactPartAtUptoSaid : Prop := fnExactPartAtUptoRow.holds Try.pinned (OpenSpec.upto fnExactPartAtSpec)

/-- 'laws.FnExactListOfTree', WHERE WHAT IT READS IS OF BULK AT MOST 1048576: true; the input reads as it did. -/
def fnExactListOfTreeUptoRow : OpenClaim := { program := "ytffcggagjeoagaa", sum := "8aaba73d855bfce95ea69b306a683e8065a23cfe9251ecc71b41b080f2bc0bb6", func := "loop.example/g01079/laws.FnExactListOfTree", spec := "fnExactListOfTree", unfollowed := true, recurses := true, apart := false, narrowed := true }
def FnExactListOfTreeUptoSaid : Prop := fnExactListOfTreeUptoRow.holds Try.pinned (OpenSpec.upto fnExactListOfTreeSpec)

/-- 'laws.FnExactSettledTexts', WHERE WHAT IT READS IS OF BULK AT MOST 1048576: true; the input reads as it did. -/
def fnExactSettledTextsUptoRow : OpenClaim := { program := "ytffcggagjeoagaa", sum := "8aaba73d855bfce95ea69b306a683e8065a23cfe9251ecc71b41b080f2bc0bb6", func := "loop.example/g01079/laws.FnExactSettledTexts", spec := "fnExactSettledTexts", unfollowed := true, recurses := true, apart := false, narrowed := true }
def FnExactSettledTextsUptoSaid : Prop := fnExactSettledTextsUptoRow.holds Try.pinned (OpenSpec.upto fnExactSettledTextsSpec)

/-- 'laws.FnExactSameWhile', WHERE WHAT IT READS IS OF BULK AT MOST 1048576: true; the input reads as it did. -/
def fnExactSameWhileUptoRow : OpenClaim := { program := "ytffcggagjeoagaa", sum := "8aaba73d855bfce95ea69b306a683e8065a23cfe9251ecc71b41b080f2bc0bb6", func := "loop.example/g01079/laws.FnExactSameWhile", spec := "fnExactSameWhile", unfollowed := true, recurses := true, apart := false, narrowed := true }
def FnExactSameWhileUptoSaid : Prop := fnExactSameWhileUptoRow.holds Try.pinned (OpenSpec.upto fnExactSameWhileSpec)

/-- 'laws.FnExactValidWhile', WHERE WHAT IT READS IS OF BULK AT MOST 1048576: true; the input reads as it did. -/
def fnExactValidWhileUptoRow : OpenClaim := { program := "ytffcggagjeoagaa", sum := "8aaba73d855bfce95ea69b306a683e8065a23cfe9251ecc71b41b080f2bc0bb6", func := "loop.example/g01079/laws.FnExactValidWhile", spec := "fnExactValidWhile", unfollowed := true, recurses := true, apart := false, narrowed := true }
def FnExactValidWhileUptoSaid : Prop := fnExactValidWhileUptoRow.holds Try.pinned (OpenSpec.upto fnExactValidWhileSpec)

/-- 'laws.FnExactEncloseWhile', WHERE WHAT IT READS IS OF BULK AT MOST 1048576: true; the input reads as it did. -/
def fnExactEncloseWhileUptoRow : OpenClaim := { program := "ytffcggagjeoagaa", sum := "8aaba73d855bfce95ea69b306a683e8065a23cfe9251ecc71b41b080f2bc0bb6", func := "loop.example/g01079/laws.FnExactEncloseWhile", spec := "fnExactEncloseWhile", unfollowed := true, recurses := true, apart := false, narrowed := true }
def FnExactEncloseWhileUptoSaid : Prop := fnExactEncloseWhileUptoRow.holds Try.pinned (OpenSpec.upto fnExactEncloseWhileSpec)

/-- 'laws.FnExactSequenceWhile', WHERE WHAT IT READS IS OF BULK AT MOST 1048576: true; the input reads as it did. -/
def fnExactSequenceWhileUptoRow : OpenClaim := { program := "ytffcggagjeoagaa", sum := "8aaba73d855bfce95ea69b306a683e8065a23cfe9251ecc71b41b080f2bc0bb6", func := "loop.example/g01079/laws.FnExactSequenceWhile", spec := "fnExactSequenceWhile", unfollowed := true, recurses := true, apart := false, narrowed := true }
def FnExactSequenceWhileUptoSaid : Prop := fnExactSequenceWhileUptoRow.holds Try.pinned (OpenSpec.upto fnExactSequenceWhileSpec)

/-- 'laws.FnExactBranchWhile', WHERE WHAT IT READS IS OF BULK AT MOST 1048576: true; the input reads as it did. -/
def fnExactBranchWhileUptoRow : OpenClaim := { program := "ytffcggagjeoagaa", sum := "8aaba73d855bfce95ea69b306a683e8065a23cfe9251ecc71b41b080f2bc0bb6", func := "loop.example/g01079/laws.FnExactBranchWhile", spec := "fnExactBranchWhile", unfollowed := true, recurses := true, apart := false, narrowed := true }
def FnExactBranchWhileUptoSaid : Prop := fnExactBranchWhileUptoRow.holds Try.pinned (OpenSpec.upto fnExactBranchWhileSpec)

end Rows
end Go.Proofs.Ytffcggagjeoagaa
