/-
  No cell of these rows narrows 'for every input' (looked for: loops, veiled, ifaces, maps, wideKeys, modest, calm, conditions, laid).
  DERIVED. THE GIVEN ROWS OF THIS SEAT. 7 by the template 'for every input the law returns true; each argument reads behind the call as it read before'; 0 by the template 'total and deterministic' (their statements: YtmaoefdhecjhlaaTotals.lean).
  GIVEN WITH THE SEED: the statements are not yours to turn. If you find one false, say at which input.
  Laid BY PROGRAM, IN A SANDBOX (cutbox-rows.mjs): the forced cells as the released guide's own fill.sh prints them over the translation 59766861c9ddab64… (all of the seat's roots in one cut). By AI agents, Wed Nov 11 2026. No macro, syntax, notation, axiom, sorry.
-/
import Derived.Test.YtmaoefdhecjhlaaChecked
import GoSem.Claim
import GoSem.ClaimJoined
import GoSem.ClaimMapViews
import Derived.JoinedTies
import Derived.KernelRfl
namespace Go.Proofs.Ytmaoefdhecjhlaa
/- THE CELL 'sum', in the pinned program and in every row, IS THE sha256 OF THE DUMP (.gsa) THAT YtmaoefdhecjhlaaProg.lean LOADS. Nothing in Lean hashes anything: it is a label: what it is worth is what the hold of that sum in a sandbox is worth. -/
noncomputable def Try.pinned : Pinned := { name := "ytmaoefdhecjhlaa", sum := "59766861c9ddab64fd19970377a04ea9ddc69821f5f5a8c11dbbc0e41a5ebf85", checked := Try.checked }
namespace Rows
def none {H : Type} : Left H := { results := [], args := [] }

/-- 'laws.FnExactValidExpr': WHATEVER THE INPUT: true; the input reads as it did. -/
def fnExactValidExprSpec : ChangeSpec := { name := "fnExactValidExpr", fn := fun _ => fun
  | [d] => { results := [.lit (.bool true)], args := [d] }
  | _ => none }
def fnExactValidExprRow : OpenClaim := { program := "ytmaoefdhecjhlaa", sum := "59766861c9ddab64fd19970377a04ea9ddc69821f5f5a8c11dbbc0e41a5ebf85", func := "loop.example/g01079/laws.FnExactValidExpr", spec := "fnExactValidExpr", unfollowed := true, recurses := true, apart := false }
def FnExactValidExprSaid : Prop := fnExactValidExprRow.holds Try.pinned (OpenSpec.ofChange fnExactValidExprSpec)

/-- ITS FALSE NEIGHBOUR: 'it returns false'. Refute it at one input. -/
def fnExactValidExprWrong : ChangeSpec := { name := "fnExactValidExpr", fn := fun _ => fun
  | [d] => { results := [.lit (.bool false)], args := [d] }
  | _ => none }
def FnExactValidExprWrongFalsely : Prop := fnExactValidExprRow.holds Try.pinned (OpenSpec.ofChange fnExactValidExprWrong)

/-- 'laws.FnExactSameWhile': WHATEVER THE INPUT: true; the input reads as it did. -/
def fnExactSameWhileSpec : ChangeSpec := { name := "fnExactSameWhile", fn := fun _ => fun
  | [d1, d2] => { results := [.lit (.bool true)], args := [d1, d2] }
  | _ => none }
def fnExactSameWhileRow : OpenClaim := { program := "ytmaoefdhecjhlaa", sum := "59766861c9ddab64fd19970377a04ea9ddc69821f5f5a8c11dbbc0e41a5ebf85", func := "loop.example/g01079/laws.FnExactSameWhile", spec := "fnExactSameWhile", unfollowed := true, recurses := true, apart := false }
def FnExactSameWhileSaid : Prop := fnExactSameWhileRow.holds Try.pinned (OpenSpec.ofChange fnExactSameWhileSpec)

/-- ITS FALSE NEIGHBOUR: 'it returns false'. Refute it at one input. -/
def fnExactSameWhileWrong : ChangeSpec := { name := "fnExactSameWhile", fn := fun _ => fun
  | [d1, d2] => { results := [.lit (.bool false)], args := [d1, d2] }
  | _ => none }
def FnExactSameWhileWrongFalsely : Prop := fnExactSameWhileRow.holds Try.pinned (OpenSpec.ofChange fnExactSameWhileWrong)

/-- 'laws.FnExactValidWhile': WHATEVER THE INPUT: true; the input reads as it did. -/
def fnExactValidWhileSpec : ChangeSpec := { name := "fnExactValidWhile", fn := fun _ => fun
  | [d] => { results := [.lit (.bool true)], args := [d] }
  | _ => none }
def fnExactValidWhileRow : OpenClaim := { program := "ytmaoefdhecjhlaa", sum := "59766861c9ddab64fd19970377a04ea9ddc69821f5f5a8c11dbbc0e41a5ebf85", func := "loop.example/g01079/laws.FnExactValidWhile", spec := "fnExactValidWhile", unfollowed := true, recurses := true, apart := false }
def FnExactValidWhileSaid : Prop := fnExactValidWhileRow.holds Try.pinned (OpenSpec.ofChange fnExactValidWhileSpec)

/-- ITS FALSE NEIGHBOUR: 'it returns false'. Refute it at one input. -/
def fnExactValidWhileWrong : ChangeSpec := { name := "fnExactValidWhile", fn := fun _ => fun
  | [d] => { results := [.lit (.bool false)], args := [d] }
  | _ => none }
def FnExactValidWhileWrongFalsely : Prop := fnExactValidWhileRow.holds Try.pinned (OpenSpec.ofChange fnExactValidWhileWrong)

/-- 'laws.FnExactEncloseWhile': WHATEVER THE INPUT: true; the input reads as it did. -/
def fnExactEncloseWhileSpec : ChangeSpec := { name := "fnExactEncloseWhile", fn := fun _ => fun
  | [d1, d2] => { results := [.lit (.bool true)], args := [d1, d2] }
  | _ => none }
def fnExactEncloseWhileRow : OpenClaim := { program := "ytmaoefdhecjhlaa", sum := "59766861c9ddab64fd19970377a04ea9ddc69821f5f5a8c11dbbc0e41a5ebf85", func := "loop.example/g01079/laws.FnExactEncloseWhile", spec := "fnExactEncloseWhile", unfollowed := true, recurses := true, apart := false }
def FnExactEncloseWhileSaid : Prop := fnExactEncloseWhileRow.holds Try.pinned (OpenSpec.ofChange fnExactEncloseWhileSpec)

/-- ITS FALSE NEIGHBOUR: 'it returns false'. Refute it at one input. -/
def fnExactEncloseWhileWrong : ChangeSpec := { name := "fnExactEncloseWhile", fn := fun _ => fun
  | [d1, d2] => { results := [.lit (.bool false)], args := [d1, d2] }
  | _ => none }
def FnExactEncloseWhileWrongFalsely : Prop := fnExactEncloseWhileRow.holds Try.pinned (OpenSpec.ofChange fnExactEncloseWhileWrong)

/-- 'laws.FnExactSequenceWhile': WHATEVER THE INPUT: true; the input reads as it did. -/
def fnExactSequenceWhileSpec : ChangeSpec := { name := "fnExactSequenceWhile", fn := fun _ => fun
  | [d1, d2] => { results := [.lit (.bool true)], args := [d1, d2] }
  | _ => none }
def fnExactSequenceWhileRow : OpenClaim := { program := "ytmaoefdhecjhlaa", sum := "59766861c9ddab64fd19970377a04ea9ddc69821f5f5a8c11dbbc0e41a5ebf85", func := "loop.example/g01079/laws.FnExactSequenceWhile", spec := "fnExactSequenceWhile", unfollowed := true, recurses := true, apart := false }
def FnExactSequenceWhileSaid : Prop := fnExactSequenceWhileRow.holds Try.pinned (OpenSpec.ofChange fnExactSequenceWhileSpec)

/-- ITS FALSE NEIGHBOUR: 'it returns false'. Refute it at one input. -/
def fnExactSequenceWhileWrong : ChangeSpec := { name := "fnExactSequenceWhile", fn := fun _ => fun
  | [d1, d2] => { results := [.lit (.bool false)], args := [d1, d2] }
  | _ => none }
def FnExactSequenceWhileWrongFalsely : Prop := fnExactSequenceWhileRow.holds Try.pinned (OpenSpec.ofChange fnExactSequenceWhileWrong)

/-- 'laws.FnExactBranchWhile': WHATEVER THE INPUT: true; the input reads as it did. -/
def fnExactBranchWhileSpec : ChangeSpec := { name := "fnExactBranchWhile", fn := fun _ => fun
  | [d1, d2, d3, d4, d5] => { results := [.lit (.bool true)], args := [d1, d2, d3, d4, d5] }
  | _ => none }
def fnExactBranchWhileRow : OpenClaim := { program := "ytmaoefdhecjhlaa", sum := "59766861c9ddab64fd19970377a04ea9ddc69821f5f5a8c11dbbc0e41a5ebf85", func := "loop.example/g01079/laws.FnExactBranchWhile", spec := "fnExactBranchWhile", unfollowed := true, recurses := true, apart := false }
def FnExactBranchWhileSaid : Prop := fnExactBranchWhileRow.holds Try.pinned (OpenSpec.ofChange fnExactBranchWhileSpec)

/-- ITS FALSE NEIGHBOUR: 'it returns false'. Refute it at one input. -/
def fnExactBranchWhileWrong : ChangeSpec := { name := "fnExactBranchWhile", fn := fun _ => fun
  | [d1, d2, d3, d4, d5] => { results := [.lit (.bool false)], args := [d1, d2, d3, d4, d5] }
  | _ => none }
def FnExactBranchWhileWrongFalsely : Prop := fnExactBranchWhileRow.holds Try.pinned (OpenSpec.ofChange fnExactBranchWhileWrong)

/-- 'laws.FnExactEvalExpr': WHATEVER THE INPUT: true; the input reads as it did. -/
def fnExactEvalExprSpec : ChangeSpec := { name := "fnExactEvalExpr", fn := fun _ => fun
  | [d1, d2] => { results := [.lit (.bool true)], args := [d1, d2] }
  | _ => none }
def fnExactEvalExprRow : OpenClaim := { program := "ytmaoefdhecjhlaa", sum := "59766861c9ddab64fd19970377a04ea9ddc69821f5f5a8c11dbbc0e41a5ebf85", func := "loop.example/g01079/laws.FnExactEvalExpr", spec := "fnExactEvalExpr", unfollowed := true, recurses := true, apart := false }
def FnExactEvalExprSaid : Prop := fnExactEvalExprRow.holds Try.pinned (OpenSpec.ofChange fnExactEvalExprSpec)

/-- ITS FALSE NEIGHBOUR: 'it returns false'. Refute it at one input. -/
def fnExactEvalExprWrong : ChangeSpec := { name := "fnExactEvalExpr", fn := fun _ => fun
  | [d1, d2] => { results := [.lit (.bool false)], args := [d1, d2] }
  | _ => none }
def FnExactEvalExprWrongFalsely : Prop := fnExactEvalExprRow.holds Try.pinned (OpenSpec.ofChange fnExactEvalExprWrong)

/- THE SECOND FORM. 'bulk': how many values and letters a reading holds, each counted each time it is reached (what is shared counts as often as it is met; a slice's spare places count too). A statement '..UptoSaid' is the law's where the arguments, and the package variables that the reading takes, are together of bulk at most 1048576: NARROWER than '..Said'. Prove '..Said' where nothing that the law and all that it calls make is longer than what came in: it says more and counts as full. Else prove '..UptoSaid'. A law counts once. -/
mutual
def uptoBulk {H : Type} : DataW H → Nat
  | .lit (.string bytes) => bytes.length + 1
  | .lit _ => 1
  | .nil => 1
  | .ptr d => uptoBulk d + 1
  | .slice elems spare => uptoBulkAll elems + uptoBulkAll spare + 1
  | .agg parts => uptoBulkAll parts + 1
  | .iface _ d => uptoBulk d + 1
  | .map entries => uptoBulkEntries entries + 1
  | .held _ => 1
def uptoBulkAll {H : Type} : List (DataW H) → Nat
  | [] => 0
  | d :: r => uptoBulk d + uptoBulkAll r
def uptoBulkEntries {H : Type} : List (Lit × DataW H) → Nat
  | [] => 0
  | x :: r => uptoBulkEntry x + uptoBulkEntries r
def uptoBulkEntry {H : Type} : Lit × DataW H → Nat
  | (.string bytes, d) => bytes.length + uptoBulk d + 1
  | (_, d) => uptoBulk d + 1
 end
def uptoSmall : (H : Type) → List (DataW H) → Bool := fun _ ds => decide (uptoBulkAll ds ≤ 1048576)
def OpenSpec.upto (s : _root_.Go.ChangeSpec) : _root_.Go.OpenSpec := { _root_.Go.OpenSpec.ofChange s with cond := some uptoSmall }

/-- 'laws.FnExactValidExpr', WHERE WHAT IT READS IS OF BULK AT MOST 1048576: true; the input reads as it did. -/
def fnExactValidExprUptoRow : OpenClaim := { program := "ytmaoefdhecjhlaa", sum := "59766861c9ddab64fd19970377a04ea9ddc69821f5f5a8c11dbbc0e41a5ebf85", func := "loop.example/g01079/laws.FnExactValidExpr", spec := "fnExactValidExpr", unfollowed := true, recurses := true, apart := false, narrowed := true }
def FnExactValidExprUptoSaid : Prop := fnExactValidExprUptoRow.holds Try.pinned (OpenSpec.upto fnExactValidExprSpec)

/-- 'laws.FnExactSameWhile', WHERE WHAT IT READS IS OF BULK AT MOST 1048576: true; the input reads as it did. -/
def fnExactSameWhileUptoRow : OpenClaim := { program := "ytmaoefdhecjhlaa", sum := "59766861c9ddab64fd19970377a04ea9ddc69821f5f5a8c11dbbc0e41a5ebf85", func := "loop.example/g01079/laws.FnExactSameWhile", spec := "fnExactSameWhile", unfollowed := true, recurses := true, apart := false, narrowed := true }
def FnExactSameWhileUptoSaid : Prop := fnExactSameWhileUptoRow.holds Try.pinned (OpenSpec.upto fnExactSameWhileSpec)

/-- 'laws.FnExactValidWhile', WHERE WHAT IT READS IS OF BULK AT MOST 1048576: true; the input reads as it did. -/
def fnExactValidWhileUptoRow : OpenClaim := { program := "ytmaoefdhecjhlaa", sum := "59766861c9ddab64fd19970377a04ea9ddc69821f5f5a8c11dbbc0e41a5ebf85", func := "loop.example/g01079/laws.FnExactValidWhile", spec := "fnExactValidWhile", unfollowed := true, recurses := true, apart := false, narrowed := true }
def FnExactValidWhileUptoSaid : Prop := fnExactValidWhileUptoRow.holds Try.pinned (OpenSpec.upto fnExactValidWhileSpec)

/-- 'laws.FnExactEncloseWhile', WHERE WHAT IT READS IS OF BULK AT MOST 1048576: true; the input reads as it did. -/
def fnExactEncloseWhileUptoRow : OpenClaim := { program := "ytmaoefdhecjhlaa", sum := "59766861c9ddab64fd19970377a04ea9ddc69821f5f5a8c11dbbc0e41a5ebf85", func := "loop.example/g01079/laws.FnExactEncloseWhile", spec := "fnExactEncloseWhile", unfollowed := true, recurses := true, apart := false, narrowed := true }
def FnExactEncloseWhileUptoSaid : Prop := fnExactEncloseWhileUptoRow.holds Try.pinned (OpenSpec.upto fnExactEncloseWhileSpec)

/-- 'laws.FnExactSequenceWhile', WHERE WHAT IT READS IS OF BULK AT MOST 1048576: true; the input reads as it did. -/
def fnExactSequenceWhileUptoRow : OpenClaim := { program := "ytmaoefdhecjhlaa", sum := "59766861c9ddab64fd19970377a04ea9ddc69821f5f5a8c11dbbc0e41a5ebf85", func := "loop.example/g01079/laws.FnExactSequenceWhile", spec := "fnExactSequenceWhile", unfollowed := true, recurses := true, apart := false, narrowed := true }
def FnExactSequenceWhileUptoSaid : Prop := fnExactSequenceWhileUptoRow.holds Try.pinned (OpenSpec.upto fnExactSequenceWhileSpec)

/-- 'laws.FnExactBranchWhile', WHERE WHAT IT READS IS OF BULK AT MOST 1048576: true; the input reads as it did. -/
def fnExactBranchWhileUptoRow : OpenClaim := { program := "ytmaoefdhecjhlaa", sum := "59766861c9ddab64fd19970377a04ea9ddc69821f5f5a8c11dbbc0e41a5ebf85", func := "loop.example/g01079/laws.FnExactBranchWhile", spec := "fnExactBranchWhile", unfollowed := true, recurses := true, apart := false, narrowed := true }
def FnExactBranchWhileUptoSaid : Prop := fnExactBranchWhileUptoRow.holds Try.pinned (OpenSpec.upto fnExactBranchWhileSpec)

/-- 'laws.FnExactEvalExpr', WHERE WHAT IT READS IS OF BULK AT MOST 1048576: true; the input reads as it did. -/
def fnExactEvalExprUptoRow : OpenClaim := { program := "ytmaoefdhecjhlaa", sum := "59766861c9ddab64fd19970377a04ea9ddc69821f5f5a8c11dbbc0e41a5ebf85", func := "loop.example/g01079/laws.FnExactEvalExpr", spec := "fnExactEvalExpr", unfollowed := true, recurses := true, apart := false, narrowed := true }
def FnExactEvalExprUptoSaid : Prop := fnExactEvalExprUptoRow.holds Try.pinned (OpenSpec.upto fnExactEvalExprSpec)

end Rows
end Go.Proofs.Ytmaoefdhecjhlaa
