/-
  DERIVED. GIVEN WITH THE SEED: THE CARDS: each row of YtgcedfpjgdeakaaDoorRows.lean that lists a variable, with what it lists TIED to the program's text (the seventh form; the later family's looks); each row that meets fmt, with fmt's text TOLD by the authors' own Lean function (tested against real Go, not proved from fmt's source: count such statements apart). THE CARD IS WHAT COUNTS. Prove the row's statement (the work); the ties are given (YtgcedfpjgdeakaaDoorTie.lean); close each card by the builder's one call (the guide's Derived/Test/ToyasCard.lean, 'card_holds'). Laid BY PROGRAM, IN A SANDBOX (cutbox-door.mjs). By AI agents, Wed Nov 11 2026. No macro, syntax, notation, axiom, sorry.
-/
import Derived.Test.YtgcedfpjgdeakaaDoorRows
import GoSem.ClaimSeven
namespace Go.Proofs.YtgcedfpjgdeakaaDoor
namespace Rows

/-- THE TIED CARD OF 'laws.FnExactReadLoop'. -/
def fnExactReadLoopCard : Claim7 := { stood := { row := fnExactReadLoopRow, standIns := [], harness := (true, "f60ea794665be1a9574279043f00b7561cd0aceb6730081b193091a94adcda49"), looks := true }, kinds := [], alts := [], laidByText := true, laidKinds := [.data, .data, .data, .data, .sentinel, .sentinel, .pinned], laidTests := true, laidLooks := .later }
def FnExactReadLoopCardSaid : Prop := Claim7.holds Tryd.pinned (.plain (OpenSpec.ofChange fnExactReadLoopSpec)) fnExactReadLoopCard

/-- THE TIED CARD OF 'laws.FnExactMultiConfigText'. -/
def fnExactMultiConfigTextCard : Claim7 := { stood := { row := fnExactMultiConfigTextRow, standIns := [], harness := (true, "f60ea794665be1a9574279043f00b7561cd0aceb6730081b193091a94adcda49"), looks := true }, kinds := [], alts := [], laidByText := true, laidKinds := [.data, .data, .data], laidTests := true, laidLooks := .later }
def FnExactMultiConfigTextCardSaid : Prop := Claim7.holds Tryd.pinned (.plain (OpenSpec.ofChange fnExactMultiConfigTextSpec)) fnExactMultiConfigTextCard

/-- THE SECOND FORM's CARD OF 'laws.FnExactReadLoop'. -/
def fnExactReadLoopUptoCard : Claim7 := { stood := { row := fnExactReadLoopUptoRow, standIns := [], harness := (true, "f60ea794665be1a9574279043f00b7561cd0aceb6730081b193091a94adcda49"), looks := true }, kinds := [], alts := [], laidByText := true, laidKinds := [.data, .data, .data, .data, .sentinel, .sentinel, .pinned], laidTests := true, laidLooks := .later }
def FnExactReadLoopUptoCardSaid : Prop := Claim7.holds Tryd.pinned (.plain (OpenSpec.upto fnExactReadLoopSpec)) fnExactReadLoopUptoCard

/-- THE SECOND FORM's CARD OF 'laws.FnExactMultiConfigText'. -/
def fnExactMultiConfigTextUptoCard : Claim7 := { stood := { row := fnExactMultiConfigTextUptoRow, standIns := [], harness := (true, "f60ea794665be1a9574279043f00b7561cd0aceb6730081b193091a94adcda49"), looks := true }, kinds := [], alts := [], laidByText := true, laidKinds := [.data, .data, .data], laidTests := true, laidLooks := .later }
def FnExactMultiConfigTextUptoCardSaid : Prop := Claim7.holds Tryd.pinned (.plain (OpenSpec.upto fnExactMultiConfigTextSpec)) fnExactMultiConfigTextUptoCard
end Rows
end Go.Proofs.YtgcedfpjgdeakaaDoor
