/-
  DERIVED. GIVEN WITH THE SEED: THE CARDS: each row of YtjakgeblmkdbpaaDoorRows.lean that lists a variable, with what it lists TIED to the program's text (the seventh form; the later family's looks); each row that meets fmt, with fmt's text TOLD by the authors' own Lean function (tested against real Go, not proved from fmt's source: count such statements apart). THE CARD IS WHAT COUNTS. Prove the row's statement (the work); the ties are given (YtjakgeblmkdbpaaDoorTie.lean); close each card by the builder's one call (the guide's Derived/Test/ToyasCard.lean, 'card_holds'). Laid BY PROGRAM, IN A SANDBOX (cutbox-door.mjs). By AI agents, Wed Nov 11 2026. No macro, syntax, notation, axiom, sorry.
-/
import Derived.Test.YtjakgeblmkdbpaaDoorRows
import GoSem.ClaimSeven
namespace Go.Proofs.YtjakgeblmkdbpaaDoor
namespace Rows

/-- THE TIED CARD OF 'laws.FnExactLoopText'. -/
def fnExactLoopTextCard : Claim7 := { stood := { row := fnExactLoopTextRow, standIns := [], harness := (true, "d45ef3e1aa419a22e7a4e59f863b18e28b5d7ab85d42c0e75430a6a1ca62d5b8"), looks := true }, kinds := [], alts := [], laidByText := true, laidKinds := [.data, .data, .data], laidTests := true, laidLooks := .later }
def FnExactLoopTextCardSaid : Prop := Claim7.holds Tryd.pinned (.plain (OpenSpec.ofChange fnExactLoopTextSpec)) fnExactLoopTextCard

/-- THE TIED CARD OF 'laws.FnExactReadLoop'. -/
def fnExactReadLoopCard : Claim7 := { stood := { row := fnExactReadLoopRow, standIns := [], harness := (true, "d45ef3e1aa419a22e7a4e59f863b18e28b5d7ab85d42c0e75430a6a1ca62d5b8"), looks := true }, kinds := [], alts := [], laidByText := true, laidKinds := [.data, .data, .data, .data, .sentinel, .sentinel, .pinned], laidTests := true, laidLooks := .later }
def FnExactReadLoopCardSaid : Prop := Claim7.holds Tryd.pinned (.plain (OpenSpec.ofChange fnExactReadLoopSpec)) fnExactReadLoopCard

/-- THE TIED CARD OF 'laws.FnExactStandardLam'. -/
def fnExactStandardLamCard : Claim7 := { stood := { row := fnExactStandardLamRow, standIns := [], harness := (true, "d45ef3e1aa419a22e7a4e59f863b18e28b5d7ab85d42c0e75430a6a1ca62d5b8"), looks := true }, kinds := [], alts := [], laidByText := true, laidKinds := [.data, .data, .data, .data, .sentinel, .sentinel, .pinned], laidTests := true, laidLooks := .later }
def FnExactStandardLamCardSaid : Prop := Claim7.holds Tryd.pinned (.plain (OpenSpec.ofChange fnExactStandardLamSpec)) fnExactStandardLamCard

/-- THE TIED CARD OF 'laws.FnExactMultiConfigText'. -/
def fnExactMultiConfigTextCard : Claim7 := { stood := { row := fnExactMultiConfigTextRow, standIns := [], harness := (true, "d45ef3e1aa419a22e7a4e59f863b18e28b5d7ab85d42c0e75430a6a1ca62d5b8"), looks := true }, kinds := [], alts := [], laidByText := true, laidKinds := [.data, .data, .data], laidTests := true, laidLooks := .later }
def FnExactMultiConfigTextCardSaid : Prop := Claim7.holds Tryd.pinned (.plain (OpenSpec.ofChange fnExactMultiConfigTextSpec)) fnExactMultiConfigTextCard

/-- THE SECOND FORM's CARD OF 'laws.FnExactLoopText'. -/
def fnExactLoopTextUptoCard : Claim7 := { stood := { row := fnExactLoopTextUptoRow, standIns := [], harness := (true, "d45ef3e1aa419a22e7a4e59f863b18e28b5d7ab85d42c0e75430a6a1ca62d5b8"), looks := true }, kinds := [], alts := [], laidByText := true, laidKinds := [.data, .data, .data], laidTests := true, laidLooks := .later }
def FnExactLoopTextUptoCardSaid : Prop := Claim7.holds Tryd.pinned (.plain (OpenSpec.upto fnExactLoopTextSpec)) fnExactLoopTextUptoCard

/-- THE SECOND FORM's CARD OF 'laws.FnExactReadLoop'. -/
def fnExactReadLoopUptoCard : Claim7 := { stood := { row := fnExactReadLoopUptoRow, standIns := [], harness := (true, "d45ef3e1aa419a22e7a4e59f863b18e28b5d7ab85d42c0e75430a6a1ca62d5b8"), looks := true }, kinds := [], alts := [], laidByText := true, laidKinds := [.data, .data, .data, .data, .sentinel, .sentinel, .pinned], laidTests := true, laidLooks := .later }
def FnExactReadLoopUptoCardSaid : Prop := Claim7.holds Tryd.pinned (.plain (OpenSpec.upto fnExactReadLoopSpec)) fnExactReadLoopUptoCard

/-- THE SECOND FORM's CARD OF 'laws.FnExactStandardLam'. -/
def fnExactStandardLamUptoCard : Claim7 := { stood := { row := fnExactStandardLamUptoRow, standIns := [], harness := (true, "d45ef3e1aa419a22e7a4e59f863b18e28b5d7ab85d42c0e75430a6a1ca62d5b8"), looks := true }, kinds := [], alts := [], laidByText := true, laidKinds := [.data, .data, .data, .data, .sentinel, .sentinel, .pinned], laidTests := true, laidLooks := .later }
def FnExactStandardLamUptoCardSaid : Prop := Claim7.holds Tryd.pinned (.plain (OpenSpec.upto fnExactStandardLamSpec)) fnExactStandardLamUptoCard

/-- THE SECOND FORM's CARD OF 'laws.FnExactMultiConfigText'. -/
def fnExactMultiConfigTextUptoCard : Claim7 := { stood := { row := fnExactMultiConfigTextUptoRow, standIns := [], harness := (true, "d45ef3e1aa419a22e7a4e59f863b18e28b5d7ab85d42c0e75430a6a1ca62d5b8"), looks := true }, kinds := [], alts := [], laidByText := true, laidKinds := [.data, .data, .data], laidTests := true, laidLooks := .later }
def FnExactMultiConfigTextUptoCardSaid : Prop := Claim7.holds Tryd.pinned (.plain (OpenSpec.upto fnExactMultiConfigTextSpec)) fnExactMultiConfigTextUptoCard
end Rows
end Go.Proofs.YtjakgeblmkdbpaaDoor
