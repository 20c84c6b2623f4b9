/-
  DERIVED. GIVEN WITH THE SEED: THE CARDS: each row of YtkiaclajjlidoaaGreatDoorRows.lean that lists a variable, with what it lists TIED to the program's text (the seventh form; the later family's looks); each row that meets fmt, with fmt's text TOLD by the authors' own Lean function (tested against real Go, not proved from fmt's source: count such statements apart). THE CARD IS WHAT COUNTS. Prove the row's statement (the work); the ties are given (YtkiaclajjlidoaaGreatDoorTie.lean); close each card by the builder's one call (the guide's Derived/Test/ToyasCard.lean, 'card_holds'). Laid BY PROGRAM, IN A SANDBOX (cutbox-door.mjs). By AI agents, Wed Nov 11 2026. No macro, syntax, notation, axiom, sorry.
-/
import Derived.Test.YtkiaclajjlidoaaGreatDoorRows
import GoSem.ClaimSeven
namespace Go.Proofs.YtkiaclajjlidoaaGreatDoor
namespace Rows

/-- THE TIED CARD OF 'laws.FnExactCombToLam'. -/
def fnExactCombToLamCard : Claim7 := { stood := { row := fnExactCombToLamRow, standIns := [], harness := (true, "02bdd44d8747e0a8ac7a15b68a3f8dc86a02d6f71f0122180596a71c94cdedee"), looks := true }, kinds := [], alts := [], laidByText := true, laidKinds := [.data, .data, .data, .data, .sentinel, .sentinel, .pinned], laidTests := true, laidLooks := .later }
def FnExactCombToLamCardSaid : Prop := Claim7.holds Tryz.pinned (.plain (OpenSpec.ofChange fnExactCombToLamSpec)) fnExactCombToLamCard

/-- THE TIED CARD OF 'laws.FnExactFuncToLam'. -/
def fnExactFuncToLamCard : Claim7 := { stood := { row := fnExactFuncToLamRow, standIns := [], harness := (true, "02bdd44d8747e0a8ac7a15b68a3f8dc86a02d6f71f0122180596a71c94cdedee"), looks := true }, kinds := [], alts := [], laidByText := true, laidKinds := [.data, .data, .data, .data, .sentinel, .sentinel, .pinned], laidTests := true, laidLooks := .later }
def FnExactFuncToLamCardSaid : Prop := Claim7.holds Tryz.pinned (.plain (OpenSpec.ofChange fnExactFuncToLamSpec)) fnExactFuncToLamCard

/-- THE SECOND FORM's CARD OF 'laws.FnExactCombToLam'. -/
def fnExactCombToLamUptoCard : Claim7 := { stood := { row := fnExactCombToLamUptoRow, standIns := [], harness := (true, "02bdd44d8747e0a8ac7a15b68a3f8dc86a02d6f71f0122180596a71c94cdedee"), looks := true }, kinds := [], alts := [], laidByText := true, laidKinds := [.data, .data, .data, .data, .sentinel, .sentinel, .pinned], laidTests := true, laidLooks := .later }
def FnExactCombToLamUptoCardSaid : Prop := Claim7.holds Tryz.pinned (.plain (OpenSpec.upto fnExactCombToLamSpec)) fnExactCombToLamUptoCard

/-- THE SECOND FORM's CARD OF 'laws.FnExactFuncToLam'. -/
def fnExactFuncToLamUptoCard : Claim7 := { stood := { row := fnExactFuncToLamUptoRow, standIns := [], harness := (true, "02bdd44d8747e0a8ac7a15b68a3f8dc86a02d6f71f0122180596a71c94cdedee"), looks := true }, kinds := [], alts := [], laidByText := true, laidKinds := [.data, .data, .data, .data, .sentinel, .sentinel, .pinned], laidTests := true, laidLooks := .later }
def FnExactFuncToLamUptoCardSaid : Prop := Claim7.holds Tryz.pinned (.plain (OpenSpec.upto fnExactFuncToLamSpec)) fnExactFuncToLamUptoCard
end Rows
end Go.Proofs.YtkiaclajjlidoaaGreatDoor
