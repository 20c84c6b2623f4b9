/-
  DERIVED. GIVEN WITH THE SEED: THE CARDS: each row of YtkiaclajjlidoaaDoorRows.lean that lists a variable, with what it lists TIED to the program's text (the seventh form; the later family's looks); each row that meets fmt, with fmt's text TOLD by the authors' own Lean function (tested against real Go, not proved from fmt's source: count such statements apart). THE CARD IS WHAT COUNTS. Prove the row's statement (the work); the ties are given (YtkiaclajjlidoaaDoorTie.lean); close each card by the builder's one call (the guide's Derived/Test/ToyasCard.lean, 'card_holds'). Laid BY PROGRAM, IN A SANDBOX (cutbox-door.mjs). By AI agents, Wed Nov 11 2026. No macro, syntax, notation, axiom, sorry.
-/
import Derived.Test.YtkiaclajjlidoaaDoorRows
import GoSem.ClaimSeven
namespace Go.Proofs.YtkiaclajjlidoaaDoor
namespace Rows

/-- THE TIED CARD OF 'laws.FnExactReadLoop'. -/
def fnExactReadLoopCard : Claim7 := { stood := { row := fnExactReadLoopRow, standIns := [], harness := (true, "ce544cfc58e0dc17a10f5ee0b15a3f970b45e544e4448a524b75ad4cc1099e55"), looks := true }, kinds := [], alts := [], laidByText := true, laidKinds := [.data, .data, .data, .data, .sentinel, .sentinel, .pinned], laidTests := true, laidLooks := .later }
def FnExactReadLoopCardSaid : Prop := Claim7.holds Tryd.pinned (.plain (OpenSpec.ofChange fnExactReadLoopSpec)) fnExactReadLoopCard

/-- THE TIED CARD OF 'laws.FnExactStandardLam'. -/
def fnExactStandardLamCard : Claim7 := { stood := { row := fnExactStandardLamRow, standIns := [], harness := (true, "ce544cfc58e0dc17a10f5ee0b15a3f970b45e544e4448a524b75ad4cc1099e55"), looks := true }, kinds := [], alts := [], laidByText := true, laidKinds := [.data, .data, .data, .data, .sentinel, .sentinel, .pinned], laidTests := true, laidLooks := .later }
def FnExactStandardLamCardSaid : Prop := Claim7.holds Tryd.pinned (.plain (OpenSpec.ofChange fnExactStandardLamSpec)) fnExactStandardLamCard

/-- THE TIED CARD OF 'laws.FnExactMultiConfigText'. -/
def fnExactMultiConfigTextCard : Claim7 := { stood := { row := fnExactMultiConfigTextRow, standIns := [], harness := (true, "ce544cfc58e0dc17a10f5ee0b15a3f970b45e544e4448a524b75ad4cc1099e55"), looks := true }, kinds := [], alts := [], laidByText := true, laidKinds := [.data, .data, .data], laidTests := true, laidLooks := .later }
def FnExactMultiConfigTextCardSaid : Prop := Claim7.holds Tryd.pinned (.plain (OpenSpec.ofChange fnExactMultiConfigTextSpec)) fnExactMultiConfigTextCard

/-- THE SECOND FORM's CARD OF 'laws.FnExactReadLoop'. -/
def fnExactReadLoopUptoCard : Claim7 := { stood := { row := fnExactReadLoopUptoRow, standIns := [], harness := (true, "ce544cfc58e0dc17a10f5ee0b15a3f970b45e544e4448a524b75ad4cc1099e55"), looks := true }, kinds := [], alts := [], laidByText := true, laidKinds := [.data, .data, .data, .data, .sentinel, .sentinel, .pinned], laidTests := true, laidLooks := .later }
def FnExactReadLoopUptoCardSaid : Prop := Claim7.holds Tryd.pinned (.plain (OpenSpec.upto fnExactReadLoopSpec)) fnExactReadLoopUptoCard

/-- THE SECOND FORM's CARD OF 'laws.FnExactStandardLam'. -/
def fnExactStandardLamUptoCard : Claim7 := { stood := { row := fnExactStandardLamUptoRow, standIns := [], harness := (true, "ce544cfc58e0dc17a10f5ee0b15a3f970b45e544e4448a524b75ad4cc1099e55"), looks := true }, kinds := [], alts := [], laidByText := true, laidKinds := [.data, .data, .data, .data, .sentinel, .sentinel, .pinned], laidTests := true, laidLooks := .later }
def FnExactStandardLamUptoCardSaid : Prop := Claim7.holds Tryd.pinned (.plain (OpenSpec.upto fnExactStandardLamSpec)) fnExactStandardLamUptoCard

/-- THE SECOND FORM's CARD OF 'laws.FnExactMultiConfigText'. -/
def fnExactMultiConfigTextUptoCard : Claim7 := { stood := { row := fnExactMultiConfigTextUptoRow, standIns := [], harness := (true, "ce544cfc58e0dc17a10f5ee0b15a3f970b45e544e4448a524b75ad4cc1099e55"), looks := true }, kinds := [], alts := [], laidByText := true, laidKinds := [.data, .data, .data], laidTests := true, laidLooks := .later }
def FnExactMultiConfigTextUptoCardSaid : Prop := Claim7.holds Tryd.pinned (.plain (OpenSpec.upto fnExactMultiConfigTextSpec)) fnExactMultiConfigTextUptoCard
end Rows
end Go.Proofs.YtkiaclajjlidoaaDoor
