/- Facts of the whole program that each law's row asks for: proved once a seat. No conditions. -/
import Derived.Test.YtgcedfpjgdeakaaRows
import Derived.WalkKit
import Derived.WalkSpells
import Derived.WalkLawsBesides
import Derived.JoinedOf
namespace Go.Proofs.Ytgcedfpjgdeakaa.pf
open Go.RowKit

theorem band {a b : Bool} (h : a = true) (k : b = true) : (a && b) = true := by rw [h, k]; rfl
theorem beqOf {α : Type} [BEq α] [ReflBEq α] {a b : α} (h : b = a) : (a == b) = true := by rw [h]; exact BEq.rfl
theorem laid : laidOutB Try.pinned.checked.prog = true := by kernel_rfl
theorem mapsRow : mapsRowed Try.pinned.checked.prog = true := by kernel_rfl
theorem stops : (Try.pinned.checked.prog.stops == []) = true := by kernel_rfl
theorem stopKnobs : (Try.pinned.checked.prog.stopKnobs == []) = true := by kernel_rfl
theorem plainKeys : Try.pinned.checked.prog.plainKeys = true := by kernel_rfl
theorem heard : Try.pinned.checked.prog.stopsHeard = true := by kernel_rfl
theorem enter : Try.pinned.checked.prog.mayEnter = true := by kernel_rfl
theorem lifts : Try.pinned.checked.prog.liftsFinal = false := by kernel_rfl
theorem make : Try.pinned.checked.prog.make = some .cut := by kernel_rfl
end Go.Proofs.Ytgcedfpjgdeakaa.pf
