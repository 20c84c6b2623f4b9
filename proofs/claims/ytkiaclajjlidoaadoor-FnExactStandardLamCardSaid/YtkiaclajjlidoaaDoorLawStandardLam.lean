/- The law FnExactStandardLam returns true for every input, and each argument reads afterwards as before. No conditions. -/
import Derived.Test.YtkiaclajjlidoaaDoorPf
import Derived.Test.YtkiaclajjlidoaaDoorWalkStandardLam
import Derived.Test.YtkiaclajjlidoaaDoorOpen
import Derived.Test.YtkiaclajjlidoaaDoorCards
import Derived.Test.YtkiaclajjlidoaaDoorTie
import Derived.ProofKit
import Derived.OpenShut
import Derived.LaidMore
import Derived.Lay
import Derived.SevenTiedAt
import Derived.Stop.Joined
namespace Go.Proofs.YtkiaclajjlidoaaDoor.lawStandardLam
open Go.ChangeShapes Go.WideShapes Go.ChangeAt Go.RowKit Go.Deep
open Go.ChangeMaps (open_string shut_string)

set_option maxRecDepth 100000 in
theorem lifted (os : Os) (started : os.Started) (H : Type) (enc : TypeId × Value → H) :
    ReturnsInHanded {} Tryd.checked os 4 .any (fun w args => (Rows.fnExactStandardLamSpec.pre enc Tryd.prog Tryd.f4 Rows.fnExactStandardLamRow.domain false w args ∧ laidMetH Tryd.prog Rows.fnExactStandardLamRow.laid w) ∧ sizedMet enc Tryd.prog Tryd.f4 (OpenSpec.ofChange Rows.fnExactStandardLamSpec) false w args) (Rows.fnExactStandardLamSpec.post enc Tryd.prog Tryd.f4 false true false false) := by
  refine returnsInHanded_of_change_and (C := Tryd.checked) (X := fun w _ => laidMetH Tryd.prog Rows.fnExactStandardLamRow.laid w) (fun _ _ _ hh h => h.of_heap hh) own started (by kernel_rfl) Tryd.func4
    (ChangeSpec.witness_shaped (enc := enc) (C := Tryd.checked) (os := os) (X := fun w _ => laidMetH Tryd.prog Rows.fnExactStandardLamRow.laid w) false (World.laidAll Tryd.prog os Rows.fnExactStandardLamRow.laid) #[.string ⟨#[]⟩] 8 (World.laidAll_os _ _ _)
      (World.shaped_of_ZipB (by kernel_rfl) (by kernel_rfl)) (by kernel_rfl) (by kernel_rfl) (by kernel_rfl)
      (by rw [MakeChecks.laidMetH_plain _ _ _ (by kernel_rfl)]; exact laidMet_laidAll _ (by kernel_rfl) (by kernel_rfl))) ?_
  intro W base args ds gs before hval0 hW hcnd _ hL _
  have hval : ∀ (j : Nat) t v, Tryd.f4.params[j]? = some t → args[j]? = some v → Value.okWide Tryd.prog W .any base t v := hval0
  have hW' := hW
  obtain ⟨p, q, hA0, hV, rfl, hfz, hnd⟩ := hW
  have hA : DataW.TrodAll enc Tryd.prog W 0 (fun _ => true) true Tryd.f4.params.toList args.toList ds p := hA0
  rw [Tryd.params4] at hA hval
  obtain ⟨v0, vs0, d0, ds0, p0, q0, hargs, rfl, rfl, h0, r0⟩ := trodAll_cons hA
  obtain ⟨rfl, rfl, rfl⟩ := trodAll_nil r0
  obtain rfl : args = #[v0] := by cases args; simp_all
  obtain ⟨rfl, rfl⟩ := trodVars_none hV
  obtain ⟨z0, rfl, rfl, rfl, f0⟩ := open_string Tryd.underlying9 (hval 0 9 v0 rfl rfl) h0
  clear hA0 hval0
  refine (walkStandardLam z0 W f0).mono fun e W' ⟨he, bel⟩ => ?_
  subst he
  exact ⟨_, rfl, _, _, _, [], _, [], hW', trodAll_mk1 (shut_bool Tryd.underlying4 _), (trodAll_cons_mk (shut_string Tryd.underlying9 f0) trodAll_mk0), rfl, bel.frame _, fun h => by cases h⟩

theorem factA : Tryd.pinned.checked.prog.funcNamed Rows.fnExactStandardLamRow.func = some 4 := by kernel_rfl
theorem factB0 : (Rows.fnExactStandardLamRow.wf (OpenSpec.ofChange Rows.fnExactStandardLamSpec)) = true := by kernel_rfl
theorem factB3 : (Tryd.f4.params.all (Tryd.pinned.checked.prog.readableRec ·)) = true := by kernel_rfl
theorem factB4 : (namedTie Tryd.pinned.checked.prog Rows.fnExactStandardLamRow.named Rows.fnExactStandardLamSpec.vars) = true := by kernel_rfl
theorem factB5 : (Rows.fnExactStandardLamRow.stops == []) = true := by kernel_rfl
theorem factB7 : (Rows.fnExactStandardLamRow.knobs == []) = true := by kernel_rfl
theorem factB9 : (Rows.fnExactStandardLamRow.inPlace == Tryd.pinned.checked.prog.inPlace 4) = true := by kernel_rfl
theorem factB10 : (Rows.fnExactStandardLamRow.unfollowed == Tryd.pinned.checked.prog.unfollowed 4) = true := by kernel_rfl
theorem factB11 : (Rows.fnExactStandardLamRow.recurses == Tryd.pinned.checked.prog.recurses 4) = true := by kernel_rfl
theorem factB12 : (Rows.fnExactStandardLamRow.named == Tryd.pinned.checked.prog.varsNamed 4) = true := by kernel_rfl
theorem factB13 : (Rows.fnExactStandardLamRow.maps == (Tryd.f4.params.toList ++ Rows.fnExactStandardLamSpec.plain.varTypes Tryd.pinned.checked.prog).any (Tryd.pinned.checked.prog.mapsRec ·)) = true := by kernel_rfl
theorem factB14 : (Rows.fnExactStandardLamRow.ifaces == (Tryd.f4.params.toList ++ Rows.fnExactStandardLamSpec.plain.varTypes Tryd.pinned.checked.prog).any (Tryd.pinned.checked.prog.ifacesRec ·)) = true := by kernel_rfl
theorem factB15 : (Rows.fnExactStandardLamRow.mapsOut == Tryd.pinned.checked.prog.mapsAmong Tryd.f4.resultTypes.toList) = true := by kernel_rfl
theorem factB16 : (Rows.fnExactStandardLamRow.loops == (Tryd.f4.params.toList ++ Rows.fnExactStandardLamSpec.plain.varTypes Tryd.pinned.checked.prog).any (Tryd.pinned.checked.prog.loopsFrom ·)) = true := by kernel_rfl
theorem factB17 : (Rows.fnExactStandardLamRow.wideKeys == (Tryd.f4.params.toList ++ Rows.fnExactStandardLamSpec.plain.varTypes Tryd.pinned.checked.prog ++ Tryd.f4.resultTypes.toList).any (Tryd.pinned.checked.prog.wideKeysFrom ·)) = true := by kernel_rfl
theorem factB18 : (Rows.fnExactStandardLamSpec.vars.all (Tryd.pinned.checked.prog.varReadable ·)) = true := by kernel_rfl
theorem factB19 : (Tryd.f4.resultTypes.all (fun t => Tryd.pinned.checked.prog.readableRec t && decide (t < Tryd.pinned.checked.prog.types.size))) = true := by kernel_rfl
theorem factB20 : (Rows.fnExactStandardLamRow.ifacesOut == Tryd.f4.resultTypes.toList.any (Tryd.pinned.checked.prog.ifacesRec ·)) = true := by kernel_rfl
theorem factB21 : (Rows.fnExactStandardLamRow.loopsOut == Tryd.f4.resultTypes.toList.any (Tryd.pinned.checked.prog.loopsFrom ·)) = true := by kernel_rfl
theorem factB23 : (Rows.fnExactStandardLamRow.shortTexts.isNone) = true := by kernel_rfl
theorem factB28 : (Rows.fnExactStandardLamRow.kinds == (if Rows.fnExactStandardLamRow.domain.isEmpty then [] else Tryd.f4.params.toList.map fun t => match Tryd.pinned.checked.prog.underlying t with | some (.int k) => some k | _ => none)) = true := by kernel_rfl
theorem factB29 : (Rows.fnExactStandardLamRow.pinned == Rows.fnExactStandardLamRow.pinnedBy) = true := by kernel_rfl
theorem factB30 : (Rows.fnExactStandardLamRow.veiled == (Tryd.f4.params.toList ++ Rows.fnExactStandardLamSpec.plain.varTypes Tryd.pinned.checked.prog ++ Tryd.f4.resultTypes.toList).any (Tryd.pinned.checked.prog.veiledRec ·)) = true := by kernel_rfl
theorem factB31 : (Rows.fnExactStandardLamRow.veiledFits Tryd.pinned.checked.prog Tryd.f4.params.toList (Tryd.f4.params.toList ++ Rows.fnExactStandardLamSpec.plain.varTypes Tryd.pinned.checked.prog ++ Tryd.f4.resultTypes.toList)) = true := by kernel_rfl
set_option maxRecDepth 100000 in
theorem factB : joinedFacts Tryd.pinned.checked.prog 4 Tryd.f4 Rows.fnExactStandardLamSpec Rows.fnExactStandardLamRow = true := by
  unfold joinedFacts
  exact (pf.band (pf.band (pf.band (pf.band (pf.band (pf.band (pf.band (pf.band (pf.band (pf.band (pf.band (pf.band (pf.band (pf.band (pf.band (pf.band (pf.band (pf.band (pf.band (pf.band (pf.band (pf.band (pf.band (pf.band (pf.band (pf.band (pf.band (pf.band (pf.band (pf.band (pf.band factB0 pf.laid) pf.mapsRow) factB3) factB4) factB5) pf.stops) factB7) pf.stopKnobs) factB9) factB10) factB11) factB12) factB13) factB14) factB15) factB16) factB17) factB18) factB19) factB20) factB21) (by show (Rows.fnExactStandardLamRow.plainKeys == Tryd.pinned.checked.prog.plainKeys) = true; rw [pf.plainKeys]; kernel_rfl)) factB23) pf.heard) pf.enter) (by show (Rows.fnExactStandardLamRow.lifted == Tryd.pinned.checked.prog.liftsFinal) = true; rw [pf.lifts]; kernel_rfl)) (by show (Tryd.pinned.checked.prog.make == some Rows.fnExactStandardLamRow.make) = true; rw [pf.make]; kernel_rfl)) factB28) factB29) factB30) factB31)
theorem factC : decide (Func.isInstance Tryd.pinned.checked.prog Tryd.f4 Rows.fnExactStandardLamRow.origin Rows.fnExactStandardLamRow.targs) = true := by kernel_rfl
theorem factD : Func.isWrapper Tryd.pinned.checked.prog Tryd.f4 Rows.fnExactStandardLamRow.wrapper Rows.fnExactStandardLamRow.mainSum := by
  unfold Func.isWrapper; first | (rw [if_pos (by decide +kernel)]; kernel_rfl) | (rw [if_neg (by decide +kernel)]; exact ⟨rfl, rfl⟩)

theorem over : Rows.fnExactStandardLamRow.holds Tryd.pinned (OpenSpec.ofChange Rows.fnExactStandardLamSpec) :=
  OpenClaim.holds_of_wide 4 Tryd.f4 rfl rfl rfl rfl rfl rfl rfl ⟨rfl, rfl, rfl, rfl, rfl⟩ rfl rfl rfl rfl rfl factA Tryd.func4 factB (of_decide_eq_true factC) factD
    (fun os started H enc _ => lifted os started H enc)

/-- The statement. -/
theorem proved : Rows.FnExactStandardLamCardSaid :=
  Claim7.holds_tied_plain_at .later [] [.data, .data, .data, .data, .sentinel, .sentinel, .pinned] true (true, "ce544cfc58e0dc17a10f5ee0b15a3f970b45e544e4448a524b75ad4cc1099e55") true over (fun _ h => by cases h) (by kernel_rfl) (fun _ h => by cases h) fnExactStandardLam_row_tie rfl ⟨rfl, rfl⟩ (by kernel_rfl) rfl
    (fun f fn hf hfn => by
      obtain rfl : f = 4 := Option.some.inj (factA.symm.trans hf) |>.symm
      obtain rfl : fn = Tryd.f4 := (Option.some.inj (Tryd.func4.symm.trans hfn)).symm
      exact ⟨by kernel_rfl, fun j t ht => by
        rw [Tryd.params4] at ht
        have hm : t ∈ [9] := by simpa using Array.mem_of_getElem? ht
        have hall : ([9].all fun u => !Tryd.prog.wantsStandIn u) = true := by kernel_rfl
        exact (show Tryd.prog.wantsStandIn t = false by simpa using List.all_eq_true.1 hall t hm)⟩)
    (by kernel_rfl)
#print axioms proved
end Go.Proofs.YtkiaclajjlidoaaDoor.lawStandardLam
