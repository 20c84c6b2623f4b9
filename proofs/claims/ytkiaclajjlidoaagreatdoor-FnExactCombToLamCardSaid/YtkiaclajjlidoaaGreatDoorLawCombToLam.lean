/- The law FnExactCombToLam returns true for every input, and each argument reads afterwards as before. No conditions. -/
import Derived.Test.YtkiaclajjlidoaaGreatDoorPf
import Derived.Test.YtkiaclajjlidoaaGreatDoorWalkCombToLam
import Derived.Test.YtkiaclajjlidoaaGreatDoorOpenRec
import Derived.Test.YtkiaclajjlidoaaGreatDoorCards
import Derived.Test.YtkiaclajjlidoaaGreatDoorTie
import Derived.ProofKit
import Derived.OpenShut
import Derived.LaidMore
import Derived.Lay
import Derived.SevenTiedAt
import Derived.Stop.Joined
namespace Go.Proofs.YtkiaclajjlidoaaGreatDoor.lawCombToLam
open Go.ChangeShapes Go.WideShapes Go.ChangeAt Go.RowKit Go.Deep
open Go.ChangeMaps (open_string shut_string)

set_option maxRecDepth 100000 in
theorem lifted (os : Os) (started : os.Started) (H : Type) (enc : TypeId × Value → H) :
    ReturnsInHanded {} Tryz.checked os 3 .any (fun w args => (Rows.fnExactCombToLamSpec.pre enc Tryz.prog Tryz.f3 Rows.fnExactCombToLamRow.domain false w args ∧ laidMetH Tryz.prog Rows.fnExactCombToLamRow.laid w) ∧ sizedMet enc Tryz.prog Tryz.f3 (OpenSpec.ofChange Rows.fnExactCombToLamSpec) false w args) (Rows.fnExactCombToLamSpec.post enc Tryz.prog Tryz.f3 false true false false) := by
  refine returnsInHanded_of_change_and (C := Tryz.checked) (X := fun w _ => laidMetH Tryz.prog Rows.fnExactCombToLamRow.laid w) (fun _ _ _ hh h => h.of_heap hh) own started (by kernel_rfl) Tryz.func3
    (ChangeSpec.witness_shaped (enc := enc) (C := Tryz.checked) (os := os) (X := fun w _ => laidMetH Tryz.prog Rows.fnExactCombToLamRow.laid w) false (World.laidAll Tryz.prog os Rows.fnExactCombToLamRow.laid) #[.slice none 0 0] 8 (World.laidAll_os _ _ _)
      (World.shaped_of_ZipB (by kernel_rfl) (by kernel_rfl)) (by kernel_rfl) (by kernel_rfl) (by kernel_rfl)
      (by rw [MakeChecks.laidMetH_plain _ _ _ (by kernel_rfl)]; exact laidMet_laidAll _ (by kernel_rfl) (by kernel_rfl))) ?_
  intro W base args ds gs before hval0 hW hcnd _ hL _
  have hval : ∀ (j : Nat) t v, Tryz.f3.params[j]? = some t → args[j]? = some v → Value.okWide Tryz.prog W .any base t v := hval0
  have hW' := hW
  obtain ⟨p, q, hA0, hV, rfl, hfz, hnd⟩ := hW
  have hA : DataW.TrodAll enc Tryz.prog W 0 (fun _ => true) true Tryz.f3.params.toList args.toList ds p := hA0
  rw [Tryz.params3] at hA hval
  obtain ⟨v0, vs0, d0, ds0, p0, q0, hargs, rfl, rfl, h0, r0⟩ := trodAll_cons hA
  obtain ⟨rfl, rfl, rfl⟩ := trodAll_nil r0
  obtain rfl : args = #[v0] := by cases args; simp_all
  obtain ⟨rfl, rfl⟩ := trodVars_none hV
  obtain ⟨a0, len0, cap0, rfl⟩ := okWide_slice Tryz.underlying22 (hval 0 22 v0 rfl rfl)
  have k0 := h0
  have lt0 : ∀ x ∈ p0, x.block < W.heap.size := by obtain ⟨m, hm⟩ := k0; exact DataW.trod_lt m _ _ _ hm
  obtain ⟨z0, g0, f0, m0⟩ := args_recs2 Tryz.underlying22 (by kernel_rfl) Tryz.underlying49 (by kernel_rfl) Tryz.underlying2 Tryz.underlying2 h0
  clear hA0 hval0
  refine (walkCombToLam a0 len0 cap0 z0 W g0 m0 f0).mono fun e W' ⟨he, bel⟩ => ?_
  subst he
  exact ⟨_, rfl, _, _, _, [], _, [], hW', trodAll_mk1 (shut_bool Tryz.underlying4 _), (trodAll_cons_mk (Below.trod laidOut (by kernel_rfl) (of_decide_eq_true (by kernel_rfl)) k0 bel lt0) trodAll_mk0), rfl, bel.frame _, fun h => by cases h⟩

theorem factA : Tryz.pinned.checked.prog.funcNamed Rows.fnExactCombToLamRow.func = some 3 := by kernel_rfl
theorem factB0 : (Rows.fnExactCombToLamRow.wf (OpenSpec.ofChange Rows.fnExactCombToLamSpec)) = true := by kernel_rfl
theorem factB3 : (Tryz.f3.params.all (Tryz.pinned.checked.prog.readableRec ·)) = true := by kernel_rfl
theorem factB4 : (namedTie Tryz.pinned.checked.prog Rows.fnExactCombToLamRow.named Rows.fnExactCombToLamSpec.vars) = true := by kernel_rfl
theorem factB5 : (Rows.fnExactCombToLamRow.stops == []) = true := by kernel_rfl
theorem factB7 : (Rows.fnExactCombToLamRow.knobs == []) = true := by kernel_rfl
theorem factB9 : (Rows.fnExactCombToLamRow.inPlace == Tryz.pinned.checked.prog.inPlace 3) = true := by kernel_rfl
theorem factB10 : (Rows.fnExactCombToLamRow.unfollowed == Tryz.pinned.checked.prog.unfollowed 3) = true := by kernel_rfl
theorem factB11 : (Rows.fnExactCombToLamRow.recurses == Tryz.pinned.checked.prog.recurses 3) = true := by kernel_rfl
theorem factB12 : (Rows.fnExactCombToLamRow.named == Tryz.pinned.checked.prog.varsNamed 3) = true := by kernel_rfl
theorem factB13 : (Rows.fnExactCombToLamRow.maps == (Tryz.f3.params.toList ++ Rows.fnExactCombToLamSpec.plain.varTypes Tryz.pinned.checked.prog).any (Tryz.pinned.checked.prog.mapsRec ·)) = true := by kernel_rfl
theorem factB14 : (Rows.fnExactCombToLamRow.ifaces == (Tryz.f3.params.toList ++ Rows.fnExactCombToLamSpec.plain.varTypes Tryz.pinned.checked.prog).any (Tryz.pinned.checked.prog.ifacesRec ·)) = true := by kernel_rfl
theorem factB15 : (Rows.fnExactCombToLamRow.mapsOut == Tryz.pinned.checked.prog.mapsAmong Tryz.f3.resultTypes.toList) = true := by kernel_rfl
theorem factB16 : (Rows.fnExactCombToLamRow.loops == (Tryz.f3.params.toList ++ Rows.fnExactCombToLamSpec.plain.varTypes Tryz.pinned.checked.prog).any (Tryz.pinned.checked.prog.loopsFrom ·)) = true := by kernel_rfl
theorem factB17 : (Rows.fnExactCombToLamRow.wideKeys == (Tryz.f3.params.toList ++ Rows.fnExactCombToLamSpec.plain.varTypes Tryz.pinned.checked.prog ++ Tryz.f3.resultTypes.toList).any (Tryz.pinned.checked.prog.wideKeysFrom ·)) = true := by kernel_rfl
theorem factB18 : (Rows.fnExactCombToLamSpec.vars.all (Tryz.pinned.checked.prog.varReadable ·)) = true := by kernel_rfl
theorem factB19 : (Tryz.f3.resultTypes.all (fun t => Tryz.pinned.checked.prog.readableRec t && decide (t < Tryz.pinned.checked.prog.types.size))) = true := by kernel_rfl
theorem factB20 : (Rows.fnExactCombToLamRow.ifacesOut == Tryz.f3.resultTypes.toList.any (Tryz.pinned.checked.prog.ifacesRec ·)) = true := by kernel_rfl
theorem factB21 : (Rows.fnExactCombToLamRow.loopsOut == Tryz.f3.resultTypes.toList.any (Tryz.pinned.checked.prog.loopsFrom ·)) = true := by kernel_rfl
theorem factB23 : (Rows.fnExactCombToLamRow.shortTexts.isNone) = true := by kernel_rfl
theorem factB28 : (Rows.fnExactCombToLamRow.kinds == (if Rows.fnExactCombToLamRow.domain.isEmpty then [] else Tryz.f3.params.toList.map fun t => match Tryz.pinned.checked.prog.underlying t with | some (.int k) => some k | _ => none)) = true := by kernel_rfl
theorem factB29 : (Rows.fnExactCombToLamRow.pinned == Rows.fnExactCombToLamRow.pinnedBy) = true := by kernel_rfl
theorem factB30 : (Rows.fnExactCombToLamRow.veiled == (Tryz.f3.params.toList ++ Rows.fnExactCombToLamSpec.plain.varTypes Tryz.pinned.checked.prog ++ Tryz.f3.resultTypes.toList).any (Tryz.pinned.checked.prog.veiledRec ·)) = true := by kernel_rfl
theorem factB31 : (Rows.fnExactCombToLamRow.veiledFits Tryz.pinned.checked.prog Tryz.f3.params.toList (Tryz.f3.params.toList ++ Rows.fnExactCombToLamSpec.plain.varTypes Tryz.pinned.checked.prog ++ Tryz.f3.resultTypes.toList)) = true := by kernel_rfl
set_option maxRecDepth 100000 in
theorem factB : joinedFacts Tryz.pinned.checked.prog 3 Tryz.f3 Rows.fnExactCombToLamSpec Rows.fnExactCombToLamRow = true := by
  unfold joinedFacts
  exact (pf.band (pf.band (pf.band (pf.band (pf.band (pf.band (pf.band (pf.band (pf.band (pf.band (pf.band (pf.band (pf.band (pf.band (pf.band (pf.band (pf.band (pf.band (pf.band (pf.band (pf.band (pf.band (pf.band (pf.band (pf.band (pf.band (pf.band (pf.band (pf.band (pf.band (pf.band factB0 pf.laid) pf.mapsRow) factB3) factB4) factB5) pf.stops) factB7) pf.stopKnobs) factB9) factB10) factB11) factB12) factB13) factB14) factB15) factB16) factB17) factB18) factB19) factB20) factB21) (by show (Rows.fnExactCombToLamRow.plainKeys == Tryz.pinned.checked.prog.plainKeys) = true; rw [pf.plainKeys]; kernel_rfl)) factB23) pf.heard) pf.enter) (by show (Rows.fnExactCombToLamRow.lifted == Tryz.pinned.checked.prog.liftsFinal) = true; rw [pf.lifts]; kernel_rfl)) (by show (Tryz.pinned.checked.prog.make == some Rows.fnExactCombToLamRow.make) = true; rw [pf.make]; kernel_rfl)) factB28) factB29) factB30) factB31)
theorem factC : decide (Func.isInstance Tryz.pinned.checked.prog Tryz.f3 Rows.fnExactCombToLamRow.origin Rows.fnExactCombToLamRow.targs) = true := by kernel_rfl
theorem factD : Func.isWrapper Tryz.pinned.checked.prog Tryz.f3 Rows.fnExactCombToLamRow.wrapper Rows.fnExactCombToLamRow.mainSum := by
  unfold Func.isWrapper; first | (rw [if_pos (by decide +kernel)]; kernel_rfl) | (rw [if_neg (by decide +kernel)]; exact ⟨rfl, rfl⟩)

theorem over : Rows.fnExactCombToLamRow.holds Tryz.pinned (OpenSpec.ofChange Rows.fnExactCombToLamSpec) :=
  OpenClaim.holds_of_wide 3 Tryz.f3 rfl rfl rfl rfl rfl rfl rfl ⟨rfl, rfl, rfl, rfl, rfl⟩ rfl rfl rfl rfl rfl factA Tryz.func3 factB (of_decide_eq_true factC) factD
    (fun os started H enc _ => lifted os started H enc)

/-- The statement. -/
theorem proved : Rows.FnExactCombToLamCardSaid :=
  Claim7.holds_tied_plain_at .later [] [.data, .data, .data, .data, .sentinel, .sentinel, .pinned] true (true, "02bdd44d8747e0a8ac7a15b68a3f8dc86a02d6f71f0122180596a71c94cdedee") true over (fun _ h => by cases h) (by kernel_rfl) (fun _ h => by cases h) fnExactCombToLam_row_tie rfl ⟨rfl, rfl⟩ (by kernel_rfl) rfl
    (fun f fn hf hfn => by
      obtain rfl : f = 3 := Option.some.inj (factA.symm.trans hf) |>.symm
      obtain rfl : fn = Tryz.f3 := (Option.some.inj (Tryz.func3.symm.trans hfn)).symm
      exact ⟨by kernel_rfl, fun j t ht => by
        rw [Tryz.params3] at ht
        have hm : t ∈ [22] := by simpa using Array.mem_of_getElem? ht
        have hall : ([22].all fun u => !Tryz.prog.wantsStandIn u) = true := by kernel_rfl
        exact (show Tryz.prog.wantsStandIn t = false by simpa using List.all_eq_true.1 hall t hm)⟩)
    (by kernel_rfl)
#print axioms proved
end Go.Proofs.YtkiaclajjlidoaaGreatDoor.lawCombToLam
