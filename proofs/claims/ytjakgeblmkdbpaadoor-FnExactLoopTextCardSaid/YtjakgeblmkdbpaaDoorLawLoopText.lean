/- The law FnExactLoopText returns true for every input, and each argument reads afterwards as before. No conditions. -/
import Derived.Test.YtjakgeblmkdbpaaDoorPf
import Derived.Test.YtjakgeblmkdbpaaDoorWalkLoopText
import Derived.Test.YtjakgeblmkdbpaaDoorOpenRec
import Derived.Test.YtjakgeblmkdbpaaDoorCards
import Derived.Test.YtjakgeblmkdbpaaDoorTie
import Derived.ProofKit
import Derived.OpenShut
import Derived.LaidMore
import Derived.Lay
import Derived.SevenTiedAt
import Derived.Stop.Joined
namespace Go.Proofs.YtjakgeblmkdbpaaDoor.lawLoopText
open Go.ChangeShapes Go.WideShapes Go.ChangeAt Go.RowKit Go.Deep
open Go.ChangeMaps (open_string shut_string)

set_option maxRecDepth 100000 in
theorem lifted (os : Os) (started : os.Started) (H : Type) (enc : TypeId × Value → H) :
    ReturnsInHanded {} Tryd.checked os 3 .any (fun w args => (Rows.fnExactLoopTextSpec.pre enc Tryd.prog Tryd.f3 Rows.fnExactLoopTextRow.domain false w args ∧ laidMetH Tryd.prog Rows.fnExactLoopTextRow.laid w) ∧ sizedMet enc Tryd.prog Tryd.f3 (OpenSpec.ofChange Rows.fnExactLoopTextSpec) false w args) (Rows.fnExactLoopTextSpec.post enc Tryd.prog Tryd.f3 false true false false) := by
  refine returnsInHanded_of_change_and (C := Tryd.checked) (X := fun w _ => laidMetH Tryd.prog Rows.fnExactLoopTextRow.laid w) (fun _ _ _ hh h => h.of_heap hh) own started (by kernel_rfl) Tryd.func3
    (ChangeSpec.witness_shaped (enc := enc) (C := Tryd.checked) (os := os) (X := fun w _ => laidMetH Tryd.prog Rows.fnExactLoopTextRow.laid w) false (World.laidAll Tryd.prog os Rows.fnExactLoopTextRow.laid) #[.slice none 0 0] 8 (World.laidAll_os _ _ _)
      (World.shaped_of_ZipB (by kernel_rfl) (by kernel_rfl)) (by kernel_rfl) (by kernel_rfl) (by kernel_rfl)
      (by rw [MakeChecks.laidMetH_plain _ _ _ (by kernel_rfl)]; exact laidMet_laidAll _ (by kernel_rfl) (by kernel_rfl))) ?_
  intro W base args ds gs before hval0 hW hcnd _ hL _
  have hval : ∀ (j : Nat) t v, Tryd.f3.params[j]? = some t → args[j]? = some v → Value.okWide Tryd.prog W .any base t v := hval0
  have hW' := hW
  obtain ⟨p, q, hA0, hV, rfl, hfz, hnd⟩ := hW
  have hA : DataW.TrodAll enc Tryd.prog W 0 (fun _ => true) true Tryd.f3.params.toList args.toList ds p := hA0
  rw [Tryd.params3] at hA hval
  obtain ⟨v0, vs0, d0, ds0, p0, q0, hargs, rfl, rfl, h0, r0⟩ := trodAll_cons hA
  obtain ⟨rfl, rfl, rfl⟩ := trodAll_nil r0
  obtain rfl : args = #[v0] := by cases args; simp_all
  obtain ⟨rfl, rfl⟩ := trodVars_none hV
  obtain ⟨a0, len0, cap0, rfl⟩ := okWide_slice Tryd.underlying22 (hval 0 22 v0 rfl rfl)
  have k0 := h0
  have lt0 : ∀ x ∈ p0, x.block < W.heap.size := by obtain ⟨m, hm⟩ := k0; exact DataW.trod_lt m _ _ _ hm
  obtain ⟨z0, g0, f0, m0⟩ := args_recs3 Tryd.underlying22 (by kernel_rfl) Tryd.underlying63 (by kernel_rfl) Tryd.underlying2 Tryd.underlying2 Tryd.underlying2 h0
  clear hA0 hval0
  refine (walkLoopText a0 len0 cap0 z0 W g0 m0 f0).mono fun e W' ⟨he, bel⟩ => ?_
  subst he
  exact ⟨_, rfl, _, _, _, [], _, [], hW', trodAll_mk1 (shut_bool Tryd.underlying4 _), (trodAll_cons_mk (Below.trod laidOut (by kernel_rfl) (of_decide_eq_true (by kernel_rfl)) k0 bel lt0) trodAll_mk0), rfl, bel.frame _, fun h => by cases h⟩

theorem factA : Tryd.pinned.checked.prog.funcNamed Rows.fnExactLoopTextRow.func = some 3 := by kernel_rfl
theorem factB0 : (Rows.fnExactLoopTextRow.wf (OpenSpec.ofChange Rows.fnExactLoopTextSpec)) = true := by kernel_rfl
theorem factB3 : (Tryd.f3.params.all (Tryd.pinned.checked.prog.readableRec ·)) = true := by kernel_rfl
theorem factB4 : (namedTie Tryd.pinned.checked.prog Rows.fnExactLoopTextRow.named Rows.fnExactLoopTextSpec.vars) = true := by kernel_rfl
theorem factB5 : (Rows.fnExactLoopTextRow.stops == []) = true := by kernel_rfl
theorem factB7 : (Rows.fnExactLoopTextRow.knobs == []) = true := by kernel_rfl
theorem factB9 : (Rows.fnExactLoopTextRow.inPlace == Tryd.pinned.checked.prog.inPlace 3) = true := by kernel_rfl
theorem factB10 : (Rows.fnExactLoopTextRow.unfollowed == Tryd.pinned.checked.prog.unfollowed 3) = true := by kernel_rfl
theorem factB11 : (Rows.fnExactLoopTextRow.recurses == Tryd.pinned.checked.prog.recurses 3) = true := by kernel_rfl
theorem factB12 : (Rows.fnExactLoopTextRow.named == Tryd.pinned.checked.prog.varsNamed 3) = true := by kernel_rfl
theorem factB13 : (Rows.fnExactLoopTextRow.maps == (Tryd.f3.params.toList ++ Rows.fnExactLoopTextSpec.plain.varTypes Tryd.pinned.checked.prog).any (Tryd.pinned.checked.prog.mapsRec ·)) = true := by kernel_rfl
theorem factB14 : (Rows.fnExactLoopTextRow.ifaces == (Tryd.f3.params.toList ++ Rows.fnExactLoopTextSpec.plain.varTypes Tryd.pinned.checked.prog).any (Tryd.pinned.checked.prog.ifacesRec ·)) = true := by kernel_rfl
theorem factB15 : (Rows.fnExactLoopTextRow.mapsOut == Tryd.pinned.checked.prog.mapsAmong Tryd.f3.resultTypes.toList) = true := by kernel_rfl
theorem factB16 : (Rows.fnExactLoopTextRow.loops == (Tryd.f3.params.toList ++ Rows.fnExactLoopTextSpec.plain.varTypes Tryd.pinned.checked.prog).any (Tryd.pinned.checked.prog.loopsFrom ·)) = true := by kernel_rfl
theorem factB17 : (Rows.fnExactLoopTextRow.wideKeys == (Tryd.f3.params.toList ++ Rows.fnExactLoopTextSpec.plain.varTypes Tryd.pinned.checked.prog ++ Tryd.f3.resultTypes.toList).any (Tryd.pinned.checked.prog.wideKeysFrom ·)) = true := by kernel_rfl
theorem factB18 : (Rows.fnExactLoopTextSpec.vars.all (Tryd.pinned.checked.prog.varReadable ·)) = true := by kernel_rfl
theorem factB19 : (Tryd.f3.resultTypes.all (fun t => Tryd.pinned.checked.prog.readableRec t && decide (t < Tryd.pinned.checked.prog.types.size))) = true := by kernel_rfl
theorem factB20 : (Rows.fnExactLoopTextRow.ifacesOut == Tryd.f3.resultTypes.toList.any (Tryd.pinned.checked.prog.ifacesRec ·)) = true := by kernel_rfl
theorem factB21 : (Rows.fnExactLoopTextRow.loopsOut == Tryd.f3.resultTypes.toList.any (Tryd.pinned.checked.prog.loopsFrom ·)) = true := by kernel_rfl
theorem factB23 : (Rows.fnExactLoopTextRow.shortTexts.isNone) = true := by kernel_rfl
theorem factB28 : (Rows.fnExactLoopTextRow.kinds == (if Rows.fnExactLoopTextRow.domain.isEmpty then [] else Tryd.f3.params.toList.map fun t => match Tryd.pinned.checked.prog.underlying t with | some (.int k) => some k | _ => none)) = true := by kernel_rfl
theorem factB29 : (Rows.fnExactLoopTextRow.pinned == Rows.fnExactLoopTextRow.pinnedBy) = true := by kernel_rfl
theorem factB30 : (Rows.fnExactLoopTextRow.veiled == (Tryd.f3.params.toList ++ Rows.fnExactLoopTextSpec.plain.varTypes Tryd.pinned.checked.prog ++ Tryd.f3.resultTypes.toList).any (Tryd.pinned.checked.prog.veiledRec ·)) = true := by kernel_rfl
theorem factB31 : (Rows.fnExactLoopTextRow.veiledFits Tryd.pinned.checked.prog Tryd.f3.params.toList (Tryd.f3.params.toList ++ Rows.fnExactLoopTextSpec.plain.varTypes Tryd.pinned.checked.prog ++ Tryd.f3.resultTypes.toList)) = true := by kernel_rfl
set_option maxRecDepth 100000 in
theorem factB : joinedFacts Tryd.pinned.checked.prog 3 Tryd.f3 Rows.fnExactLoopTextSpec Rows.fnExactLoopTextRow = true := by
  unfold joinedFacts
  exact (pf.band (pf.band (pf.band (pf.band (pf.band (pf.band (pf.band (pf.band (pf.band (pf.band (pf.band (pf.band (pf.band (pf.band (pf.band (pf.band (pf.band (pf.band (pf.band (pf.band (pf.band (pf.band (pf.band (pf.band (pf.band (pf.band (pf.band (pf.band (pf.band (pf.band (pf.band factB0 pf.laid) pf.mapsRow) factB3) factB4) factB5) pf.stops) factB7) pf.stopKnobs) factB9) factB10) factB11) factB12) factB13) factB14) factB15) factB16) factB17) factB18) factB19) factB20) factB21) (by show (Rows.fnExactLoopTextRow.plainKeys == Tryd.pinned.checked.prog.plainKeys) = true; rw [pf.plainKeys]; kernel_rfl)) factB23) pf.heard) pf.enter) (by show (Rows.fnExactLoopTextRow.lifted == Tryd.pinned.checked.prog.liftsFinal) = true; rw [pf.lifts]; kernel_rfl)) (by show (Tryd.pinned.checked.prog.make == some Rows.fnExactLoopTextRow.make) = true; rw [pf.make]; kernel_rfl)) factB28) factB29) factB30) factB31)
theorem factC : decide (Func.isInstance Tryd.pinned.checked.prog Tryd.f3 Rows.fnExactLoopTextRow.origin Rows.fnExactLoopTextRow.targs) = true := by kernel_rfl
theorem factD : Func.isWrapper Tryd.pinned.checked.prog Tryd.f3 Rows.fnExactLoopTextRow.wrapper Rows.fnExactLoopTextRow.mainSum := by
  unfold Func.isWrapper; first | (rw [if_pos (by decide +kernel)]; kernel_rfl) | (rw [if_neg (by decide +kernel)]; exact ⟨rfl, rfl⟩)

theorem over : Rows.fnExactLoopTextRow.holds Tryd.pinned (OpenSpec.ofChange Rows.fnExactLoopTextSpec) :=
  OpenClaim.holds_of_wide 3 Tryd.f3 rfl rfl rfl rfl rfl rfl rfl ⟨rfl, rfl, rfl, rfl, rfl⟩ rfl rfl rfl rfl rfl factA Tryd.func3 factB (of_decide_eq_true factC) factD
    (fun os started H enc _ => lifted os started H enc)

/-- The statement. -/
theorem proved : Rows.FnExactLoopTextCardSaid :=
  Claim7.holds_tied_plain_at .later [] [.data, .data, .data] true (true, "d45ef3e1aa419a22e7a4e59f863b18e28b5d7ab85d42c0e75430a6a1ca62d5b8") true over (fun _ h => by cases h) (by kernel_rfl) (fun _ h => by cases h) fnExactLoopText_row_tie rfl ⟨rfl, rfl⟩ (by kernel_rfl) rfl
    (fun f fn hf hfn => by
      obtain rfl : f = 3 := Option.some.inj (factA.symm.trans hf) |>.symm
      obtain rfl : fn = Tryd.f3 := (Option.some.inj (Tryd.func3.symm.trans hfn)).symm
      exact ⟨by kernel_rfl, fun j t ht => by
        rw [Tryd.params3] at ht
        have hm : t ∈ [22] := by simpa using Array.mem_of_getElem? ht
        have hall : ([22].all fun u => !Tryd.prog.wantsStandIn u) = true := by kernel_rfl
        exact (show Tryd.prog.wantsStandIn t = false by simpa using List.all_eq_true.1 hall t hm)⟩)
    (by kernel_rfl)
#print axioms proved
end Go.Proofs.YtjakgeblmkdbpaaDoor.lawLoopText
