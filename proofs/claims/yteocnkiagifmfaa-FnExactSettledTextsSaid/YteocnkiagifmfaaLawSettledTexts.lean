/- The law FnExactSettledTexts returns true for every input, and each argument reads afterwards as before. No conditions. -/
import Derived.Test.YteocnkiagifmfaaPf
import Derived.Test.YteocnkiagifmfaaWalkSettledTexts
import Derived.Test.YteocnkiagifmfaaOpen
namespace Go.Proofs.Yteocnkiagifmfaa.lawSettledTexts
open Go.ChangeShapes Go.WideShapes Go.ChangeAt Go.RowKit Go.Deep
open Go.ChangeMaps (open_string shut_string)

set_option maxRecDepth 100000 in
theorem lifted (os : Os) (started : os.Started) (H : Type) (enc : TypeId × Value → H) :
    ReturnsInHanded {} Try.checked os 3 .any (Rows.fnExactSettledTextsSpec.pre6 enc Try.prog Try.f3 Rows.fnExactSettledTextsRow.domain false) (Rows.fnExactSettledTextsSpec.post enc Try.prog Try.f3 false true false false) := by
  refine returnsInHanded_of_change (C := Try.checked) own started (by kernel_rfl) Try.func3
    (ChangeSpec.witness6 (enc := enc) (C := Try.checked) false ⟨#[], #[.slice none 0 0], []⟩ 8 (by kernel_rfl) (by kernel_rfl) (by kernel_rfl) (by kernel_rfl)) ?_
  intro W base args ds gs before hval0 hW hcnd _
  have hval : ∀ (j : Nat) t v, Try.f3.params[j]? = some t → args[j]? = some v → Value.okWide Try.prog W .any base t v := hval0
  have hW' := hW
  obtain ⟨p, q, hA0, hV, rfl, hfz, hnd⟩ := hW
  have hA : DataW.TrodAll enc Try.prog W 0 (fun _ => true) true Try.f3.params.toList args.toList ds p := hA0
  rw [Try.params3] at hA hval
  obtain ⟨v0, vs0, d0, ds0, p0, q0, hargs, rfl, rfl, h0, r0⟩ := trodAll_cons hA
  obtain ⟨rfl, rfl, rfl⟩ := trodAll_nil r0
  obtain rfl : args = #[v0] := by cases args; simp_all
  obtain ⟨rfl, rfl⟩ := trodVars_none hV
  obtain ⟨a0, len0, cap0, rfl⟩ := okWide_slice Try.underlying22 (hval 0 22 v0 rfl rfl)
  have k0 := h0
  have lt0 : ∀ x ∈ p0, x.block < W.heap.size := by obtain ⟨m, hm⟩ := k0; exact DataW.trod_lt m _ _ _ hm
  obtain ⟨z0, g0, f0, m0⟩ := arg_strings Try.underlying22 (by kernel_rfl) Try.underlying9 h0
  clear hA0 hval0
  refine (walkSettledTexts a0 len0 cap0 z0 W g0 m0 f0).mono fun e W' ⟨he, bel⟩ => ?_
  subst he
  exact ⟨_, rfl, _, _, _, [], _, [], hW', trodAll_mk1 (shut_bool Try.underlying4 _), (trodAll_cons_mk (Below.trod laidOut (by kernel_rfl) (of_decide_eq_true (by kernel_rfl)) k0 bel lt0) trodAll_mk0), rfl, bel.frame _, fun h => by cases h⟩

theorem factA : Try.pinned.checked.prog.funcNamed Rows.fnExactSettledTextsRow.func = some 3 := by kernel_rfl
theorem factB0 : (Rows.fnExactSettledTextsRow.wf (OpenSpec.ofChange Rows.fnExactSettledTextsSpec)) = true := by kernel_rfl
theorem factB3 : (Try.f3.params.all (Try.pinned.checked.prog.readableRec ·)) = true := by kernel_rfl
theorem factB4 : (namedTie Try.pinned.checked.prog Rows.fnExactSettledTextsRow.named Rows.fnExactSettledTextsSpec.vars) = true := by kernel_rfl
theorem factB5 : (Rows.fnExactSettledTextsRow.stops == []) = true := by kernel_rfl
theorem factB7 : (Rows.fnExactSettledTextsRow.knobs == []) = true := by kernel_rfl
theorem factB9 : (Rows.fnExactSettledTextsRow.inPlace == Try.pinned.checked.prog.inPlace 3) = true := by kernel_rfl
theorem factB10 : (Rows.fnExactSettledTextsRow.unfollowed == Try.pinned.checked.prog.unfollowed 3) = true := by kernel_rfl
theorem factB11 : (Rows.fnExactSettledTextsRow.recurses == Try.pinned.checked.prog.recurses 3) = true := by kernel_rfl
theorem factB12 : (Rows.fnExactSettledTextsRow.named == Try.pinned.checked.prog.varsNamed 3) = true := by kernel_rfl
theorem factB13 : (Rows.fnExactSettledTextsRow.maps == (Try.f3.params.toList ++ Rows.fnExactSettledTextsSpec.plain.varTypes Try.pinned.checked.prog).any (Try.pinned.checked.prog.mapsRec ·)) = true := by kernel_rfl
theorem factB14 : (Rows.fnExactSettledTextsRow.ifaces == (Try.f3.params.toList ++ Rows.fnExactSettledTextsSpec.plain.varTypes Try.pinned.checked.prog).any (Try.pinned.checked.prog.ifacesRec ·)) = true := by kernel_rfl
theorem factB15 : (Rows.fnExactSettledTextsRow.mapsOut == Try.pinned.checked.prog.mapsAmong Try.f3.resultTypes.toList) = true := by kernel_rfl
theorem factB16 : (Rows.fnExactSettledTextsRow.loops == (Try.f3.params.toList ++ Rows.fnExactSettledTextsSpec.plain.varTypes Try.pinned.checked.prog).any (Try.pinned.checked.prog.loopsFrom ·)) = true := by kernel_rfl
theorem factB17 : (Rows.fnExactSettledTextsRow.wideKeys == (Try.f3.params.toList ++ Rows.fnExactSettledTextsSpec.plain.varTypes Try.pinned.checked.prog ++ Try.f3.resultTypes.toList).any (Try.pinned.checked.prog.wideKeysFrom ·)) = true := by kernel_rfl
theorem factB18 : (Rows.fnExactSettledTextsSpec.vars.all (Try.pinned.checked.prog.varReadable ·)) = true := by kernel_rfl
theorem factB19 : (Try.f3.resultTypes.all (fun t => Try.pinned.checked.prog.readableRec t && decide (t < Try.pinned.checked.prog.types.size))) = true := by kernel_rfl
theorem factB20 : (Rows.fnExactSettledTextsRow.ifacesOut == Try.f3.resultTypes.toList.any (Try.pinned.checked.prog.ifacesRec ·)) = true := by kernel_rfl
theorem factB21 : (Rows.fnExactSettledTextsRow.loopsOut == Try.f3.resultTypes.toList.any (Try.pinned.checked.prog.loopsFrom ·)) = true := by kernel_rfl
theorem factB23 : (Rows.fnExactSettledTextsRow.shortTexts.isNone) = true := by kernel_rfl
theorem factB28 : (Rows.fnExactSettledTextsRow.kinds == (if Rows.fnExactSettledTextsRow.domain.isEmpty then [] else Try.f3.params.toList.map fun t => match Try.pinned.checked.prog.underlying t with | some (.int k) => some k | _ => none)) = true := by kernel_rfl
theorem factB29 : (Rows.fnExactSettledTextsRow.pinned == Rows.fnExactSettledTextsRow.pinnedBy) = true := by kernel_rfl
theorem factB30 : (Rows.fnExactSettledTextsRow.veiled == (Try.f3.params.toList ++ Rows.fnExactSettledTextsSpec.plain.varTypes Try.pinned.checked.prog ++ Try.f3.resultTypes.toList).any (Try.pinned.checked.prog.veiledRec ·)) = true := by kernel_rfl
theorem factB31 : (Rows.fnExactSettledTextsRow.veiledFits Try.pinned.checked.prog Try.f3.params.toList (Try.f3.params.toList ++ Rows.fnExactSettledTextsSpec.plain.varTypes Try.pinned.checked.prog ++ Try.f3.resultTypes.toList)) = true := by kernel_rfl
set_option maxRecDepth 100000 in
theorem factB : joinedFacts Try.pinned.checked.prog 3 Try.f3 Rows.fnExactSettledTextsSpec Rows.fnExactSettledTextsRow = true := by
  unfold joinedFacts
  exact (pf.band (pf.band (pf.band (pf.band (pf.band (pf.band (pf.band (pf.band (pf.band (pf.band (pf.band (pf.band (pf.band (pf.band (pf.band (pf.band (pf.band (pf.band (pf.band (pf.band (pf.band (pf.band (pf.band (pf.band (pf.band (pf.band (pf.band (pf.band (pf.band (pf.band (pf.band factB0 pf.laid) pf.mapsRow) factB3) factB4) factB5) pf.stops) factB7) pf.stopKnobs) factB9) factB10) factB11) factB12) factB13) factB14) factB15) factB16) factB17) factB18) factB19) factB20) factB21) (by show (Rows.fnExactSettledTextsRow.plainKeys == Try.pinned.checked.prog.plainKeys) = true; rw [pf.plainKeys]; kernel_rfl)) factB23) pf.heard) pf.enter) (by show (Rows.fnExactSettledTextsRow.lifted == Try.pinned.checked.prog.liftsFinal) = true; rw [pf.lifts]; kernel_rfl)) (by show (Try.pinned.checked.prog.make == some Rows.fnExactSettledTextsRow.make) = true; rw [pf.make]; kernel_rfl)) factB28) factB29) factB30) factB31)
theorem factC : decide (Func.isInstance Try.pinned.checked.prog Try.f3 Rows.fnExactSettledTextsRow.origin Rows.fnExactSettledTextsRow.targs) = true := by kernel_rfl
theorem factD : Func.isWrapper Try.pinned.checked.prog Try.f3 Rows.fnExactSettledTextsRow.wrapper Rows.fnExactSettledTextsRow.mainSum := by
  unfold Func.isWrapper; first | (rw [if_pos (by decide +kernel)]; kernel_rfl) | (rw [if_neg (by decide +kernel)]; exact ⟨rfl, rfl⟩)

theorem over : Rows.fnExactSettledTextsRow.holds Try.pinned (OpenSpec.ofChange Rows.fnExactSettledTextsSpec) :=
  OpenClaim.holds_of_wide 3 Try.f3 rfl rfl rfl rfl rfl rfl rfl ⟨rfl, rfl, rfl, rfl, rfl⟩ rfl rfl rfl rfl rfl factA Try.func3 factB (of_decide_eq_true factC) factD
    (fun os started H enc _ => lifted os started H enc)

/-- The statement. -/
theorem proved : Rows.FnExactSettledTextsSaid := over
#print axioms proved
end Go.Proofs.Yteocnkiagifmfaa.lawSettledTexts
