/- The law FnExactStepMarkov returns true for every input, and each argument reads afterwards as before. No conditions. -/
import Derived.Test.YteocnkiagifmfaaPf
import Derived.Test.YteocnkiagifmfaaWalkStepMarkov
import Derived.Test.YteocnkiagifmfaaOpen
import Derived.Test.YteocnkiagifmfaaOpenMarkovRule
namespace Go.Proofs.Yteocnkiagifmfaa.lawStepMarkov
open Go.ChangeShapes Go.WideShapes Go.ChangeAt Go.RowKit Go.Deep
open Go.ChangeMaps (open_string shut_string)

set_option maxRecDepth 100000 in
theorem lifted (os : Os) (started : os.Started) (H : Type) (enc : TypeId × Value → H) :
    ReturnsInHanded {} Try.checked os 5 .any (Rows.fnExactStepMarkovSpec.pre6 enc Try.prog Try.f5 Rows.fnExactStepMarkovRow.domain false) (Rows.fnExactStepMarkovSpec.post enc Try.prog Try.f5 false true false false) := by
  refine returnsInHanded_of_change (C := Try.checked) own started (by kernel_rfl) Try.func5
    (ChangeSpec.witness6 (enc := enc) (C := Try.checked) false ⟨#[], #[.slice none 0 0, .slice none 0 0], []⟩ 8 (by kernel_rfl) (by kernel_rfl) (by kernel_rfl) (by kernel_rfl)) ?_
  intro W base args ds gs before hval0 hW hcnd _
  have hval : ∀ (j : Nat) t v, Try.f5.params[j]? = some t → args[j]? = some v → Value.okWide Try.prog W .any base t v := hval0
  have hW' := hW
  obtain ⟨p, q, hA0, hV, rfl, hfz, hnd⟩ := hW
  have hA : DataW.TrodAll enc Try.prog W 0 (fun _ => true) true Try.f5.params.toList args.toList ds p := hA0
  rw [Try.params5] at hA hval
  obtain ⟨v0, vs0, d0, ds0, p0, q0, hargs, rfl, rfl, h0, r0⟩ := trodAll_cons hA
  obtain ⟨v1, vs1, d1, ds1, p1, q1, rfl, rfl, rfl, h1, r1⟩ := trodAll_cons r0
  obtain ⟨rfl, rfl, rfl⟩ := trodAll_nil r1
  obtain rfl : args = #[v0, v1] := by cases args; simp_all
  obtain ⟨rfl, rfl⟩ := trodVars_none hV
  obtain ⟨a0, len0, cap0, rfl⟩ := okWide_slice Try.underlying40 (hval 0 40 v0 rfl rfl)
  have k0 := h0
  have lt0 : ∀ x ∈ p0, x.block < W.heap.size := by obtain ⟨m, hm⟩ := k0; exact DataW.trod_lt m _ _ _ hm
  obtain ⟨z0, g0, n0, f0, m0⟩ := argsMarkovRule Try.underlying40 (by kernel_rfl) (elemMarkovRule (by kernel_rfl) Try.underlying122 (by kernel_rfl) Try.underlying28 (by kernel_rfl) (elem_int Try.underlying2) Try.underlying28 (by kernel_rfl) (elem_int Try.underlying2) Try.underlying4) h0
  obtain ⟨a1, len1, cap1, rfl⟩ := okWide_slice Try.underlying28 (hval 1 28 v1 rfl rfl)
  have k1 := h1
  have lt1 : ∀ x ∈ p1, x.block < W.heap.size := by obtain ⟨m, hm⟩ := k1; exact DataW.trod_lt m _ _ _ hm
  obtain ⟨z1, g1, f1, m1⟩ := arg_ints Try.underlying28 (by kernel_rfl) Try.underlying2 h1
  clear hA0 hval0
  refine (walkStepMarkov a0 len0 cap0 z0 a1 len1 cap1 z1 W g0 n0 m0 f0 g1 m1 (wf64s_of f1)).mono fun e W' ⟨he, bel⟩ => ?_
  subst he
  exact ⟨_, rfl, _, _, _, [], _, [], hW', trodAll_mk1 (shut_bool Try.underlying4 _), (trodAll_cons_mk (Below.trod laidOut (by kernel_rfl) (of_decide_eq_true (by kernel_rfl)) k0 bel lt0) (trodAll_cons_mk (Below.trod laidOut (by kernel_rfl) (of_decide_eq_true (by kernel_rfl)) k1 bel lt1) trodAll_mk0)), rfl, bel.frame _, fun h => by cases h⟩

theorem factA : Try.pinned.checked.prog.funcNamed Rows.fnExactStepMarkovRow.func = some 5 := by kernel_rfl
theorem factB0 : (Rows.fnExactStepMarkovRow.wf (OpenSpec.ofChange Rows.fnExactStepMarkovSpec)) = true := by kernel_rfl
theorem factB3 : (Try.f5.params.all (Try.pinned.checked.prog.readableRec ·)) = true := by kernel_rfl
theorem factB4 : (namedTie Try.pinned.checked.prog Rows.fnExactStepMarkovRow.named Rows.fnExactStepMarkovSpec.vars) = true := by kernel_rfl
theorem factB5 : (Rows.fnExactStepMarkovRow.stops == []) = true := by kernel_rfl
theorem factB7 : (Rows.fnExactStepMarkovRow.knobs == []) = true := by kernel_rfl
theorem factB9 : (Rows.fnExactStepMarkovRow.inPlace == Try.pinned.checked.prog.inPlace 5) = true := by kernel_rfl
theorem factB10 : (Rows.fnExactStepMarkovRow.unfollowed == Try.pinned.checked.prog.unfollowed 5) = true := by kernel_rfl
theorem factB11 : (Rows.fnExactStepMarkovRow.recurses == Try.pinned.checked.prog.recurses 5) = true := by kernel_rfl
theorem factB12 : (Rows.fnExactStepMarkovRow.named == Try.pinned.checked.prog.varsNamed 5) = true := by kernel_rfl
theorem factB13 : (Rows.fnExactStepMarkovRow.maps == (Try.f5.params.toList ++ Rows.fnExactStepMarkovSpec.plain.varTypes Try.pinned.checked.prog).any (Try.pinned.checked.prog.mapsRec ·)) = true := by kernel_rfl
theorem factB14 : (Rows.fnExactStepMarkovRow.ifaces == (Try.f5.params.toList ++ Rows.fnExactStepMarkovSpec.plain.varTypes Try.pinned.checked.prog).any (Try.pinned.checked.prog.ifacesRec ·)) = true := by kernel_rfl
theorem factB15 : (Rows.fnExactStepMarkovRow.mapsOut == Try.pinned.checked.prog.mapsAmong Try.f5.resultTypes.toList) = true := by kernel_rfl
theorem factB16 : (Rows.fnExactStepMarkovRow.loops == (Try.f5.params.toList ++ Rows.fnExactStepMarkovSpec.plain.varTypes Try.pinned.checked.prog).any (Try.pinned.checked.prog.loopsFrom ·)) = true := by kernel_rfl
theorem factB17 : (Rows.fnExactStepMarkovRow.wideKeys == (Try.f5.params.toList ++ Rows.fnExactStepMarkovSpec.plain.varTypes Try.pinned.checked.prog ++ Try.f5.resultTypes.toList).any (Try.pinned.checked.prog.wideKeysFrom ·)) = true := by kernel_rfl
theorem factB18 : (Rows.fnExactStepMarkovSpec.vars.all (Try.pinned.checked.prog.varReadable ·)) = true := by kernel_rfl
theorem factB19 : (Try.f5.resultTypes.all (fun t => Try.pinned.checked.prog.readableRec t && decide (t < Try.pinned.checked.prog.types.size))) = true := by kernel_rfl
theorem factB20 : (Rows.fnExactStepMarkovRow.ifacesOut == Try.f5.resultTypes.toList.any (Try.pinned.checked.prog.ifacesRec ·)) = true := by kernel_rfl
theorem factB21 : (Rows.fnExactStepMarkovRow.loopsOut == Try.f5.resultTypes.toList.any (Try.pinned.checked.prog.loopsFrom ·)) = true := by kernel_rfl
theorem factB23 : (Rows.fnExactStepMarkovRow.shortTexts.isNone) = true := by kernel_rfl
theorem factB28 : (Rows.fnExactStepMarkovRow.kinds == (if Rows.fnExactStepMarkovRow.domain.isEmpty then [] else Try.f5.params.toList.map fun t => match Try.pinned.checked.prog.underlying t with | some (.int k) => some k | _ => none)) = true := by kernel_rfl
theorem factB29 : (Rows.fnExactStepMarkovRow.pinned == Rows.fnExactStepMarkovRow.pinnedBy) = true := by kernel_rfl
theorem factB30 : (Rows.fnExactStepMarkovRow.veiled == (Try.f5.params.toList ++ Rows.fnExactStepMarkovSpec.plain.varTypes Try.pinned.checked.prog ++ Try.f5.resultTypes.toList).any (Try.pinned.checked.prog.veiledRec ·)) = true := by kernel_rfl
theorem factB31 : (Rows.fnExactStepMarkovRow.veiledFits Try.pinned.checked.prog Try.f5.params.toList (Try.f5.params.toList ++ Rows.fnExactStepMarkovSpec.plain.varTypes Try.pinned.checked.prog ++ Try.f5.resultTypes.toList)) = true := by kernel_rfl
set_option maxRecDepth 100000 in
theorem factB : joinedFacts Try.pinned.checked.prog 5 Try.f5 Rows.fnExactStepMarkovSpec Rows.fnExactStepMarkovRow = true := by
  unfold joinedFacts
  exact (pf.band (pf.band (pf.band (pf.band (pf.band (pf.band (pf.band (pf.band (pf.band (pf.band (pf.band (pf.band (pf.band (pf.band (pf.band (pf.band (pf.band (pf.band (pf.band (pf.band (pf.band (pf.band (pf.band (pf.band (pf.band (pf.band (pf.band (pf.band (pf.band (pf.band (pf.band factB0 pf.laid) pf.mapsRow) factB3) factB4) factB5) pf.stops) factB7) pf.stopKnobs) factB9) factB10) factB11) factB12) factB13) factB14) factB15) factB16) factB17) factB18) factB19) factB20) factB21) (by show (Rows.fnExactStepMarkovRow.plainKeys == Try.pinned.checked.prog.plainKeys) = true; rw [pf.plainKeys]; kernel_rfl)) factB23) pf.heard) pf.enter) (by show (Rows.fnExactStepMarkovRow.lifted == Try.pinned.checked.prog.liftsFinal) = true; rw [pf.lifts]; kernel_rfl)) (by show (Try.pinned.checked.prog.make == some Rows.fnExactStepMarkovRow.make) = true; rw [pf.make]; kernel_rfl)) factB28) factB29) factB30) factB31)
theorem factC : decide (Func.isInstance Try.pinned.checked.prog Try.f5 Rows.fnExactStepMarkovRow.origin Rows.fnExactStepMarkovRow.targs) = true := by kernel_rfl
theorem factD : Func.isWrapper Try.pinned.checked.prog Try.f5 Rows.fnExactStepMarkovRow.wrapper Rows.fnExactStepMarkovRow.mainSum := by
  unfold Func.isWrapper; first | (rw [if_pos (by decide +kernel)]; kernel_rfl) | (rw [if_neg (by decide +kernel)]; exact ⟨rfl, rfl⟩)

theorem over : Rows.fnExactStepMarkovRow.holds Try.pinned (OpenSpec.ofChange Rows.fnExactStepMarkovSpec) :=
  OpenClaim.holds_of_wide 5 Try.f5 rfl rfl rfl rfl rfl rfl rfl ⟨rfl, rfl, rfl, rfl, rfl⟩ rfl rfl rfl rfl rfl factA Try.func5 factB (of_decide_eq_true factC) factD
    (fun os started H enc _ => lifted os started H enc)

/-- The statement. -/
theorem proved : Rows.FnExactStepMarkovSaid := over
#print axioms proved
end Go.Proofs.Yteocnkiagifmfaa.lawStepMarkov
