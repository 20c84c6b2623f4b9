/- The law FnExactEvalExpr returns true for every input, and each argument reads afterwards as before. No conditions. -/
import Derived.Test.YtgcedfpjgdeakaaPf
import Derived.Test.YtgcedfpjgdeakaaWalkEvalExpr
import Derived.Test.YtgcedfpjgdeakaaOpenNest
namespace Go.Proofs.Ytgcedfpjgdeakaa.lawEvalExpr
open Go.ChangeShapes Go.WideShapes Go.ChangeAt Go.RowKit Go.Deep
open Go.ChangeMaps (open_string shut_string)

set_option maxRecDepth 100000 in
theorem lifted (os : Os) (started : os.Started) (H : Type) (enc : TypeId × Value → H) :
    ReturnsInHanded {} Try.checked os 3 .any (Rows.fnExactEvalExprSpec.pre6 enc Try.prog Try.f3 Rows.fnExactEvalExprRow.domain false) (Rows.fnExactEvalExprSpec.post enc Try.prog Try.f3 false true false false) := by
  refine returnsInHanded_of_change (C := Try.checked) own started (by kernel_rfl) Try.func3
    (ChangeSpec.witness6 (enc := enc) (C := Try.checked) false ⟨#[], #[.slice none 0 0, .slice none 0 0], []⟩ 8 (by kernel_rfl) (by kernel_rfl) (by kernel_rfl) (by kernel_rfl)) ?_
  intro W base args ds gs before hval0 hW hcnd _
  have hval : ∀ (j : Nat) t v, Try.f3.params[j]? = some t → args[j]? = some v → Value.okWide Try.prog W .any base t v := hval0
  have hW' := hW
  obtain ⟨p, q, hA0, hV, rfl, hfz, hnd⟩ := hW
  have hA : DataW.TrodAll enc Try.prog W 0 (fun _ => true) true Try.f3.params.toList args.toList ds p := hA0
  rw [Try.params3] at hA hval
  obtain ⟨v0, vs0, d0, ds0, p0, q0, hargs, rfl, rfl, h0, r0⟩ := trodAll_cons hA
  obtain ⟨v1, vs1, d1, ds1, p1, q1, rfl, rfl, rfl, h1, r1⟩ := trodAll_cons r0
  obtain ⟨rfl, rfl, rfl⟩ := trodAll_nil r1
  obtain rfl : args = #[v0, v1] := by cases args; simp_all
  obtain ⟨rfl, rfl⟩ := trodVars_none hV
  obtain ⟨a0, len0, cap0, rfl⟩ := okWide_slice Try.underlying22 (hval 0 22 v0 rfl rfl)
  have k0 := h0
  have lt0 : ∀ x ∈ p0, x.block < W.heap.size := by obtain ⟨m, hm⟩ := k0; exact DataW.trod_lt m _ _ _ hm
  obtain ⟨z0, g0, f0, m0⟩ := args_recs2 Try.underlying22 (by kernel_rfl) Try.underlying64 (by kernel_rfl) Try.underlying2 Try.underlying2 h0
  obtain ⟨a1, len1, cap1, rfl⟩ := okWide_slice Try.underlying23 (hval 1 23 v1 rfl rfl)
  have k1 := h1
  have lt1 : ∀ x ∈ p1, x.block < W.heap.size := by obtain ⟨m, hm⟩ := k1; exact DataW.trod_lt m _ _ _ hm
  obtain ⟨y1, z1, g1, n1, f1, m1⟩ := arg_nested (s := 1) oneB (fun _ => True) (fun _ => rfl) (by omega) Try.underlying23 (by kernel_rfl) Try.underlying26 (by kernel_rfl) (elem_bool Try.underlying4) h1
  clear hA0 hval0
  refine (walkEvalExpr a0 len0 cap0 z0 a1 len1 cap1 y1 z1 W g0 m0 f0 g1 n1 m1 f1).mono fun e W' ⟨he, bel⟩ => ?_
  subst he
  exact ⟨_, rfl, _, _, _, [], _, [], hW', trodAll_mk1 (shut_bool Try.underlying4 _), (trodAll_cons_mk (Below.trod laidOut (by kernel_rfl) (of_decide_eq_true (by kernel_rfl)) k0 bel lt0) (trodAll_cons_mk (Below.trod laidOut (by kernel_rfl) (of_decide_eq_true (by kernel_rfl)) k1 bel lt1) trodAll_mk0)), rfl, bel.frame _, fun h => by cases h⟩

theorem factA : Try.pinned.checked.prog.funcNamed Rows.fnExactEvalExprRow.func = some 3 := by kernel_rfl
theorem factB0 : (Rows.fnExactEvalExprRow.wf (OpenSpec.ofChange Rows.fnExactEvalExprSpec)) = true := by kernel_rfl
theorem factB3 : (Try.f3.params.all (Try.pinned.checked.prog.readableRec ·)) = true := by kernel_rfl
theorem factB4 : (namedTie Try.pinned.checked.prog Rows.fnExactEvalExprRow.named Rows.fnExactEvalExprSpec.vars) = true := by kernel_rfl
theorem factB5 : (Rows.fnExactEvalExprRow.stops == []) = true := by kernel_rfl
theorem factB7 : (Rows.fnExactEvalExprRow.knobs == []) = true := by kernel_rfl
theorem factB9 : (Rows.fnExactEvalExprRow.inPlace == Try.pinned.checked.prog.inPlace 3) = true := by kernel_rfl
theorem factB10 : (Rows.fnExactEvalExprRow.unfollowed == Try.pinned.checked.prog.unfollowed 3) = true := by kernel_rfl
theorem factB11 : (Rows.fnExactEvalExprRow.recurses == Try.pinned.checked.prog.recurses 3) = true := by kernel_rfl
theorem factB12 : (Rows.fnExactEvalExprRow.named == Try.pinned.checked.prog.varsNamed 3) = true := by kernel_rfl
theorem factB13 : (Rows.fnExactEvalExprRow.maps == (Try.f3.params.toList ++ Rows.fnExactEvalExprSpec.plain.varTypes Try.pinned.checked.prog).any (Try.pinned.checked.prog.mapsRec ·)) = true := by kernel_rfl
theorem factB14 : (Rows.fnExactEvalExprRow.ifaces == (Try.f3.params.toList ++ Rows.fnExactEvalExprSpec.plain.varTypes Try.pinned.checked.prog).any (Try.pinned.checked.prog.ifacesRec ·)) = true := by kernel_rfl
theorem factB15 : (Rows.fnExactEvalExprRow.mapsOut == Try.pinned.checked.prog.mapsAmong Try.f3.resultTypes.toList) = true := by kernel_rfl
theorem factB16 : (Rows.fnExactEvalExprRow.loops == (Try.f3.params.toList ++ Rows.fnExactEvalExprSpec.plain.varTypes Try.pinned.checked.prog).any (Try.pinned.checked.prog.loopsFrom ·)) = true := by kernel_rfl
theorem factB17 : (Rows.fnExactEvalExprRow.wideKeys == (Try.f3.params.toList ++ Rows.fnExactEvalExprSpec.plain.varTypes Try.pinned.checked.prog ++ Try.f3.resultTypes.toList).any (Try.pinned.checked.prog.wideKeysFrom ·)) = true := by kernel_rfl
theorem factB18 : (Rows.fnExactEvalExprSpec.vars.all (Try.pinned.checked.prog.varReadable ·)) = true := by kernel_rfl
theorem factB19 : (Try.f3.resultTypes.all (fun t => Try.pinned.checked.prog.readableRec t && decide (t < Try.pinned.checked.prog.types.size))) = true := by kernel_rfl
theorem factB20 : (Rows.fnExactEvalExprRow.ifacesOut == Try.f3.resultTypes.toList.any (Try.pinned.checked.prog.ifacesRec ·)) = true := by kernel_rfl
theorem factB21 : (Rows.fnExactEvalExprRow.loopsOut == Try.f3.resultTypes.toList.any (Try.pinned.checked.prog.loopsFrom ·)) = true := by kernel_rfl
theorem factB23 : (Rows.fnExactEvalExprRow.shortTexts.isNone) = true := by kernel_rfl
theorem factB28 : (Rows.fnExactEvalExprRow.kinds == (if Rows.fnExactEvalExprRow.domain.isEmpty then [] else Try.f3.params.toList.map fun t => match Try.pinned.checked.prog.underlying t with | some (.int k) => some k | _ => none)) = true := by kernel_rfl
theorem factB29 : (Rows.fnExactEvalExprRow.pinned == Rows.fnExactEvalExprRow.pinnedBy) = true := by kernel_rfl
theorem factB30 : (Rows.fnExactEvalExprRow.veiled == (Try.f3.params.toList ++ Rows.fnExactEvalExprSpec.plain.varTypes Try.pinned.checked.prog ++ Try.f3.resultTypes.toList).any (Try.pinned.checked.prog.veiledRec ·)) = true := by kernel_rfl
theorem factB31 : (Rows.fnExactEvalExprRow.veiledFits Try.pinned.checked.prog Try.f3.params.toList (Try.f3.params.toList ++ Rows.fnExactEvalExprSpec.plain.varTypes Try.pinned.checked.prog ++ Try.f3.resultTypes.toList)) = true := by kernel_rfl
set_option maxRecDepth 100000 in
theorem factB : joinedFacts Try.pinned.checked.prog 3 Try.f3 Rows.fnExactEvalExprSpec Rows.fnExactEvalExprRow = true := by
  unfold joinedFacts
  exact (pf.band (pf.band (pf.band (pf.band (pf.band (pf.band (pf.band (pf.band (pf.band (pf.band (pf.band (pf.band (pf.band (pf.band (pf.band (pf.band (pf.band (pf.band (pf.band (pf.band (pf.band (pf.band (pf.band (pf.band (pf.band (pf.band (pf.band (pf.band (pf.band (pf.band (pf.band factB0 pf.laid) pf.mapsRow) factB3) factB4) factB5) pf.stops) factB7) pf.stopKnobs) factB9) factB10) factB11) factB12) factB13) factB14) factB15) factB16) factB17) factB18) factB19) factB20) factB21) (by show (Rows.fnExactEvalExprRow.plainKeys == Try.pinned.checked.prog.plainKeys) = true; rw [pf.plainKeys]; kernel_rfl)) factB23) pf.heard) pf.enter) (by show (Rows.fnExactEvalExprRow.lifted == Try.pinned.checked.prog.liftsFinal) = true; rw [pf.lifts]; kernel_rfl)) (by show (Try.pinned.checked.prog.make == some Rows.fnExactEvalExprRow.make) = true; rw [pf.make]; kernel_rfl)) factB28) factB29) factB30) factB31)
theorem factC : decide (Func.isInstance Try.pinned.checked.prog Try.f3 Rows.fnExactEvalExprRow.origin Rows.fnExactEvalExprRow.targs) = true := by kernel_rfl
theorem factD : Func.isWrapper Try.pinned.checked.prog Try.f3 Rows.fnExactEvalExprRow.wrapper Rows.fnExactEvalExprRow.mainSum := by
  unfold Func.isWrapper; first | (rw [if_pos (by decide +kernel)]; kernel_rfl) | (rw [if_neg (by decide +kernel)]; exact ⟨rfl, rfl⟩)

theorem over : Rows.fnExactEvalExprRow.holds Try.pinned (OpenSpec.ofChange Rows.fnExactEvalExprSpec) :=
  OpenClaim.holds_of_wide 3 Try.f3 rfl rfl rfl rfl rfl rfl rfl ⟨rfl, rfl, rfl, rfl, rfl⟩ rfl rfl rfl rfl rfl factA Try.func3 factB (of_decide_eq_true factC) factD
    (fun os started H enc _ => lifted os started H enc)

/-- The statement. -/
theorem proved : Rows.FnExactEvalExprSaid := over
#print axioms proved
end Go.Proofs.Ytgcedfpjgdeakaa.lawEvalExpr
