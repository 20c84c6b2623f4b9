/- The law FnExactConfigOfWord returns true for every input, and each argument reads afterwards as before. No conditions. -/
import Derived.Test.YtjakgeblmkdbpaaPf
import Derived.Test.YtjakgeblmkdbpaaWalkConfigOfWord
import Derived.Test.YtjakgeblmkdbpaaOpenNest
import Derived.Test.YtjakgeblmkdbpaaOpenOne
namespace Go.Proofs.Ytjakgeblmkdbpaa.lawConfigOfWord
open Go.ChangeShapes Go.WideShapes Go.ChangeAt Go.RowKit Go.Deep

set_option maxRecDepth 100000 in
theorem lifted (os : Os) (started : os.Started) (H : Type) (enc : TypeId × Value → H) :
    ReturnsInHanded {} Try.checked os 5 .any (Rows.fnExactConfigOfWordSpec.pre6 enc Try.prog Try.f5 Rows.fnExactConfigOfWordRow.domain false) (Rows.fnExactConfigOfWordSpec.post enc Try.prog Try.f5 false true false false) := by
  refine returnsInHanded_of_change (C := Try.checked) own started (by kernel_rfl) Try.func5
    (ChangeSpec.witness6 (enc := enc) (C := Try.checked) false ⟨#[], #[.agg #[.int .i64 0, .int .i64 0, .slice none 0 0], .slice none 0 0], []⟩ 8 (by kernel_rfl) (by kernel_rfl) (by kernel_rfl) (by kernel_rfl)) ?_
  intro W base args ds gs before hval0 hW hcnd _
  have hval : ∀ (j : Nat) t v, Try.f5.params[j]? = some t → args[j]? = some v → Value.okWide Try.prog W .any base t v := hval0
  have hW' := hW
  obtain ⟨p, q, hA0, hV, rfl, hfz, hnd⟩ := hW
  have hA : DataW.TrodAll enc Try.prog W 0 (fun _ => true) true Try.f5.params.toList args.toList ds p := hA0
  rw [Try.params5] at hA hval
  obtain ⟨v0, vs0, d0, ds0, p0, q0, hargs, rfl, rfl, h0, r0⟩ := trodAll_cons hA
  obtain ⟨v1, vs1, d1, ds1, p1, q1, rfl, rfl, rfl, h1, r1⟩ := trodAll_cons r0
  obtain ⟨rfl, rfl, rfl⟩ := trodAll_nil r1
  obtain rfl : args = #[v0, v1] := by cases args; simp_all
  obtain ⟨rfl, rfl⟩ := trodVars_none hV
  have k0 := h0
  have lt0 : ∀ x ∈ p0, x.block < W.heap.size := by obtain ⟨m, hm⟩ := k0; exact DataW.trod_lt m _ _ _ hm
  obtain ⟨f0_0, f0_1, A0_2, n0_2, c0_2, z0_2, hv0, u0_0, u0_1, g0_2, m0_2, u0_2⟩ := oneMachine Try.underlying24 (by kernel_rfl) (by kernel_rfl) Try.underlying2 Try.underlying2 Try.underlying22 (by kernel_rfl) (elem_rec3 (by kernel_rfl) Try.underlying144 (by kernel_rfl) Try.underlying2 Try.underlying2 Try.underlying2) (hval 0 24 v0 rfl rfl) h0
  subst hv0
  obtain ⟨a1, len1, cap1, rfl⟩ := okWide_slice Try.underlying25 (hval 1 25 v1 rfl rfl)
  have k1 := h1
  have lt1 : ∀ x ∈ p1, x.block < W.heap.size := by obtain ⟨m, hm⟩ := k1; exact DataW.trod_lt m _ _ _ hm
  obtain ⟨z1, g1, f1, m1⟩ := arg_ints Try.underlying25 (by kernel_rfl) Try.underlying2 h1
  clear hA0 hval0
  refine (walkConfigOfWord f0_0 f0_1 A0_2 n0_2 c0_2 z0_2 a1 len1 cap1 z1 W u0_0 u0_1 g0_2 m0_2 u0_2 g1 m1 (wf64s_of f1)).mono fun e W' ⟨he, bel⟩ => ?_
  subst he
  exact ⟨_, rfl, _, _, _, [], _, [], hW', trodAll_mk1 (shut_bool Try.underlying4 _), (trodAll_cons_mk (Below.trod laidOut (by kernel_rfl) (of_decide_eq_true (by kernel_rfl)) k0 bel lt0) (trodAll_cons_mk (Below.trod laidOut (by kernel_rfl) (of_decide_eq_true (by kernel_rfl)) k1 bel lt1) trodAll_mk0)), rfl, bel.frame _, fun h => by cases h⟩

theorem factA : Try.pinned.checked.prog.funcNamed Rows.fnExactConfigOfWordRow.func = some 5 := by kernel_rfl
theorem factB0 : (Rows.fnExactConfigOfWordRow.wf (OpenSpec.ofChange Rows.fnExactConfigOfWordSpec)) = true := by kernel_rfl
theorem factB3 : (Try.f5.params.all (Try.pinned.checked.prog.readableRec ·)) = true := by kernel_rfl
theorem factB4 : (namedTie Try.pinned.checked.prog Rows.fnExactConfigOfWordRow.named Rows.fnExactConfigOfWordSpec.vars) = true := by kernel_rfl
theorem factB5 : (Rows.fnExactConfigOfWordRow.stops == []) = true := by kernel_rfl
theorem factB7 : (Rows.fnExactConfigOfWordRow.knobs == []) = true := by kernel_rfl
theorem factB9 : (Rows.fnExactConfigOfWordRow.inPlace == Try.pinned.checked.prog.inPlace 5) = true := by kernel_rfl
theorem factB10 : (Rows.fnExactConfigOfWordRow.unfollowed == Try.pinned.checked.prog.unfollowed 5) = true := by kernel_rfl
theorem factB11 : (Rows.fnExactConfigOfWordRow.recurses == Try.pinned.checked.prog.recurses 5) = true := by kernel_rfl
theorem factB12 : (Rows.fnExactConfigOfWordRow.named == Try.pinned.checked.prog.varsNamed 5) = true := by kernel_rfl
theorem factB13 : (Rows.fnExactConfigOfWordRow.maps == (Try.f5.params.toList ++ Rows.fnExactConfigOfWordSpec.plain.varTypes Try.pinned.checked.prog).any (Try.pinned.checked.prog.mapsRec ·)) = true := by kernel_rfl
theorem factB14 : (Rows.fnExactConfigOfWordRow.ifaces == (Try.f5.params.toList ++ Rows.fnExactConfigOfWordSpec.plain.varTypes Try.pinned.checked.prog).any (Try.pinned.checked.prog.ifacesRec ·)) = true := by kernel_rfl
theorem factB15 : (Rows.fnExactConfigOfWordRow.mapsOut == Try.pinned.checked.prog.mapsAmong Try.f5.resultTypes.toList) = true := by kernel_rfl
theorem factB16 : (Rows.fnExactConfigOfWordRow.loops == (Try.f5.params.toList ++ Rows.fnExactConfigOfWordSpec.plain.varTypes Try.pinned.checked.prog).any (Try.pinned.checked.prog.loopsFrom ·)) = true := by kernel_rfl
theorem factB17 : (Rows.fnExactConfigOfWordRow.wideKeys == (Try.f5.params.toList ++ Rows.fnExactConfigOfWordSpec.plain.varTypes Try.pinned.checked.prog ++ Try.f5.resultTypes.toList).any (Try.pinned.checked.prog.wideKeysFrom ·)) = true := by kernel_rfl
theorem factB18 : (Rows.fnExactConfigOfWordSpec.vars.all (Try.pinned.checked.prog.varReadable ·)) = true := by kernel_rfl
theorem factB19 : (Try.f5.resultTypes.all (fun t => Try.pinned.checked.prog.readableRec t && decide (t < Try.pinned.checked.prog.types.size))) = true := by kernel_rfl
theorem factB20 : (Rows.fnExactConfigOfWordRow.ifacesOut == Try.f5.resultTypes.toList.any (Try.pinned.checked.prog.ifacesRec ·)) = true := by kernel_rfl
theorem factB21 : (Rows.fnExactConfigOfWordRow.loopsOut == Try.f5.resultTypes.toList.any (Try.pinned.checked.prog.loopsFrom ·)) = true := by kernel_rfl
theorem factB23 : (Rows.fnExactConfigOfWordRow.shortTexts.isNone) = true := by kernel_rfl
theorem factB28 : (Rows.fnExactConfigOfWordRow.kinds == (if Rows.fnExactConfigOfWordRow.domain.isEmpty then [] else Try.f5.params.toList.map fun t => match Try.pinned.checked.prog.underlying t with | some (.int k) => some k | _ => none)) = true := by kernel_rfl
theorem factB29 : (Rows.fnExactConfigOfWordRow.pinned == Rows.fnExactConfigOfWordRow.pinnedBy) = true := by kernel_rfl
theorem factB30 : (Rows.fnExactConfigOfWordRow.veiled == (Try.f5.params.toList ++ Rows.fnExactConfigOfWordSpec.plain.varTypes Try.pinned.checked.prog ++ Try.f5.resultTypes.toList).any (Try.pinned.checked.prog.veiledRec ·)) = true := by kernel_rfl
theorem factB31 : (Rows.fnExactConfigOfWordRow.veiledFits Try.pinned.checked.prog Try.f5.params.toList (Try.f5.params.toList ++ Rows.fnExactConfigOfWordSpec.plain.varTypes Try.pinned.checked.prog ++ Try.f5.resultTypes.toList)) = true := by kernel_rfl
set_option maxRecDepth 100000 in
theorem factB : joinedFacts Try.pinned.checked.prog 5 Try.f5 Rows.fnExactConfigOfWordSpec Rows.fnExactConfigOfWordRow = true := by
  unfold joinedFacts
  exact (pf.band (pf.band (pf.band (pf.band (pf.band (pf.band (pf.band (pf.band (pf.band (pf.band (pf.band (pf.band (pf.band (pf.band (pf.band (pf.band (pf.band (pf.band (pf.band (pf.band (pf.band (pf.band (pf.band (pf.band (pf.band (pf.band (pf.band (pf.band (pf.band (pf.band (pf.band factB0 pf.laid) pf.mapsRow) factB3) factB4) factB5) pf.stops) factB7) pf.stopKnobs) factB9) factB10) factB11) factB12) factB13) factB14) factB15) factB16) factB17) factB18) factB19) factB20) factB21) (by show (Rows.fnExactConfigOfWordRow.plainKeys == Try.pinned.checked.prog.plainKeys) = true; rw [pf.plainKeys]; kernel_rfl)) factB23) pf.heard) pf.enter) (by show (Rows.fnExactConfigOfWordRow.lifted == Try.pinned.checked.prog.liftsFinal) = true; rw [pf.lifts]; kernel_rfl)) (by show (Try.pinned.checked.prog.make == some Rows.fnExactConfigOfWordRow.make) = true; rw [pf.make]; kernel_rfl)) factB28) factB29) factB30) factB31)
theorem factC : decide (Func.isInstance Try.pinned.checked.prog Try.f5 Rows.fnExactConfigOfWordRow.origin Rows.fnExactConfigOfWordRow.targs) = true := by kernel_rfl
theorem factD : Func.isWrapper Try.pinned.checked.prog Try.f5 Rows.fnExactConfigOfWordRow.wrapper Rows.fnExactConfigOfWordRow.mainSum := by
  unfold Func.isWrapper; first | (rw [if_pos (by decide +kernel)]; kernel_rfl) | (rw [if_neg (by decide +kernel)]; exact ⟨rfl, rfl⟩)

theorem over : Rows.fnExactConfigOfWordRow.holds Try.pinned (OpenSpec.ofChange Rows.fnExactConfigOfWordSpec) :=
  OpenClaim.holds_of_wide 5 Try.f5 rfl rfl rfl rfl rfl rfl rfl ⟨rfl, rfl, rfl, rfl, rfl⟩ rfl rfl rfl rfl rfl factA Try.func5 factB (of_decide_eq_true factC) factD
    (fun os started H enc _ => lifted os started H enc)

/-- The statement. -/
theorem proved : Rows.FnExactConfigOfWordSaid := over
#print axioms proved
end Go.Proofs.Ytjakgeblmkdbpaa.lawConfigOfWord
