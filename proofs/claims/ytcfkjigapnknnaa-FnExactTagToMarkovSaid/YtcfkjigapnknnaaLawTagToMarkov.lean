/- The law FnExactTagToMarkov returns true for every input, and each argument reads afterwards as before. No conditions. -/
import Derived.Test.YtcfkjigapnknnaaPf
import Derived.Test.YtcfkjigapnknnaaWalkTagToMarkov
import Derived.Test.YtcfkjigapnknnaaOpenNest
import Derived.Test.YtcfkjigapnknnaaOpenOne
namespace Go.Proofs.Ytcfkjigapnknnaa.lawTagToMarkov
open Go.ChangeShapes Go.WideShapes Go.ChangeAt Go.RowKit Go.Deep

set_option maxRecDepth 100000 in
theorem lifted (os : Os) (started : os.Started) (H : Type) (enc : TypeId × Value → H) :
    ReturnsInHanded {} Try.checked os 5 .any (Rows.fnExactTagToMarkovSpec.pre6 enc Try.prog Try.f5 Rows.fnExactTagToMarkovRow.domain false) (Rows.fnExactTagToMarkovSpec.post enc Try.prog Try.f5 false true false false) := by
  refine returnsInHanded_of_change (C := Try.checked) own started (by kernel_rfl) Try.func5
    (ChangeSpec.witness6 (enc := enc) (C := Try.checked) false ⟨#[], #[.agg #[.int .i64 0, .slice none 0 0, .slice none 0 0]], []⟩ 8 (by kernel_rfl) (by kernel_rfl) (by kernel_rfl) (by kernel_rfl)) ?_
  intro W base args ds gs before hval0 hW hcnd _
  have hval : ∀ (j : Nat) t v, Try.f5.params[j]? = some t → args[j]? = some v → Value.okWide Try.prog W .any base t v := hval0
  have hW' := hW
  obtain ⟨p, q, hA0, hV, rfl, hfz, hnd⟩ := hW
  have hA : DataW.TrodAll enc Try.prog W 0 (fun _ => true) true Try.f5.params.toList args.toList ds p := hA0
  rw [Try.params5] at hA hval
  obtain ⟨v0, vs0, d0, ds0, p0, q0, hargs, rfl, rfl, h0, r0⟩ := trodAll_cons hA
  obtain ⟨rfl, rfl, rfl⟩ := trodAll_nil r0
  obtain rfl : args = #[v0] := by cases args; simp_all
  obtain ⟨rfl, rfl⟩ := trodVars_none hV
  have k0 := h0
  have lt0 : ∀ x ∈ p0, x.block < W.heap.size := by obtain ⟨m, hm⟩ := k0; exact DataW.trod_lt m _ _ _ hm
  obtain ⟨f0_0, A0_1, n0_1, c0_1, y0_1, z0_1, A0_2, n0_2, c0_2, z0_2, hv0, u0_0, g0_1, i0_1, m0_1, u0_1, g0_2, m0_2, u0_2⟩ := oneTag Try.underlying56 (by kernel_rfl) (by kernel_rfl) Try.underlying2 Try.underlying45 (by kernel_rfl) Try.underlying25 (by kernel_rfl) (elem_int Try.underlying2) Try.underlying25 (by kernel_rfl) (elem_int Try.underlying2) (hval 0 56 v0 rfl rfl) h0
  subst hv0
  clear hA0 hval0
  refine (walkTagToMarkov f0_0 A0_1 n0_1 c0_1 y0_1 z0_1 A0_2 n0_2 c0_2 z0_2 W u0_0 g0_1 i0_1 m0_1 u0_1 g0_2 m0_2 u0_2).mono fun e W' ⟨he, bel⟩ => ?_
  subst he
  exact ⟨_, rfl, _, _, _, [], _, [], hW', trodAll_mk1 (shut_bool Try.underlying4 _), (trodAll_cons_mk (Below.trod laidOut (by kernel_rfl) (of_decide_eq_true (by kernel_rfl)) k0 bel lt0) trodAll_mk0), rfl, bel.frame _, fun h => by cases h⟩

theorem factA : Try.pinned.checked.prog.funcNamed Rows.fnExactTagToMarkovRow.func = some 5 := by kernel_rfl
theorem factB0 : (Rows.fnExactTagToMarkovRow.wf (OpenSpec.ofChange Rows.fnExactTagToMarkovSpec)) = true := by kernel_rfl
theorem factB3 : (Try.f5.params.all (Try.pinned.checked.prog.readableRec ·)) = true := by kernel_rfl
theorem factB4 : (namedTie Try.pinned.checked.prog Rows.fnExactTagToMarkovRow.named Rows.fnExactTagToMarkovSpec.vars) = true := by kernel_rfl
theorem factB5 : (Rows.fnExactTagToMarkovRow.stops == []) = true := by kernel_rfl
theorem factB7 : (Rows.fnExactTagToMarkovRow.knobs == []) = true := by kernel_rfl
theorem factB9 : (Rows.fnExactTagToMarkovRow.inPlace == Try.pinned.checked.prog.inPlace 5) = true := by kernel_rfl
theorem factB10 : (Rows.fnExactTagToMarkovRow.unfollowed == Try.pinned.checked.prog.unfollowed 5) = true := by kernel_rfl
theorem factB11 : (Rows.fnExactTagToMarkovRow.recurses == Try.pinned.checked.prog.recurses 5) = true := by kernel_rfl
theorem factB12 : (Rows.fnExactTagToMarkovRow.named == Try.pinned.checked.prog.varsNamed 5) = true := by kernel_rfl
theorem factB13 : (Rows.fnExactTagToMarkovRow.maps == (Try.f5.params.toList ++ Rows.fnExactTagToMarkovSpec.plain.varTypes Try.pinned.checked.prog).any (Try.pinned.checked.prog.mapsRec ·)) = true := by kernel_rfl
theorem factB14 : (Rows.fnExactTagToMarkovRow.ifaces == (Try.f5.params.toList ++ Rows.fnExactTagToMarkovSpec.plain.varTypes Try.pinned.checked.prog).any (Try.pinned.checked.prog.ifacesRec ·)) = true := by kernel_rfl
theorem factB15 : (Rows.fnExactTagToMarkovRow.mapsOut == Try.pinned.checked.prog.mapsAmong Try.f5.resultTypes.toList) = true := by kernel_rfl
theorem factB16 : (Rows.fnExactTagToMarkovRow.loops == (Try.f5.params.toList ++ Rows.fnExactTagToMarkovSpec.plain.varTypes Try.pinned.checked.prog).any (Try.pinned.checked.prog.loopsFrom ·)) = true := by kernel_rfl
theorem factB17 : (Rows.fnExactTagToMarkovRow.wideKeys == (Try.f5.params.toList ++ Rows.fnExactTagToMarkovSpec.plain.varTypes Try.pinned.checked.prog ++ Try.f5.resultTypes.toList).any (Try.pinned.checked.prog.wideKeysFrom ·)) = true := by kernel_rfl
theorem factB18 : (Rows.fnExactTagToMarkovSpec.vars.all (Try.pinned.checked.prog.varReadable ·)) = true := by kernel_rfl
theorem factB19 : (Try.f5.resultTypes.all (fun t => Try.pinned.checked.prog.readableRec t && decide (t < Try.pinned.checked.prog.types.size))) = true := by kernel_rfl
theorem factB20 : (Rows.fnExactTagToMarkovRow.ifacesOut == Try.f5.resultTypes.toList.any (Try.pinned.checked.prog.ifacesRec ·)) = true := by kernel_rfl
theorem factB21 : (Rows.fnExactTagToMarkovRow.loopsOut == Try.f5.resultTypes.toList.any (Try.pinned.checked.prog.loopsFrom ·)) = true := by kernel_rfl
theorem factB23 : (Rows.fnExactTagToMarkovRow.shortTexts.isNone) = true := by kernel_rfl
theorem factB28 : (Rows.fnExactTagToMarkovRow.kinds == (if Rows.fnExactTagToMarkovRow.domain.isEmpty then [] else Try.f5.params.toList.map fun t => match Try.pinned.checked.prog.underlying t with | some (.int k) => some k | _ => none)) = true := by kernel_rfl
theorem factB29 : (Rows.fnExactTagToMarkovRow.pinned == Rows.fnExactTagToMarkovRow.pinnedBy) = true := by kernel_rfl
theorem factB30 : (Rows.fnExactTagToMarkovRow.veiled == (Try.f5.params.toList ++ Rows.fnExactTagToMarkovSpec.plain.varTypes Try.pinned.checked.prog ++ Try.f5.resultTypes.toList).any (Try.pinned.checked.prog.veiledRec ·)) = true := by kernel_rfl
theorem factB31 : (Rows.fnExactTagToMarkovRow.veiledFits Try.pinned.checked.prog Try.f5.params.toList (Try.f5.params.toList ++ Rows.fnExactTagToMarkovSpec.plain.varTypes Try.pinned.checked.prog ++ Try.f5.resultTypes.toList)) = true := by kernel_rfl
set_option maxRecDepth 100000 in
theorem factB : joinedFacts Try.pinned.checked.prog 5 Try.f5 Rows.fnExactTagToMarkovSpec Rows.fnExactTagToMarkovRow = true := by
  unfold joinedFacts
  exact (pf.band (pf.band (pf.band (pf.band (pf.band (pf.band (pf.band (pf.band (pf.band (pf.band (pf.band (pf.band (pf.band (pf.band (pf.band (pf.band (pf.band (pf.band (pf.band (pf.band (pf.band (pf.band (pf.band (pf.band (pf.band (pf.band (pf.band (pf.band (pf.band (pf.band (pf.band factB0 pf.laid) pf.mapsRow) factB3) factB4) factB5) pf.stops) factB7) pf.stopKnobs) factB9) factB10) factB11) factB12) factB13) factB14) factB15) factB16) factB17) factB18) factB19) factB20) factB21) (by show (Rows.fnExactTagToMarkovRow.plainKeys == Try.pinned.checked.prog.plainKeys) = true; rw [pf.plainKeys]; kernel_rfl)) factB23) pf.heard) pf.enter) (by show (Rows.fnExactTagToMarkovRow.lifted == Try.pinned.checked.prog.liftsFinal) = true; rw [pf.lifts]; kernel_rfl)) (by show (Try.pinned.checked.prog.make == some Rows.fnExactTagToMarkovRow.make) = true; rw [pf.make]; kernel_rfl)) factB28) factB29) factB30) factB31)
theorem factC : decide (Func.isInstance Try.pinned.checked.prog Try.f5 Rows.fnExactTagToMarkovRow.origin Rows.fnExactTagToMarkovRow.targs) = true := by kernel_rfl
theorem factD : Func.isWrapper Try.pinned.checked.prog Try.f5 Rows.fnExactTagToMarkovRow.wrapper Rows.fnExactTagToMarkovRow.mainSum := by
  unfold Func.isWrapper; first | (rw [if_pos (by decide +kernel)]; kernel_rfl) | (rw [if_neg (by decide +kernel)]; exact ⟨rfl, rfl⟩)

theorem over : Rows.fnExactTagToMarkovRow.holds Try.pinned (OpenSpec.ofChange Rows.fnExactTagToMarkovSpec) :=
  OpenClaim.holds_of_wide 5 Try.f5 rfl rfl rfl rfl rfl rfl rfl ⟨rfl, rfl, rfl, rfl, rfl⟩ rfl rfl rfl rfl rfl factA Try.func5 factB (of_decide_eq_true factC) factD
    (fun os started H enc _ => lifted os started H enc)

/-- The statement. -/
theorem proved : Rows.FnExactTagToMarkovSaid := over
#print axioms proved
end Go.Proofs.Ytcfkjigapnknnaa.lawTagToMarkov
