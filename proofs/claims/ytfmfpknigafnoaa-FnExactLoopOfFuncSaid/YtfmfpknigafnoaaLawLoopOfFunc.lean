/- The law FnExactLoopOfFunc returns true for every input, and each argument reads afterwards as before. No conditions. -/
import Derived.Test.YtfmfpknigafnoaaWalkLoopOfFunc
import Derived.Test.YtfmfpknigafnoaaOpenRec
namespace Go.Proofs.Ytfmfpknigafnoaa.lawLoopOfFunc
open Go.ChangeShapes Go.WideShapes Go.ChangeAt Go.RowKit Go.Deep
open Go.ChangeMaps (open_string shut_string)

set_option maxRecDepth 100000 in
theorem lifted (os : Os) (started : os.Started) (H : Type) (enc : TypeId × Value → H) :
    ReturnsInHanded {} Try.checked os 6 .any (Rows.fnExactLoopOfFuncSpec.pre6 enc Try.prog Try.f6 Rows.fnExactLoopOfFuncRow.domain false) (Rows.fnExactLoopOfFuncSpec.post enc Try.prog Try.f6 false true false false) := by
  refine returnsInHanded_of_change (C := Try.checked) own started (by kernel_rfl) Try.func6
    (ChangeSpec.witness6 (enc := enc) (C := Try.checked) false ⟨#[], #[.slice none 0 0], []⟩ 8 (by kernel_rfl) (by kernel_rfl) (by kernel_rfl) (by kernel_rfl)) ?_
  intro W base args ds gs before hval0 hW hcnd _
  have hval : ∀ (j : Nat) t v, Try.f6.params[j]? = some t → args[j]? = some v → Value.okWide Try.prog W .any base t v := hval0
  have hW' := hW
  obtain ⟨p, q, hA0, hV, rfl, hfz, hnd⟩ := hW
  have hA : DataW.TrodAll enc Try.prog W 0 (fun _ => true) true Try.f6.params.toList args.toList ds p := hA0
  rw [Try.params6] at hA hval
  obtain ⟨v0, vs0, d0, ds0, p0, q0, hargs, rfl, rfl, h0, r0⟩ := trodAll_cons hA
  obtain ⟨rfl, rfl, rfl⟩ := trodAll_nil r0
  obtain rfl : args = #[v0] := by cases args; simp_all
  obtain ⟨rfl, rfl⟩ := trodVars_none hV
  obtain ⟨a0, len0, cap0, rfl⟩ := okWide_slice Try.underlying47 (hval 0 47 v0 rfl rfl)
  have k0 := h0
  have lt0 : ∀ x ∈ p0, x.block < W.heap.size := by obtain ⟨m, hm⟩ := k0; exact DataW.trod_lt m _ _ _ hm
  obtain ⟨z0, g0, f0, m0⟩ := args_recs3 Try.underlying47 (by kernel_rfl) Try.underlying117 (by kernel_rfl) Try.underlying2 Try.underlying2 Try.underlying2 h0
  clear hA0 hval0
  refine (walkLoopOfFunc a0 len0 cap0 z0 W g0 m0 f0).mono fun e W' ⟨he, bel⟩ => ?_
  subst he
  exact ⟨_, rfl, _, _, _, [], _, [], hW', trodAll_mk1 (shut_bool Try.underlying4 _), (trodAll_cons_mk (Below.trod laidOut (by kernel_rfl) (of_decide_eq_true (by kernel_rfl)) k0 bel lt0) trodAll_mk0), rfl, bel.frame _, fun h => by cases h⟩

theorem factA : Try.pinned.checked.prog.funcNamed Rows.fnExactLoopOfFuncRow.func = some 6 := by kernel_rfl
theorem factB : joinedFacts Try.pinned.checked.prog 6 Try.f6 Rows.fnExactLoopOfFuncSpec Rows.fnExactLoopOfFuncRow = true := by kernel_rfl
theorem factC : decide (Func.isInstance Try.pinned.checked.prog Try.f6 Rows.fnExactLoopOfFuncRow.origin Rows.fnExactLoopOfFuncRow.targs) = true := by kernel_rfl
theorem factD : Func.isWrapper Try.pinned.checked.prog Try.f6 Rows.fnExactLoopOfFuncRow.wrapper Rows.fnExactLoopOfFuncRow.mainSum := by
  unfold Func.isWrapper; first | (rw [if_pos (by decide +kernel)]; kernel_rfl) | (rw [if_neg (by decide +kernel)]; exact ⟨rfl, rfl⟩)

theorem over : Rows.fnExactLoopOfFuncRow.holds Try.pinned (OpenSpec.ofChange Rows.fnExactLoopOfFuncSpec) :=
  OpenClaim.holds_of_wide 6 Try.f6 rfl rfl rfl rfl rfl rfl rfl ⟨rfl, rfl, rfl, rfl, rfl⟩ rfl rfl rfl rfl rfl factA Try.func6 factB (of_decide_eq_true factC) factD
    (fun os started H enc _ => lifted os started H enc)

/-- The statement. -/
theorem proved : Rows.FnExactLoopOfFuncSaid := over
#print axioms proved
end Go.Proofs.Ytfmfpknigafnoaa.lawLoopOfFunc
