/- The law FnExactBranchWhile returns true for every input, and each argument reads afterwards as before. No conditions. -/
import Derived.Test.YtfmfpknigafnoaaWalkBranchWhile
import Derived.Test.YtfmfpknigafnoaaOpenRec
import Derived.Test.YtfmfpknigafnoaaOpenCommand
namespace Go.Proofs.Ytfmfpknigafnoaa.lawBranchWhile
open Go.ChangeShapes Go.WideShapes Go.ChangeAt Go.RowKit Go.Deep
open Go.ChangeMaps (open_string shut_string)

set_option maxRecDepth 100000 in
theorem lifted (os : Os) (started : os.Started) (H : Type) (enc : TypeId × Value → H) :
    ReturnsInHanded {} Try.checked os 3 .any (Rows.fnExactBranchWhileSpec.pre6 enc Try.prog Try.f3 Rows.fnExactBranchWhileRow.domain false) (Rows.fnExactBranchWhileSpec.post enc Try.prog Try.f3 false true false false) := by
  refine returnsInHanded_of_change (C := Try.checked) own started (by kernel_rfl) Try.func3
    (ChangeSpec.witness6 (enc := enc) (C := Try.checked) false ⟨#[], #[.slice none 0 0, .slice none 0 0, .slice none 0 0, .int .i64 0, .int .i64 0], []⟩ 8 (by kernel_rfl) (by kernel_rfl) (by kernel_rfl) (by kernel_rfl)) ?_
  intro W base args ds gs before hval0 hW hcnd _
  have hval : ∀ (j : Nat) t v, Try.f3.params[j]? = some t → args[j]? = some v → Value.okWide Try.prog W .any base t v := hval0
  have hW' := hW
  obtain ⟨p, q, hA0, hV, rfl, hfz, hnd⟩ := hW
  have hA : DataW.TrodAll enc Try.prog W 0 (fun _ => true) true Try.f3.params.toList args.toList ds p := hA0
  rw [Try.params3] at hA hval
  obtain ⟨v0, vs0, d0, ds0, p0, q0, hargs, rfl, rfl, h0, r0⟩ := trodAll_cons hA
  obtain ⟨v1, vs1, d1, ds1, p1, q1, rfl, rfl, rfl, h1, r1⟩ := trodAll_cons r0
  obtain ⟨v2, vs2, d2, ds2, p2, q2, rfl, rfl, rfl, h2, r2⟩ := trodAll_cons r1
  obtain ⟨v3, vs3, d3, ds3, p3, q3, rfl, rfl, rfl, h3, r3⟩ := trodAll_cons r2
  obtain ⟨v4, vs4, d4, ds4, p4, q4, rfl, rfl, rfl, h4, r4⟩ := trodAll_cons r3
  obtain ⟨rfl, rfl, rfl⟩ := trodAll_nil r4
  obtain rfl : args = #[v0, v1, v2, v3, v4] := by cases args; simp_all
  obtain ⟨rfl, rfl⟩ := trodVars_none hV
  obtain ⟨a0, len0, cap0, rfl⟩ := okWide_slice Try.underlying22 (hval 0 22 v0 rfl rfl)
  have k0 := h0
  have lt0 : ∀ x ∈ p0, x.block < W.heap.size := by obtain ⟨m, hm⟩ := k0; exact DataW.trod_lt m _ _ _ hm
  obtain ⟨z0, g0, f0, m0⟩ := args_recs2 Try.underlying22 (by kernel_rfl) Try.underlying93 (by kernel_rfl) Try.underlying2 Try.underlying2 h0
  obtain ⟨a1, len1, cap1, rfl⟩ := okWide_slice Try.underlying23 (hval 1 23 v1 rfl rfl)
  have k1 := h1
  have lt1 : ∀ x ∈ p1, x.block < W.heap.size := by obtain ⟨m, hm⟩ := k1; exact DataW.trod_lt m _ _ _ hm
  obtain ⟨z1, g1, n1, f1, m1⟩ := argsCommand Try.underlying23 (by kernel_rfl) (elemCommand (by kernel_rfl) Try.underlying80 (by kernel_rfl) Try.underlying2 Try.underlying2 Try.underlying2 Try.underlying22 (by kernel_rfl) (elem_rec2 (by kernel_rfl) Try.underlying93 (by kernel_rfl) Try.underlying2 Try.underlying2)) h1
  obtain ⟨a2, len2, cap2, rfl⟩ := okWide_slice Try.underlying23 (hval 2 23 v2 rfl rfl)
  have k2 := h2
  have lt2 : ∀ x ∈ p2, x.block < W.heap.size := by obtain ⟨m, hm⟩ := k2; exact DataW.trod_lt m _ _ _ hm
  obtain ⟨z2, g2, n2, f2, m2⟩ := argsCommand Try.underlying23 (by kernel_rfl) (elemCommand (by kernel_rfl) Try.underlying80 (by kernel_rfl) Try.underlying2 Try.underlying2 Try.underlying2 Try.underlying22 (by kernel_rfl) (elem_rec2 (by kernel_rfl) Try.underlying93 (by kernel_rfl) Try.underlying2 Try.underlying2)) h2
  obtain ⟨z3, rfl, rfl, rfl, f3⟩ := open_int Try.underlying2 (hval 3 2 v3 rfl rfl) h3
  obtain ⟨z4, rfl, rfl, rfl, f4⟩ := open_int Try.underlying2 (hval 4 2 v4 rfl rfl) h4
  clear hA0 hval0
  refine (walkBranchWhile a0 len0 cap0 z0 a1 len1 cap1 z1 a2 len2 cap2 z2 z3 z4 W g0 m0 f0 g1 n1 m1 f1 g2 n2 m2 f2 (wf64_of f3) (wf64_of f4)).mono fun e W' ⟨he, bel⟩ => ?_
  subst he
  exact ⟨_, rfl, _, _, _, [], _, [], hW', trodAll_mk1 (shut_bool Try.underlying4 _), (trodAll_cons_mk (Below.trod laidOut (by kernel_rfl) (of_decide_eq_true (by kernel_rfl)) k0 bel lt0) (trodAll_cons_mk (Below.trod laidOut (by kernel_rfl) (of_decide_eq_true (by kernel_rfl)) k1 bel lt1) (trodAll_cons_mk (Below.trod laidOut (by kernel_rfl) (of_decide_eq_true (by kernel_rfl)) k2 bel lt2) (trodAll_cons_mk (shut_int Try.underlying2 f3) (trodAll_cons_mk (shut_int Try.underlying2 f4) trodAll_mk0))))), rfl, bel.frame _, fun h => by cases h⟩

theorem factA : Try.pinned.checked.prog.funcNamed Rows.fnExactBranchWhileRow.func = some 3 := by kernel_rfl
theorem factB : joinedFacts Try.pinned.checked.prog 3 Try.f3 Rows.fnExactBranchWhileSpec Rows.fnExactBranchWhileRow = true := by kernel_rfl
theorem factC : decide (Func.isInstance Try.pinned.checked.prog Try.f3 Rows.fnExactBranchWhileRow.origin Rows.fnExactBranchWhileRow.targs) = true := by kernel_rfl
theorem factD : Func.isWrapper Try.pinned.checked.prog Try.f3 Rows.fnExactBranchWhileRow.wrapper Rows.fnExactBranchWhileRow.mainSum := by
  unfold Func.isWrapper; first | (rw [if_pos (by decide +kernel)]; kernel_rfl) | (rw [if_neg (by decide +kernel)]; exact ⟨rfl, rfl⟩)

theorem over : Rows.fnExactBranchWhileRow.holds Try.pinned (OpenSpec.ofChange Rows.fnExactBranchWhileSpec) :=
  OpenClaim.holds_of_wide 3 Try.f3 rfl rfl rfl rfl rfl rfl rfl ⟨rfl, rfl, rfl, rfl, rfl⟩ rfl rfl rfl rfl rfl factA Try.func3 factB (of_decide_eq_true factC) factD
    (fun os started H enc _ => lifted os started H enc)

/-- The statement. -/
theorem proved : Rows.FnExactBranchWhileSaid := over
#print axioms proved
end Go.Proofs.Ytfmfpknigafnoaa.lawBranchWhile
