/- Valid machines, on both sides. -/
import Derived.Test.YtjakgeblmkdbpaaCfgPlain
import Derived.Test.YtjakgeblmkdbpaaHelpRule
import Derived.Test.YtjakgeblmkdbpaaSGrid
import Derived.Test.YtjakgeblmkdbpaaSeq
namespace Go.Proofs.Ytjakgeblmkdbpaa
open Go.RowKit
set_option linter.all false

theorem guardRule (op : BinOp) (a b : Operand) (xs ys : Array Value) (w : World) : Sem.run Try.prog (eqGuard op 136 a b (.agg xs) (.agg ys)) w = .ok () w := run_eqGuard_agg w op 136 a b xs ys (by kernel_rfl)
theorem eqRule_run (x : R3) (r : Bool) (h : noR x = r) (w : World) : Sem.run Try.prog (binOp .eql 136 (.agg #[.int .i64 x.a, .int .i64 x.b, .int .i64 x.c]) (.agg #[.int .i64 0, .int .i64 0, .int .i64 (-1)])) w = .ok (.bool r) w := by
  subst h
  have u3 := Try.underlying2
  have a3 := Try.isAgg2
  have z3 := Try.sizeOf2
  have hS : Try.prog.underlying 136 = some (.struct (Try.prog.fieldsOf 136)) := by kernel_rfl
  have hp : Try.prog.stoodInHeld 136 = false := by kernel_rfl
  rw [run_eql_struct, show (10000 : Nat) = 9999 + 1 from rfl, run_equalIn_agg w 9999 136 _ _ hS hp]
  simp only [Program.fieldsOf, Try.underlying136]
  go_simp
  unfold noR
  by_cases h1 : x.a = 0 <;> by_cases h2 : x.b = 0 <;> by_cases h3 : x.c = -1 <;> simp [h1, h2, h3]
theorem neRule_run (x : R3) (r : Bool) (h : (!noR x) = r) (w : World) : Sem.run Try.prog (binOp .neq 136 (.agg #[.int .i64 x.a, .int .i64 x.b, .int .i64 x.c]) (.agg #[.int .i64 0, .int .i64 0, .int .i64 (-1)])) w = .ok (.bool r) w := by
  subst h
  have u3 := Try.underlying2
  have a3 := Try.isAgg2
  have z3 := Try.sizeOf2
  have hS : Try.prog.underlying 136 = some (.struct (Try.prog.fieldsOf 136)) := by kernel_rfl
  have hp : Try.prog.stoodInHeld 136 = false := by kernel_rfl
  rw [run_neq_struct, show (10000 : Nat) = 9999 + 1 from rfl, run_equalIn_agg w 9999 136 _ _ hS hp]
  simp only [Program.fieldsOf, Try.underlying136]
  go_simp
  unfold noR
  by_cases h1 : x.a = 0 <;> by_cases h2 : x.b = 0 <;> by_cases h3 : x.c = -1 <;> simp [h1, h2, h3]

theorem l05None_any (w : World) : Calls Try.prog 93 #[] w fun e w' => e = .returned (.agg #[.int .i64 0, .int .i64 0, .int .i64 (-1)]) ∧ Below w.heap.size w w' := by
  have B := laid_below w (.cells #[.int .i64 0, .int .i64 0, .int .i64 (-1)] 136)
  go_enter Try.func93, Try.ntmps93
  go_wp2_with fail
  refine bodyPost_ret (v := .agg #[.int .i64 0, .int .i64 0, .int .i64 (-1)]) (by simp [results, Try.results93, go_sem]) rfl ?_
  exact ⟨rfl, B⟩
theorem noRule_any (w : World) : Calls Try.prog 156 #[] w fun e w' => e = .returned (.agg #[.int .i64 0, .int .i64 0, .int .i64 (-1)]) ∧ Below w.heap.size w w' := by
  have B := laid_below w (.cells #[.int .i64 0, .int .i64 0, .int .i64 (-1)] 136)
  go_enter Try.func156, Try.ntmps156
  go_wp2_with fail
  refine bodyPost_ret (v := .agg #[.int .i64 0, .int .i64 0, .int .i64 (-1)]) (by simp [results, Try.results156, go_sem]) rfl ?_
  exact ⟨rfl, B⟩
theorem ruleB_parts {S Q : Int} {x : R3} {v va v1 v2 vc : Bool} (hv : ruleB S Q x = v) (h0 : noR x = false) (ha : inB x.a 0 (S - 1) = va) (h1 : (x.b == 1) = v1) (h2 : (x.b == -1) = v2) (hc : inB x.c 0 (Q - 1) = vc) : ((va && (v1 || v2)) && vc) = v := by
  rw [← hv, ruleB, h0, Bool.false_or, ha, hc, ← h1, ← h2]; rfl

set_option maxRecDepth 100000 in
set_option maxHeartbeats 1000000 in
theorem l05Rule_is (x : R3) (S Q : Int) (v : Bool) (hv : ruleB S Q x = v) (w : World) (hS : 0 ≤ S ∧ S ≤ 1000) (hQ : 0 ≤ Q ∧ Q ≤ 1000) :
    Calls Try.prog 88 #[.agg #[.int .i64 x.a, .int .i64 x.b, .int .i64 x.c], .int .i64 S, .int .i64 Q] w fun e w' => e = .returned (.bool v) ∧ Below w.heap.size w w' := by
  obtain ⟨w1, HW1, B1, x1⟩ := al1 w (.cells #[.int .i64 x.a, .int .i64 x.b, .int .i64 x.c] 136)
  have l0 : w1.cell? ⟨w.heap.size, 0, none⟩ = some (.int .i64 x.a) := by rw [cell_of_heap x1]; rfl
  have l1 : w1.cell? ⟨w.heap.size, 1, none⟩ = some (.int .i64 x.b) := by rw [cell_of_heap x1]; rfl
  have l2 : w1.cell? ⟨w.heap.size, 2, none⟩ = some (.int .i64 x.c) := by rw [cell_of_heap x1]; rfl
  have ws : IntKind.i64.wrap (S - 1) = S - 1 := IntWalk.i64_in _ (by omega)
  have wq : IntKind.i64.wrap (Q - 1) = Q - 1 := IntWalk.i64_in _ (by omega)
  have hgd := guardRule
  clear x1
  rcases Bool.eq_false_or_eq_true (noR x) with h0 | h0
  · have HF : Hid (v = true) := by unfold Hid; rw [← hv, ruleB, h0]; rfl
    have hq := eqRule_run x true h0
    clear hv h0
    go_enter Try.func88, Try.ntmps88
    go_wp2_with fail
    rw [← HW1.out]
    go_region_held3 (fun W => W.cell? ⟨w.heap.size, 0, none⟩ = some (.int .i64 x.a) ∧ W.cell? ⟨w.heap.size, 1, none⟩ = some (.int .i64 x.b) ∧ W.cell? ⟨w.heap.size, 2, none⟩ = some (.int .i64 x.c)) (first | go_keep | exact ⟨r0, r1, r2⟩)
      ((go_at_call 93; refine (l05None_any _).mono ?_; rintro e w2 ⟨rfl, b2'⟩; have b2 := below_drew_at b2'; have r0 := cell_step (by exact l0) b2; have r1 := cell_step (by exact l1) b2; have r2 := cell_step (by exact l2) b2))
    all_goals
      have B2 := below_step B1 b2
      clear l0 l1 l2 b2'
      go_wp2_with fail
      go_ret
      exact ⟨ret_bool HF.out.symm, B2⟩
  · obtain ⟨va, ha⟩ : ∃ va, inB x.a 0 (S - 1) = va := ⟨_, rfl⟩
    obtain ⟨v1, e1⟩ : ∃ v1, (x.b == 1) = v1 := ⟨_, rfl⟩
    obtain ⟨v2, e2⟩ : ∃ v2, (x.b == -1) = v2 := ⟨_, rfl⟩
    obtain ⟨vc, hc⟩ : ∃ vc, inB x.c 0 (Q - 1) = vc := ⟨_, rfl⟩
    have HF := Lib.hid (ruleB_parts hv h0 ha e1 e2 hc)
    have HA := Lib.hid ha; have HC := Lib.hid hc
    have hq := eqRule_run x false h0
    clear hv h0 ha hc
    go_enter Try.func88, Try.ntmps88
    go_wp2_with fail
    rw [← HW1.out]
    go_region_held3 (fun W => W.cell? ⟨w.heap.size, 0, none⟩ = some (.int .i64 x.a) ∧ W.cell? ⟨w.heap.size, 1, none⟩ = some (.int .i64 x.b) ∧ W.cell? ⟨w.heap.size, 2, none⟩ = some (.int .i64 x.c)) (first | go_keep | exact ⟨r0, r1, r2⟩)
      ((go_at_call 93; refine (l05None_any _).mono ?_; rintro e w2 ⟨rfl, b2'⟩; have b2 := below_drew_at b2'; have r0 := cell_step (by exact l0) b2; have r1 := cell_step (by exact l1) b2; have r2 := cell_step (by exact l2) b2))
    all_goals
      have B2 := below_step B1 b2
      clear l0 l1 l2 b2' b2
      cases va
      · go_wp2_with fail
        refine (l00In_is x.a 0 (S - 1) _ HA.out _).mono ?_
        rintro e w' ⟨rfl, rfl⟩
        go_wp2_with fail
        go_ret
        exact ⟨ret_bool (by rw [← HF.out]; simp), B2⟩
      go_wp2_with fail
      refine (l00In_is x.a 0 (S - 1) _ HA.out _).mono ?_
      rintro e w' ⟨rfl, hw'⟩
      subst hw'
      cases v1
      · cases v2
        · go_wp2_with fail
          go_ret
          exact ⟨ret_bool (by rw [← HF.out]; simp), B2⟩
        · go_wp2_with fail
          refine (l00In_is x.c 0 (Q - 1) _ HC.out _).mono ?_
          rintro e w' ⟨rfl, rfl⟩
          go_wp2_with fail
          go_ret
          exact ⟨ret_bool (by rw [← HF.out]; first | done | simp), B2⟩
      · go_wp2_with fail
        refine (l00In_is x.c 0 (Q - 1) _ HC.out _).mono ?_
        rintro e w' ⟨rfl, rfl⟩
        go_wp2_with fail
        go_ret
        exact ⟨ret_bool (by rw [← HF.out]; first | done | simp), B2⟩

set_option maxRecDepth 100000 in
set_option maxHeartbeats 1000000 in
theorem isRule_is (x : R3) (v : Bool) (hv : (!noR x) = v) (w : World) : Calls Try.prog 100 #[.agg #[.int .i64 x.a, .int .i64 x.b, .int .i64 x.c]] w fun e w' => e = .returned (.bool v) ∧ Below w.heap.size w w' := by
  obtain ⟨w1, HW1, B1, x1⟩ := al1 w (.cells #[.int .i64 x.a, .int .i64 x.b, .int .i64 x.c] 136)
  have l0 : w1.cell? ⟨w.heap.size, 0, none⟩ = some (.int .i64 x.a) := by rw [cell_of_heap x1]; rfl
  have l1 : w1.cell? ⟨w.heap.size, 1, none⟩ = some (.int .i64 x.b) := by rw [cell_of_heap x1]; rfl
  have l2 : w1.cell? ⟨w.heap.size, 2, none⟩ = some (.int .i64 x.c) := by rw [cell_of_heap x1]; rfl
  have hgd := guardRule
  have hq := neRule_run x v hv
  clear x1 hv
  go_enter Try.func100, Try.ntmps100
  go_wp2_with fail
  rw [← HW1.out]
  go_region_held3 (fun W => W.cell? ⟨w.heap.size, 0, none⟩ = some (.int .i64 x.a) ∧ W.cell? ⟨w.heap.size, 1, none⟩ = some (.int .i64 x.b) ∧ W.cell? ⟨w.heap.size, 2, none⟩ = some (.int .i64 x.c)) (first | go_keep | exact ⟨r0, r1, r2⟩)
    ((go_at_call 156; refine (noRule_any _).mono ?_; rintro e w2 ⟨rfl, b2'⟩; have b2 := below_drew_at b2'; have r0 := cell_step (by exact l0) b2; have r1 := cell_step (by exact l1) b2; have r2 := cell_step (by exact l2) b2))
  all_goals
    have B2 := below_step B1 b2
    clear l0 l1 l2 b2'
    go_wp2_with fail
    go_ret
    exact ⟨rfl, B2⟩

set_option maxRecDepth 100000 in
set_option maxHeartbeats 1000000 in
theorem validRule_is (x : R3) (S Q : Int) (V : Value) (hV : V.oneCell' = true) (v : Bool) (hv : ruleB S Q x = v) (w : World) (hS : 0 ≤ S ∧ S ≤ 1000) (hQ : 0 ≤ Q ∧ Q ≤ 1000) :
    Calls Try.prog 120 #[.agg #[.int .i64 S, .int .i64 Q, V], .agg #[.int .i64 x.a, .int .i64 x.b, .int .i64 x.c]] w fun e w' => e = .returned (.bool v) ∧ Below w.heap.size w w' := by
  obtain ⟨w1, HW1, B1, x1, y1⟩ := al2 w (.cells #[.int .i64 S, .int .i64 Q, V] 34) (.cells #[.int .i64 x.a, .int .i64 x.b, .int .i64 x.c] 136)
  have m0 : w1.cell? ⟨w.heap.size, 0, none⟩ = some (.int .i64 S) := by rw [cell_of_heap x1]; rfl
  have m1 : w1.cell? ⟨w.heap.size, 1, none⟩ = some (.int .i64 Q) := by rw [cell_of_heap x1]; rfl
  have l0 : w1.cell? ⟨w.heap.size + 1, 0, none⟩ = some (.int .i64 x.a) := by rw [cell_of_heap y1]; rfl
  have l1 : w1.cell? ⟨w.heap.size + 1, 1, none⟩ = some (.int .i64 x.b) := by rw [cell_of_heap y1]; rfl
  have l2 : w1.cell? ⟨w.heap.size + 1, 2, none⟩ = some (.int .i64 x.c) := by rw [cell_of_heap y1]; rfl
  have ws : IntKind.i64.wrap (S - 1) = S - 1 := IntWalk.i64_in _ (by omega)
  have wq : IntKind.i64.wrap (Q - 1) = Q - 1 := IntWalk.i64_in _ (by omega)
  clear x1 y1
  rcases Bool.eq_false_or_eq_true (noR x) with h0 | h0
  · have HF : Hid (v = true) := by unfold Hid; rw [← hv, ruleB, h0]; rfl
    have HI : Hid ((!noR x) = false) := by unfold Hid; rw [h0]; rfl
    clear hv h0
    go_enter Try.func120, Try.ntmps120
    go_wp2_with fail
    rw [← HW1.out]
    refine (isRule_is x false HI.out _).mono ?_
    rintro e w2 ⟨rfl, b2⟩
    have B2 := below_step B1 b2
    go_wp2_with fail
    go_ret
    exact ⟨ret_bool HF.out.symm, B2⟩
  have HI : Hid ((!noR x) = true) := by unfold Hid; rw [h0]; rfl
  obtain ⟨va, ha⟩ : ∃ va, inB x.a 0 (S - 1) = va := ⟨_, rfl⟩
  obtain ⟨v1, e1⟩ : ∃ v1, (x.b == 1) = v1 := ⟨_, rfl⟩
  obtain ⟨v2, e2⟩ : ∃ v2, (x.b == -1) = v2 := ⟨_, rfl⟩
  obtain ⟨vc, hc⟩ : ∃ vc, inB x.c 0 (Q - 1) = vc := ⟨_, rfl⟩
  have HF := Lib.hid (ruleB_parts hv h0 ha e1 e2 hc)
  have HA := Lib.hid ha; have HC := Lib.hid hc
  clear hv h0 ha hc
  go_enter Try.func120, Try.ntmps120
  go_wp2_with fail
  rw [← HW1.out]
  refine (isRule_is x true HI.out _).mono ?_
  rintro e w2 ⟨rfl, b2⟩
  have B2 := below_step B1 b2
  have n0 := cell_step (by exact m0) b2
  have n1 := cell_step (by exact m1) b2
  have r0 := cell_step (by exact l0) b2
  have r1 := cell_step (by exact l1) b2
  have r2 := cell_step (by exact l2) b2
  clear m0 m1 l0 l1 l2 b2
  cases va
  · go_wp2_with fail
    refine (within_is x.a 0 (S - 1) _ HA.out _).mono ?_
    rintro e w' ⟨rfl, rfl⟩
    go_wp2_with fail
    go_ret
    exact ⟨ret_bool (by rw [← HF.out]; simp), B2⟩
  go_wp2_with fail
  refine (within_is x.a 0 (S - 1) _ HA.out _).mono ?_
  rintro e w' ⟨rfl, hw'⟩
  subst hw'
  cases v2
  · cases v1
    · go_wp2_with fail
      go_ret
      exact ⟨ret_bool (by rw [← HF.out]; simp), B2⟩
    · go_wp2_with fail
      refine (within_is x.c 0 (Q - 1) _ HC.out _).mono ?_
      rintro e w' ⟨rfl, rfl⟩
      go_wp2_with fail
      go_ret
      exact ⟨ret_bool (by rw [← HF.out]; first | done | simp), B2⟩
  · go_wp2_with fail
    refine (within_is x.c 0 (Q - 1) _ HC.out _).mono ?_
    rintro e w' ⟨rfl, rfl⟩
    go_wp2_with fail
    go_ret
    exact ⟨ret_bool (by rw [← HF.out]; first | done | simp), B2⟩
end Go.Proofs.Ytjakgeblmkdbpaa
