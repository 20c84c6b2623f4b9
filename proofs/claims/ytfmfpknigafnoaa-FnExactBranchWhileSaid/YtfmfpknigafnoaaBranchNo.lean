/- Where BranchWhile refuses, both sides. -/
import Derived.Test.YtfmfpknigafnoaaBranchParts
namespace Go.Proofs.Ytfmfpknigafnoaa
open Go.RowKit
set_option linter.all false

theorem l22Expr_bel (A : Option Addr) (n c : Nat) (xs : List R2) (v : Bool) (hv : validE xs = v) (w : World) (ha : Args 2 w A n (rows R2.vs xs)) (hn : n ≤ 1048576) :
    Calls Try.prog 55 #[.slice A n c] w fun e w' => e = .returned (.bool v) ∧ Below w.heap.size w w' :=
  (l22Expr_is A n c xs v hv w ha hn).mono (by rintro _ _ ⟨h, rfl⟩; exact ⟨h, Below.refl _ _⟩)

set_option maxRecDepth 100000 in
set_option maxHeartbeats 1000000 in
theorem specBranchNo_any (b0 o0 n0 c0 : Nat) (x0 : List R2) (b1 o1 n1 c1 : Nat) (e1 : List ECommand) (x1 : List DCommand) (b2 o2 n2 c2 : Nat) (e2 : List ECommand) (x2 : List DCommand) (f s : Int) (w : World) (s0 : Sl w b0 o0 (rows R2.vs x0)) (h0 : x0.length = n0) (m0 : n0 ≤ 1048576)
    (s1 : Sl w b1 o1 (rows ECommand.vs e1)) (r1 : RdsCommand w e1) (d1 : e1.map (·.d) = x1) (h1 : x1.length = n1) (m1 : n1 ≤ 1048576) (hc1 : n1 ≤ c1) (t1 : sumCommand x1 ≤ 1048576) (wf1 : ∀ x ∈ x1, x.wf)
    (s2 : Sl w b2 o2 (rows ECommand.vs e2)) (r2 : RdsCommand w e2) (d2 : e2.map (·.d) = x2) (h2 : x2.length = n2) (m2 : n2 ≤ 1048576) (hc2 : n2 ≤ c2) (t2 : sumCommand x2 ≤ 1048576) (wf2 : ∀ x ∈ x2, x.wf)
    (hno : ¬ ((validE x0 = true ∧ validWhile x1 = true ∧ validWhile x2 = true) ∧ (inB f 0 5 = true ∧ inB s 0 5 = true ∧ f ≠ s))) :
    Calls Try.prog 11 #[.slice (some ⟨b0, o0, none⟩) n0 c0, .slice (some ⟨b1, o1, none⟩) n1 c1, .slice (some ⟨b2, o2, none⟩) n2 c2, .int .i64 f, .int .i64 s] w fun z w' => ∃ v es, z = .returned (.tuple #[v, .int .i64 (branchWhile x0 x1 x2 f s).2]) ∧ SGrid kndCommand w.heap.size w'.heap.size 87 85 2 v es w' ∧ es.map (·.d) = (branchWhile x0 x1 x2 f s).1 ∧ Below w.heap.size w w' := by
  have a0 := Args.of_sl (s := 2) (n := n0) s0 (by rw [rows_len R2.vs_len, h0])
  have VE := Lib.hid fun W (hb : Below w.heap.size w W) => l22Expr_bel _ n0 c0 x0 _ rfl W (a0.below hb) m0
  have V1 := Lib.hid fun W (hb : Below w.heap.size w W) => specIs_any b1 o1 n1 c1 e1 x1 W (s1.below' hb) (r1.below hb) d1 h1 m1 t1 _ rfl
  have V2 := Lib.hid fun W (hb : Below w.heap.size w W) => specIs_any b2 o2 n2 c2 e2 x2 W (s2.below' hb) (r2.below hb) d2 h2 m2 t2 _ rfl
  have HNO := Lib.hid hno
  clear hno a0 s0 h0 s1 r1 d1 h1 t1 wf1 s2 r2 d2 h2 t2 wf2
  rcases Bool.eq_false_or_eq_true (validE x0) with g0 | g0
  rotate_left
  · have HE : Hid (branchWhile x0 x1 x2 f s = ([], 1)) := by unfold Hid branchWhile; rw [if_neg (by rw [g0]; simp)]
    rw [g0] at VE
    go_enter Try.func11, Try.ntmps11
    go_wp2_with fail
    refine (VE.out _ (Below.refl _ _)).mono ?_
    rintro z w1 ⟨rfl, q1⟩
    have B1 := below_step (Below.refl _ _) q1
    go_wp2
    go_ret2
    rw [HE.out]
    exact ⟨_, [], rfl, SGrid.nil _ _ _ _ _ _ _, rfl, B1⟩
  rcases Bool.eq_false_or_eq_true (validWhile x1) with g1 | g1
  rotate_left
  · have HE : Hid (branchWhile x0 x1 x2 f s = ([], 1)) := by unfold Hid branchWhile; rw [if_neg (by rw [g1]; simp)]
    rw [g0] at VE
    rw [g1] at V1
    go_enter Try.func11, Try.ntmps11
    go_wp2_with fail
    refine (VE.out _ (Below.refl _ _)).mono ?_
    rintro z w1 ⟨rfl, q1⟩
    have B1 := below_step (Below.refl _ _) q1
    go_wp2_with fail
    refine (V1.out _ B1).mono ?_
    rintro z w2 ⟨rfl, q2⟩
    have B2 := below_step B1 q2
    go_wp2
    go_ret2
    rw [HE.out]
    exact ⟨_, [], rfl, SGrid.nil _ _ _ _ _ _ _, rfl, B2⟩
  rcases Bool.eq_false_or_eq_true (validWhile x2) with g2 | g2
  rotate_left
  · have HE : Hid (branchWhile x0 x1 x2 f s = ([], 1)) := by unfold Hid branchWhile; rw [if_neg (by rw [g2]; simp)]
    rw [g0] at VE
    rw [g1] at V1
    rw [g2] at V2
    go_enter Try.func11, Try.ntmps11
    go_wp2_with fail
    refine (VE.out _ (Below.refl _ _)).mono ?_
    rintro z w1 ⟨rfl, q1⟩
    have B1 := below_step (Below.refl _ _) q1
    go_wp2_with fail
    refine (V1.out _ B1).mono ?_
    rintro z w2 ⟨rfl, q2⟩
    have B2 := below_step B1 q2
    go_wp2_with fail
    refine (V2.out _ B2).mono ?_
    rintro z w3 ⟨rfl, q3⟩
    have B3 := below_step B2 q3
    go_wp2
    go_ret2
    rw [HE.out]
    exact ⟨_, [], rfl, SGrid.nil _ _ _ _ _ _ _, rfl, B3⟩
  have HT : Hid (∀ q : ¬ (inB f 0 5 = true ∧ inB s 0 5 = true ∧ f ≠ s), branchWhile x0 x1 x2 f s = ([], 2)) := by intro q; unfold branchWhile; rw [if_pos ⟨g0, g1, g2⟩, if_neg q]
  have HR : Hid (¬ (inB f 0 5 = true ∧ inB s 0 5 = true ∧ f ≠ s)) := fun q => HNO.out ⟨⟨g0, g1, g2⟩, q⟩
  rw [g0] at VE
  rw [g1] at V1
  rw [g2] at V2
  have HE : Hid (branchWhile x0 x1 x2 f s = ([], 2)) := HT.out HR.out
  clear g0 g1 g2
  rcases Bool.eq_false_or_eq_true (inB f 0 5) with q0 | q0
  rotate_left
  · have Q0 := Lib.hid q0; clear q0
    go_enter Try.func11, Try.ntmps11
    go_wp2_with fail
    refine (VE.out _ (Below.refl _ _)).mono ?_
    rintro z w1 ⟨rfl, q1⟩
    have B1 := below_step (Below.refl _ _) q1
    go_wp2_with fail
    refine (V1.out _ B1).mono ?_
    rintro z w2 ⟨rfl, q2⟩
    have B2 := below_step B1 q2
    go_wp2_with fail
    refine (V2.out _ B2).mono ?_
    rintro z w3 ⟨rfl, q3⟩
    have B3 := below_step B2 q3
    go_wp2_with fail
    refine (l00In_is f 0 5 false Q0.out _).mono ?_
    rintro z w4 ⟨rfl, rfl⟩
    go_wp2
    go_ret2
    rw [HE.out]
    exact ⟨_, [], rfl, SGrid.nil _ _ _ _ _ _ _, rfl, B3⟩
  have Q0 := Lib.hid q0
  rcases Bool.eq_false_or_eq_true (inB s 0 5) with q1 | q1
  rotate_left
  · have Q1 := Lib.hid q1; clear q0 q1
    go_enter Try.func11, Try.ntmps11
    go_wp2_with fail
    refine (VE.out _ (Below.refl _ _)).mono ?_
    rintro z w1 ⟨rfl, q1⟩
    have B1 := below_step (Below.refl _ _) q1
    go_wp2_with fail
    refine (V1.out _ B1).mono ?_
    rintro z w2 ⟨rfl, q2⟩
    have B2 := below_step B1 q2
    go_wp2_with fail
    refine (V2.out _ B2).mono ?_
    rintro z w3 ⟨rfl, q3⟩
    have B3 := below_step B2 q3
    go_wp2_with fail
    refine (l00In_is f 0 5 true Q0.out _).mono ?_
    rintro z w4 ⟨rfl, rfl⟩
    go_wp2_with fail
    refine (l00In_is s 0 5 false Q1.out _).mono ?_
    rintro z w5 ⟨rfl, rfl⟩
    go_wp2
    go_ret2
    rw [HE.out]
    exact ⟨_, [], rfl, SGrid.nil _ _ _ _ _ _ _, rfl, B3⟩
  have Q1 := Lib.hid q1
  obtain rfl : f = s := by
    by_cases h : f = s
    · exact h
    · exact absurd ⟨q0, q1, h⟩ HR.out
  clear q0 q1
  · go_enter Try.func11, Try.ntmps11
    go_wp2_with fail
    refine (VE.out _ (Below.refl _ _)).mono ?_
    rintro z w1 ⟨rfl, q1⟩
    have B1 := below_step (Below.refl _ _) q1
    go_wp2_with fail
    refine (V1.out _ B1).mono ?_
    rintro z w2 ⟨rfl, q2⟩
    have B2 := below_step B1 q2
    go_wp2_with fail
    refine (V2.out _ B2).mono ?_
    rintro z w3 ⟨rfl, q3⟩
    have B3 := below_step B2 q3
    go_wp2_with fail
    refine (l00In_is f 0 5 true Q0.out _).mono ?_
    rintro z w4 ⟨rfl, rfl⟩
    go_wp2_with fail
    refine (l00In_is f 0 5 true Q1.out _).mono ?_
    rintro z w5 ⟨rfl, rfl⟩
    go_wp2
    go_ret2
    rw [HE.out]
    exact ⟨_, [], rfl, SGrid.nil _ _ _ _ _ _ _, rfl, B3⟩

set_option maxRecDepth 100000 in
set_option maxHeartbeats 1000000 in
theorem implBranchNo_any (b0 o0 n0 c0 : Nat) (x0 : List R2) (b1 o1 n1 c1 : Nat) (e1 : List ECommand) (x1 : List DCommand) (b2 o2 n2 c2 : Nat) (e2 : List ECommand) (x2 : List DCommand) (f s : Int) (w : World) (s0 : Sl w b0 o0 (rows R2.vs x0)) (h0 : x0.length = n0) (m0 : n0 ≤ 1048576)
    (s1 : Sl w b1 o1 (rows ECommand.vs e1)) (r1 : RdsCommand w e1) (d1 : e1.map (·.d) = x1) (h1 : x1.length = n1) (m1 : n1 ≤ 1048576) (hc1 : n1 ≤ c1) (t1 : sumCommand x1 ≤ 1048576) (wf1 : ∀ x ∈ x1, x.wf)
    (s2 : Sl w b2 o2 (rows ECommand.vs e2)) (r2 : RdsCommand w e2) (d2 : e2.map (·.d) = x2) (h2 : x2.length = n2) (m2 : n2 ≤ 1048576) (hc2 : n2 ≤ c2) (t2 : sumCommand x2 ≤ 1048576) (wf2 : ∀ x ∈ x2, x.wf)
    (hno : ¬ ((validE x0 = true ∧ validWhile x1 = true ∧ validWhile x2 = true) ∧ (inB f 0 5 = true ∧ inB s 0 5 = true ∧ f ≠ s))) :
    Calls Try.prog 14 #[.slice (some ⟨b0, o0, none⟩) n0 c0, .slice (some ⟨b1, o1, none⟩) n1 c1, .slice (some ⟨b2, o2, none⟩) n2 c2, .int .i64 f, .int .i64 s] w fun z w' => ∃ v es, z = .returned (.tuple #[v, .int .i64 (branchWhile x0 x1 x2 f s).2]) ∧ SGrid kndCommand w.heap.size w'.heap.size 87 85 2 v es w' ∧ es.map (·.d) = (branchWhile x0 x1 x2 f s).1 ∧ Below w.heap.size w w' := by
  have a0 := Args.of_sl (s := 2) (n := n0) s0 (by rw [rows_len R2.vs_len, h0])
  have VE := Lib.hid fun W (hb : Below w.heap.size w W) => implValidExpr_is _ n0 c0 x0 _ rfl W (a0.below hb) m0
  have V1 := Lib.hid fun W (hb : Below w.heap.size w W) => implValidWhile_any b1 o1 n1 c1 e1 x1 W (s1.below' hb) (r1.below hb) d1 h1 m1 hc1 t1 wf1
  have V2 := Lib.hid fun W (hb : Below w.heap.size w W) => implValidWhile_any b2 o2 n2 c2 e2 x2 W (s2.below' hb) (r2.below hb) d2 h2 m2 hc2 t2 wf2
  have HNO := Lib.hid hno
  clear hno a0 s0 h0 s1 r1 d1 h1 t1 wf1 s2 r2 d2 h2 t2 wf2
  rcases Bool.eq_false_or_eq_true (validE x0) with g0 | g0
  rotate_left
  · have HE : Hid (branchWhile x0 x1 x2 f s = ([], 1)) := by unfold Hid branchWhile; rw [if_neg (by rw [g0]; simp)]
    rw [g0] at VE
    go_enter Try.func14, Try.ntmps14
    go_wp2_with fail
    refine (VE.out _ (Below.refl _ _)).mono ?_
    rintro z w1 ⟨rfl, q1⟩
    have B1 := below_step (Below.refl _ _) q1
    go_wp2
    go_ret2
    rw [HE.out]
    exact ⟨_, [], rfl, SGrid.nil _ _ _ _ _ _ _, rfl, B1⟩
  rcases Bool.eq_false_or_eq_true (validWhile x1) with g1 | g1
  rotate_left
  · have HE : Hid (branchWhile x0 x1 x2 f s = ([], 1)) := by unfold Hid branchWhile; rw [if_neg (by rw [g1]; simp)]
    rw [g0] at VE
    rw [g1] at V1
    go_enter Try.func14, Try.ntmps14
    go_wp2_with fail
    refine (VE.out _ (Below.refl _ _)).mono ?_
    rintro z w1 ⟨rfl, q1⟩
    have B1 := below_step (Below.refl _ _) q1
    go_wp2_with fail
    refine (V1.out _ B1).mono ?_
    rintro z w2 ⟨rfl, q2⟩
    have B2 := below_step B1 q2
    go_wp2
    go_ret2
    rw [HE.out]
    exact ⟨_, [], rfl, SGrid.nil _ _ _ _ _ _ _, rfl, B2⟩
  rcases Bool.eq_false_or_eq_true (validWhile x2) with g2 | g2
  rotate_left
  · have HE : Hid (branchWhile x0 x1 x2 f s = ([], 1)) := by unfold Hid branchWhile; rw [if_neg (by rw [g2]; simp)]
    rw [g0] at VE
    rw [g1] at V1
    rw [g2] at V2
    go_enter Try.func14, Try.ntmps14
    go_wp2_with fail
    refine (VE.out _ (Below.refl _ _)).mono ?_
    rintro z w1 ⟨rfl, q1⟩
    have B1 := below_step (Below.refl _ _) q1
    go_wp2_with fail
    refine (V1.out _ B1).mono ?_
    rintro z w2 ⟨rfl, q2⟩
    have B2 := below_step B1 q2
    go_wp2_with fail
    refine (V2.out _ B2).mono ?_
    rintro z w3 ⟨rfl, q3⟩
    have B3 := below_step B2 q3
    go_wp2
    go_ret2
    rw [HE.out]
    exact ⟨_, [], rfl, SGrid.nil _ _ _ _ _ _ _, rfl, B3⟩
  have HT : Hid (∀ q : ¬ (inB f 0 5 = true ∧ inB s 0 5 = true ∧ f ≠ s), branchWhile x0 x1 x2 f s = ([], 2)) := by intro q; unfold branchWhile; rw [if_pos ⟨g0, g1, g2⟩, if_neg q]
  have HR : Hid (¬ (inB f 0 5 = true ∧ inB s 0 5 = true ∧ f ≠ s)) := fun q => HNO.out ⟨⟨g0, g1, g2⟩, q⟩
  rw [g0] at VE
  rw [g1] at V1
  rw [g2] at V2
  have HE : Hid (branchWhile x0 x1 x2 f s = ([], 2)) := HT.out HR.out
  clear g0 g1 g2
  rcases Bool.eq_false_or_eq_true (inB f 0 5) with q0 | q0
  rotate_left
  · have Q0 := Lib.hid q0; clear q0
    go_enter Try.func14, Try.ntmps14
    go_wp2_with fail
    refine (VE.out _ (Below.refl _ _)).mono ?_
    rintro z w1 ⟨rfl, q1⟩
    have B1 := below_step (Below.refl _ _) q1
    go_wp2_with fail
    refine (V1.out _ B1).mono ?_
    rintro z w2 ⟨rfl, q2⟩
    have B2 := below_step B1 q2
    go_wp2_with fail
    refine (V2.out _ B2).mono ?_
    rintro z w3 ⟨rfl, q3⟩
    have B3 := below_step B2 q3
    go_wp2_with fail
    refine (isWhileVariable_is f false Q0.out _).mono ?_
    rintro z w4 ⟨rfl, rfl⟩
    go_wp2
    go_ret2
    rw [HE.out]
    exact ⟨_, [], rfl, SGrid.nil _ _ _ _ _ _ _, rfl, B3⟩
  have Q0 := Lib.hid q0
  rcases Bool.eq_false_or_eq_true (inB s 0 5) with q1 | q1
  rotate_left
  · have Q1 := Lib.hid q1; clear q0 q1
    go_enter Try.func14, Try.ntmps14
    go_wp2_with fail
    refine (VE.out _ (Below.refl _ _)).mono ?_
    rintro z w1 ⟨rfl, q1⟩
    have B1 := below_step (Below.refl _ _) q1
    go_wp2_with fail
    refine (V1.out _ B1).mono ?_
    rintro z w2 ⟨rfl, q2⟩
    have B2 := below_step B1 q2
    go_wp2_with fail
    refine (V2.out _ B2).mono ?_
    rintro z w3 ⟨rfl, q3⟩
    have B3 := below_step B2 q3
    go_wp2_with fail
    refine (isWhileVariable_is f true Q0.out _).mono ?_
    rintro z w4 ⟨rfl, rfl⟩
    go_wp2_with fail
    refine (isWhileVariable_is s false Q1.out _).mono ?_
    rintro z w5 ⟨rfl, rfl⟩
    go_wp2
    go_ret2
    rw [HE.out]
    exact ⟨_, [], rfl, SGrid.nil _ _ _ _ _ _ _, rfl, B3⟩
  have Q1 := Lib.hid q1
  obtain rfl : f = s := by
    by_cases h : f = s
    · exact h
    · exact absurd ⟨q0, q1, h⟩ HR.out
  clear q0 q1
  · go_enter Try.func14, Try.ntmps14
    go_wp2_with fail
    refine (VE.out _ (Below.refl _ _)).mono ?_
    rintro z w1 ⟨rfl, q1⟩
    have B1 := below_step (Below.refl _ _) q1
    go_wp2_with fail
    refine (V1.out _ B1).mono ?_
    rintro z w2 ⟨rfl, q2⟩
    have B2 := below_step B1 q2
    go_wp2_with fail
    refine (V2.out _ B2).mono ?_
    rintro z w3 ⟨rfl, q3⟩
    have B3 := below_step B2 q3
    go_wp2_with fail
    refine (isWhileVariable_is f true Q0.out _).mono ?_
    rintro z w4 ⟨rfl, rfl⟩
    go_wp2_with fail
    refine (isWhileVariable_is f true Q1.out _).mono ?_
    rintro z w5 ⟨rfl, rfl⟩
    go_wp2
    go_ret2
    rw [HE.out]
    exact ⟨_, [], rfl, SGrid.nil _ _ _ _ _ _ _, rfl, B3⟩

end Go.Proofs.Ytfmfpknigafnoaa
