/- The walk of the law FnExactBranchWhile: it returns true, whatever the arguments, and writes nothing that was there. -/
import Derived.Test.YtfmfpknigafnoaaBranchWhile
import Derived.Test.YtfmfpknigafnoaaHelpCommand
import Derived.Test.YtfmfpknigafnoaaHelpExpr
import Derived.Test.YtfmfpknigafnoaaHeld
namespace Go.Proofs.Ytfmfpknigafnoaa
open Go.RowKit

set_option maxRecDepth 100000 in
set_option maxHeartbeats 4000000 in
theorem walkBranchWhile (A0 : Option Addr) (n0 c0 : Nat) (x0 : List R2) (A1 : Option Addr) (n1 c1 : Nat) (x1 : List ECommand) (A2 : Option Addr) (n2 c2 : Nat) (x2 : List ECommand) (x3 : Int) (x4 : Int) (w : World) (h0 : Args 2 w A0 n0 (rows R2.vs x0)) (m0 : n0 ≤ maxLen) (f0 : ∀ x ∈ x0, x.wf) (h1 : Args 4 w A1 n1 (rows ECommand.vs x1)) (r1 : RdsCommand w x1) (m1 : n1 ≤ maxLen) (f1 : ∀ e ∈ x1, wbCommand 9223372036854775807 e.d ∧ e.d.wf) (h2 : Args 4 w A2 n2 (rows ECommand.vs x2)) (r2 : RdsCommand w x2) (m2 : n2 ≤ maxLen) (f2 : ∀ e ∈ x2, wbCommand 9223372036854775807 e.d ∧ e.d.wf) (f3 : Wf64 x3) (f4 : Wf64 x4) :
    Calls Try.prog 3 #[.slice A0 n0 c0, .slice A1 n1 c1, .slice A2 n2 c2, .int .i64 x3, .int .i64 x4] w fun e w' => e = .returned (.bool true) ∧ Below w.heap.size w w' := by
  unfold maxLen at m0
  unfold maxLen at m1
  unfold maxLen at m2
  have H0 : Hid (x0.length = n0) := by have := h0.1; rw [rows_len R2.vs_len] at this; unfold Hid; omega
  obtain ⟨d1, D1⟩ : ∃ d, Hid (x1.map (·.d) = d) := ⟨_, rfl⟩
  have H1 : Hid (d1.length = n1) := by have := h1.1; rw [rows_len (s := 4) (fun _ => rfl)] at this; unfold Hid; rw [← D1.out, List.length_map]; omega
  have W1 : Hid (∀ x ∈ d1, x.wf) := by unfold Hid; rw [← D1.out]; intro x hx; obtain ⟨e, he, rfl⟩ := List.mem_map.1 hx; exact (f1 e he).2
  have F1 : Hid (∀ e ∈ x1, wbCommand 9223372036854775807 e.d) := fun e he => (f1 e he).1
  clear f1
  obtain ⟨t1, T1⟩ : ∃ t1 : Nat, Hid (sumCommand d1 = t1) := ⟨_, rfl⟩
  obtain ⟨d2, D2⟩ : ∃ d, Hid (x2.map (·.d) = d) := ⟨_, rfl⟩
  have H2 : Hid (d2.length = n2) := by have := h2.1; rw [rows_len (s := 4) (fun _ => rfl)] at this; unfold Hid; rw [← D2.out, List.length_map]; omega
  have W2 : Hid (∀ x ∈ d2, x.wf) := by unfold Hid; rw [← D2.out]; intro x hx; obtain ⟨e, he, rfl⟩ := List.mem_map.1 hx; exact (f2 e he).2
  have F2 : Hid (∀ e ∈ x2, wbCommand 9223372036854775807 e.d) := fun e he => (f2 e he).1
  clear f2
  obtain ⟨t2, T2⟩ : ∃ t2 : Nat, Hid (sumCommand d2 = t2) := ⟨_, rfl⟩
  by_cases z0 : n0 ≤ 1048576
  rotate_left
  · go_enter Try.func3, Try.ntmps3
    have B0 : Below w.heap.size w w := Below.refl _ _
    go_wp2_with fail
    refine (szExprS_not A0 n0 c0 1048576 _ (by omega) (by omega) (by omega)).mono ?_
    rintro e w' ⟨rfl, rfl⟩
    go_wp2_with fail
    go_ret
    exact ⟨rfl, B0⟩
  obtain ⟨r'0, R0⟩ : ∃ r' : Nat, Hid (r' + (n0) = 1048576) := ⟨1048576 - (n0), by unfold Hid; omega⟩
  have q0 : r'0 ≤ 1048576 := by have := R0.out; omega
  have s0 : n0 ≤ 1048576 := by omega
  by_cases z1 : n1 + t1 ≤ r'0
  rotate_left
  · go_enter Try.func3, Try.ntmps3
    have B0 : Below w.heap.size w w := Below.refl _ _
    go_wp2_with fail
    refine (szExprS_is A0 n0 c0 1048576 r'0 _ R0.out (by omega)).mono ?_
    rintro e w' ⟨rfl, rfl⟩
    go_wp2_with fail
    refine (szCommandS_not A1 n1 c1 r'0 x1 _ (h1.below B0) (r1.below B0) (by rw [D1.out]; have := T1.out; omega) (by omega) (by omega) F1.out).mono ?_
    rintro e w' ⟨rfl, bz⟩
    go_wp2_with fail
    go_ret
    exact ⟨rfl, (below_step B0 bz)⟩
  obtain ⟨r'1, R1⟩ : ∃ r' : Nat, Hid (r' + (n1 + t1) = r'0) := ⟨r'0 - (n1 + t1), by unfold Hid; omega⟩
  have q1 : r'1 ≤ 1048576 := by have := R1.out; omega
  have s1 : n1 ≤ 1048576 := by omega
  have u1 : t1 ≤ 1048576 := by omega
  by_cases z2 : n2 + t2 ≤ r'1
  rotate_left
  · go_enter Try.func3, Try.ntmps3
    have B0 : Below w.heap.size w w := Below.refl _ _
    go_wp2_with fail
    refine (szExprS_is A0 n0 c0 1048576 r'0 _ R0.out (by omega)).mono ?_
    rintro e w' ⟨rfl, rfl⟩
    go_wp2_with fail
    refine (szCommandS_is A1 n1 c1 r'0 r'1 x1 _ (h1.below B0) (r1.below B0) (by rw [D1.out]; have := R1.out; have := T1.out; omega) (by omega) F1.out).mono ?_
    rintro e w1 ⟨rfl, b1⟩
    have B1 := below_step B0 b1
    go_wp2_with fail
    refine (szCommandS_not A2 n2 c2 r'1 x2 _ (h2.below B1) (r2.below B1) (by rw [D2.out]; have := T2.out; omega) (by omega) (by omega) F2.out).mono ?_
    rintro e w' ⟨rfl, bz⟩
    go_wp2_with fail
    go_ret
    exact ⟨rfl, (below_step B1 bz)⟩
  obtain ⟨r'2, R2⟩ : ∃ r' : Nat, Hid (r' + (n2 + t2) = r'1) := ⟨r'1 - (n2 + t2), by unfold Hid; omega⟩
  have q2 : r'2 ≤ 1048576 := by have := R2.out; omega
  have s2 : n2 ≤ 1048576 := by omega
  have u2 : t2 ≤ 1048576 := by omega
  have Z0 := Lib.hid z0; clear z0
  have Z1 := Lib.hid z1; clear z1
  have Z2 := Lib.hid z2; clear z2
  have S1 : Hid (sumCommand d1 ≤ 1048576) := by have := T1.out; unfold Hid; omega
  have S2 : Hid (sumCommand d2 ≤ 1048576) := by have := T2.out; unfold Hid; omega
  go_enter Try.func3, Try.ntmps3
  have B0 : Below w.heap.size w w := Below.refl _ _
  go_wp2_with fail
  refine (szExprS_is A0 n0 c0 1048576 r'0 _ R0.out (by omega)).mono ?_
  rintro e w' ⟨rfl, rfl⟩
  go_wp2_with fail
  refine (szCommandS_is A1 n1 c1 r'0 r'1 x1 _ (h1.below B0) (r1.below B0) (by rw [D1.out]; have := R1.out; have := T1.out; omega) (by omega) F1.out).mono ?_
  rintro e w1 ⟨rfl, b1⟩
  have B1 := below_step B0 b1
  go_wp2_with fail
  refine (szCommandS_is A2 n2 c2 r'1 r'2 x2 _ (h2.below B1) (r2.below B1) (by rw [D2.out]; have := R2.out; have := T2.out; omega) (by omega) F2.out).mono ?_
  rintro e w2 ⟨rfl, b2⟩
  have B2 := below_step B1 b2
  obtain ⟨k1, K1⟩ : ∃ k1 : Nat, Hid (3 * d1.length + sumCommand d1 * 2 = k1) := ⟨_, rfl⟩
  have kb1 : k1 ≤ 8388608 := by have := K1.out; have := S1.out; have := H1.out; omega
  obtain ⟨k2, K2⟩ : ∃ k2 : Nat, Hid (3 * d2.length + sumCommand d2 * 2 = k2) := ⟨_, rfl⟩
  have kb2 : k2 ≤ 8388608 := by have := K2.out; have := S2.out; have := H2.out; omega
  go_wp2_with fail
  refine (toExprS_any A0 n0 c0 x0 _ (h0.below B2) s0).mono ?_
  rintro e w3 ⟨rfl, o3, b3⟩
  have B3 := below_step B2 b3
  have s0x_3 := flat_of_own o3
  clear o3
  go_wp2_with fail
  refine (toCommandS_any A1 n1 c1 x1 _ (h1.below B3) (r1.below B3) s1 (by rw [D1.out]; exact S1.out)).mono ?_
  rintro e w4 ⟨rfl, ⟨es4, o4, he4⟩, b4⟩
  have B4 := below_step B3 b4
  have E4 := Lib.hid (he4.trans D1.out); clear he4
  have s0x_4 := s0x_3.below b4
  have s1x_4 := o4.held (Nat.le_refl _)
  clear o4
  go_wp2_with fail
  refine (toCommandS_any A2 n2 c2 x2 _ (h2.below B4) (r2.below B4) s2 (by rw [D2.out]; exact S2.out)).mono ?_
  rintro e w5 ⟨rfl, ⟨es5, o5, he5⟩, b5⟩
  have B5 := below_step B4 b5
  have E5 := Lib.hid (he5.trans D2.out); clear he5
  have s0x_5 := s0x_4.below b5
  have s1x_5 := s1x_4.below b5
  have s2x_5 := o5.held (Nat.le_refl _)
  clear o5
  go_wp2_with fail
  refine (specBranchWhile_any _ _ n0 n0 x0 _ _ n1 n1 es4 d1 _ _ n2 n2 es5 d2 x3 x4 _ (sl_of_own s0x_5.is.own) H0.out s0 (Nat.le_refl _) f0 s1x_5.is.slN (rdsCommand_of s1x_5.is) E4.out H1.out s1 (Nat.le_refl _) S1.out W1.out s2x_5.is.slN (rdsCommand_of s2x_5.is) E5.out H2.out s2 (Nat.le_refl _) S2.out W2.out f3 f4).mono ?_
  rintro e w6 ⟨p0v, p0es, rfl, p0_o, p0_e, b6⟩
  obtain ⟨p0A, p0c, rfl⟩ := own_form p0_o.own
  have p0_E := Lib.hid p0_e; clear p0_e
  have B6 := below_step B5 b6
  have s0x_6 := s0x_5.below b6
  have s1x_6 := s1x_5.below b6
  have s2x_6 := s2x_5.below b6
  have p0_6 := p0_o.held (Nat.le_refl _)
  clear p0_o
  go_wp2_with fail
  refine (toExprS_any A0 n0 c0 x0 _ (h0.below B6) s0).mono ?_
  rintro e w7 ⟨rfl, o7, b7⟩
  have B7 := below_step B6 b7
  have p0_7 := p0_6.below b7
  have u0x_7 := flat_of_own o7
  clear o7
  go_wp2_with fail
  refine (toCommandS_any A1 n1 c1 x1 _ (h1.below B7) (r1.below B7) s1 (by rw [D1.out]; exact S1.out)).mono ?_
  rintro e w8 ⟨rfl, ⟨es8, o8, he8⟩, b8⟩
  have B8 := below_step B7 b8
  have E8 := Lib.hid (he8.trans D1.out); clear he8
  have p0_8 := p0_7.below b8
  have u0x_8 := u0x_7.below b8
  have u1x_8 := o8.held (Nat.le_refl _)
  clear o8
  go_wp2_with fail
  refine (toCommandS_any A2 n2 c2 x2 _ (h2.below B8) (r2.below B8) s2 (by rw [D2.out]; exact S2.out)).mono ?_
  rintro e w9 ⟨rfl, ⟨es9, o9, he9⟩, b9⟩
  have B9 := below_step B8 b9
  have E9 := Lib.hid (he9.trans D2.out); clear he9
  have p0_9 := p0_8.below b9
  have u0x_9 := u0x_8.below b9
  have u1x_9 := u1x_8.below b9
  have u2x_9 := o9.held (Nat.le_refl _)
  clear o9
  obtain ⟨hl0, HS0⟩ := bndBranchWhile0 x0 d1 d2 x3 x4 (by have := H0.out; omega) (by have := H1.out; omega) S1.out (by have := H2.out; omega) S2.out
  have HL0 := Lib.hid hl0; clear hl0
  have HS0 := Lib.hid HS0
  obtain ⟨kr0, KR0⟩ : ∃ kr : Nat, Hid (3 * ((branchWhile x0 d1 d2 x3 x4).1).length + sumCommand ((branchWhile x0 d1 d2 x3 x4).1) * 2 = kr) := ⟨_, rfl⟩
  have krb0 : kr0 ≤ 33554432 := by have := KR0.out; have := HS0.out; have := HL0.out; omega
  go_wp2_with fail
  refine (implBranchWhile_any _ _ n0 n0 x0 _ _ n1 n1 es8 d1 _ _ n2 n2 es9 d2 x3 x4 _ (sl_of_own u0x_9.is.own) H0.out s0 (Nat.le_refl _) f0 u1x_9.is.slN (rdsCommand_of u1x_9.is) E8.out H1.out s1 (Nat.le_refl _) S1.out W1.out u2x_9.is.slN (rdsCommand_of u2x_9.is) E9.out H2.out s2 (Nat.le_refl _) S2.out W2.out f3 f4).mono ?_
  rintro e w10 ⟨g0v, g0es, rfl, g0_o, g0_e, b10⟩
  obtain ⟨g0A, g0c, rfl⟩ := own_form g0_o.own
  have g0_E := Lib.hid g0_e; clear g0_e
  have B10 := below_step B9 b10
  have p0_10 := p0_9.below b10
  have u0x_10 := u0x_9.below b10
  have u1x_10 := u1x_9.below b10
  have u2x_10 := u2x_9.below b10
  have g0_10 := g0_o.held (Nat.le_refl _)
  clear g0_o
  go_wp2_with fail
  refine (eqCommandS_is _ _ _ _ _ _ _ _ _ _ g0_10.is.argsN (rdsCommand_of g0_10.is) p0_10.is.argsN (rdsCommand_of p0_10.is) g0_E.out p0_E.out (by have h1 := congrArg List.length g0_E.out; rw [List.length_map] at h1; have := HL0.out; omega) (by have h1 := congrArg List.length p0_E.out; rw [List.length_map] at h1; have := HL0.out; omega) (by have := HS0.out; omega)).mono ?_
  rintro e w11 ⟨rfl, b11⟩
  have B11 := below_step B10 b11
  have p0_11 := p0_10.below b11
  have u0x_11 := u0x_10.below b11
  have u1x_11 := u1x_10.below b11
  have u2x_11 := u2x_10.below b11
  have g0_11 := g0_10.below b11
  go_wp2_with fail
  refine (toExprS_any A0 n0 c0 x0 _ (h0.below B11) s0).mono ?_
  rintro e w12 ⟨rfl, o12, b12⟩
  have B12 := below_step B11 b12
  have p0_12 := p0_11.below b12
  have u0x_12 := u0x_11.below b12
  have u1x_12 := u1x_11.below b12
  have u2x_12 := u2x_11.below b12
  have g0_12 := g0_11.below b12
  have t0x_12 := flat_of_own o12
  clear o12
  go_wp2_with fail
  refine (eqExprS_any _ _ _ _ _ _ _ _ _ (args_of_own u0x_12.is.own) (args_of_own t0x_12.is.own) (by omega) (by omega)).mono ?_
  rintro e w13 ⟨rfl, b13⟩
  have B13 := below_step B12 b13
  have p0_13 := p0_12.below b13
  have u0x_13 := u0x_12.below b13
  have u1x_13 := u1x_12.below b13
  have u2x_13 := u2x_12.below b13
  have g0_13 := g0_12.below b13
  have t0x_13 := t0x_12.below b13
  go_wp2_with fail
  refine (toCommandS_any A1 n1 c1 x1 _ (h1.below B13) (r1.below B13) s1 (by rw [D1.out]; exact S1.out)).mono ?_
  rintro e w14 ⟨rfl, ⟨es14, o14, he14⟩, b14⟩
  have B14 := below_step B13 b14
  have E14 := Lib.hid (he14.trans D1.out); clear he14
  have p0_14 := p0_13.below b14
  have u0x_14 := u0x_13.below b14
  have u1x_14 := u1x_13.below b14
  have u2x_14 := u2x_13.below b14
  have g0_14 := g0_13.below b14
  have t1x_14 := o14.held (Nat.le_refl _)
  clear o14
  go_wp2_with fail
  refine (eqCommandS_is _ _ _ _ _ _ _ _ _ _ u1x_14.is.argsN (rdsCommand_of u1x_14.is) t1x_14.is.argsN (rdsCommand_of t1x_14.is) E8.out E14.out (by omega) (by omega) (by have := S1.out; omega)).mono ?_
  rintro e w15 ⟨rfl, b15⟩
  have B15 := below_step B14 b15
  have p0_15 := p0_14.below b15
  have u0x_15 := u0x_14.below b15
  have u1x_15 := u1x_14.below b15
  have u2x_15 := u2x_14.below b15
  have g0_15 := g0_14.below b15
  have t1x_15 := t1x_14.below b15
  go_wp2_with fail
  refine (toCommandS_any A2 n2 c2 x2 _ (h2.below B15) (r2.below B15) s2 (by rw [D2.out]; exact S2.out)).mono ?_
  rintro e w16 ⟨rfl, ⟨es16, o16, he16⟩, b16⟩
  have B16 := below_step B15 b16
  have E16 := Lib.hid (he16.trans D2.out); clear he16
  have p0_16 := p0_15.below b16
  have u0x_16 := u0x_15.below b16
  have u1x_16 := u1x_15.below b16
  have u2x_16 := u2x_15.below b16
  have g0_16 := g0_15.below b16
  have t2x_16 := o16.held (Nat.le_refl _)
  clear o16
  go_wp2_with fail
  refine (eqCommandS_is _ _ _ _ _ _ _ _ _ _ u2x_16.is.argsN (rdsCommand_of u2x_16.is) t2x_16.is.argsN (rdsCommand_of t2x_16.is) E9.out E16.out (by omega) (by omega) (by have := S2.out; omega)).mono ?_
  rintro e w17 ⟨rfl, b17⟩
  have B17 := below_step B16 b17
  have p0_17 := p0_16.below b17
  have u0x_17 := u0x_16.below b17
  have u1x_17 := u1x_16.below b17
  have u2x_17 := u2x_16.below b17
  have g0_17 := g0_16.below b17
  have t2x_17 := t2x_16.below b17
  go_wp2_with fail
  refine (markExprS_any _ _ _ _ _ _ u0x_17.is.own (by omega) (by omega) (by omega)).mono ?_
  rintro e w18 ⟨rfl, o18, g18⟩
  obtain ⟨u0x_18, tt18⟩ := Flat.turn u0x_17 o18 g18
  clear o18 g18
  have B18 := below_touch B17 tt18 (by have := B17.size; have := b1.size; have := b2.size; have := b3.size; have := b4.size; have := b5.size; have := b6.size; have := b7.size; have := b8.size; have := b9.size; have := b10.size; have := b11.size; have := b12.size; have := b13.size; have := b14.size; have := b15.size; have := b16.size; have := b17.size; omega)
  have b18s := tt18.size
  have p0_18 := p0_17.far tt18 (.inl (by have := b1.size; have := b2.size; have := b3.size; have := b4.size; have := b5.size; have := b6.size; have := b7.size; have := b8.size; have := b9.size; have := b10.size; have := b11.size; have := b12.size; have := b13.size; have := b14.size; have := b15.size; have := b16.size; have := b17.size; omega))
  have u1x_18 := u1x_17.far tt18 (.inr (by have := b1.size; have := b2.size; have := b3.size; have := b4.size; have := b5.size; have := b6.size; have := b7.size; have := b8.size; have := b9.size; have := b10.size; have := b11.size; have := b12.size; have := b13.size; have := b14.size; have := b15.size; have := b16.size; have := b17.size; omega))
  have u2x_18 := u2x_17.far tt18 (.inr (by have := b1.size; have := b2.size; have := b3.size; have := b4.size; have := b5.size; have := b6.size; have := b7.size; have := b8.size; have := b9.size; have := b10.size; have := b11.size; have := b12.size; have := b13.size; have := b14.size; have := b15.size; have := b16.size; have := b17.size; omega))
  have g0_18 := g0_17.far tt18 (.inr (by have := b1.size; have := b2.size; have := b3.size; have := b4.size; have := b5.size; have := b6.size; have := b7.size; have := b8.size; have := b9.size; have := b10.size; have := b11.size; have := b12.size; have := b13.size; have := b14.size; have := b15.size; have := b16.size; have := b17.size; omega))
  go_wp2_with fail
  refine (markCommandS_is _ _ _ _ _ _ _ u1x_18.is ((widSumCommand_of E8.out).trans K1.out) (by omega) (by omega) (by have h1 := congrArg List.length E8.out; rw [List.length_map] at h1; have := H1.out; omega) (lensCommand E8.out (by have := S1.out; omega))).mono ?_
  rintro e w19 ⟨rfl, o19, tt19⟩
  have u1x_19 := SGrid.turn u1x_18 o19 tt19
  clear o19
  have B19 := below_touch B18 tt19 (by have := B18.size; have := b1.size; have := b2.size; have := b3.size; have := b4.size; have := b5.size; have := b6.size; have := b7.size; have := b8.size; have := b9.size; have := b10.size; have := b11.size; have := b12.size; have := b13.size; have := b14.size; have := b15.size; have := b16.size; have := b17.size; omega)
  have b19s := tt19.size
  have p0_19 := p0_18.far tt19 (.inl (by have := b1.size; have := b2.size; have := b3.size; have := b4.size; have := b5.size; have := b6.size; have := b7.size; have := b8.size; have := b9.size; have := b10.size; have := b11.size; have := b12.size; have := b13.size; have := b14.size; have := b15.size; have := b16.size; have := b17.size; omega))
  have u0x_19 := u0x_18.far tt19 (.inl (by have := b1.size; have := b2.size; have := b3.size; have := b4.size; have := b5.size; have := b6.size; have := b7.size; have := b8.size; have := b9.size; have := b10.size; have := b11.size; have := b12.size; have := b13.size; have := b14.size; have := b15.size; have := b16.size; have := b17.size; omega))
  have u2x_19 := u2x_18.far tt19 (.inr (by have := b1.size; have := b2.size; have := b3.size; have := b4.size; have := b5.size; have := b6.size; have := b7.size; have := b8.size; have := b9.size; have := b10.size; have := b11.size; have := b12.size; have := b13.size; have := b14.size; have := b15.size; have := b16.size; have := b17.size; omega))
  have g0_19 := g0_18.far tt19 (.inr (by have := b1.size; have := b2.size; have := b3.size; have := b4.size; have := b5.size; have := b6.size; have := b7.size; have := b8.size; have := b9.size; have := b10.size; have := b11.size; have := b12.size; have := b13.size; have := b14.size; have := b15.size; have := b16.size; have := b17.size; omega))
  go_wp2_with fail
  refine (markCommandS_is _ _ _ _ _ _ _ u2x_19.is ((widSumCommand_of E9.out).trans K2.out) (by omega) (by omega) (by have h1 := congrArg List.length E9.out; rw [List.length_map] at h1; have := H2.out; omega) (lensCommand E9.out (by have := S2.out; omega))).mono ?_
  rintro e w20 ⟨rfl, o20, tt20⟩
  have u2x_20 := SGrid.turn u2x_19 o20 tt20
  clear o20
  have B20 := below_touch B19 tt20 (by have := B19.size; have := b1.size; have := b2.size; have := b3.size; have := b4.size; have := b5.size; have := b6.size; have := b7.size; have := b8.size; have := b9.size; have := b10.size; have := b11.size; have := b12.size; have := b13.size; have := b14.size; have := b15.size; have := b16.size; have := b17.size; omega)
  have b20s := tt20.size
  have p0_20 := p0_19.far tt20 (.inl (by have := b1.size; have := b2.size; have := b3.size; have := b4.size; have := b5.size; have := b6.size; have := b7.size; have := b8.size; have := b9.size; have := b10.size; have := b11.size; have := b12.size; have := b13.size; have := b14.size; have := b15.size; have := b16.size; have := b17.size; omega))
  have u0x_20 := u0x_19.far tt20 (.inl (by have := b1.size; have := b2.size; have := b3.size; have := b4.size; have := b5.size; have := b6.size; have := b7.size; have := b8.size; have := b9.size; have := b10.size; have := b11.size; have := b12.size; have := b13.size; have := b14.size; have := b15.size; have := b16.size; have := b17.size; omega))
  have u1x_20 := u1x_19.far tt20 (.inl (by have := b1.size; have := b2.size; have := b3.size; have := b4.size; have := b5.size; have := b6.size; have := b7.size; have := b8.size; have := b9.size; have := b10.size; have := b11.size; have := b12.size; have := b13.size; have := b14.size; have := b15.size; have := b16.size; have := b17.size; omega))
  have g0_20 := g0_19.far tt20 (.inr (by have := b1.size; have := b2.size; have := b3.size; have := b4.size; have := b5.size; have := b6.size; have := b7.size; have := b8.size; have := b9.size; have := b10.size; have := b11.size; have := b12.size; have := b13.size; have := b14.size; have := b15.size; have := b16.size; have := b17.size; omega))
  go_wp2_with fail
  refine (eqCommandS_is _ _ _ _ _ _ _ _ _ _ g0_20.is.argsN (rdsCommand_of g0_20.is) p0_20.is.argsN (rdsCommand_of p0_20.is) g0_E.out p0_E.out (by have h1 := congrArg List.length g0_E.out; rw [List.length_map] at h1; have := HL0.out; omega) (by have h1 := congrArg List.length p0_E.out; rw [List.length_map] at h1; have := HL0.out; omega) (by have := HS0.out; omega)).mono ?_
  rintro e w21 ⟨rfl, b21⟩
  have B21 := below_step B20 b21
  have p0_21 := p0_20.below b21
  have g0_21 := g0_20.below b21
  go_wp2_with fail
  refine (markCommandS_is _ _ _ _ _ _ _ g0_21.is ((widSumCommand_of g0_E.out).trans KR0.out) (by omega) (by omega) (by have h1 := congrArg List.length g0_E.out; rw [List.length_map] at h1; have := HL0.out; omega) (lensCommand g0_E.out (by have := HS0.out; omega))).mono ?_
  rintro e w22 ⟨rfl, o22, tt22⟩
  have g0_22 := SGrid.turn g0_21 o22 tt22
  clear o22
  have B22 := below_touch B21 tt22 (by have := B21.size; have := b1.size; have := b2.size; have := b3.size; have := b4.size; have := b5.size; have := b6.size; have := b7.size; have := b8.size; have := b9.size; have := b10.size; have := b11.size; have := b12.size; have := b13.size; have := b14.size; have := b15.size; have := b16.size; have := b17.size; omega)
  have b22s := tt22.size
  have p0_22 := p0_21.far tt22 (.inl (by have := b1.size; have := b2.size; have := b3.size; have := b4.size; have := b5.size; have := b6.size; have := b7.size; have := b8.size; have := b9.size; have := b10.size; have := b11.size; have := b12.size; have := b13.size; have := b14.size; have := b15.size; have := b16.size; have := b17.size; omega))
  go_wp2_with fail
  refine (heldCommandS_is _ _ _ _ _ _ _ g0_22.is ((widSumCommand_of g0_E.out).trans KR0.out) (by omega) (by omega) (by have h1 := congrArg List.length g0_E.out; rw [List.length_map] at h1; have := HL0.out; omega) (lensCommand g0_E.out (by have := HS0.out; omega))).mono ?_
  rintro e w23 ⟨rfl, rfl⟩
  go_wp2_with fail
  refine (toExprS_any A0 n0 c0 x0 _ (h0.below B22) s0).mono ?_
  rintro e w23 ⟨rfl, o23, b23⟩
  have B23 := below_step B22 b23
  have p0_23 := p0_22.below b23
  have g0_23 := g0_22.below b23
  have y0x_23 := flat_of_own o23
  clear o23
  go_wp2_with fail
  refine (toCommandS_any A1 n1 c1 x1 _ (h1.below B23) (r1.below B23) s1 (by rw [D1.out]; exact S1.out)).mono ?_
  rintro e w24 ⟨rfl, ⟨es24, o24, he24⟩, b24⟩
  have B24 := below_step B23 b24
  have E24 := Lib.hid (he24.trans D1.out); clear he24
  have p0_24 := p0_23.below b24
  have g0_24 := g0_23.below b24
  have y0x_24 := y0x_23.below b24
  have y1x_24 := o24.held (Nat.le_refl _)
  clear o24
  go_wp2_with fail
  refine (toCommandS_any A2 n2 c2 x2 _ (h2.below B24) (r2.below B24) s2 (by rw [D2.out]; exact S2.out)).mono ?_
  rintro e w25 ⟨rfl, ⟨es25, o25, he25⟩, b25⟩
  have B25 := below_step B24 b25
  have E25 := Lib.hid (he25.trans D2.out); clear he25
  have p0_25 := p0_24.below b25
  have g0_25 := g0_24.below b25
  have y0x_25 := y0x_24.below b25
  have y1x_25 := y1x_24.below b25
  have y2x_25 := o25.held (Nat.le_refl _)
  clear o25
  go_wp2_with fail
  refine (implBranchWhile_any _ _ n0 n0 x0 _ _ n1 n1 es24 d1 _ _ n2 n2 es25 d2 x3 x4 _ (sl_of_own y0x_25.is.own) H0.out s0 (Nat.le_refl _) f0 y1x_25.is.slN (rdsCommand_of y1x_25.is) E24.out H1.out s1 (Nat.le_refl _) S1.out W1.out y2x_25.is.slN (rdsCommand_of y2x_25.is) E25.out H2.out s2 (Nat.le_refl _) S2.out W2.out f3 f4).mono ?_
  rintro e w26 ⟨h0v, h0es, rfl, h0_o, h0_e, b26⟩
  obtain ⟨h0A, h0c, rfl⟩ := own_form h0_o.own
  have h0_E := Lib.hid h0_e; clear h0_e
  have B26 := below_step B25 b26
  have p0_26 := p0_25.below b26
  have g0_26 := g0_25.below b26
  have y0x_26 := y0x_25.below b26
  have y1x_26 := y1x_25.below b26
  have y2x_26 := y2x_25.below b26
  have h0_26 := h0_o.held (Nat.le_refl _)
  clear h0_o
  go_wp2_with fail
  refine (eqCommandS_is _ _ _ _ _ _ _ _ _ _ h0_26.is.argsN (rdsCommand_of h0_26.is) p0_26.is.argsN (rdsCommand_of p0_26.is) h0_E.out p0_E.out (by have h1 := congrArg List.length h0_E.out; rw [List.length_map] at h1; have := HL0.out; omega) (by have h1 := congrArg List.length p0_E.out; rw [List.length_map] at h1; have := HL0.out; omega) (by have := HS0.out; omega)).mono ?_
  rintro e w27 ⟨rfl, b27⟩
  have B27 := below_step B26 b27
  have p0_27 := p0_26.below b27
  have g0_27 := g0_26.below b27
  have h0_27 := h0_26.below b27
  go_wp2_with fail
  refine (heldCommandS_is _ _ _ _ _ _ _ g0_27.is ((widSumCommand_of g0_E.out).trans KR0.out) (by omega) (by omega) (by have h1 := congrArg List.length g0_E.out; rw [List.length_map] at h1; have := HL0.out; omega) (lensCommand g0_E.out (by have := HS0.out; omega))).mono ?_
  rintro e w28 ⟨rfl, rfl⟩
  go_wp2_with fail
  go_ret
  exact ⟨rfl, B27⟩
end Go.Proofs.Ytfmfpknigafnoaa
