/- The walk of the law FnExactSequenceWhile: it returns true, whatever the arguments, and writes nothing that was there. -/
import Derived.Test.YtffcggagjeoagaaSeqWhile
import Derived.Test.YtffcggagjeoagaaHelpCommand
import Derived.Test.YtffcggagjeoagaaHeld
namespace Go.Proofs.Ytffcggagjeoagaa
open Go.RowKit

set_option maxRecDepth 100000 in
set_option maxHeartbeats 4000000 in
theorem walkSequenceWhile (A0 : Option Addr) (n0 c0 : Nat) (x0 : List ECommand) (A1 : Option Addr) (n1 c1 : Nat) (x1 : List ECommand) (w : World) (h0 : Args 4 w A0 n0 (rows ECommand.vs x0)) (r0 : RdsCommand w x0) (m0 : n0 ≤ maxLen) (f0 : ∀ e ∈ x0, wbCommand 9223372036854775807 e.d ∧ e.d.wf) (h1 : Args 4 w A1 n1 (rows ECommand.vs x1)) (r1 : RdsCommand w x1) (m1 : n1 ≤ maxLen) (f1 : ∀ e ∈ x1, wbCommand 9223372036854775807 e.d ∧ e.d.wf) :
    Calls Try.prog 10 #[.slice A0 n0 c0, .slice A1 n1 c1] w fun e w' => e = .returned (.bool true) ∧ Below w.heap.size w w' := by
  unfold maxLen at m0
  unfold maxLen at m1
  obtain ⟨d0, D0⟩ : ∃ d, Hid (x0.map (·.d) = d) := ⟨_, rfl⟩
  have H0 : Hid (d0.length = n0) := by have := h0.1; rw [rows_len (s := 4) (fun _ => rfl)] at this; unfold Hid; rw [← D0.out, List.length_map]; omega
  have W0 : Hid (∀ x ∈ d0, x.wf) := by unfold Hid; rw [← D0.out]; intro x hx; obtain ⟨e, he, rfl⟩ := List.mem_map.1 hx; exact (f0 e he).2
  have F0 : Hid (∀ e ∈ x0, wbCommand 9223372036854775807 e.d) := fun e he => (f0 e he).1
  clear f0
  obtain ⟨t0, T0⟩ : ∃ t0 : Nat, Hid (sumCommand d0 = t0) := ⟨_, rfl⟩
  obtain ⟨d1, D1⟩ : ∃ d, Hid (x1.map (·.d) = d) := ⟨_, rfl⟩
  have H1 : Hid (d1.length = n1) := by have := h1.1; rw [rows_len (s := 4) (fun _ => rfl)] at this; unfold Hid; rw [← D1.out, List.length_map]; omega
  have W1 : Hid (∀ x ∈ d1, x.wf) := by unfold Hid; rw [← D1.out]; intro x hx; obtain ⟨e, he, rfl⟩ := List.mem_map.1 hx; exact (f1 e he).2
  have F1 : Hid (∀ e ∈ x1, wbCommand 9223372036854775807 e.d) := fun e he => (f1 e he).1
  clear f1
  obtain ⟨t1, T1⟩ : ∃ t1 : Nat, Hid (sumCommand d1 = t1) := ⟨_, rfl⟩
  by_cases z0 : n0 + t0 ≤ 1048576
  rotate_left
  · go_enter Try.func10, Try.ntmps10
    have B0 : Below w.heap.size w w := Below.refl _ _
    go_wp2_with fail
    refine (szCommandS_not A0 n0 c0 1048576 x0 _ (h0.below B0) (r0.below B0) (by rw [D0.out]; have := T0.out; omega) (by omega) (by omega) F0.out).mono ?_
    rintro e w' ⟨rfl, bz⟩
    go_wp2_with fail
    go_ret
    exact ⟨rfl, (below_step B0 bz)⟩
  obtain ⟨r'0, R0⟩ : ∃ r' : Nat, Hid (r' + (n0 + t0) = 1048576) := ⟨1048576 - (n0 + t0), by unfold Hid; omega⟩
  have q0 : r'0 ≤ 1048576 := by have := R0.out; omega
  have s0 : n0 ≤ 1048576 := by omega
  have u0 : t0 ≤ 1048576 := by omega
  by_cases z1 : n1 + t1 ≤ r'0
  rotate_left
  · go_enter Try.func10, Try.ntmps10
    have B0 : Below w.heap.size w w := Below.refl _ _
    go_wp2_with fail
    refine (szCommandS_is A0 n0 c0 1048576 r'0 x0 _ (h0.below B0) (r0.below B0) (by rw [D0.out]; have := R0.out; have := T0.out; omega) (by omega) F0.out).mono ?_
    rintro e w1 ⟨rfl, b1⟩
    have B1 := below_step B0 b1
    go_wp2_with fail
    refine (szCommandS_not A1 n1 c1 r'0 x1 _ (h1.below B1) (r1.below B1) (by rw [D1.out]; have := T1.out; omega) (by omega) (by omega) F1.out).mono ?_
    rintro e w' ⟨rfl, bz⟩
    go_wp2_with fail
    go_ret
    exact ⟨rfl, (below_step B1 bz)⟩
  obtain ⟨r'1, R1⟩ : ∃ r' : Nat, Hid (r' + (n1 + t1) = r'0) := ⟨r'0 - (n1 + t1), by unfold Hid; omega⟩
  have q1 : r'1 ≤ 1048576 := by have := R1.out; omega
  have s1 : n1 ≤ 1048576 := by omega
  have u1 : t1 ≤ 1048576 := by omega
  have Z0 := Lib.hid z0; clear z0
  have Z1 := Lib.hid z1; clear z1
  have S0 : Hid (sumCommand d0 ≤ 1048576) := by have := T0.out; unfold Hid; omega
  have S1 : Hid (sumCommand d1 ≤ 1048576) := by have := T1.out; unfold Hid; omega
  go_enter Try.func10, Try.ntmps10
  have B0 : Below w.heap.size w w := Below.refl _ _
  go_wp2_with fail
  refine (szCommandS_is A0 n0 c0 1048576 r'0 x0 _ (h0.below B0) (r0.below B0) (by rw [D0.out]; have := R0.out; have := T0.out; omega) (by omega) F0.out).mono ?_
  rintro e w1 ⟨rfl, b1⟩
  have B1 := below_step B0 b1
  go_wp2_with fail
  refine (szCommandS_is A1 n1 c1 r'0 r'1 x1 _ (h1.below B1) (r1.below B1) (by rw [D1.out]; have := R1.out; have := T1.out; omega) (by omega) F1.out).mono ?_
  rintro e w2 ⟨rfl, b2⟩
  have B2 := below_step B1 b2
  obtain ⟨k0, K0⟩ : ∃ k0 : Nat, Hid (3 * d0.length + sumCommand d0 * 2 = k0) := ⟨_, rfl⟩
  have kb0 : k0 ≤ 8388608 := by have := K0.out; have := S0.out; have := H0.out; omega
  obtain ⟨k1, K1⟩ : ∃ k1 : Nat, Hid (3 * d1.length + sumCommand d1 * 2 = k1) := ⟨_, rfl⟩
  have kb1 : k1 ≤ 8388608 := by have := K1.out; have := S1.out; have := H1.out; omega
  go_wp2_with fail
  refine (toCommandS_any A0 n0 c0 x0 _ (h0.below B2) (r0.below B2) s0 (by rw [D0.out]; exact S0.out)).mono ?_
  rintro e w3 ⟨rfl, ⟨es3, o3, he3⟩, b3⟩
  have B3 := below_step B2 b3
  have E3 := Lib.hid (he3.trans D0.out); clear he3
  have s0x_3 := o3.held (Nat.le_refl _)
  clear o3
  go_wp2_with fail
  refine (toCommandS_any A1 n1 c1 x1 _ (h1.below B3) (r1.below B3) s1 (by rw [D1.out]; exact S1.out)).mono ?_
  rintro e w4 ⟨rfl, ⟨es4, o4, he4⟩, b4⟩
  have B4 := below_step B3 b4
  have E4 := Lib.hid (he4.trans D1.out); clear he4
  have s0x_4 := s0x_3.below b4
  have s1x_4 := o4.held (Nat.le_refl _)
  clear o4
  go_wp2_with fail
  refine (specSequenceWhile_any _ _ n0 n0 es3 d0 _ _ n1 n1 es4 d1 _ s0x_4.is.slN (rdsCommand_of s0x_4.is) E3.out H0.out s0 (Nat.le_refl _) S0.out W0.out s1x_4.is.slN (rdsCommand_of s1x_4.is) E4.out H1.out s1 (Nat.le_refl _) S1.out W1.out).mono ?_
  rintro e w5 ⟨p0v, p0es, rfl, p0_o, p0_e, b5⟩
  obtain ⟨p0A, p0c, rfl⟩ := own_form p0_o.own
  have p0_E := Lib.hid p0_e; clear p0_e
  have B5 := below_step B4 b5
  have s0x_5 := s0x_4.below b5
  have s1x_5 := s1x_4.below b5
  have p0_5 := p0_o.held (Nat.le_refl _)
  clear p0_o
  go_wp2_with fail
  refine (toCommandS_any A0 n0 c0 x0 _ (h0.below B5) (r0.below B5) s0 (by rw [D0.out]; exact S0.out)).mono ?_
  rintro e w6 ⟨rfl, ⟨es6, o6, he6⟩, b6⟩
  have B6 := below_step B5 b6
  have E6 := Lib.hid (he6.trans D0.out); clear he6
  have p0_6 := p0_5.below b6
  have u0x_6 := o6.held (Nat.le_refl _)
  clear o6
  go_wp2_with fail
  refine (toCommandS_any A1 n1 c1 x1 _ (h1.below B6) (r1.below B6) s1 (by rw [D1.out]; exact S1.out)).mono ?_
  rintro e w7 ⟨rfl, ⟨es7, o7, he7⟩, b7⟩
  have B7 := below_step B6 b7
  have E7 := Lib.hid (he7.trans D1.out); clear he7
  have p0_7 := p0_6.below b7
  have u0x_7 := u0x_6.below b7
  have u1x_7 := o7.held (Nat.le_refl _)
  clear o7
  obtain ⟨hl0, HS0⟩ := bndSequenceWhile0 d0 d1 (by have := H0.out; omega) S0.out (by have := H1.out; omega) S1.out
  have HL0 := Lib.hid hl0; clear hl0
  have HS0 := Lib.hid HS0
  obtain ⟨kr0, KR0⟩ : ∃ kr : Nat, Hid (3 * ((seqWhile d0 d1).1).length + sumCommand ((seqWhile d0 d1).1) * 2 = kr) := ⟨_, rfl⟩
  have krb0 : kr0 ≤ 33554432 := by have := KR0.out; have := HS0.out; have := HL0.out; omega
  go_wp2_with fail
  refine (implSequenceWhile_any _ _ n0 n0 es6 d0 _ _ n1 n1 es7 d1 _ u0x_7.is.slN (rdsCommand_of u0x_7.is) E6.out H0.out s0 (Nat.le_refl _) S0.out W0.out u1x_7.is.slN (rdsCommand_of u1x_7.is) E7.out H1.out s1 (Nat.le_refl _) S1.out W1.out).mono ?_
  rintro e w8 ⟨g0v, g0es, rfl, g0_o, g0_e, b8⟩
  obtain ⟨g0A, g0c, rfl⟩ := own_form g0_o.own
  have g0_E := Lib.hid g0_e; clear g0_e
  have B8 := below_step B7 b8
  have p0_8 := p0_7.below b8
  have u0x_8 := u0x_7.below b8
  have u1x_8 := u1x_7.below b8
  have g0_8 := g0_o.held (Nat.le_refl _)
  clear g0_o
  go_wp2_with fail
  refine (eqCommandS_is _ _ _ _ _ _ _ _ _ _ g0_8.is.argsN (rdsCommand_of g0_8.is) p0_8.is.argsN (rdsCommand_of p0_8.is) g0_E.out p0_E.out (by have h1 := congrArg List.length g0_E.out; rw [List.length_map] at h1; have := HL0.out; omega) (by have h1 := congrArg List.length p0_E.out; rw [List.length_map] at h1; have := HL0.out; omega) (by have := HS0.out; omega)).mono ?_
  rintro e w9 ⟨rfl, b9⟩
  have B9 := below_step B8 b9
  have p0_9 := p0_8.below b9
  have u0x_9 := u0x_8.below b9
  have u1x_9 := u1x_8.below b9
  have g0_9 := g0_8.below b9
  go_wp2_with fail
  refine (toCommandS_any A0 n0 c0 x0 _ (h0.below B9) (r0.below B9) s0 (by rw [D0.out]; exact S0.out)).mono ?_
  rintro e w10 ⟨rfl, ⟨es10, o10, he10⟩, b10⟩
  have B10 := below_step B9 b10
  have E10 := Lib.hid (he10.trans D0.out); clear he10
  have p0_10 := p0_9.below b10
  have u0x_10 := u0x_9.below b10
  have u1x_10 := u1x_9.below b10
  have g0_10 := g0_9.below b10
  have t0x_10 := o10.held (Nat.le_refl _)
  clear o10
  go_wp2_with fail
  refine (eqCommandS_is _ _ _ _ _ _ _ _ _ _ u0x_10.is.argsN (rdsCommand_of u0x_10.is) t0x_10.is.argsN (rdsCommand_of t0x_10.is) E6.out E10.out (by omega) (by omega) (by have := S0.out; omega)).mono ?_
  rintro e w11 ⟨rfl, b11⟩
  have B11 := below_step B10 b11
  have p0_11 := p0_10.below b11
  have u0x_11 := u0x_10.below b11
  have u1x_11 := u1x_10.below b11
  have g0_11 := g0_10.below b11
  have t0x_11 := t0x_10.below b11
  go_wp2_with fail
  refine (toCommandS_any A1 n1 c1 x1 _ (h1.below B11) (r1.below B11) s1 (by rw [D1.out]; exact S1.out)).mono ?_
  rintro e w12 ⟨rfl, ⟨es12, o12, he12⟩, b12⟩
  have B12 := below_step B11 b12
  have E12 := Lib.hid (he12.trans D1.out); clear he12
  have p0_12 := p0_11.below b12
  have u0x_12 := u0x_11.below b12
  have u1x_12 := u1x_11.below b12
  have g0_12 := g0_11.below b12
  have t1x_12 := o12.held (Nat.le_refl _)
  clear o12
  go_wp2_with fail
  refine (eqCommandS_is _ _ _ _ _ _ _ _ _ _ u1x_12.is.argsN (rdsCommand_of u1x_12.is) t1x_12.is.argsN (rdsCommand_of t1x_12.is) E7.out E12.out (by omega) (by omega) (by have := S1.out; omega)).mono ?_
  rintro e w13 ⟨rfl, b13⟩
  have B13 := below_step B12 b13
  have p0_13 := p0_12.below b13
  have u0x_13 := u0x_12.below b13
  have u1x_13 := u1x_12.below b13
  have g0_13 := g0_12.below b13
  have t1x_13 := t1x_12.below b13
  go_wp2_with fail
  refine (markCommandS_is _ _ _ _ _ _ _ u0x_13.is ((widSumCommand_of E6.out).trans K0.out) (by omega) (by omega) (by have h1 := congrArg List.length E6.out; rw [List.length_map] at h1; have := H0.out; omega) (lensCommand E6.out (by have := S0.out; omega))).mono ?_
  rintro e w14 ⟨rfl, o14, tt14⟩
  have u0x_14 := SGrid.turn u0x_13 o14 tt14
  clear o14
  have B14 := below_touch B13 tt14 (by have := B13.size; have := b1.size; have := b2.size; have := b3.size; have := b4.size; have := b5.size; have := b6.size; have := b7.size; have := b8.size; have := b9.size; have := b10.size; have := b11.size; have := b12.size; have := b13.size; omega)
  have b14s := tt14.size
  have p0_14 := p0_13.far tt14 (.inl (by have := b1.size; have := b2.size; have := b3.size; have := b4.size; have := b5.size; have := b6.size; have := b7.size; have := b8.size; have := b9.size; have := b10.size; have := b11.size; have := b12.size; have := b13.size; omega))
  have u1x_14 := u1x_13.far tt14 (.inr (by have := b1.size; have := b2.size; have := b3.size; have := b4.size; have := b5.size; have := b6.size; have := b7.size; have := b8.size; have := b9.size; have := b10.size; have := b11.size; have := b12.size; have := b13.size; omega))
  have g0_14 := g0_13.far tt14 (.inr (by have := b1.size; have := b2.size; have := b3.size; have := b4.size; have := b5.size; have := b6.size; have := b7.size; have := b8.size; have := b9.size; have := b10.size; have := b11.size; have := b12.size; have := b13.size; omega))
  go_wp2_with fail
  refine (markCommandS_is _ _ _ _ _ _ _ u1x_14.is ((widSumCommand_of E7.out).trans K1.out) (by omega) (by omega) (by have h1 := congrArg List.length E7.out; rw [List.length_map] at h1; have := H1.out; omega) (lensCommand E7.out (by have := S1.out; omega))).mono ?_
  rintro e w15 ⟨rfl, o15, tt15⟩
  have u1x_15 := SGrid.turn u1x_14 o15 tt15
  clear o15
  have B15 := below_touch B14 tt15 (by have := B14.size; have := b1.size; have := b2.size; have := b3.size; have := b4.size; have := b5.size; have := b6.size; have := b7.size; have := b8.size; have := b9.size; have := b10.size; have := b11.size; have := b12.size; have := b13.size; omega)
  have b15s := tt15.size
  have p0_15 := p0_14.far tt15 (.inl (by have := b1.size; have := b2.size; have := b3.size; have := b4.size; have := b5.size; have := b6.size; have := b7.size; have := b8.size; have := b9.size; have := b10.size; have := b11.size; have := b12.size; have := b13.size; omega))
  have u0x_15 := u0x_14.far tt15 (.inl (by have := b1.size; have := b2.size; have := b3.size; have := b4.size; have := b5.size; have := b6.size; have := b7.size; have := b8.size; have := b9.size; have := b10.size; have := b11.size; have := b12.size; have := b13.size; omega))
  have g0_15 := g0_14.far tt15 (.inr (by have := b1.size; have := b2.size; have := b3.size; have := b4.size; have := b5.size; have := b6.size; have := b7.size; have := b8.size; have := b9.size; have := b10.size; have := b11.size; have := b12.size; have := b13.size; omega))
  go_wp2_with fail
  refine (eqCommandS_is _ _ _ _ _ _ _ _ _ _ g0_15.is.argsN (rdsCommand_of g0_15.is) p0_15.is.argsN (rdsCommand_of p0_15.is) g0_E.out p0_E.out (by have h1 := congrArg List.length g0_E.out; rw [List.length_map] at h1; have := HL0.out; omega) (by have h1 := congrArg List.length p0_E.out; rw [List.length_map] at h1; have := HL0.out; omega) (by have := HS0.out; omega)).mono ?_
  rintro e w16 ⟨rfl, b16⟩
  have B16 := below_step B15 b16
  have p0_16 := p0_15.below b16
  have g0_16 := g0_15.below b16
  go_wp2_with fail
  refine (markCommandS_is _ _ _ _ _ _ _ g0_16.is ((widSumCommand_of g0_E.out).trans KR0.out) (by omega) (by omega) (by have h1 := congrArg List.length g0_E.out; rw [List.length_map] at h1; have := HL0.out; omega) (lensCommand g0_E.out (by have := HS0.out; omega))).mono ?_
  rintro e w17 ⟨rfl, o17, tt17⟩
  have g0_17 := SGrid.turn g0_16 o17 tt17
  clear o17
  have B17 := below_touch B16 tt17 (by have := B16.size; have := b1.size; have := b2.size; have := b3.size; have := b4.size; have := b5.size; have := b6.size; have := b7.size; have := b8.size; have := b9.size; have := b10.size; have := b11.size; have := b12.size; have := b13.size; omega)
  have b17s := tt17.size
  have p0_17 := p0_16.far tt17 (.inl (by have := b1.size; have := b2.size; have := b3.size; have := b4.size; have := b5.size; have := b6.size; have := b7.size; have := b8.size; have := b9.size; have := b10.size; have := b11.size; have := b12.size; have := b13.size; omega))
  go_wp2_with fail
  refine (heldCommandS_is _ _ _ _ _ _ _ g0_17.is ((widSumCommand_of g0_E.out).trans KR0.out) (by omega) (by omega) (by have h1 := congrArg List.length g0_E.out; rw [List.length_map] at h1; have := HL0.out; omega) (lensCommand g0_E.out (by have := HS0.out; omega))).mono ?_
  rintro e w18 ⟨rfl, rfl⟩
  go_wp2_with fail
  refine (toCommandS_any A0 n0 c0 x0 _ (h0.below B17) (r0.below B17) s0 (by rw [D0.out]; exact S0.out)).mono ?_
  rintro e w18 ⟨rfl, ⟨es18, o18, he18⟩, b18⟩
  have B18 := below_step B17 b18
  have E18 := Lib.hid (he18.trans D0.out); clear he18
  have p0_18 := p0_17.below b18
  have g0_18 := g0_17.below b18
  have y0x_18 := o18.held (Nat.le_refl _)
  clear o18
  go_wp2_with fail
  refine (toCommandS_any A1 n1 c1 x1 _ (h1.below B18) (r1.below B18) s1 (by rw [D1.out]; exact S1.out)).mono ?_
  rintro e w19 ⟨rfl, ⟨es19, o19, he19⟩, b19⟩
  have B19 := below_step B18 b19
  have E19 := Lib.hid (he19.trans D1.out); clear he19
  have p0_19 := p0_18.below b19
  have g0_19 := g0_18.below b19
  have y0x_19 := y0x_18.below b19
  have y1x_19 := o19.held (Nat.le_refl _)
  clear o19
  go_wp2_with fail
  refine (implSequenceWhile_any _ _ n0 n0 es18 d0 _ _ n1 n1 es19 d1 _ y0x_19.is.slN (rdsCommand_of y0x_19.is) E18.out H0.out s0 (Nat.le_refl _) S0.out W0.out y1x_19.is.slN (rdsCommand_of y1x_19.is) E19.out H1.out s1 (Nat.le_refl _) S1.out W1.out).mono ?_
  rintro e w20 ⟨h0v, h0es, rfl, h0_o, h0_e, b20⟩
  obtain ⟨h0A, h0c, rfl⟩ := own_form h0_o.own
  have h0_E := Lib.hid h0_e; clear h0_e
  have B20 := below_step B19 b20
  have p0_20 := p0_19.below b20
  have g0_20 := g0_19.below b20
  have y0x_20 := y0x_19.below b20
  have y1x_20 := y1x_19.below b20
  have h0_20 := h0_o.held (Nat.le_refl _)
  clear h0_o
  go_wp2_with fail
  refine (eqCommandS_is _ _ _ _ _ _ _ _ _ _ h0_20.is.argsN (rdsCommand_of h0_20.is) p0_20.is.argsN (rdsCommand_of p0_20.is) h0_E.out p0_E.out (by have h1 := congrArg List.length h0_E.out; rw [List.length_map] at h1; have := HL0.out; omega) (by have h1 := congrArg List.length p0_E.out; rw [List.length_map] at h1; have := HL0.out; omega) (by have := HS0.out; omega)).mono ?_
  rintro e w21 ⟨rfl, b21⟩
  have B21 := below_step B20 b21
  have p0_21 := p0_20.below b21
  have g0_21 := g0_20.below b21
  have h0_21 := h0_20.below b21
  go_wp2_with fail
  refine (heldCommandS_is _ _ _ _ _ _ _ g0_21.is ((widSumCommand_of g0_E.out).trans KR0.out) (by omega) (by omega) (by have h1 := congrArg List.length g0_E.out; rw [List.length_map] at h1; have := HL0.out; omega) (lensCommand g0_E.out (by have := HS0.out; omega))).mono ?_
  rintro e w22 ⟨rfl, rfl⟩
  go_wp2_with fail
  go_ret
  exact ⟨rfl, B21⟩
end Go.Proofs.Ytffcggagjeoagaa
