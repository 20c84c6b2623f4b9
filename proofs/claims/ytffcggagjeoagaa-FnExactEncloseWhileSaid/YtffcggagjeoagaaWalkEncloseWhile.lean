/- The walk of the law FnExactEncloseWhile: it returns true, whatever the arguments, and writes nothing that was there. -/
import Derived.Test.YtffcggagjeoagaaEncWhile
import Derived.Test.YtffcggagjeoagaaHelpCommand
import Derived.Test.YtffcggagjeoagaaHelpExpr
import Derived.Test.YtffcggagjeoagaaHeld
namespace Go.Proofs.Ytffcggagjeoagaa
open Go.RowKit

set_option maxRecDepth 100000 in
set_option maxHeartbeats 4000000 in
theorem walkEncloseWhile (A0 : Option Addr) (n0 c0 : Nat) (x0 : List R2) (A1 : Option Addr) (n1 c1 : Nat) (x1 : List ECommand) (w : World) (h0 : Args 2 w A0 n0 (rows R2.vs x0)) (m0 : n0 ≤ maxLen) (f0 : ∀ x ∈ x0, x.wf) (h1 : Args 4 w A1 n1 (rows ECommand.vs x1)) (r1 : RdsCommand w x1) (m1 : n1 ≤ maxLen) (f1 : ∀ e ∈ x1, wbCommand 9223372036854775807 e.d ∧ e.d.wf) :
    Calls Try.prog 9 #[.slice A0 n0 c0, .slice A1 n1 c1] w fun e w' => e = .returned (.bool true) ∧ Below w.heap.size w w' := by
  unfold maxLen at m0
  unfold maxLen at m1
  have H0 : Hid (x0.length = n0) := by have := h0.1; rw [rows_len R2.vs_len] at this; unfold Hid; omega
  obtain ⟨d1, D1⟩ : ∃ d, Hid (x1.map (·.d) = d) := ⟨_, rfl⟩
  have H1 : Hid (d1.length = n1) := by have := h1.1; rw [rows_len (s := 4) (fun _ => rfl)] at this; unfold Hid; rw [← D1.out, List.length_map]; omega
  have W1 : Hid (∀ x ∈ d1, x.wf) := by unfold Hid; rw [← D1.out]; intro x hx; obtain ⟨e, he, rfl⟩ := List.mem_map.1 hx; exact (f1 e he).2
  have F1 : Hid (∀ e ∈ x1, wbCommand 9223372036854775807 e.d) := fun e he => (f1 e he).1
  clear f1
  obtain ⟨t1, T1⟩ : ∃ t1 : Nat, Hid (sumCommand d1 = t1) := ⟨_, rfl⟩
  by_cases z0 : n0 ≤ 1048576
  rotate_left
  · go_enter Try.func9, Try.ntmps9
    have B0 : Below w.heap.size w w := Below.refl _ _
    go_wp2_with fail
    refine (szExprS_not A0 n0 c0 1048576 _ (by omega) (by omega) (by omega)).mono ?_
    rintro e w' ⟨rfl, rfl⟩
    go_wp2_with fail
    go_ret
    exact ⟨rfl, B0⟩
  obtain ⟨r'0, R0⟩ : ∃ r' : Nat, Hid (r' + (n0) = 1048576) := ⟨1048576 - (n0), by unfold Hid; omega⟩
  have q0 : r'0 ≤ 1048576 := by have := R0.out; omega
  have s0 : n0 ≤ 1048576 := by omega
  by_cases z1 : n1 + t1 ≤ r'0
  rotate_left
  · go_enter Try.func9, Try.ntmps9
    have B0 : Below w.heap.size w w := Below.refl _ _
    go_wp2_with fail
    refine (szExprS_is A0 n0 c0 1048576 r'0 _ R0.out (by omega)).mono ?_
    rintro e w' ⟨rfl, rfl⟩
    go_wp2_with fail
    refine (szCommandS_not A1 n1 c1 r'0 x1 _ (h1.below B0) (r1.below B0) (by rw [D1.out]; have := T1.out; omega) (by omega) (by omega) F1.out).mono ?_
    rintro e w' ⟨rfl, bz⟩
    go_wp2_with fail
    go_ret
    exact ⟨rfl, (below_step B0 bz)⟩
  obtain ⟨r'1, R1⟩ : ∃ r' : Nat, Hid (r' + (n1 + t1) = r'0) := ⟨r'0 - (n1 + t1), by unfold Hid; omega⟩
  have q1 : r'1 ≤ 1048576 := by have := R1.out; omega
  have s1 : n1 ≤ 1048576 := by omega
  have u1 : t1 ≤ 1048576 := by omega
  have Z0 := Lib.hid z0; clear z0
  have Z1 := Lib.hid z1; clear z1
  have S1 : Hid (sumCommand d1 ≤ 1048576) := by have := T1.out; unfold Hid; omega
  go_enter Try.func9, Try.ntmps9
  have B0 : Below w.heap.size w w := Below.refl _ _
  go_wp2_with fail
  refine (szExprS_is A0 n0 c0 1048576 r'0 _ R0.out (by omega)).mono ?_
  rintro e w' ⟨rfl, rfl⟩
  go_wp2_with fail
  refine (szCommandS_is A1 n1 c1 r'0 r'1 x1 _ (h1.below B0) (r1.below B0) (by rw [D1.out]; have := R1.out; have := T1.out; omega) (by omega) F1.out).mono ?_
  rintro e w1 ⟨rfl, b1⟩
  have B1 := below_step B0 b1
  obtain ⟨k1, K1⟩ : ∃ k1 : Nat, Hid (3 * d1.length + sumCommand d1 * 2 = k1) := ⟨_, rfl⟩
  have kb1 : k1 ≤ 8388608 := by have := K1.out; have := S1.out; have := H1.out; omega
  go_wp2_with fail
  refine (toExprS_any A0 n0 c0 x0 _ (h0.below B1) s0).mono ?_
  rintro e w2 ⟨rfl, o2, b2⟩
  have B2 := below_step B1 b2
  have s0x_2 := flat_of_own o2
  clear o2
  go_wp2_with fail
  refine (toCommandS_any A1 n1 c1 x1 _ (h1.below B2) (r1.below B2) s1 (by rw [D1.out]; exact S1.out)).mono ?_
  rintro e w3 ⟨rfl, ⟨es3, o3, he3⟩, b3⟩
  have B3 := below_step B2 b3
  have E3 := Lib.hid (he3.trans D1.out); clear he3
  have s0x_3 := s0x_2.below b3
  have s1x_3 := o3.held (Nat.le_refl _)
  clear o3
  go_wp2_with fail
  refine (specEncloseWhile_any _ _ n0 n0 x0 _ _ n1 n1 es3 d1 _ (sl_of_own s0x_3.is.own) H0.out s0 (Nat.le_refl _) f0 s1x_3.is.slN (rdsCommand_of s1x_3.is) E3.out H1.out s1 (Nat.le_refl _) S1.out W1.out).mono ?_
  rintro e w4 ⟨p0v, p0es, rfl, p0_o, p0_e, b4⟩
  obtain ⟨p0A, p0c, rfl⟩ := own_form p0_o.own
  have p0_E := Lib.hid p0_e; clear p0_e
  have B4 := below_step B3 b4
  have s0x_4 := s0x_3.below b4
  have s1x_4 := s1x_3.below b4
  have p0_4 := p0_o.held (Nat.le_refl _)
  clear p0_o
  go_wp2_with fail
  refine (toExprS_any A0 n0 c0 x0 _ (h0.below B4) s0).mono ?_
  rintro e w5 ⟨rfl, o5, b5⟩
  have B5 := below_step B4 b5
  have p0_5 := p0_4.below b5
  have u0x_5 := flat_of_own o5
  clear o5
  go_wp2_with fail
  refine (toCommandS_any A1 n1 c1 x1 _ (h1.below B5) (r1.below B5) s1 (by rw [D1.out]; exact S1.out)).mono ?_
  rintro e w6 ⟨rfl, ⟨es6, o6, he6⟩, b6⟩
  have B6 := below_step B5 b6
  have E6 := Lib.hid (he6.trans D1.out); clear he6
  have p0_6 := p0_5.below b6
  have u0x_6 := u0x_5.below b6
  have u1x_6 := o6.held (Nat.le_refl _)
  clear o6
  obtain ⟨hl0, HS0⟩ := bndEncloseWhile0 x0 d1 (by have := H0.out; omega) (by have := H1.out; omega) S1.out
  have HL0 := Lib.hid hl0; clear hl0
  have HS0 := Lib.hid HS0
  obtain ⟨kr0, KR0⟩ : ∃ kr : Nat, Hid (3 * ((encWhile x0 d1).1).length + sumCommand ((encWhile x0 d1).1) * 2 = kr) := ⟨_, rfl⟩
  have krb0 : kr0 ≤ 33554432 := by have := KR0.out; have := HS0.out; have := HL0.out; omega
  go_wp2_with fail
  refine (implEncloseWhile_any _ _ n0 n0 x0 _ _ n1 n1 es6 d1 _ (sl_of_own u0x_6.is.own) H0.out s0 (Nat.le_refl _) f0 u1x_6.is.slN (rdsCommand_of u1x_6.is) E6.out H1.out s1 (Nat.le_refl _) S1.out W1.out).mono ?_
  rintro e w7 ⟨g0v, g0es, rfl, g0_o, g0_e, b7⟩
  obtain ⟨g0A, g0c, rfl⟩ := own_form g0_o.own
  have g0_E := Lib.hid g0_e; clear g0_e
  have B7 := below_step B6 b7
  have p0_7 := p0_6.below b7
  have u0x_7 := u0x_6.below b7
  have u1x_7 := u1x_6.below b7
  have g0_7 := g0_o.held (Nat.le_refl _)
  clear g0_o
  go_wp2_with fail
  refine (eqCommandS_is _ _ _ _ _ _ _ _ _ _ g0_7.is.argsN (rdsCommand_of g0_7.is) p0_7.is.argsN (rdsCommand_of p0_7.is) g0_E.out p0_E.out (by have h1 := congrArg List.length g0_E.out; rw [List.length_map] at h1; have := HL0.out; omega) (by have h1 := congrArg List.length p0_E.out; rw [List.length_map] at h1; have := HL0.out; omega) (by have := HS0.out; omega)).mono ?_
  rintro e w8 ⟨rfl, b8⟩
  have B8 := below_step B7 b8
  have p0_8 := p0_7.below b8
  have u0x_8 := u0x_7.below b8
  have u1x_8 := u1x_7.below b8
  have g0_8 := g0_7.below b8
  go_wp2_with fail
  refine (toExprS_any A0 n0 c0 x0 _ (h0.below B8) s0).mono ?_
  rintro e w9 ⟨rfl, o9, b9⟩
  have B9 := below_step B8 b9
  have p0_9 := p0_8.below b9
  have u0x_9 := u0x_8.below b9
  have u1x_9 := u1x_8.below b9
  have g0_9 := g0_8.below b9
  have t0x_9 := flat_of_own o9
  clear o9
  go_wp2_with fail
  refine (eqExprS_any _ _ _ _ _ _ _ _ _ (args_of_own u0x_9.is.own) (args_of_own t0x_9.is.own) (by omega) (by omega)).mono ?_
  rintro e w10 ⟨rfl, b10⟩
  have B10 := below_step B9 b10
  have p0_10 := p0_9.below b10
  have u0x_10 := u0x_9.below b10
  have u1x_10 := u1x_9.below b10
  have g0_10 := g0_9.below b10
  have t0x_10 := t0x_9.below b10
  go_wp2_with fail
  refine (toCommandS_any A1 n1 c1 x1 _ (h1.below B10) (r1.below B10) s1 (by rw [D1.out]; exact S1.out)).mono ?_
  rintro e w11 ⟨rfl, ⟨es11, o11, he11⟩, b11⟩
  have B11 := below_step B10 b11
  have E11 := Lib.hid (he11.trans D1.out); clear he11
  have p0_11 := p0_10.below b11
  have u0x_11 := u0x_10.below b11
  have u1x_11 := u1x_10.below b11
  have g0_11 := g0_10.below b11
  have t1x_11 := o11.held (Nat.le_refl _)
  clear o11
  go_wp2_with fail
  refine (eqCommandS_is _ _ _ _ _ _ _ _ _ _ u1x_11.is.argsN (rdsCommand_of u1x_11.is) t1x_11.is.argsN (rdsCommand_of t1x_11.is) E6.out E11.out (by omega) (by omega) (by have := S1.out; omega)).mono ?_
  rintro e w12 ⟨rfl, b12⟩
  have B12 := below_step B11 b12
  have p0_12 := p0_11.below b12
  have u0x_12 := u0x_11.below b12
  have u1x_12 := u1x_11.below b12
  have g0_12 := g0_11.below b12
  have t1x_12 := t1x_11.below b12
  go_wp2_with fail
  refine (markExprS_any _ _ _ _ _ _ u0x_12.is.own (by omega) (by omega) (by omega)).mono ?_
  rintro e w13 ⟨rfl, o13, g13⟩
  obtain ⟨u0x_13, tt13⟩ := Flat.turn u0x_12 o13 g13
  clear o13 g13
  have B13 := below_touch B12 tt13 (by have := B12.size; have := b1.size; have := b2.size; have := b3.size; have := b4.size; have := b5.size; have := b6.size; have := b7.size; have := b8.size; have := b9.size; have := b10.size; have := b11.size; have := b12.size; omega)
  have b13s := tt13.size
  have p0_13 := p0_12.far tt13 (.inl (by have := b1.size; have := b2.size; have := b3.size; have := b4.size; have := b5.size; have := b6.size; have := b7.size; have := b8.size; have := b9.size; have := b10.size; have := b11.size; have := b12.size; omega))
  have u1x_13 := u1x_12.far tt13 (.inr (by have := b1.size; have := b2.size; have := b3.size; have := b4.size; have := b5.size; have := b6.size; have := b7.size; have := b8.size; have := b9.size; have := b10.size; have := b11.size; have := b12.size; omega))
  have g0_13 := g0_12.far tt13 (.inr (by have := b1.size; have := b2.size; have := b3.size; have := b4.size; have := b5.size; have := b6.size; have := b7.size; have := b8.size; have := b9.size; have := b10.size; have := b11.size; have := b12.size; omega))
  go_wp2_with fail
  refine (markCommandS_is _ _ _ _ _ _ _ u1x_13.is ((widSumCommand_of E6.out).trans K1.out) (by omega) (by omega) (by have h1 := congrArg List.length E6.out; rw [List.length_map] at h1; have := H1.out; omega) (lensCommand E6.out (by have := S1.out; omega))).mono ?_
  rintro e w14 ⟨rfl, o14, tt14⟩
  have u1x_14 := SGrid.turn u1x_13 o14 tt14
  clear o14
  have B14 := below_touch B13 tt14 (by have := B13.size; have := b1.size; have := b2.size; have := b3.size; have := b4.size; have := b5.size; have := b6.size; have := b7.size; have := b8.size; have := b9.size; have := b10.size; have := b11.size; have := b12.size; omega)
  have b14s := tt14.size
  have p0_14 := p0_13.far tt14 (.inl (by have := b1.size; have := b2.size; have := b3.size; have := b4.size; have := b5.size; have := b6.size; have := b7.size; have := b8.size; have := b9.size; have := b10.size; have := b11.size; have := b12.size; omega))
  have u0x_14 := u0x_13.far tt14 (.inl (by have := b1.size; have := b2.size; have := b3.size; have := b4.size; have := b5.size; have := b6.size; have := b7.size; have := b8.size; have := b9.size; have := b10.size; have := b11.size; have := b12.size; omega))
  have g0_14 := g0_13.far tt14 (.inr (by have := b1.size; have := b2.size; have := b3.size; have := b4.size; have := b5.size; have := b6.size; have := b7.size; have := b8.size; have := b9.size; have := b10.size; have := b11.size; have := b12.size; omega))
  go_wp2_with fail
  refine (eqCommandS_is _ _ _ _ _ _ _ _ _ _ g0_14.is.argsN (rdsCommand_of g0_14.is) p0_14.is.argsN (rdsCommand_of p0_14.is) g0_E.out p0_E.out (by have h1 := congrArg List.length g0_E.out; rw [List.length_map] at h1; have := HL0.out; omega) (by have h1 := congrArg List.length p0_E.out; rw [List.length_map] at h1; have := HL0.out; omega) (by have := HS0.out; omega)).mono ?_
  rintro e w15 ⟨rfl, b15⟩
  have B15 := below_step B14 b15
  have p0_15 := p0_14.below b15
  have g0_15 := g0_14.below b15
  go_wp2_with fail
  refine (markCommandS_is _ _ _ _ _ _ _ g0_15.is ((widSumCommand_of g0_E.out).trans KR0.out) (by omega) (by omega) (by have h1 := congrArg List.length g0_E.out; rw [List.length_map] at h1; have := HL0.out; omega) (lensCommand g0_E.out (by have := HS0.out; omega))).mono ?_
  rintro e w16 ⟨rfl, o16, tt16⟩
  have g0_16 := SGrid.turn g0_15 o16 tt16
  clear o16
  have B16 := below_touch B15 tt16 (by have := B15.size; have := b1.size; have := b2.size; have := b3.size; have := b4.size; have := b5.size; have := b6.size; have := b7.size; have := b8.size; have := b9.size; have := b10.size; have := b11.size; have := b12.size; omega)
  have b16s := tt16.size
  have p0_16 := p0_15.far tt16 (.inl (by have := b1.size; have := b2.size; have := b3.size; have := b4.size; have := b5.size; have := b6.size; have := b7.size; have := b8.size; have := b9.size; have := b10.size; have := b11.size; have := b12.size; omega))
  go_wp2_with fail
  refine (heldCommandS_is _ _ _ _ _ _ _ g0_16.is ((widSumCommand_of g0_E.out).trans KR0.out) (by omega) (by omega) (by have h1 := congrArg List.length g0_E.out; rw [List.length_map] at h1; have := HL0.out; omega) (lensCommand g0_E.out (by have := HS0.out; omega))).mono ?_
  rintro e w17 ⟨rfl, rfl⟩
  go_wp2_with fail
  refine (toExprS_any A0 n0 c0 x0 _ (h0.below B16) s0).mono ?_
  rintro e w17 ⟨rfl, o17, b17⟩
  have B17 := below_step B16 b17
  have p0_17 := p0_16.below b17
  have g0_17 := g0_16.below b17
  have y0x_17 := flat_of_own o17
  clear o17
  go_wp2_with fail
  refine (toCommandS_any A1 n1 c1 x1 _ (h1.below B17) (r1.below B17) s1 (by rw [D1.out]; exact S1.out)).mono ?_
  rintro e w18 ⟨rfl, ⟨es18, o18, he18⟩, b18⟩
  have B18 := below_step B17 b18
  have E18 := Lib.hid (he18.trans D1.out); clear he18
  have p0_18 := p0_17.below b18
  have g0_18 := g0_17.below b18
  have y0x_18 := y0x_17.below b18
  have y1x_18 := o18.held (Nat.le_refl _)
  clear o18
  go_wp2_with fail
  refine (implEncloseWhile_any _ _ n0 n0 x0 _ _ n1 n1 es18 d1 _ (sl_of_own y0x_18.is.own) H0.out s0 (Nat.le_refl _) f0 y1x_18.is.slN (rdsCommand_of y1x_18.is) E18.out H1.out s1 (Nat.le_refl _) S1.out W1.out).mono ?_
  rintro e w19 ⟨h0v, h0es, rfl, h0_o, h0_e, b19⟩
  obtain ⟨h0A, h0c, rfl⟩ := own_form h0_o.own
  have h0_E := Lib.hid h0_e; clear h0_e
  have B19 := below_step B18 b19
  have p0_19 := p0_18.below b19
  have g0_19 := g0_18.below b19
  have y0x_19 := y0x_18.below b19
  have y1x_19 := y1x_18.below b19
  have h0_19 := h0_o.held (Nat.le_refl _)
  clear h0_o
  go_wp2_with fail
  refine (eqCommandS_is _ _ _ _ _ _ _ _ _ _ h0_19.is.argsN (rdsCommand_of h0_19.is) p0_19.is.argsN (rdsCommand_of p0_19.is) h0_E.out p0_E.out (by have h1 := congrArg List.length h0_E.out; rw [List.length_map] at h1; have := HL0.out; omega) (by have h1 := congrArg List.length p0_E.out; rw [List.length_map] at h1; have := HL0.out; omega) (by have := HS0.out; omega)).mono ?_
  rintro e w20 ⟨rfl, b20⟩
  have B20 := below_step B19 b20
  have p0_20 := p0_19.below b20
  have g0_20 := g0_19.below b20
  have h0_20 := h0_19.below b20
  go_wp2_with fail
  refine (heldCommandS_is _ _ _ _ _ _ _ g0_20.is ((widSumCommand_of g0_E.out).trans KR0.out) (by omega) (by omega) (by have h1 := congrArg List.length g0_E.out; rw [List.length_map] at h1; have := HL0.out; omega) (lensCommand g0_E.out (by have := HS0.out; omega))).mono ?_
  rintro e w21 ⟨rfl, rfl⟩
  go_wp2_with fail
  go_ret
  exact ⟨rfl, B20⟩
end Go.Proofs.Ytffcggagjeoagaa
