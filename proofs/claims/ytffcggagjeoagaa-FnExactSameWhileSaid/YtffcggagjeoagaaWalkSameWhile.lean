/- The walk of the law FnExactSameWhile: it returns true, whatever the arguments, and writes nothing that was there. -/
import Derived.Test.YtffcggagjeoagaaSameWhile
import Derived.Test.YtffcggagjeoagaaHelpCommand
import Derived.Test.YtffcggagjeoagaaHeld
namespace Go.Proofs.Ytffcggagjeoagaa
open Go.RowKit

set_option maxRecDepth 100000 in
set_option maxHeartbeats 4000000 in
theorem walkSameWhile (A0 : Option Addr) (n0 c0 : Nat) (x0 : List ECommand) (A1 : Option Addr) (n1 c1 : Nat) (x1 : List ECommand) (w : World) (h0 : Args 4 w A0 n0 (rows ECommand.vs x0)) (r0 : RdsCommand w x0) (m0 : n0 ≤ maxLen) (f0 : ∀ e ∈ x0, wbCommand 9223372036854775807 e.d ∧ e.d.wf) (h1 : Args 4 w A1 n1 (rows ECommand.vs x1)) (r1 : RdsCommand w x1) (m1 : n1 ≤ maxLen) (f1 : ∀ e ∈ x1, wbCommand 9223372036854775807 e.d ∧ e.d.wf) :
    Calls Try.prog 7 #[.slice A0 n0 c0, .slice A1 n1 c1] w fun e w' => e = .returned (.bool true) ∧ Below w.heap.size w w' := by
  unfold maxLen at m0
  unfold maxLen at m1
  obtain ⟨d0, D0⟩ : ∃ d, Hid (x0.map (·.d) = d) := ⟨_, rfl⟩
  have H0 : Hid (d0.length = n0) := by have := h0.1; rw [rows_len (s := 4) (fun _ => rfl)] at this; unfold Hid; rw [← D0.out, List.length_map]; omega
  have W0 : Hid (∀ x ∈ d0, x.wf) := by unfold Hid; rw [← D0.out]; intro x hx; obtain ⟨e, he, rfl⟩ := List.mem_map.1 hx; exact (f0 e he).2
  have F0 : Hid (∀ e ∈ x0, wbCommand 9223372036854775807 e.d) := fun e he => (f0 e he).1
  clear f0
  obtain ⟨t0, T0⟩ : ∃ t0 : Nat, Hid (sumCommand d0 = t0) := ⟨_, rfl⟩
  obtain ⟨d1, D1⟩ : ∃ d, Hid (x1.map (·.d) = d) := ⟨_, rfl⟩
  have H1 : Hid (d1.length = n1) := by have := h1.1; rw [rows_len (s := 4) (fun _ => rfl)] at this; unfold Hid; rw [← D1.out, List.length_map]; omega
  have W1 : Hid (∀ x ∈ d1, x.wf) := by unfold Hid; rw [← D1.out]; intro x hx; obtain ⟨e, he, rfl⟩ := List.mem_map.1 hx; exact (f1 e he).2
  have F1 : Hid (∀ e ∈ x1, wbCommand 9223372036854775807 e.d) := fun e he => (f1 e he).1
  clear f1
  obtain ⟨t1, T1⟩ : ∃ t1 : Nat, Hid (sumCommand d1 = t1) := ⟨_, rfl⟩
  by_cases z0 : n0 + t0 ≤ 1048576
  rotate_left
  · go_enter Try.func7, Try.ntmps7
    have B0 : Below w.heap.size w w := Below.refl _ _
    go_wp2_with fail
    refine (szCommandS_not A0 n0 c0 1048576 x0 _ (h0.below B0) (r0.below B0) (by rw [D0.out]; have := T0.out; omega) (by omega) (by omega) F0.out).mono ?_
    rintro e w' ⟨rfl, bz⟩
    go_wp2_with fail
    go_ret
    exact ⟨rfl, (below_step B0 bz)⟩
  obtain ⟨r'0, R0⟩ : ∃ r' : Nat, Hid (r' + (n0 + t0) = 1048576) := ⟨1048576 - (n0 + t0), by unfold Hid; omega⟩
  have q0 : r'0 ≤ 1048576 := by have := R0.out; omega
  have s0 : n0 ≤ 1048576 := by omega
  have u0 : t0 ≤ 1048576 := by omega
  by_cases z1 : n1 + t1 ≤ r'0
  rotate_left
  · go_enter Try.func7, Try.ntmps7
    have B0 : Below w.heap.size w w := Below.refl _ _
    go_wp2_with fail
    refine (szCommandS_is A0 n0 c0 1048576 r'0 x0 _ (h0.below B0) (r0.below B0) (by rw [D0.out]; have := R0.out; have := T0.out; omega) (by omega) F0.out).mono ?_
    rintro e w1 ⟨rfl, b1⟩
    have B1 := below_step B0 b1
    go_wp2_with fail
    refine (szCommandS_not A1 n1 c1 r'0 x1 _ (h1.below B1) (r1.below B1) (by rw [D1.out]; have := T1.out; omega) (by omega) (by omega) F1.out).mono ?_
    rintro e w' ⟨rfl, bz⟩
    go_wp2_with fail
    go_ret
    exact ⟨rfl, (below_step B1 bz)⟩
  obtain ⟨r'1, R1⟩ : ∃ r' : Nat, Hid (r' + (n1 + t1) = r'0) := ⟨r'0 - (n1 + t1), by unfold Hid; omega⟩
  have q1 : r'1 ≤ 1048576 := by have := R1.out; omega
  have s1 : n1 ≤ 1048576 := by omega
  have u1 : t1 ≤ 1048576 := by omega
  have Z0 := Lib.hid z0; clear z0
  have Z1 := Lib.hid z1; clear z1
  have S0 : Hid (sumCommand d0 ≤ 1048576) := by have := T0.out; unfold Hid; omega
  have S1 : Hid (sumCommand d1 ≤ 1048576) := by have := T1.out; unfold Hid; omega
  go_enter Try.func7, Try.ntmps7
  have B0 : Below w.heap.size w w := Below.refl _ _
  go_wp2_with fail
  refine (szCommandS_is A0 n0 c0 1048576 r'0 x0 _ (h0.below B0) (r0.below B0) (by rw [D0.out]; have := R0.out; have := T0.out; omega) (by omega) F0.out).mono ?_
  rintro e w1 ⟨rfl, b1⟩
  have B1 := below_step B0 b1
  go_wp2_with fail
  refine (szCommandS_is A1 n1 c1 r'0 r'1 x1 _ (h1.below B1) (r1.below B1) (by rw [D1.out]; have := R1.out; have := T1.out; omega) (by omega) F1.out).mono ?_
  rintro e w2 ⟨rfl, b2⟩
  have B2 := below_step B1 b2
  obtain ⟨k0, K0⟩ : ∃ k0 : Nat, Hid (3 * d0.length + sumCommand d0 * 2 = k0) := ⟨_, rfl⟩
  have kb0 : k0 ≤ 8388608 := by have := K0.out; have := S0.out; have := H0.out; omega
  obtain ⟨k1, K1⟩ : ∃ k1 : Nat, Hid (3 * d1.length + sumCommand d1 * 2 = k1) := ⟨_, rfl⟩
  have kb1 : k1 ≤ 8388608 := by have := K1.out; have := S1.out; have := H1.out; omega
  go_wp2_with fail
  refine (toCommandS_any A0 n0 c0 x0 _ (h0.below B2) (r0.below B2) s0 (by rw [D0.out]; exact S0.out)).mono ?_
  rintro e w3 ⟨rfl, ⟨es3, o3, he3⟩, b3⟩
  have B3 := below_step B2 b3
  have E3 := Lib.hid (he3.trans D0.out); clear he3
  have s0x_3 := o3.held (Nat.le_refl _)
  clear o3
  go_wp2_with fail
  refine (toCommandS_any A1 n1 c1 x1 _ (h1.below B3) (r1.below B3) s1 (by rw [D1.out]; exact S1.out)).mono ?_
  rintro e w4 ⟨rfl, ⟨es4, o4, he4⟩, b4⟩
  have B4 := below_step B3 b4
  have E4 := Lib.hid (he4.trans D1.out); clear he4
  have s0x_4 := s0x_3.below b4
  have s1x_4 := o4.held (Nat.le_refl _)
  clear o4
  go_wp2_with fail
  refine (specSameWhile_any _ _ n0 n0 es3 d0 _ _ n1 n1 es4 d1 _ s0x_4.is.slN (rdsCommand_of s0x_4.is) E3.out H0.out s0 (Nat.le_refl _) S0.out W0.out s1x_4.is.slN (rdsCommand_of s1x_4.is) E4.out H1.out s1 (Nat.le_refl _) S1.out W1.out).mono ?_
  rintro e w5 ⟨rfl, b5⟩
  have B5 := below_step B4 b5
  have s0x_5 := s0x_4.below b5
  have s1x_5 := s1x_4.below b5
  go_wp2_with fail
  refine (toCommandS_any A0 n0 c0 x0 _ (h0.below B5) (r0.below B5) s0 (by rw [D0.out]; exact S0.out)).mono ?_
  rintro e w6 ⟨rfl, ⟨es6, o6, he6⟩, b6⟩
  have B6 := below_step B5 b6
  have E6 := Lib.hid (he6.trans D0.out); clear he6
  have u0x_6 := o6.held (Nat.le_refl _)
  clear o6
  go_wp2_with fail
  refine (toCommandS_any A1 n1 c1 x1 _ (h1.below B6) (r1.below B6) s1 (by rw [D1.out]; exact S1.out)).mono ?_
  rintro e w7 ⟨rfl, ⟨es7, o7, he7⟩, b7⟩
  have B7 := below_step B6 b7
  have E7 := Lib.hid (he7.trans D1.out); clear he7
  have u0x_7 := u0x_6.below b7
  have u1x_7 := o7.held (Nat.le_refl _)
  clear o7
  go_wp2_with fail
  refine (implSameWhile_any _ _ n0 n0 es6 d0 _ _ n1 n1 es7 d1 _ u0x_7.is.slN (rdsCommand_of u0x_7.is) E6.out H0.out s0 (Nat.le_refl _) S0.out W0.out u1x_7.is.slN (rdsCommand_of u1x_7.is) E7.out H1.out s1 (Nat.le_refl _) S1.out W1.out).mono ?_
  rintro e w8 ⟨rfl, b8⟩
  have B8 := below_step B7 b8
  have u0x_8 := u0x_7.below b8
  have u1x_8 := u1x_7.below b8
  go_wp2_with fail
  refine (toCommandS_any A0 n0 c0 x0 _ (h0.below B8) (r0.below B8) s0 (by rw [D0.out]; exact S0.out)).mono ?_
  rintro e w9 ⟨rfl, ⟨es9, o9, he9⟩, b9⟩
  have B9 := below_step B8 b9
  have E9 := Lib.hid (he9.trans D0.out); clear he9
  have u0x_9 := u0x_8.below b9
  have u1x_9 := u1x_8.below b9
  have t0x_9 := o9.held (Nat.le_refl _)
  clear o9
  go_wp2_with fail
  refine (eqCommandS_is _ _ _ _ _ _ _ _ _ _ u0x_9.is.argsN (rdsCommand_of u0x_9.is) t0x_9.is.argsN (rdsCommand_of t0x_9.is) E6.out E9.out (by omega) (by omega) (by have := S0.out; omega)).mono ?_
  rintro e w10 ⟨rfl, b10⟩
  have B10 := below_step B9 b10
  have u0x_10 := u0x_9.below b10
  have u1x_10 := u1x_9.below b10
  have t0x_10 := t0x_9.below b10
  go_wp2_with fail
  refine (toCommandS_any A1 n1 c1 x1 _ (h1.below B10) (r1.below B10) s1 (by rw [D1.out]; exact S1.out)).mono ?_
  rintro e w11 ⟨rfl, ⟨es11, o11, he11⟩, b11⟩
  have B11 := below_step B10 b11
  have E11 := Lib.hid (he11.trans D1.out); clear he11
  have u0x_11 := u0x_10.below b11
  have u1x_11 := u1x_10.below b11
  have t1x_11 := o11.held (Nat.le_refl _)
  clear o11
  go_wp2_with fail
  refine (eqCommandS_is _ _ _ _ _ _ _ _ _ _ u1x_11.is.argsN (rdsCommand_of u1x_11.is) t1x_11.is.argsN (rdsCommand_of t1x_11.is) E7.out E11.out (by omega) (by omega) (by have := S1.out; omega)).mono ?_
  rintro e w12 ⟨rfl, b12⟩
  have B12 := below_step B11 b12
  have u0x_12 := u0x_11.below b12
  have u1x_12 := u1x_11.below b12
  have t1x_12 := t1x_11.below b12
  go_wp2_with fail
  go_ret
  exact ⟨rfl, B12⟩
end Go.Proofs.Ytffcggagjeoagaa
