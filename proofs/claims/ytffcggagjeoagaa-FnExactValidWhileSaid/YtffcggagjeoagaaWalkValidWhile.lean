/- The walk of the law FnExactValidWhile: it returns true, whatever the arguments, and writes nothing that was there. -/
import Derived.Test.YtffcggagjeoagaaValidWhile
import Derived.Test.YtffcggagjeoagaaHelpCommand
import Derived.Test.YtffcggagjeoagaaHeld
namespace Go.Proofs.Ytffcggagjeoagaa
open Go.RowKit

set_option maxRecDepth 100000 in
set_option maxHeartbeats 4000000 in
theorem walkValidWhile (A0 : Option Addr) (n0 c0 : Nat) (x0 : List ECommand) (w : World) (h0 : Args 4 w A0 n0 (rows ECommand.vs x0)) (r0 : RdsCommand w x0) (m0 : n0 ≤ maxLen) (f0 : ∀ e ∈ x0, wbCommand 9223372036854775807 e.d ∧ e.d.wf) :
    Calls Try.prog 8 #[.slice A0 n0 c0] w fun e w' => e = .returned (.bool true) ∧ Below w.heap.size w w' := by
  unfold maxLen at m0
  obtain ⟨d0, D0⟩ : ∃ d, Hid (x0.map (·.d) = d) := ⟨_, rfl⟩
  have H0 : Hid (d0.length = n0) := by have := h0.1; rw [rows_len (s := 4) (fun _ => rfl)] at this; unfold Hid; rw [← D0.out, List.length_map]; omega
  have W0 : Hid (∀ x ∈ d0, x.wf) := by unfold Hid; rw [← D0.out]; intro x hx; obtain ⟨e, he, rfl⟩ := List.mem_map.1 hx; exact (f0 e he).2
  have F0 : Hid (∀ e ∈ x0, wbCommand 9223372036854775807 e.d) := fun e he => (f0 e he).1
  clear f0
  obtain ⟨t0, T0⟩ : ∃ t0 : Nat, Hid (sumCommand d0 = t0) := ⟨_, rfl⟩
  by_cases z0 : n0 + t0 ≤ 1048576
  rotate_left
  · go_enter Try.func8, Try.ntmps8
    have B0 : Below w.heap.size w w := Below.refl _ _
    go_wp2_with fail
    refine (szCommandS_not A0 n0 c0 1048576 x0 _ (h0.below B0) (r0.below B0) (by rw [D0.out]; have := T0.out; omega) (by omega) (by omega) F0.out).mono ?_
    rintro e w' ⟨rfl, bz⟩
    go_wp2_with fail
    go_ret
    exact ⟨rfl, (below_step B0 bz)⟩
  obtain ⟨r'0, R0⟩ : ∃ r' : Nat, Hid (r' + (n0 + t0) = 1048576) := ⟨1048576 - (n0 + t0), by unfold Hid; omega⟩
  have q0 : r'0 ≤ 1048576 := by have := R0.out; omega
  have s0 : n0 ≤ 1048576 := by omega
  have u0 : t0 ≤ 1048576 := by omega
  have Z0 := Lib.hid z0; clear z0
  have S0 : Hid (sumCommand d0 ≤ 1048576) := by have := T0.out; unfold Hid; omega
  go_enter Try.func8, Try.ntmps8
  have B0 : Below w.heap.size w w := Below.refl _ _
  go_wp2_with fail
  refine (szCommandS_is A0 n0 c0 1048576 r'0 x0 _ (h0.below B0) (r0.below B0) (by rw [D0.out]; have := R0.out; have := T0.out; omega) (by omega) F0.out).mono ?_
  rintro e w1 ⟨rfl, b1⟩
  have B1 := below_step B0 b1
  obtain ⟨k0, K0⟩ : ∃ k0 : Nat, Hid (3 * d0.length + sumCommand d0 * 2 = k0) := ⟨_, rfl⟩
  have kb0 : k0 ≤ 8388608 := by have := K0.out; have := S0.out; have := H0.out; omega
  go_wp2_with fail
  refine (toCommandS_any A0 n0 c0 x0 _ (h0.below B1) (r0.below B1) s0 (by rw [D0.out]; exact S0.out)).mono ?_
  rintro e w2 ⟨rfl, ⟨es2, o2, he2⟩, b2⟩
  have B2 := below_step B1 b2
  have E2 := Lib.hid (he2.trans D0.out); clear he2
  have s0x_2 := o2.held (Nat.le_refl _)
  clear o2
  go_wp2_with fail
  refine (specValidWhile_any _ _ n0 n0 es2 d0 _ s0x_2.is.slN (rdsCommand_of s0x_2.is) E2.out H0.out s0 (Nat.le_refl _) S0.out W0.out).mono ?_
  rintro e w3 ⟨rfl, b3⟩
  have B3 := below_step B2 b3
  have s0x_3 := s0x_2.below b3
  go_wp2_with fail
  refine (toCommandS_any A0 n0 c0 x0 _ (h0.below B3) (r0.below B3) s0 (by rw [D0.out]; exact S0.out)).mono ?_
  rintro e w4 ⟨rfl, ⟨es4, o4, he4⟩, b4⟩
  have B4 := below_step B3 b4
  have E4 := Lib.hid (he4.trans D0.out); clear he4
  have u0x_4 := o4.held (Nat.le_refl _)
  clear o4
  go_wp2_with fail
  refine (implValidWhile_any _ _ n0 n0 es4 d0 _ u0x_4.is.slN (rdsCommand_of u0x_4.is) E4.out H0.out s0 (Nat.le_refl _) S0.out W0.out).mono ?_
  rintro e w5 ⟨rfl, b5⟩
  have B5 := below_step B4 b5
  have u0x_5 := u0x_4.below b5
  go_wp2_with fail
  refine (toCommandS_any A0 n0 c0 x0 _ (h0.below B5) (r0.below B5) s0 (by rw [D0.out]; exact S0.out)).mono ?_
  rintro e w6 ⟨rfl, ⟨es6, o6, he6⟩, b6⟩
  have B6 := below_step B5 b6
  have E6 := Lib.hid (he6.trans D0.out); clear he6
  have u0x_6 := u0x_5.below b6
  have t0x_6 := o6.held (Nat.le_refl _)
  clear o6
  go_wp2_with fail
  refine (eqCommandS_is _ _ _ _ _ _ _ _ _ _ u0x_6.is.argsN (rdsCommand_of u0x_6.is) t0x_6.is.argsN (rdsCommand_of t0x_6.is) E4.out E6.out (by omega) (by omega) (by have := S0.out; omega)).mono ?_
  rintro e w7 ⟨rfl, b7⟩
  have B7 := below_step B6 b7
  have u0x_7 := u0x_6.below b7
  have t0x_7 := t0x_6.below b7
  go_wp2_with fail
  go_ret
  exact ⟨rfl, B7⟩
end Go.Proofs.Ytffcggagjeoagaa
