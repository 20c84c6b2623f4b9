/- The walk of the law FnExactLoopText: it returns true, whatever the arguments, and writes nothing that was there. -/
import Derived.Test.YtjakgeblmkdbpaaDoorTxtImpl2
import Derived.Test.YtjakgeblmkdbpaaDoorHelpLoop
namespace Go.Proofs.YtjakgeblmkdbpaaDoor
open Go.RowKit

set_option maxRecDepth 100000 in
set_option maxHeartbeats 2000000 in
theorem walkLoopText (A0 : Option Addr) (n0 c0 : Nat) (x0 : List R3) (w : World) (h0 : Args 3 w A0 n0 (rows R3.vs x0)) (m0 : n0 ≤ maxLen) (f0 : ∀ x ∈ x0, x.wf) :
    Calls Tryd.prog 3 #[.slice A0 n0 c0] w fun e w' => e = .returned (.bool true) ∧ Below w.heap.size w w' := by
  unfold maxLen at m0
  have H0 : Hid (x0.length = n0) := by have := h0.1; rw [rows_len R3.vs_len] at this; unfold Hid; omega
  by_cases z0 : n0 ≤ 1048576
  rotate_left
  · go_enter Tryd.func3, Tryd.ntmps3
    go_wp2_with fail
    refine (szLoopS_not A0 n0 c0 1048576 _ (by omega) (by omega) (by omega)).mono ?_
    rintro e w' ⟨rfl, rfl⟩
    go_wp2_with fail
    go_ret
    exact ⟨rfl, Below.refl _ _⟩
  obtain ⟨r0, R0⟩ : ∃ r : Nat, Hid (r + n0 = 1048576) := ⟨1048576 - n0, by unfold Hid; omega⟩
  have q0 : r0 ≤ 1048576 := by have := R0.out; omega
  have s0 : n0 ≤ 1048576 := by omega
  have Z0 := Lib.hid z0; clear z0
  go_enter Tryd.func3, Tryd.ntmps3
  go_wp2_with fail
  refine (szLoopS_is A0 n0 c0 1048576 r0 _ R0.out (by omega)).mono ?_
  rintro e w' ⟨rfl, rfl⟩
  have B0 : Below w.heap.size w w := Below.refl _ _
  go_wp2_with fail
  refine (toLoopS_any A0 n0 c0 x0 _ (h0.below B0) s0).mono ?_
  rintro e w1 ⟨rfl, s0x_1, b1⟩
  have B1 := below_step B0 b1
  go_wp2_with fail
  refine (specLoopText_any _ _ n0 n0 x0 _ (sl_of_own s0x_1) H0.out s0 (Nat.le_refl _) f0).mono ?_
  rintro e w2 ⟨rfl, b2⟩
  have B2 := below_step B1 b2
  have s0x_2 := own_below' s0x_1 b2
  go_wp2_with fail
  refine (toLoopS_any A0 n0 c0 x0 _ (h0.below B2) s0).mono ?_
  rintro e w3 ⟨rfl, u0x_3, b3⟩
  have B3 := below_step B2 b3
  go_wp2_with fail
  refine (implLoopText_any _ _ n0 n0 x0 _ (sl_of_own u0x_3) H0.out s0 (Nat.le_refl _) f0).mono ?_
  rintro e w4 ⟨rfl, b4⟩
  have B4 := below_step B3 b4
  have u0x_4 := own_below' u0x_3 b4
  go_wp2_with fail
  refine (toLoopS_any A0 n0 c0 x0 _ (h0.below B4) s0).mono ?_
  rintro e w5 ⟨rfl, t0x_5, b5⟩
  have B5 := below_step B4 b5
  have u0x_5 := own_below' u0x_4 b5
  go_wp2_with fail
  refine (eqLoopS_any _ _ _ _ _ _ _ _ _ (args_of_own u0x_5) (args_of_own t0x_5) (by omega) (by omega)).mono ?_
  rintro e w6 ⟨rfl, b6⟩
  have B6 := below_step B5 b6
  have u0x_6 := own_below' u0x_5 b6
  have t0x_6 := own_below' t0x_5 b6
  go_wp2_with fail
  go_ret
  exact ⟨rfl, B6⟩
end Go.Proofs.YtjakgeblmkdbpaaDoor
