/- The walk of the law FnExactCombToLam: it returns true, whatever the arguments, and writes nothing that was there. -/
import Derived.Test.YtkiaclajjlidoaaGreatDoorCtlImpl
import Derived.Test.YtkiaclajjlidoaaGreatDoorHelpComb
import Derived.Test.YtkiaclajjlidoaaGreatDoorHelpLam
namespace Go.Proofs.YtkiaclajjlidoaaGreatDoor
open Go.RowKit

set_option maxRecDepth 100000 in
set_option maxHeartbeats 2000000 in
theorem walkCombToLam (A0 : Option Addr) (n0 c0 : Nat) (x0 : List R2) (w : World) (h0 : Args 2 w A0 n0 (rows R2.vs x0)) (m0 : n0 ≤ maxLen) (f0 : ∀ x ∈ x0, x.wf) :
    Calls Tryz.prog 3 #[.slice A0 n0 c0] w fun e w' => e = .returned (.bool true) ∧ Below w.heap.size w w' := by
  unfold maxLen at m0
  have H0 : Hid (x0.length = n0) := by have := h0.1; rw [rows_len R2.vs_len] at this; unfold Hid; omega
  by_cases z0 : n0 ≤ 1048576
  rotate_left
  · go_enter Tryz.func3, Tryz.ntmps3
    go_wp2_with fail
    refine (szCombS_not A0 n0 c0 1048576 _ (by omega) (by omega) (by omega)).mono ?_
    rintro e w' ⟨rfl, rfl⟩
    go_wp2_with fail
    go_ret
    exact ⟨rfl, Below.refl _ _⟩
  obtain ⟨r0, R0⟩ : ∃ r : Nat, Hid (r + n0 = 1048576) := ⟨1048576 - n0, by unfold Hid; omega⟩
  have q0 : r0 ≤ 1048576 := by have := R0.out; omega
  have s0 : n0 ≤ 1048576 := by omega
  have Z0 := Lib.hid z0; clear z0
  go_enter Tryz.func3, Tryz.ntmps3
  go_wp2_with fail
  refine (szCombS_is A0 n0 c0 1048576 r0 _ R0.out (by omega)).mono ?_
  rintro e w' ⟨rfl, rfl⟩
  have B0 : Below w.heap.size w w := Below.refl _ _
  go_wp2_with fail
  refine (toCombS_any A0 n0 c0 x0 _ (h0.below B0) s0).mono ?_
  rintro e w1 ⟨rfl, s0x_1, b1⟩
  have B1 := below_step B0 b1
  go_wp2_with fail
  refine (specCombToLam_any _ _ n0 n0 x0 _ (sl_of_own s0x_1) H0.out s0 (Nat.le_refl _) f0).mono ?_
  rintro e w2 ⟨p0v, rfl, p0_2, b2⟩
  obtain ⟨p0A, p0c, rfl⟩ := own_form p0_2
  have B2 := below_step B1 b2
  have s0x_2 := own_below' s0x_1 b2
  go_wp2_with fail
  refine (toCombS_any A0 n0 c0 x0 _ (h0.below B2) s0).mono ?_
  rintro e w3 ⟨rfl, u0x_3, b3⟩
  have B3 := below_step B2 b3
  have p0_3 := own_below' p0_2 b3
  have hl0 := bndCombToLam0 x0 (by have := H0.out; omega)
  go_wp2_with fail
  refine (implCombToLam_any _ _ n0 n0 x0 _ (sl_of_own u0x_3) H0.out s0 (Nat.le_refl _) f0).mono ?_
  rintro e w4 ⟨g0v, rfl, g0_4, b4⟩
  obtain ⟨g0A, g0c, rfl⟩ := own_form g0_4
  have B4 := below_step B3 b4
  have p0_4 := own_below' p0_3 b4
  have u0x_4 := own_below' u0x_3 b4
  go_wp2_with fail
  refine (eqLamS_any _ _ _ _ _ _ _ _ _ (args_of_own g0_4) (args_of_own p0_4) (by omega) (by omega)).mono ?_
  rintro e w5 ⟨rfl, b5⟩
  have B5 := below_step B4 b5
  have p0_5 := own_below' p0_4 b5
  have u0x_5 := own_below' u0x_4 b5
  have g0_5 := own_below' g0_4 b5
  go_wp2_with fail
  refine (toCombS_any A0 n0 c0 x0 _ (h0.below B5) s0).mono ?_
  rintro e w6 ⟨rfl, t0x_6, b6⟩
  have B6 := below_step B5 b6
  have p0_6 := own_below' p0_5 b6
  have u0x_6 := own_below' u0x_5 b6
  have g0_6 := own_below' g0_5 b6
  go_wp2_with fail
  refine (eqCombS_any _ _ _ _ _ _ _ _ _ (args_of_own u0x_6) (args_of_own t0x_6) (by omega) (by omega)).mono ?_
  rintro e w7 ⟨rfl, b7⟩
  have B7 := below_step B6 b7
  have p0_7 := own_below' p0_6 b7
  have u0x_7 := own_below' u0x_6 b7
  have g0_7 := own_below' g0_6 b7
  have t0x_7 := own_below' t0x_6 b7
  go_wp2_with fail
  refine (markCombS_any _ _ _ _ _ _ u0x_7 (by omega) (by omega) (by omega)).mono ?_
  rintro e w8 ⟨rfl, u0x_8, g8⟩
  have B8 := grown_below B7 u0x_7 (by have := B7.size; have := b1.size; have := b2.size; have := b3.size; have := b4.size; have := b5.size; have := b6.size; have := b7.size; omega) g8
  have p0_8 := World.ownsRow.kept p0_7 g8 (own_apart p0_2 u0x_3 (by have := b1.size; have := b2.size; have := b3.size; have := b4.size; have := b5.size; have := b6.size; have := b7.size; omega))
  have g0_8 := World.ownsRow.kept g0_7 g8 (own_apart' u0x_3 g0_4 (by have := b1.size; have := b2.size; have := b3.size; have := b4.size; have := b5.size; have := b6.size; have := b7.size; omega))
  clear g8
  go_wp2_with fail
  refine (eqLamS_any _ _ _ _ _ _ _ _ _ (args_of_own g0_8) (args_of_own p0_8) (by omega) (by omega)).mono ?_
  rintro e w9 ⟨rfl, b9⟩
  have B9 := below_step B8 b9
  have p0_9 := own_below' p0_8 b9
  have g0_9 := own_below' g0_8 b9
  go_wp2_with fail
  refine (markLamS_any _ _ _ _ _ _ g0_9 (by omega) (by omega) (by omega)).mono ?_
  rintro e w10 ⟨rfl, g0_10, g10⟩
  have B10 := grown_below B9 g0_9 (by have := B9.size; have := b1.size; have := b2.size; have := b3.size; have := b4.size; have := b5.size; have := b6.size; have := b7.size; omega) g10
  have p0_10 := World.ownsRow.kept p0_9 g10 (own_apart p0_2 g0_4 (by have := b1.size; have := b2.size; have := b3.size; have := b4.size; have := b5.size; have := b6.size; have := b7.size; omega))
  clear g10
  go_wp2_with fail
  refine (heldLamS_any _ _ _ _ _ (args_of_own g0_10) (by omega) (by omega) (by omega)).mono ?_
  rintro e w11 ⟨rfl, rfl⟩
  go_wp2_with fail
  refine (toCombS_any A0 n0 c0 x0 _ (h0.below B10) s0).mono ?_
  rintro e w11 ⟨rfl, y0x_11, b11⟩
  have B11 := below_step B10 b11
  have p0_11 := own_below' p0_10 b11
  have g0_11 := own_below' g0_10 b11
  go_wp2_with fail
  refine (implCombToLam_any _ _ n0 n0 x0 _ (sl_of_own y0x_11) H0.out s0 (Nat.le_refl _) f0).mono ?_
  rintro e w12 ⟨h0v, rfl, h0_12, b12⟩
  obtain ⟨h0A, h0c, rfl⟩ := own_form h0_12
  have B12 := below_step B11 b12
  have p0_12 := own_below' p0_11 b12
  have g0_12 := own_below' g0_11 b12
  have y0x_12 := own_below' y0x_11 b12
  go_wp2_with fail
  refine (eqLamS_any _ _ _ _ _ _ _ _ _ (args_of_own h0_12) (args_of_own p0_12) (by omega) (by omega)).mono ?_
  rintro e w13 ⟨rfl, b13⟩
  have B13 := below_step B12 b13
  have p0_13 := own_below' p0_12 b13
  have g0_13 := own_below' g0_12 b13
  have h0_13 := own_below' h0_12 b13
  go_wp2_with fail
  refine (heldLamS_any _ _ _ _ _ (args_of_own g0_13) (by omega) (by omega) (by omega)).mono ?_
  rintro e w14 ⟨rfl, rfl⟩
  go_wp2_with fail
  go_ret
  exact ⟨rfl, B13⟩
end Go.Proofs.YtkiaclajjlidoaaGreatDoor
