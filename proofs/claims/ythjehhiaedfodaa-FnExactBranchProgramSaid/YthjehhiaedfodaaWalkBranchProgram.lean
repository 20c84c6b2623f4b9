/- The walk of the law FnExactBranchProgram: it returns true, whatever the arguments, and writes nothing that was there. -/
import Derived.Test.YthjehhiaedfodaaBranchProg
import Derived.Test.YthjehhiaedfodaaHelpInstr
namespace Go.Proofs.Ythjehhiaedfodaa
open Go.RowKit

set_option maxRecDepth 100000 in
set_option maxHeartbeats 2000000 in
theorem walkBranchProgram (x0 : Int) (A1 : Option Addr) (n1 c1 : Nat) (x1 : List R4) (A2 : Option Addr) (n2 c2 : Nat) (x2 : List R4) (w : World) (f0 : Wf64 x0) (h1 : Args 4 w A1 n1 (rows R4.vs x1)) (m1 : n1 ≤ maxLen) (f1 : ∀ x ∈ x1, x.wf) (h2 : Args 4 w A2 n2 (rows R4.vs x2)) (m2 : n2 ≤ maxLen) (f2 : ∀ x ∈ x2, x.wf) :
    Calls Try.prog 7 #[.int .i64 x0, .slice A1 n1 c1, .slice A2 n2 c2] w fun e w' => e = .returned (.bool true) ∧ Below w.heap.size w w' := by
  unfold maxLen at m1
  unfold maxLen at m2
  have H1 : Hid (x1.length = n1) := by have := h1.1; rw [rows_len R4.vs_len] at this; unfold Hid; omega
  have H2 : Hid (x2.length = n2) := by have := h2.1; rw [rows_len R4.vs_len] at this; unfold Hid; omega
  by_cases z1 : n1 ≤ 1048576
  rotate_left
  · go_enter Try.func7, Try.ntmps7
    go_wp2_with fail
    refine (szInstrS_not A1 n1 c1 1048576 _ (by omega) (by omega) (by omega)).mono ?_
    rintro e w' ⟨rfl, rfl⟩
    go_wp2_with fail
    go_ret
    exact ⟨rfl, Below.refl _ _⟩
  obtain ⟨r1, R1⟩ : ∃ r : Nat, Hid (r + n1 = 1048576) := ⟨1048576 - n1, by unfold Hid; omega⟩
  have q1 : r1 ≤ 1048576 := by have := R1.out; omega
  have s1 : n1 ≤ 1048576 := by omega
  by_cases z2 : n2 ≤ r1
  rotate_left
  · go_enter Try.func7, Try.ntmps7
    go_wp2_with fail
    refine (szInstrS_is A1 n1 c1 1048576 r1 _ R1.out (by omega)).mono ?_
    rintro e w' ⟨rfl, rfl⟩
    go_wp2_with fail
    refine (szInstrS_not A2 n2 c2 r1 _ (by omega) (by omega) (by omega)).mono ?_
    rintro e w' ⟨rfl, rfl⟩
    go_wp2_with fail
    go_ret
    exact ⟨rfl, Below.refl _ _⟩
  obtain ⟨r2, R2⟩ : ∃ r : Nat, Hid (r + n2 = r1) := ⟨r1 - n2, by unfold Hid; omega⟩
  have q2 : r2 ≤ 1048576 := by have := R2.out; omega
  have s2 : n2 ≤ 1048576 := by omega
  have Z1 := Lib.hid z1; clear z1
  have Z2 := Lib.hid z2; clear z2
  go_enter Try.func7, Try.ntmps7
  go_wp2_with fail
  refine (szInstrS_is A1 n1 c1 1048576 r1 _ R1.out (by omega)).mono ?_
  rintro e w' ⟨rfl, rfl⟩
  go_wp2_with fail
  refine (szInstrS_is A2 n2 c2 r1 r2 _ R2.out (by omega)).mono ?_
  rintro e w' ⟨rfl, rfl⟩
  have B0 : Below w.heap.size w w := Below.refl _ _
  go_wp2_with fail
  refine (toInstrS_any A1 n1 c1 x1 _ (h1.below B0) s1).mono ?_
  rintro e w1 ⟨rfl, s1x_1, b1⟩
  have B1 := below_step B0 b1
  go_wp2_with fail
  refine (toInstrS_any A2 n2 c2 x2 _ (h2.below B1) s2).mono ?_
  rintro e w2 ⟨rfl, s2x_2, b2⟩
  have B2 := below_step B1 b2
  have s1x_2 := own_below' s1x_1 b2
  go_wp2_with fail
  refine (specBranchProgram_any x0 _ _ n1 n1 x1 _ _ n2 n2 x2 _ f0 (sl_of_own s1x_2) H1.out s1 (Nat.le_refl _) f1 (sl_of_own s2x_2) H2.out s2 (Nat.le_refl _) f2).mono ?_
  rintro e w3 ⟨p0v, rfl, p0_3, b3⟩
  obtain ⟨p0A, p0c, rfl⟩ := own_form p0_3
  have B3 := below_step B2 b3
  have s1x_3 := own_below' s1x_2 b3
  have s2x_3 := own_below' s2x_2 b3
  go_wp2_with fail
  refine (toInstrS_any A1 n1 c1 x1 _ (h1.below B3) s1).mono ?_
  rintro e w4 ⟨rfl, u1x_4, b4⟩
  have B4 := below_step B3 b4
  have p0_4 := own_below' p0_3 b4
  go_wp2_with fail
  refine (toInstrS_any A2 n2 c2 x2 _ (h2.below B4) s2).mono ?_
  rintro e w5 ⟨rfl, u2x_5, b5⟩
  have B5 := below_step B4 b5
  have p0_5 := own_below' p0_4 b5
  have u1x_5 := own_below' u1x_4 b5
  have hl0 := bndBranchProgram0 x0 x1 x2 (by have := H1.out; omega) (by have := H2.out; omega)
  go_wp2_with fail
  refine (implBranchProgram_any x0 _ _ n1 n1 x1 _ _ n2 n2 x2 _ f0 (sl_of_own u1x_5) H1.out s1 (Nat.le_refl _) f1 (sl_of_own u2x_5) H2.out s2 (Nat.le_refl _) f2).mono ?_
  rintro e w6 ⟨g0v, rfl, g0_6, b6⟩
  obtain ⟨g0A, g0c, rfl⟩ := own_form g0_6
  have B6 := below_step B5 b6
  have p0_6 := own_below' p0_5 b6
  have u1x_6 := own_below' u1x_5 b6
  have u2x_6 := own_below' u2x_5 b6
  go_wp2_with fail
  refine (eqInstrS_any _ _ _ _ _ _ _ _ _ (args_of_own g0_6) (args_of_own p0_6) (by omega) (by omega)).mono ?_
  rintro e w7 ⟨rfl, b7⟩
  have B7 := below_step B6 b7
  have p0_7 := own_below' p0_6 b7
  have u1x_7 := own_below' u1x_6 b7
  have u2x_7 := own_below' u2x_6 b7
  have g0_7 := own_below' g0_6 b7
  go_wp2_with fail
  refine (toInstrS_any A1 n1 c1 x1 _ (h1.below B7) s1).mono ?_
  rintro e w8 ⟨rfl, t1x_8, b8⟩
  have B8 := below_step B7 b8
  have p0_8 := own_below' p0_7 b8
  have u1x_8 := own_below' u1x_7 b8
  have u2x_8 := own_below' u2x_7 b8
  have g0_8 := own_below' g0_7 b8
  go_wp2_with fail
  refine (eqInstrS_any _ _ _ _ _ _ _ _ _ (args_of_own u1x_8) (args_of_own t1x_8) (by omega) (by omega)).mono ?_
  rintro e w9 ⟨rfl, b9⟩
  have B9 := below_step B8 b9
  have p0_9 := own_below' p0_8 b9
  have u1x_9 := own_below' u1x_8 b9
  have u2x_9 := own_below' u2x_8 b9
  have g0_9 := own_below' g0_8 b9
  have t1x_9 := own_below' t1x_8 b9
  go_wp2_with fail
  refine (toInstrS_any A2 n2 c2 x2 _ (h2.below B9) s2).mono ?_
  rintro e w10 ⟨rfl, t2x_10, b10⟩
  have B10 := below_step B9 b10
  have p0_10 := own_below' p0_9 b10
  have u1x_10 := own_below' u1x_9 b10
  have u2x_10 := own_below' u2x_9 b10
  have g0_10 := own_below' g0_9 b10
  go_wp2_with fail
  refine (eqInstrS_any _ _ _ _ _ _ _ _ _ (args_of_own u2x_10) (args_of_own t2x_10) (by omega) (by omega)).mono ?_
  rintro e w11 ⟨rfl, b11⟩
  have B11 := below_step B10 b11
  have p0_11 := own_below' p0_10 b11
  have u1x_11 := own_below' u1x_10 b11
  have u2x_11 := own_below' u2x_10 b11
  have g0_11 := own_below' g0_10 b11
  have t2x_11 := own_below' t2x_10 b11
  go_wp2_with fail
  refine (markInstrS_any _ _ _ _ _ _ u1x_11 (by omega) (by omega) (by omega)).mono ?_
  rintro e w12 ⟨rfl, u1x_12, g12⟩
  have B12 := grown_below B11 u1x_11 (by have := B11.size; have := b1.size; have := b2.size; have := b3.size; have := b4.size; have := b5.size; have := b6.size; have := b7.size; have := b8.size; have := b9.size; have := b10.size; have := b11.size; omega) g12
  have p0_12 := World.ownsRow.kept p0_11 g12 (own_apart p0_3 u1x_4 (by have := b1.size; have := b2.size; have := b3.size; have := b4.size; have := b5.size; have := b6.size; have := b7.size; have := b8.size; have := b9.size; have := b10.size; have := b11.size; omega))
  have u2x_12 := World.ownsRow.kept u2x_11 g12 (own_apart' u1x_4 u2x_5 (by have := b1.size; have := b2.size; have := b3.size; have := b4.size; have := b5.size; have := b6.size; have := b7.size; have := b8.size; have := b9.size; have := b10.size; have := b11.size; omega))
  have g0_12 := World.ownsRow.kept g0_11 g12 (own_apart' u1x_4 g0_6 (by have := b1.size; have := b2.size; have := b3.size; have := b4.size; have := b5.size; have := b6.size; have := b7.size; have := b8.size; have := b9.size; have := b10.size; have := b11.size; omega))
  clear g12
  go_wp2_with fail
  refine (markInstrS_any _ _ _ _ _ _ u2x_12 (by omega) (by omega) (by omega)).mono ?_
  rintro e w13 ⟨rfl, u2x_13, g13⟩
  have B13 := grown_below B12 u2x_12 (by have := B12.size; have := b1.size; have := b2.size; have := b3.size; have := b4.size; have := b5.size; have := b6.size; have := b7.size; have := b8.size; have := b9.size; have := b10.size; have := b11.size; omega) g13
  have p0_13 := World.ownsRow.kept p0_12 g13 (own_apart p0_3 u2x_5 (by have := b1.size; have := b2.size; have := b3.size; have := b4.size; have := b5.size; have := b6.size; have := b7.size; have := b8.size; have := b9.size; have := b10.size; have := b11.size; omega))
  have u1x_13 := World.ownsRow.kept u1x_12 g13 (own_apart u1x_4 u2x_5 (by have := b1.size; have := b2.size; have := b3.size; have := b4.size; have := b5.size; have := b6.size; have := b7.size; have := b8.size; have := b9.size; have := b10.size; have := b11.size; omega))
  have g0_13 := World.ownsRow.kept g0_12 g13 (own_apart' u2x_5 g0_6 (by have := b1.size; have := b2.size; have := b3.size; have := b4.size; have := b5.size; have := b6.size; have := b7.size; have := b8.size; have := b9.size; have := b10.size; have := b11.size; omega))
  clear g13
  go_wp2_with fail
  refine (eqInstrS_any _ _ _ _ _ _ _ _ _ (args_of_own g0_13) (args_of_own p0_13) (by omega) (by omega)).mono ?_
  rintro e w14 ⟨rfl, b14⟩
  have B14 := below_step B13 b14
  have p0_14 := own_below' p0_13 b14
  have g0_14 := own_below' g0_13 b14
  go_wp2_with fail
  refine (markInstrS_any _ _ _ _ _ _ g0_14 (by omega) (by omega) (by omega)).mono ?_
  rintro e w15 ⟨rfl, g0_15, g15⟩
  have B15 := grown_below B14 g0_14 (by have := B14.size; have := b1.size; have := b2.size; have := b3.size; have := b4.size; have := b5.size; have := b6.size; have := b7.size; have := b8.size; have := b9.size; have := b10.size; have := b11.size; omega) g15
  have p0_15 := World.ownsRow.kept p0_14 g15 (own_apart p0_3 g0_6 (by have := b1.size; have := b2.size; have := b3.size; have := b4.size; have := b5.size; have := b6.size; have := b7.size; have := b8.size; have := b9.size; have := b10.size; have := b11.size; omega))
  clear g15
  go_wp2_with fail
  refine (heldInstrS_any _ _ _ _ _ (args_of_own g0_15) (by omega) (by omega) (by omega)).mono ?_
  rintro e w16 ⟨rfl, rfl⟩
  go_wp2_with fail
  refine (toInstrS_any A1 n1 c1 x1 _ (h1.below B15) s1).mono ?_
  rintro e w16 ⟨rfl, y1x_16, b16⟩
  have B16 := below_step B15 b16
  have p0_16 := own_below' p0_15 b16
  have g0_16 := own_below' g0_15 b16
  go_wp2_with fail
  refine (toInstrS_any A2 n2 c2 x2 _ (h2.below B16) s2).mono ?_
  rintro e w17 ⟨rfl, y2x_17, b17⟩
  have B17 := below_step B16 b17
  have p0_17 := own_below' p0_16 b17
  have g0_17 := own_below' g0_16 b17
  have y1x_17 := own_below' y1x_16 b17
  go_wp2_with fail
  refine (implBranchProgram_any x0 _ _ n1 n1 x1 _ _ n2 n2 x2 _ f0 (sl_of_own y1x_17) H1.out s1 (Nat.le_refl _) f1 (sl_of_own y2x_17) H2.out s2 (Nat.le_refl _) f2).mono ?_
  rintro e w18 ⟨h0v, rfl, h0_18, b18⟩
  obtain ⟨h0A, h0c, rfl⟩ := own_form h0_18
  have B18 := below_step B17 b18
  have p0_18 := own_below' p0_17 b18
  have g0_18 := own_below' g0_17 b18
  have y1x_18 := own_below' y1x_17 b18
  have y2x_18 := own_below' y2x_17 b18
  go_wp2_with fail
  refine (eqInstrS_any _ _ _ _ _ _ _ _ _ (args_of_own h0_18) (args_of_own p0_18) (by omega) (by omega)).mono ?_
  rintro e w19 ⟨rfl, b19⟩
  have B19 := below_step B18 b19
  have p0_19 := own_below' p0_18 b19
  have g0_19 := own_below' g0_18 b19
  have h0_19 := own_below' h0_18 b19
  go_wp2_with fail
  refine (heldInstrS_any _ _ _ _ _ (args_of_own g0_19) (by omega) (by omega) (by omega)).mono ?_
  rintro e w20 ⟨rfl, rfl⟩
  go_wp2_with fail
  go_ret
  exact ⟨rfl, B19⟩
end Go.Proofs.Ythjehhiaedfodaa
