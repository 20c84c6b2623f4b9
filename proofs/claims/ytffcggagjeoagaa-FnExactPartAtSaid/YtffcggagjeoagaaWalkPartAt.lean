/- The walk of the law FnExactPartAt: it returns true, whatever the arguments, and writes nothing that was there. -/
import Derived.Test.YtffcggagjeoagaaPartEnds
import Derived.Test.YtffcggagjeoagaaHelpBool
import Derived.Test.YtffcggagjeoagaaHelpInt
namespace Go.Proofs.Ytffcggagjeoagaa
open Go.RowKit

set_option maxRecDepth 100000 in
set_option maxHeartbeats 2000000 in
theorem walkPartAt (A0 : Option Addr) (n0 c0 : Nat) (x0 : List Bool) (A1 : Option Addr) (n1 c1 : Nat) (x1 : List Int) (w : World) (h0 : Arg w A0 n0 (x0.map (Value.bool))) (m0 : n0 ≤ maxLen) (h1 : Arg w A1 n1 (x1.map (Value.int .i64))) (m1 : n1 ≤ maxLen) (f1 : Wf64s x1) :
    Calls Try.prog 4 #[.slice A0 n0 c0, .slice A1 n1 c1] w fun e w' => e = .returned (.bool true) ∧ Below w.heap.size w w' := by
  unfold maxLen at m0
  unfold maxLen at m1
  by_cases s0 : n0 ≤ 1048576
  rotate_left
  · go_enter Try.func4, Try.ntmps4
    go_wp2_with fail
    go_ret
    exact ⟨rfl, Below.refl _ _⟩
  by_cases s1 : n1 ≤ 1048576
  rotate_left
  · go_enter Try.func4, Try.ntmps4
    go_wp2_with fail
    go_ret
    exact ⟨rfl, Below.refl _ _⟩
  have H0 : Hid (x0.length = n0) := by have := h0.1; rw [List.length_map] at this; exact this
  have H1 : Hid (x1.length = n1) := by have := h1.1; rw [List.length_map] at this; exact this
  go_enter Try.func4, Try.ntmps4
  have B0 : Below w.heap.size w w := Below.refl _ _
  go_wp2_with fail
  refine (toBoolS_any A0 n0 c0 x0 _ (h0.below B0) s0).mono ?_
  rintro e w1 ⟨rfl, s0x_1, b1⟩
  have B1 := below_step B0 b1
  go_wp2_with fail
  refine (toInt64S_any A1 n1 c1 x1 _ (h1.below B1) s1).mono ?_
  rintro e w2 ⟨rfl, s1x_2, b2⟩
  have B2 := below_step B1 b2
  have s0x_2 := own_below' s0x_1 b2
  go_wp2_with fail
  refine (specPartAt_any _ _ n0 n0 x0 _ _ n1 n1 x1 _ (sl_of_own s0x_2) H0.out s0 (Nat.le_refl _) (sl_of_own s1x_2) H1.out s1 (Nat.le_refl _) f1).mono ?_
  rintro e w3 ⟨p0v, rfl, p0_3, b3⟩
  obtain ⟨p0A, p0c, rfl⟩ := own_form p0_3
  have B3 := below_step B2 b3
  have s0x_3 := own_below' s0x_2 b3
  have s1x_3 := own_below' s1x_2 b3
  go_wp2_with fail
  refine (toBoolS_any A0 n0 c0 x0 _ (h0.below B3) s0).mono ?_
  rintro e w4 ⟨rfl, u0x_4, b4⟩
  have B4 := below_step B3 b4
  have p0_4 := own_below' p0_3 b4
  go_wp2_with fail
  refine (toInt64S_any A1 n1 c1 x1 _ (h1.below B4) s1).mono ?_
  rintro e w5 ⟨rfl, u1x_5, b5⟩
  have B5 := below_step B4 b5
  have p0_5 := own_below' p0_4 b5
  have u0x_5 := own_below' u0x_4 b5
  have hl0 := bndPartAt0 x0 x1 (by have := H0.out; omega) (by have := H1.out; omega)
  go_wp2_with fail
  refine (implPartAt_any _ _ n0 n0 x0 _ _ n1 n1 x1 _ (sl_of_own u0x_5) H0.out s0 (Nat.le_refl _) (sl_of_own u1x_5) H1.out s1 (Nat.le_refl _) f1).mono ?_
  rintro e w6 ⟨g0v, rfl, g0_6, b6⟩
  obtain ⟨g0A, g0c, rfl⟩ := own_form g0_6
  have B6 := below_step B5 b6
  have p0_6 := own_below' p0_5 b6
  have u0x_6 := own_below' u0x_5 b6
  have u1x_6 := own_below' u1x_5 b6
  go_wp2_with fail
  refine (eqBoolS_any _ _ _ _ _ _ _ _ _ (arg_of_own g0_6) (arg_of_own p0_6) (by omega) (by omega)).mono ?_
  rintro e w7 ⟨rfl, q7, hq⟩
  have b7 := quiet_below hq
  clear hq q7
  have B7 := below_step B6 b7
  have p0_7 := own_below' p0_6 b7
  have u0x_7 := own_below' u0x_6 b7
  have u1x_7 := own_below' u1x_6 b7
  have g0_7 := own_below' g0_6 b7
  go_wp2_with fail
  refine (toBoolS_any A0 n0 c0 x0 _ (h0.below B7) s0).mono ?_
  rintro e w8 ⟨rfl, t0x_8, b8⟩
  have B8 := below_step B7 b8
  have p0_8 := own_below' p0_7 b8
  have u0x_8 := own_below' u0x_7 b8
  have u1x_8 := own_below' u1x_7 b8
  have g0_8 := own_below' g0_7 b8
  go_wp2_with fail
  refine (eqBoolS_any _ _ _ _ _ _ _ _ _ (arg_of_own u0x_8) (arg_of_own t0x_8) (by omega) (by omega)).mono ?_
  rintro e w9 ⟨rfl, q9, hq⟩
  have b9 := quiet_below hq
  clear hq q9
  have B9 := below_step B8 b9
  have p0_9 := own_below' p0_8 b9
  have u0x_9 := own_below' u0x_8 b9
  have u1x_9 := own_below' u1x_8 b9
  have g0_9 := own_below' g0_8 b9
  have t0x_9 := own_below' t0x_8 b9
  go_wp2_with fail
  refine (toInt64S_any A1 n1 c1 x1 _ (h1.below B9) s1).mono ?_
  rintro e w10 ⟨rfl, t1x_10, b10⟩
  have B10 := below_step B9 b10
  have p0_10 := own_below' p0_9 b10
  have u0x_10 := own_below' u0x_9 b10
  have u1x_10 := own_below' u1x_9 b10
  have g0_10 := own_below' g0_9 b10
  go_wp2_with fail
  refine (eqInt64S_any _ _ _ _ _ _ _ _ _ (arg_of_own u1x_10) (arg_of_own t1x_10) (by omega) (by omega)).mono ?_
  rintro e w11 ⟨rfl, q11, hq⟩
  have b11 := quiet_below hq
  clear hq q11
  have B11 := below_step B10 b11
  have p0_11 := own_below' p0_10 b11
  have u0x_11 := own_below' u0x_10 b11
  have u1x_11 := own_below' u1x_10 b11
  have g0_11 := own_below' g0_10 b11
  have t1x_11 := own_below' t1x_10 b11
  go_wp2_with fail
  refine (markBoolS_any _ _ _ _ _ _ u0x_11 (by omega) (by omega) (by omega)).mono ?_
  rintro e w12 ⟨rfl, u0x_12, g12⟩
  have B12 := grown_below B11 u0x_11 (by have := B11.size; have := b1.size; have := b2.size; have := b3.size; have := b4.size; have := b5.size; have := b6.size; have := b7.size; have := b8.size; have := b9.size; have := b10.size; have := b11.size; omega) g12
  have p0_12 := World.ownsRow.kept p0_11 g12 (own_apart p0_3 u0x_4 (by have := b1.size; have := b2.size; have := b3.size; have := b4.size; have := b5.size; have := b6.size; have := b7.size; have := b8.size; have := b9.size; have := b10.size; have := b11.size; omega))
  have u1x_12 := World.ownsRow.kept u1x_11 g12 (own_apart' u0x_4 u1x_5 (by have := b1.size; have := b2.size; have := b3.size; have := b4.size; have := b5.size; have := b6.size; have := b7.size; have := b8.size; have := b9.size; have := b10.size; have := b11.size; omega))
  have g0_12 := World.ownsRow.kept g0_11 g12 (own_apart' u0x_4 g0_6 (by have := b1.size; have := b2.size; have := b3.size; have := b4.size; have := b5.size; have := b6.size; have := b7.size; have := b8.size; have := b9.size; have := b10.size; have := b11.size; omega))
  clear g12
  go_wp2_with fail
  refine (markInt64S_any _ _ _ _ _ _ u1x_12 (by omega) (by omega) (by omega)).mono ?_
  rintro e w13 ⟨rfl, u1x_13, g13⟩
  have B13 := grown_below B12 u1x_12 (by have := B12.size; have := b1.size; have := b2.size; have := b3.size; have := b4.size; have := b5.size; have := b6.size; have := b7.size; have := b8.size; have := b9.size; have := b10.size; have := b11.size; omega) g13
  have p0_13 := World.ownsRow.kept p0_12 g13 (own_apart p0_3 u1x_5 (by have := b1.size; have := b2.size; have := b3.size; have := b4.size; have := b5.size; have := b6.size; have := b7.size; have := b8.size; have := b9.size; have := b10.size; have := b11.size; omega))
  have u0x_13 := World.ownsRow.kept u0x_12 g13 (own_apart u0x_4 u1x_5 (by have := b1.size; have := b2.size; have := b3.size; have := b4.size; have := b5.size; have := b6.size; have := b7.size; have := b8.size; have := b9.size; have := b10.size; have := b11.size; omega))
  have g0_13 := World.ownsRow.kept g0_12 g13 (own_apart' u1x_5 g0_6 (by have := b1.size; have := b2.size; have := b3.size; have := b4.size; have := b5.size; have := b6.size; have := b7.size; have := b8.size; have := b9.size; have := b10.size; have := b11.size; omega))
  clear g13
  go_wp2_with fail
  refine (eqBoolS_any _ _ _ _ _ _ _ _ _ (arg_of_own g0_13) (arg_of_own p0_13) (by omega) (by omega)).mono ?_
  rintro e w14 ⟨rfl, q14, hq⟩
  have b14 := quiet_below hq
  clear hq q14
  have B14 := below_step B13 b14
  have p0_14 := own_below' p0_13 b14
  have g0_14 := own_below' g0_13 b14
  go_wp2_with fail
  refine (markBoolS_any _ _ _ _ _ _ g0_14 (by omega) (by omega) (by omega)).mono ?_
  rintro e w15 ⟨rfl, g0_15, g15⟩
  have B15 := grown_below B14 g0_14 (by have := B14.size; have := b1.size; have := b2.size; have := b3.size; have := b4.size; have := b5.size; have := b6.size; have := b7.size; have := b8.size; have := b9.size; have := b10.size; have := b11.size; omega) g15
  have p0_15 := World.ownsRow.kept p0_14 g15 (own_apart p0_3 g0_6 (by have := b1.size; have := b2.size; have := b3.size; have := b4.size; have := b5.size; have := b6.size; have := b7.size; have := b8.size; have := b9.size; have := b10.size; have := b11.size; omega))
  clear g15
  go_wp2_with fail
  refine (heldBoolS_any _ _ _ _ _ (arg_of_own g0_15) (by omega) (by omega) (by omega)).mono ?_
  rintro e w16 ⟨rfl, rfl⟩
  go_wp2_with fail
  refine (toBoolS_any A0 n0 c0 x0 _ (h0.below B15) s0).mono ?_
  rintro e w16 ⟨rfl, y0x_16, b16⟩
  have B16 := below_step B15 b16
  have p0_16 := own_below' p0_15 b16
  have g0_16 := own_below' g0_15 b16
  go_wp2_with fail
  refine (toInt64S_any A1 n1 c1 x1 _ (h1.below B16) s1).mono ?_
  rintro e w17 ⟨rfl, y1x_17, b17⟩
  have B17 := below_step B16 b17
  have p0_17 := own_below' p0_16 b17
  have g0_17 := own_below' g0_16 b17
  have y0x_17 := own_below' y0x_16 b17
  go_wp2_with fail
  refine (implPartAt_any _ _ n0 n0 x0 _ _ n1 n1 x1 _ (sl_of_own y0x_17) H0.out s0 (Nat.le_refl _) (sl_of_own y1x_17) H1.out s1 (Nat.le_refl _) f1).mono ?_
  rintro e w18 ⟨h0v, rfl, h0_18, b18⟩
  obtain ⟨h0A, h0c, rfl⟩ := own_form h0_18
  have B18 := below_step B17 b18
  have p0_18 := own_below' p0_17 b18
  have g0_18 := own_below' g0_17 b18
  have y0x_18 := own_below' y0x_17 b18
  have y1x_18 := own_below' y1x_17 b18
  go_wp2_with fail
  refine (eqBoolS_any _ _ _ _ _ _ _ _ _ (arg_of_own h0_18) (arg_of_own p0_18) (by omega) (by omega)).mono ?_
  rintro e w19 ⟨rfl, q19, hq⟩
  have b19 := quiet_below hq
  clear hq q19
  have B19 := below_step B18 b19
  have p0_19 := own_below' p0_18 b19
  have g0_19 := own_below' g0_18 b19
  have h0_19 := own_below' h0_18 b19
  go_wp2_with fail
  refine (heldBoolS_any _ _ _ _ _ (arg_of_own g0_19) (by omega) (by omega) (by omega)).mono ?_
  rintro e w20 ⟨rfl, rfl⟩
  go_wp2_with fail
  go_ret
  exact ⟨rfl, B19⟩
end Go.Proofs.Ytffcggagjeoagaa
