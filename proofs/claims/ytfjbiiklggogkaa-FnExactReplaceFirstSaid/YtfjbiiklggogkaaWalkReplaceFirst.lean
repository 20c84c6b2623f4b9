/- The walk of the law FnExactReplaceFirst: it returns true, whatever the arguments, and writes nothing that was there. -/
import Derived.Test.YtfjbiiklggogkaaReplaceFirst
import Derived.Test.YtfjbiiklggogkaaHelpInt
namespace Go.Proofs.Ytfjbiiklggogkaa
open Go.RowKit

set_option maxRecDepth 100000 in
set_option maxHeartbeats 2000000 in
theorem walkReplaceFirst (A0 : Option Addr) (n0 c0 : Nat) (x0 : List Int) (A1 : Option Addr) (n1 c1 : Nat) (x1 : List Int) (A2 : Option Addr) (n2 c2 : Nat) (x2 : List Int) (w : World) (h0 : Arg w A0 n0 (x0.map (Value.int .i64))) (m0 : n0 ≤ maxLen) (f0 : Wf64s x0) (h1 : Arg w A1 n1 (x1.map (Value.int .i64))) (m1 : n1 ≤ maxLen) (f1 : Wf64s x1) (h2 : Arg w A2 n2 (x2.map (Value.int .i64))) (m2 : n2 ≤ maxLen) (f2 : Wf64s x2) :
    Calls Try.prog 9 #[.slice A0 n0 c0, .slice A1 n1 c1, .slice A2 n2 c2] w fun e w' => e = .returned (.bool true) ∧ Below w.heap.size w w' := by
  unfold maxLen at m0
  unfold maxLen at m1
  unfold maxLen at m2
  by_cases s0 : n0 ≤ 1048576
  rotate_left
  · go_enter Try.func9, Try.ntmps9
    go_wp2_with fail
    go_ret
    exact ⟨rfl, Below.refl _ _⟩
  by_cases s1 : n1 ≤ 1048576
  rotate_left
  · go_enter Try.func9, Try.ntmps9
    go_wp2_with fail
    go_ret
    exact ⟨rfl, Below.refl _ _⟩
  by_cases s2 : n2 ≤ 1048576
  rotate_left
  · go_enter Try.func9, Try.ntmps9
    go_wp2_with fail
    go_ret
    exact ⟨rfl, Below.refl _ _⟩
  have H0 : Hid (x0.length = n0) := by have := h0.1; rw [List.length_map] at this; exact this
  have H1 : Hid (x1.length = n1) := by have := h1.1; rw [List.length_map] at this; exact this
  have H2 : Hid (x2.length = n2) := by have := h2.1; rw [List.length_map] at this; exact this
  go_enter Try.func9, Try.ntmps9
  have B0 : Below w.heap.size w w := Below.refl _ _
  go_wp2_with fail
  refine (toInt64S_any A0 n0 c0 x0 _ (h0.below B0) s0).mono ?_
  rintro e w1 ⟨rfl, s0x_1, b1⟩
  have B1 := below_step B0 b1
  go_wp2_with fail
  refine (toInt64S_any A1 n1 c1 x1 _ (h1.below B1) s1).mono ?_
  rintro e w2 ⟨rfl, s1x_2, b2⟩
  have B2 := below_step B1 b2
  have s0x_2 := own_below' s0x_1 b2
  go_wp2_with fail
  refine (toInt64S_any A2 n2 c2 x2 _ (h2.below B2) s2).mono ?_
  rintro e w3 ⟨rfl, s2x_3, b3⟩
  have B3 := below_step B2 b3
  have s0x_3 := own_below' s0x_2 b3
  have s1x_3 := own_below' s1x_2 b3
  go_wp2_with fail
  refine (specReplaceFirst_any _ _ n0 n0 x0 _ _ n1 n1 x1 _ _ n2 n2 x2 _ (sl_of_own s0x_3) H0.out s0 f0 (sl_of_own s1x_3) H1.out s1 f1 (sl_of_own s2x_3) H2.out s2 f2).mono ?_
  rintro e w4 ⟨p0v, rfl, p0_4, b4⟩
  obtain ⟨p0A, p0c, rfl⟩ := own_form p0_4
  have B4 := below_step B3 b4
  have s0x_4 := own_below' s0x_3 b4
  have s1x_4 := own_below' s1x_3 b4
  have s2x_4 := own_below' s2x_3 b4
  go_wp2_with fail
  refine (toInt64S_any A0 n0 c0 x0 _ (h0.below B4) s0).mono ?_
  rintro e w5 ⟨rfl, u0x_5, b5⟩
  have B5 := below_step B4 b5
  have p0_5 := own_below' p0_4 b5
  go_wp2_with fail
  refine (toInt64S_any A1 n1 c1 x1 _ (h1.below B5) s1).mono ?_
  rintro e w6 ⟨rfl, u1x_6, b6⟩
  have B6 := below_step B5 b6
  have p0_6 := own_below' p0_5 b6
  have u0x_6 := own_below' u0x_5 b6
  go_wp2_with fail
  refine (toInt64S_any A2 n2 c2 x2 _ (h2.below B6) s2).mono ?_
  rintro e w7 ⟨rfl, u2x_7, b7⟩
  have B7 := below_step B6 b7
  have p0_7 := own_below' p0_6 b7
  have u0x_7 := own_below' u0x_6 b7
  have u1x_7 := own_below' u1x_6 b7
  have hl0 := bndReplaceFirst0 x0 x1 x2 (by have := H0.out; omega) (by have := H1.out; omega) (by have := H2.out; omega)
  go_wp2_with fail
  refine (implReplaceFirst_any _ _ n0 n0 x0 _ _ n1 n1 x1 _ _ n2 n2 x2 _ (sl_of_own u0x_7) H0.out s0 f0 (sl_of_own u1x_7) H1.out s1 f1 (sl_of_own u2x_7) H2.out s2 f2).mono ?_
  rintro e w8 ⟨g0v, rfl, g0_8, b8⟩
  obtain ⟨g0A, g0c, rfl⟩ := own_form g0_8
  have B8 := below_step B7 b8
  have p0_8 := own_below' p0_7 b8
  have u0x_8 := own_below' u0x_7 b8
  have u1x_8 := own_below' u1x_7 b8
  have u2x_8 := own_below' u2x_7 b8
  go_wp2_with fail
  refine (eqInt64S_any _ _ _ _ _ _ _ _ _ (arg_of_own g0_8) (arg_of_own p0_8) (by omega) (by omega)).mono ?_
  rintro e w9 ⟨rfl, q9, hq⟩
  have b9 := quiet_below hq
  clear hq q9
  have B9 := below_step B8 b9
  have p0_9 := own_below' p0_8 b9
  have u0x_9 := own_below' u0x_8 b9
  have u1x_9 := own_below' u1x_8 b9
  have u2x_9 := own_below' u2x_8 b9
  have g0_9 := own_below' g0_8 b9
  go_wp2_with fail
  refine (toInt64S_any A0 n0 c0 x0 _ (h0.below B9) s0).mono ?_
  rintro e w10 ⟨rfl, t0x_10, b10⟩
  have B10 := below_step B9 b10
  have p0_10 := own_below' p0_9 b10
  have u0x_10 := own_below' u0x_9 b10
  have u1x_10 := own_below' u1x_9 b10
  have u2x_10 := own_below' u2x_9 b10
  have g0_10 := own_below' g0_9 b10
  go_wp2_with fail
  refine (eqInt64S_any _ _ _ _ _ _ _ _ _ (arg_of_own u0x_10) (arg_of_own t0x_10) (by omega) (by omega)).mono ?_
  rintro e w11 ⟨rfl, q11, hq⟩
  have b11 := quiet_below hq
  clear hq q11
  have B11 := below_step B10 b11
  have p0_11 := own_below' p0_10 b11
  have u0x_11 := own_below' u0x_10 b11
  have u1x_11 := own_below' u1x_10 b11
  have u2x_11 := own_below' u2x_10 b11
  have g0_11 := own_below' g0_10 b11
  have t0x_11 := own_below' t0x_10 b11
  go_wp2_with fail
  refine (toInt64S_any A1 n1 c1 x1 _ (h1.below B11) s1).mono ?_
  rintro e w12 ⟨rfl, t1x_12, b12⟩
  have B12 := below_step B11 b12
  have p0_12 := own_below' p0_11 b12
  have u0x_12 := own_below' u0x_11 b12
  have u1x_12 := own_below' u1x_11 b12
  have u2x_12 := own_below' u2x_11 b12
  have g0_12 := own_below' g0_11 b12
  go_wp2_with fail
  refine (eqInt64S_any _ _ _ _ _ _ _ _ _ (arg_of_own u1x_12) (arg_of_own t1x_12) (by omega) (by omega)).mono ?_
  rintro e w13 ⟨rfl, q13, hq⟩
  have b13 := quiet_below hq
  clear hq q13
  have B13 := below_step B12 b13
  have p0_13 := own_below' p0_12 b13
  have u0x_13 := own_below' u0x_12 b13
  have u1x_13 := own_below' u1x_12 b13
  have u2x_13 := own_below' u2x_12 b13
  have g0_13 := own_below' g0_12 b13
  have t1x_13 := own_below' t1x_12 b13
  go_wp2_with fail
  refine (toInt64S_any A2 n2 c2 x2 _ (h2.below B13) s2).mono ?_
  rintro e w14 ⟨rfl, t2x_14, b14⟩
  have B14 := below_step B13 b14
  have p0_14 := own_below' p0_13 b14
  have u0x_14 := own_below' u0x_13 b14
  have u1x_14 := own_below' u1x_13 b14
  have u2x_14 := own_below' u2x_13 b14
  have g0_14 := own_below' g0_13 b14
  go_wp2_with fail
  refine (eqInt64S_any _ _ _ _ _ _ _ _ _ (arg_of_own u2x_14) (arg_of_own t2x_14) (by omega) (by omega)).mono ?_
  rintro e w15 ⟨rfl, q15, hq⟩
  have b15 := quiet_below hq
  clear hq q15
  have B15 := below_step B14 b15
  have p0_15 := own_below' p0_14 b15
  have u0x_15 := own_below' u0x_14 b15
  have u1x_15 := own_below' u1x_14 b15
  have u2x_15 := own_below' u2x_14 b15
  have g0_15 := own_below' g0_14 b15
  have t2x_15 := own_below' t2x_14 b15
  go_wp2_with fail
  refine (markInt64S_any _ _ _ _ _ _ u0x_15 (by omega) (by omega) (by omega)).mono ?_
  rintro e w16 ⟨rfl, u0x_16, g16⟩
  have B16 := grown_below B15 u0x_15 (by have := B15.size; have := b1.size; have := b2.size; have := b3.size; have := b4.size; have := b5.size; have := b6.size; have := b7.size; have := b8.size; have := b9.size; have := b10.size; have := b11.size; have := b12.size; have := b13.size; have := b14.size; have := b15.size; omega) g16
  have p0_16 := World.ownsRow.kept p0_15 g16 (own_apart p0_4 u0x_5 (by have := b1.size; have := b2.size; have := b3.size; have := b4.size; have := b5.size; have := b6.size; have := b7.size; have := b8.size; have := b9.size; have := b10.size; have := b11.size; have := b12.size; have := b13.size; have := b14.size; have := b15.size; omega))
  have u1x_16 := World.ownsRow.kept u1x_15 g16 (own_apart' u0x_5 u1x_6 (by have := b1.size; have := b2.size; have := b3.size; have := b4.size; have := b5.size; have := b6.size; have := b7.size; have := b8.size; have := b9.size; have := b10.size; have := b11.size; have := b12.size; have := b13.size; have := b14.size; have := b15.size; omega))
  have u2x_16 := World.ownsRow.kept u2x_15 g16 (own_apart' u0x_5 u2x_7 (by have := b1.size; have := b2.size; have := b3.size; have := b4.size; have := b5.size; have := b6.size; have := b7.size; have := b8.size; have := b9.size; have := b10.size; have := b11.size; have := b12.size; have := b13.size; have := b14.size; have := b15.size; omega))
  have g0_16 := World.ownsRow.kept g0_15 g16 (own_apart' u0x_5 g0_8 (by have := b1.size; have := b2.size; have := b3.size; have := b4.size; have := b5.size; have := b6.size; have := b7.size; have := b8.size; have := b9.size; have := b10.size; have := b11.size; have := b12.size; have := b13.size; have := b14.size; have := b15.size; omega))
  clear g16
  go_wp2_with fail
  refine (markInt64S_any _ _ _ _ _ _ u1x_16 (by omega) (by omega) (by omega)).mono ?_
  rintro e w17 ⟨rfl, u1x_17, g17⟩
  have B17 := grown_below B16 u1x_16 (by have := B16.size; have := b1.size; have := b2.size; have := b3.size; have := b4.size; have := b5.size; have := b6.size; have := b7.size; have := b8.size; have := b9.size; have := b10.size; have := b11.size; have := b12.size; have := b13.size; have := b14.size; have := b15.size; omega) g17
  have p0_17 := World.ownsRow.kept p0_16 g17 (own_apart p0_4 u1x_6 (by have := b1.size; have := b2.size; have := b3.size; have := b4.size; have := b5.size; have := b6.size; have := b7.size; have := b8.size; have := b9.size; have := b10.size; have := b11.size; have := b12.size; have := b13.size; have := b14.size; have := b15.size; omega))
  have u0x_17 := World.ownsRow.kept u0x_16 g17 (own_apart u0x_5 u1x_6 (by have := b1.size; have := b2.size; have := b3.size; have := b4.size; have := b5.size; have := b6.size; have := b7.size; have := b8.size; have := b9.size; have := b10.size; have := b11.size; have := b12.size; have := b13.size; have := b14.size; have := b15.size; omega))
  have u2x_17 := World.ownsRow.kept u2x_16 g17 (own_apart' u1x_6 u2x_7 (by have := b1.size; have := b2.size; have := b3.size; have := b4.size; have := b5.size; have := b6.size; have := b7.size; have := b8.size; have := b9.size; have := b10.size; have := b11.size; have := b12.size; have := b13.size; have := b14.size; have := b15.size; omega))
  have g0_17 := World.ownsRow.kept g0_16 g17 (own_apart' u1x_6 g0_8 (by have := b1.size; have := b2.size; have := b3.size; have := b4.size; have := b5.size; have := b6.size; have := b7.size; have := b8.size; have := b9.size; have := b10.size; have := b11.size; have := b12.size; have := b13.size; have := b14.size; have := b15.size; omega))
  clear g17
  go_wp2_with fail
  refine (markInt64S_any _ _ _ _ _ _ u2x_17 (by omega) (by omega) (by omega)).mono ?_
  rintro e w18 ⟨rfl, u2x_18, g18⟩
  have B18 := grown_below B17 u2x_17 (by have := B17.size; have := b1.size; have := b2.size; have := b3.size; have := b4.size; have := b5.size; have := b6.size; have := b7.size; have := b8.size; have := b9.size; have := b10.size; have := b11.size; have := b12.size; have := b13.size; have := b14.size; have := b15.size; omega) g18
  have p0_18 := World.ownsRow.kept p0_17 g18 (own_apart p0_4 u2x_7 (by have := b1.size; have := b2.size; have := b3.size; have := b4.size; have := b5.size; have := b6.size; have := b7.size; have := b8.size; have := b9.size; have := b10.size; have := b11.size; have := b12.size; have := b13.size; have := b14.size; have := b15.size; omega))
  have u0x_18 := World.ownsRow.kept u0x_17 g18 (own_apart u0x_5 u2x_7 (by have := b1.size; have := b2.size; have := b3.size; have := b4.size; have := b5.size; have := b6.size; have := b7.size; have := b8.size; have := b9.size; have := b10.size; have := b11.size; have := b12.size; have := b13.size; have := b14.size; have := b15.size; omega))
  have u1x_18 := World.ownsRow.kept u1x_17 g18 (own_apart u1x_6 u2x_7 (by have := b1.size; have := b2.size; have := b3.size; have := b4.size; have := b5.size; have := b6.size; have := b7.size; have := b8.size; have := b9.size; have := b10.size; have := b11.size; have := b12.size; have := b13.size; have := b14.size; have := b15.size; omega))
  have g0_18 := World.ownsRow.kept g0_17 g18 (own_apart' u2x_7 g0_8 (by have := b1.size; have := b2.size; have := b3.size; have := b4.size; have := b5.size; have := b6.size; have := b7.size; have := b8.size; have := b9.size; have := b10.size; have := b11.size; have := b12.size; have := b13.size; have := b14.size; have := b15.size; omega))
  clear g18
  go_wp2_with fail
  refine (eqInt64S_any _ _ _ _ _ _ _ _ _ (arg_of_own g0_18) (arg_of_own p0_18) (by omega) (by omega)).mono ?_
  rintro e w19 ⟨rfl, q19, hq⟩
  have b19 := quiet_below hq
  clear hq q19
  have B19 := below_step B18 b19
  have p0_19 := own_below' p0_18 b19
  have g0_19 := own_below' g0_18 b19
  go_wp2_with fail
  refine (markInt64S_any _ _ _ _ _ _ g0_19 (by omega) (by omega) (by omega)).mono ?_
  rintro e w20 ⟨rfl, g0_20, g20⟩
  have B20 := grown_below B19 g0_19 (by have := B19.size; have := b1.size; have := b2.size; have := b3.size; have := b4.size; have := b5.size; have := b6.size; have := b7.size; have := b8.size; have := b9.size; have := b10.size; have := b11.size; have := b12.size; have := b13.size; have := b14.size; have := b15.size; omega) g20
  have p0_20 := World.ownsRow.kept p0_19 g20 (own_apart p0_4 g0_8 (by have := b1.size; have := b2.size; have := b3.size; have := b4.size; have := b5.size; have := b6.size; have := b7.size; have := b8.size; have := b9.size; have := b10.size; have := b11.size; have := b12.size; have := b13.size; have := b14.size; have := b15.size; omega))
  clear g20
  go_wp2_with fail
  refine (heldInt64S_any _ _ _ _ _ (arg_of_own g0_20) (by omega) (by omega) (by omega)).mono ?_
  rintro e w21 ⟨rfl, rfl⟩
  go_wp2_with fail
  refine (toInt64S_any A0 n0 c0 x0 _ (h0.below B20) s0).mono ?_
  rintro e w21 ⟨rfl, y0x_21, b21⟩
  have B21 := below_step B20 b21
  have p0_21 := own_below' p0_20 b21
  have g0_21 := own_below' g0_20 b21
  go_wp2_with fail
  refine (toInt64S_any A1 n1 c1 x1 _ (h1.below B21) s1).mono ?_
  rintro e w22 ⟨rfl, y1x_22, b22⟩
  have B22 := below_step B21 b22
  have p0_22 := own_below' p0_21 b22
  have g0_22 := own_below' g0_21 b22
  have y0x_22 := own_below' y0x_21 b22
  go_wp2_with fail
  refine (toInt64S_any A2 n2 c2 x2 _ (h2.below B22) s2).mono ?_
  rintro e w23 ⟨rfl, y2x_23, b23⟩
  have B23 := below_step B22 b23
  have p0_23 := own_below' p0_22 b23
  have g0_23 := own_below' g0_22 b23
  have y0x_23 := own_below' y0x_22 b23
  have y1x_23 := own_below' y1x_22 b23
  go_wp2_with fail
  refine (implReplaceFirst_any _ _ n0 n0 x0 _ _ n1 n1 x1 _ _ n2 n2 x2 _ (sl_of_own y0x_23) H0.out s0 f0 (sl_of_own y1x_23) H1.out s1 f1 (sl_of_own y2x_23) H2.out s2 f2).mono ?_
  rintro e w24 ⟨h0v, rfl, h0_24, b24⟩
  obtain ⟨h0A, h0c, rfl⟩ := own_form h0_24
  have B24 := below_step B23 b24
  have p0_24 := own_below' p0_23 b24
  have g0_24 := own_below' g0_23 b24
  have y0x_24 := own_below' y0x_23 b24
  have y1x_24 := own_below' y1x_23 b24
  have y2x_24 := own_below' y2x_23 b24
  go_wp2_with fail
  refine (eqInt64S_any _ _ _ _ _ _ _ _ _ (arg_of_own h0_24) (arg_of_own p0_24) (by omega) (by omega)).mono ?_
  rintro e w25 ⟨rfl, q25, hq⟩
  have b25 := quiet_below hq
  clear hq q25
  have B25 := below_step B24 b25
  have p0_25 := own_below' p0_24 b25
  have g0_25 := own_below' g0_24 b25
  have h0_25 := own_below' h0_24 b25
  go_wp2_with fail
  refine (heldInt64S_any _ _ _ _ _ (arg_of_own g0_25) (by omega) (by omega) (by omega)).mono ?_
  rintro e w26 ⟨rfl, rfl⟩
  go_wp2_with fail
  go_ret
  exact ⟨rfl, B25⟩
end Go.Proofs.Ytfjbiiklggogkaa
