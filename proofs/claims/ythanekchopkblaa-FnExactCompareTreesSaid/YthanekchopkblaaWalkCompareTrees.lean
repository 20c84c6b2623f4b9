/- The walk of the law FnExactCompareTrees: it returns true, whatever the arguments, and writes nothing that was there. -/
import Derived.Test.YthanekchopkblaaCompare
import Derived.Test.YthanekchopkblaaHelpBool
namespace Go.Proofs.Ythanekchopkblaa
open Go.RowKit

set_option maxRecDepth 100000 in
set_option maxHeartbeats 2000000 in
theorem walkCompareTrees (A0 : Option Addr) (n0 c0 : Nat) (x0 : List Bool) (A1 : Option Addr) (n1 c1 : Nat) (x1 : List Bool) (w : World) (h0 : Arg w A0 n0 (x0.map (Value.bool))) (m0 : n0 ≤ maxLen) (h1 : Arg w A1 n1 (x1.map (Value.bool))) (m1 : n1 ≤ maxLen) :
    Calls Try.prog 3 #[.slice A0 n0 c0, .slice A1 n1 c1] w fun e w' => e = .returned (.bool true) ∧ Below w.heap.size w w' := by
  unfold maxLen at m0
  unfold maxLen at m1
  by_cases s0 : n0 ≤ 1048576
  rotate_left
  · go_enter Try.func3, Try.ntmps3
    go_wp2_with fail
    go_ret
    exact ⟨rfl, Below.refl _ _⟩
  by_cases s1 : n1 ≤ 1048576
  rotate_left
  · go_enter Try.func3, Try.ntmps3
    go_wp2_with fail
    go_ret
    exact ⟨rfl, Below.refl _ _⟩
  have H0 : Hid (x0.length = n0) := by have := h0.1; rw [List.length_map] at this; exact this
  have H1 : Hid (x1.length = n1) := by have := h1.1; rw [List.length_map] at this; exact this
  go_enter Try.func3, Try.ntmps3
  have B0 : Below w.heap.size w w := Below.refl _ _
  go_wp2_with fail
  refine (toBoolS_any A0 n0 c0 x0 _ (h0.below B0) s0).mono ?_
  rintro e w1 ⟨rfl, s0x_1, b1⟩
  have B1 := below_step B0 b1
  go_wp2_with fail
  refine (toBoolS_any A1 n1 c1 x1 _ (h1.below B1) s1).mono ?_
  rintro e w2 ⟨rfl, s1x_2, b2⟩
  have B2 := below_step B1 b2
  have s0x_2 := own_below' s0x_1 b2
  go_wp2_with fail
  refine (specCompareTrees_any _ _ n0 n0 x0 _ _ n1 n1 x1 _ (sl_of_own s0x_2) H0.out s0 (sl_of_own s1x_2) H1.out s1).mono ?_
  rintro e w3 ⟨rfl, b3⟩
  have B3 := below_step B2 b3
  have s0x_3 := own_below' s0x_2 b3
  have s1x_3 := own_below' s1x_2 b3
  go_wp2_with fail
  refine (toBoolS_any A0 n0 c0 x0 _ (h0.below B3) s0).mono ?_
  rintro e w4 ⟨rfl, u0x_4, b4⟩
  have B4 := below_step B3 b4
  go_wp2_with fail
  refine (toBoolS_any A1 n1 c1 x1 _ (h1.below B4) s1).mono ?_
  rintro e w5 ⟨rfl, u1x_5, b5⟩
  have B5 := below_step B4 b5
  have u0x_5 := own_below' u0x_4 b5
  go_wp2_with fail
  refine (implCompareTrees_any _ _ n0 n0 x0 _ _ n1 n1 x1 _ (sl_of_own u0x_5) H0.out s0 (sl_of_own u1x_5) H1.out s1).mono ?_
  rintro e w6 ⟨rfl, b6⟩
  have B6 := below_step B5 b6
  have u0x_6 := own_below' u0x_5 b6
  have u1x_6 := own_below' u1x_5 b6
  go_wp2_with fail
  refine (toBoolS_any A0 n0 c0 x0 _ (h0.below B6) s0).mono ?_
  rintro e w7 ⟨rfl, t0x_7, b7⟩
  have B7 := below_step B6 b7
  have u0x_7 := own_below' u0x_6 b7
  have u1x_7 := own_below' u1x_6 b7
  go_wp2_with fail
  refine (eqBoolS_any _ _ _ _ _ _ _ _ _ (arg_of_own u0x_7) (arg_of_own t0x_7) (by omega) (by omega)).mono ?_
  rintro e w8 ⟨rfl, q8, hq⟩
  have b8 := quiet_below hq
  clear hq q8
  have B8 := below_step B7 b8
  have u0x_8 := own_below' u0x_7 b8
  have u1x_8 := own_below' u1x_7 b8
  have t0x_8 := own_below' t0x_7 b8
  go_wp2_with fail
  refine (toBoolS_any A1 n1 c1 x1 _ (h1.below B8) s1).mono ?_
  rintro e w9 ⟨rfl, t1x_9, b9⟩
  have B9 := below_step B8 b9
  have u0x_9 := own_below' u0x_8 b9
  have u1x_9 := own_below' u1x_8 b9
  go_wp2_with fail
  refine (eqBoolS_any _ _ _ _ _ _ _ _ _ (arg_of_own u1x_9) (arg_of_own t1x_9) (by omega) (by omega)).mono ?_
  rintro e w10 ⟨rfl, q10, hq⟩
  have b10 := quiet_below hq
  clear hq q10
  have B10 := below_step B9 b10
  have u0x_10 := own_below' u0x_9 b10
  have u1x_10 := own_below' u1x_9 b10
  have t1x_10 := own_below' t1x_9 b10
  go_wp2_with fail
  go_ret
  exact ⟨rfl, B10⟩
end Go.Proofs.Ythanekchopkblaa
