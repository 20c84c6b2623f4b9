/- The walk of the law FnExactNumberOfTree: it returns true, whatever the arguments, and writes nothing that was there. -/
import Derived.Test.YtffcggagjeoagaaNumTree
import Derived.Test.YtffcggagjeoagaaHelpBool
namespace Go.Proofs.Ytffcggagjeoagaa
open Go.RowKit

set_option maxRecDepth 100000 in
set_option maxHeartbeats 2000000 in
theorem walkNumberOfTree (A0 : Option Addr) (n0 c0 : Nat) (x0 : List Bool) (w : World) (h0 : Arg w A0 n0 (x0.map (Value.bool))) (m0 : n0 ≤ maxLen) :
    Calls Try.prog 3 #[.slice A0 n0 c0] w fun e w' => e = .returned (.bool true) ∧ Below w.heap.size w w' := by
  unfold maxLen at m0
  by_cases s0 : n0 ≤ 1048576
  rotate_left
  · go_enter Try.func3, Try.ntmps3
    go_wp2_with fail
    go_ret
    exact ⟨rfl, Below.refl _ _⟩
  have H0 : Hid (x0.length = n0) := by have := h0.1; rw [List.length_map] at this; exact this
  go_enter Try.func3, Try.ntmps3
  have B0 : Below w.heap.size w w := Below.refl _ _
  go_wp2_with fail
  refine (toBoolS_any A0 n0 c0 x0 _ (h0.below B0) s0).mono ?_
  rintro e w1 ⟨rfl, s0x_1, b1⟩
  have B1 := below_step B0 b1
  go_wp2_with fail
  refine (specNumberOfTree_any _ _ n0 n0 x0 _ (sl_of_own s0x_1) H0.out s0 (Nat.le_refl _)).mono ?_
  rintro e w2 ⟨rfl, b2⟩
  have B2 := below_step B1 b2
  have s0x_2 := own_below' s0x_1 b2
  go_wp2_with fail
  refine (toBoolS_any A0 n0 c0 x0 _ (h0.below B2) s0).mono ?_
  rintro e w3 ⟨rfl, u0x_3, b3⟩
  have B3 := below_step B2 b3
  go_wp2_with fail
  refine (implNumberOfTree_any _ _ n0 n0 x0 _ (sl_of_own u0x_3) H0.out s0 (Nat.le_refl _)).mono ?_
  rintro e w4 ⟨rfl, b4⟩
  have B4 := below_step B3 b4
  have u0x_4 := own_below' u0x_3 b4
  go_wp2_with fail
  refine (toBoolS_any A0 n0 c0 x0 _ (h0.below B4) s0).mono ?_
  rintro e w5 ⟨rfl, t0x_5, b5⟩
  have B5 := below_step B4 b5
  have u0x_5 := own_below' u0x_4 b5
  go_wp2_with fail
  refine (eqBoolS_any _ _ _ _ _ _ _ _ _ (arg_of_own u0x_5) (arg_of_own t0x_5) (by omega) (by omega)).mono ?_
  rintro e w6 ⟨rfl, q6, hq⟩
  have b6 := quiet_below hq
  clear hq q6
  have B6 := below_step B5 b6
  have u0x_6 := own_below' u0x_5 b6
  have t0x_6 := own_below' t0x_5 b6
  go_wp2_with fail
  go_ret
  exact ⟨rfl, B6⟩
end Go.Proofs.Ytffcggagjeoagaa
