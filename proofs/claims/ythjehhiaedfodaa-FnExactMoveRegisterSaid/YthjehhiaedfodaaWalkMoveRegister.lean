/- The walk of the law FnExactMoveRegister: it returns true, whatever the arguments, and writes nothing that was there. -/
import Derived.Test.YthjehhiaedfodaaRegs
import Derived.Test.YthjehhiaedfodaaHelpInstr
import Derived.Test.YthjehhiaedfodaaHelpInt
namespace Go.Proofs.Ythjehhiaedfodaa
open Go.RowKit

set_option maxRecDepth 100000 in
set_option maxHeartbeats 2000000 in
theorem walkMoveRegister (x0 : Int) (A1 : Option Addr) (n1 c1 : Nat) (x1 : List Int) (w : World) (f0 : Wf64 x0) (h1 : Arg w A1 n1 (x1.map (Value.int .i64))) (m1 : n1 ≤ maxLen) (f1 : Wf64s x1) :
    Calls Try.prog 12 #[.int .i64 x0, .slice A1 n1 c1] w fun e w' => e = .returned (.bool true) ∧ Below w.heap.size w w' := by
  unfold maxLen at m1
  by_cases s1 : n1 ≤ 1048576
  rotate_left
  · go_enter Try.func12, Try.ntmps12
    go_wp2_with fail
    go_ret
    exact ⟨rfl, Below.refl _ _⟩
  have H1 : Hid (x1.length = n1) := by have := h1.1; rw [List.length_map] at this; exact this
  go_enter Try.func12, Try.ntmps12
  have B0 : Below w.heap.size w w := Below.refl _ _
  go_wp2_with fail
  refine (toInt64S_any A1 n1 c1 x1 _ (h1.below B0) s1).mono ?_
  rintro e w1 ⟨rfl, s1x_1, b1⟩
  have B1 := below_step B0 b1
  go_wp2_with fail
  refine (specMoveRegister_any x0 _ _ n1 n1 x1 _ f0 (sl_of_own s1x_1) H1.out s1 f1).mono ?_
  rintro e w2 ⟨p0v, rfl, p0_2, b2⟩
  obtain ⟨p0A, p0c, rfl⟩ := own_form p0_2
  have B2 := below_step B1 b2
  have s1x_2 := own_below' s1x_1 b2
  go_wp2_with fail
  refine (toInt64S_any A1 n1 c1 x1 _ (h1.below B2) s1).mono ?_
  rintro e w3 ⟨rfl, u1x_3, b3⟩
  have B3 := below_step B2 b3
  have p0_3 := own_below' p0_2 b3
  have hl0 := bndMoveRegister0 x0 x1 (by have := H1.out; omega)
  go_wp2_with fail
  refine (implMoveRegister_any x0 _ _ n1 n1 x1 _ f0 (sl_of_own u1x_3) H1.out s1 f1).mono ?_
  rintro e w4 ⟨g0v, rfl, g0_4, b4⟩
  obtain ⟨g0A, g0c, rfl⟩ := own_form g0_4
  have B4 := below_step B3 b4
  have p0_4 := own_below' p0_3 b4
  have u1x_4 := own_below' u1x_3 b4
  go_wp2_with fail
  refine (eqInstrS_any _ _ _ _ _ _ _ _ _ (args_of_own g0_4) (args_of_own p0_4) (by omega) (by omega)).mono ?_
  rintro e w5 ⟨rfl, b5⟩
  have B5 := below_step B4 b5
  have p0_5 := own_below' p0_4 b5
  have u1x_5 := own_below' u1x_4 b5
  have g0_5 := own_below' g0_4 b5
  go_wp2_with fail
  refine (toInt64S_any A1 n1 c1 x1 _ (h1.below B5) s1).mono ?_
  rintro e w6 ⟨rfl, t1x_6, b6⟩
  have B6 := below_step B5 b6
  have p0_6 := own_below' p0_5 b6
  have u1x_6 := own_below' u1x_5 b6
  have g0_6 := own_below' g0_5 b6
  go_wp2_with fail
  refine (eqInt64S_any _ _ _ _ _ _ _ _ _ (arg_of_own u1x_6) (arg_of_own t1x_6) (by omega) (by omega)).mono ?_
  rintro e w7 ⟨rfl, q7, hq⟩
  have b7 := quiet_below hq
  clear hq q7
  have B7 := below_step B6 b7
  have p0_7 := own_below' p0_6 b7
  have u1x_7 := own_below' u1x_6 b7
  have g0_7 := own_below' g0_6 b7
  have t1x_7 := own_below' t1x_6 b7
  go_wp2_with fail
  refine (markInt64S_any _ _ _ _ _ _ u1x_7 (by omega) (by omega) (by omega)).mono ?_
  rintro e w8 ⟨rfl, u1x_8, g8⟩
  have B8 := grown_below B7 u1x_7 (by have := B7.size; have := b1.size; have := b2.size; have := b3.size; have := b4.size; have := b5.size; have := b6.size; have := b7.size; omega) g8
  have p0_8 := World.ownsRow.kept p0_7 g8 (own_apart p0_2 u1x_3 (by have := b1.size; have := b2.size; have := b3.size; have := b4.size; have := b5.size; have := b6.size; have := b7.size; omega))
  have g0_8 := World.ownsRow.kept g0_7 g8 (own_apart' u1x_3 g0_4 (by have := b1.size; have := b2.size; have := b3.size; have := b4.size; have := b5.size; have := b6.size; have := b7.size; omega))
  clear g8
  go_wp2_with fail
  refine (eqInstrS_any _ _ _ _ _ _ _ _ _ (args_of_own g0_8) (args_of_own p0_8) (by omega) (by omega)).mono ?_
  rintro e w9 ⟨rfl, b9⟩
  have B9 := below_step B8 b9
  have p0_9 := own_below' p0_8 b9
  have g0_9 := own_below' g0_8 b9
  go_wp2_with fail
  refine (markInstrS_any _ _ _ _ _ _ g0_9 (by omega) (by omega) (by omega)).mono ?_
  rintro e w10 ⟨rfl, g0_10, g10⟩
  have B10 := grown_below B9 g0_9 (by have := B9.size; have := b1.size; have := b2.size; have := b3.size; have := b4.size; have := b5.size; have := b6.size; have := b7.size; omega) g10
  have p0_10 := World.ownsRow.kept p0_9 g10 (own_apart p0_2 g0_4 (by have := b1.size; have := b2.size; have := b3.size; have := b4.size; have := b5.size; have := b6.size; have := b7.size; omega))
  clear g10
  go_wp2_with fail
  refine (heldInstrS_any _ _ _ _ _ (args_of_own g0_10) (by omega) (by omega) (by omega)).mono ?_
  rintro e w11 ⟨rfl, rfl⟩
  go_wp2_with fail
  refine (toInt64S_any A1 n1 c1 x1 _ (h1.below B10) s1).mono ?_
  rintro e w11 ⟨rfl, y1x_11, b11⟩
  have B11 := below_step B10 b11
  have p0_11 := own_below' p0_10 b11
  have g0_11 := own_below' g0_10 b11
  go_wp2_with fail
  refine (implMoveRegister_any x0 _ _ n1 n1 x1 _ f0 (sl_of_own y1x_11) H1.out s1 f1).mono ?_
  rintro e w12 ⟨h0v, rfl, h0_12, b12⟩
  obtain ⟨h0A, h0c, rfl⟩ := own_form h0_12
  have B12 := below_step B11 b12
  have p0_12 := own_below' p0_11 b12
  have g0_12 := own_below' g0_11 b12
  have y1x_12 := own_below' y1x_11 b12
  go_wp2_with fail
  refine (eqInstrS_any _ _ _ _ _ _ _ _ _ (args_of_own h0_12) (args_of_own p0_12) (by omega) (by omega)).mono ?_
  rintro e w13 ⟨rfl, b13⟩
  have B13 := below_step B12 b13
  have p0_13 := own_below' p0_12 b13
  have g0_13 := own_below' g0_12 b13
  have h0_13 := own_below' h0_12 b13
  go_wp2_with fail
  refine (heldInstrS_any _ _ _ _ _ (args_of_own g0_13) (by omega) (by omega) (by omega)).mono ?_
  rintro e w14 ⟨rfl, rfl⟩
  go_wp2_with fail
  go_ret
  exact ⟨rfl, B13⟩
end Go.Proofs.Ythjehhiaedfodaa
