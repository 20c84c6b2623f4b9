/- The walk of the law FnExactStandardLam: it returns true, whatever the arguments, and writes nothing that was there. -/
import Derived.Test.YtkiaclajjlidoaaDoorStdLam
import Derived.Test.YtkiaclajjlidoaaDoorHelpLam
namespace Go.Proofs.YtkiaclajjlidoaaDoor
open Go.RowKit

set_option maxRecDepth 100000 in
set_option maxHeartbeats 2000000 in
theorem walkStandardLam (x0 : ByteArray) (w : World) (m0 : x0.size ≤ maxLen) :
    Calls Tryd.prog 4 #[.string x0] w fun e w' => e = .returned (.bool true) ∧ Below w.heap.size w w' := by
  unfold maxLen at m0
  by_cases s0 : x0.size ≤ 1048576
  rotate_left
  · go_enter Tryd.func4, Tryd.ntmps4
    go_wp2_with fail
    go_ret
    exact ⟨rfl, Below.refl _ _⟩
  go_enter Tryd.func4, Tryd.ntmps4
  have B0 : Below w.heap.size w w := Below.refl _ _
  go_wp2_with fail
  refine (specStandardLam_any x0 _ s0).mono ?_
  rintro e w1 ⟨p0v, rfl, p0_1, b1⟩
  obtain ⟨p0A, p0c, rfl⟩ := own_form p0_1
  have B1 := below_step B0 b1
  have hl0 := bndStandardLam0 x0 
  go_wp2_with fail
  refine (implStandardLam_any x0 _ s0).mono ?_
  rintro e w2 ⟨g0v, rfl, g0_2, b2⟩
  obtain ⟨g0A, g0c, rfl⟩ := own_form g0_2
  have B2 := below_step B1 b2
  have p0_2 := own_below' p0_1 b2
  go_wp2_with fail
  refine (eqLamS_any _ _ _ _ _ _ _ _ _ (args_of_own g0_2) (args_of_own p0_2) (by omega) (by omega)).mono ?_
  rintro e w3 ⟨rfl, b3⟩
  have B3 := below_step B2 b3
  have p0_3 := own_below' p0_2 b3
  have g0_3 := own_below' g0_2 b3
  go_wp2_with fail
  refine (markLamS_any _ _ _ _ _ _ g0_3 (by omega) (by omega) (by omega)).mono ?_
  rintro e w4 ⟨rfl, g0_4, g4⟩
  have B4 := grown_below B3 g0_3 (by have := B3.size; have := b1.size; have := b2.size; have := b3.size; omega) g4
  have p0_4 := World.ownsRow.kept p0_3 g4 (own_apart p0_1 g0_2 (by have := b1.size; have := b2.size; have := b3.size; omega))
  clear g4
  go_wp2_with fail
  refine (heldLamS_any _ _ _ _ _ (args_of_own g0_4) (by omega) (by omega) (by omega)).mono ?_
  rintro e w5 ⟨rfl, rfl⟩
  go_wp2_with fail
  refine (implStandardLam_any x0 _ s0).mono ?_
  rintro e w5 ⟨h0v, rfl, h0_5, b5⟩
  obtain ⟨h0A, h0c, rfl⟩ := own_form h0_5
  have B5 := below_step B4 b5
  have p0_5 := own_below' p0_4 b5
  have g0_5 := own_below' g0_4 b5
  go_wp2_with fail
  refine (eqLamS_any _ _ _ _ _ _ _ _ _ (args_of_own h0_5) (args_of_own p0_5) (by omega) (by omega)).mono ?_
  rintro e w6 ⟨rfl, b6⟩
  have B6 := below_step B5 b6
  have p0_6 := own_below' p0_5 b6
  have g0_6 := own_below' g0_5 b6
  have h0_6 := own_below' h0_5 b6
  go_wp2_with fail
  refine (heldLamS_any _ _ _ _ _ (args_of_own g0_6) (by omega) (by omega) (by omega)).mono ?_
  rintro e w7 ⟨rfl, rfl⟩
  go_wp2_with fail
  go_ret
  exact ⟨rfl, B6⟩
end Go.Proofs.YtkiaclajjlidoaaDoor
