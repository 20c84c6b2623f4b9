/- The walk of the law FnExactIsSimulation: it returns true, whatever the arguments, and writes nothing that was there. -/
import Derived.Test.YtfjbiiklggogkaaSimSpec
import Derived.Test.YtfjbiiklggogkaaSimImpl
import Derived.Test.YtfjbiiklggogkaaHelpInt
namespace Go.Proofs.Ytfjbiiklggogkaa
open Go.RowKit

set_option maxRecDepth 100000 in
set_option maxHeartbeats 2000000 in
theorem walkIsSimulation (A0 : Option Addr) (n0 c0 : Nat) (x0 : List ByteArray) (A1 : Option Addr) (n1 c1 : Nat) (x1 : List ByteArray) (A2 : Option Addr) (n2 c2 : Nat) (x2 : List Int) (w : World) (h0 : Arg w A0 n0 (x0.map (Value.string))) (m0 : n0 ≤ maxLen) (f0 : ∀ x ∈ x0, x.size ≤ maxLen) (h1 : Arg w A1 n1 (x1.map (Value.string))) (m1 : n1 ≤ maxLen) (f1 : ∀ x ∈ x1, x.size ≤ maxLen) (h2 : Arg w A2 n2 (x2.map (Value.int .i64))) (m2 : n2 ≤ maxLen) (f2 : Wf64s x2) :
    Calls Try.prog 5 #[.slice A0 n0 c0, .slice A1 n1 c1, .slice A2 n2 c2] w fun e w' => e = .returned (.bool true) ∧ Below w.heap.size w w' := by
  unfold maxLen at m0
  unfold maxLen at m1
  unfold maxLen at m2
  by_cases s2 : n2 ≤ 1048576
  rotate_left
  · go_enter Try.func5, Try.ntmps5
    go_wp2_with fail
    go_ret
    exact ⟨rfl, Below.refl _ _⟩
  have H0 : Hid (x0.length = n0) := by have := h0.1; rw [List.length_map] at this; exact this
  have H1 : Hid (x1.length = n1) := by have := h1.1; rw [List.length_map] at this; exact this
  have H2 : Hid (x2.length = n2) := by have := h2.1; rw [List.length_map] at this; exact this
  by_cases z0 : szStr x0 ≤ 1048576
  rotate_left
  · go_enter Try.func5, Try.ntmps5
    go_wp2_with fail
    refine (szStringS_no A0 n0 c0 x0 1048576 _ h0 (by omega) (fun x hx => by have := f0 x hx; unfold maxLen at this; omega) (by omega) (by omega)).mono ?_
    rintro e w' ⟨rfl, rfl⟩
    go_wp2_with fail
    go_ret
    exact ⟨rfl, Below.refl _ _⟩
  obtain ⟨r0, R0⟩ : ∃ r : Nat, Hid (r + szStr x0 = 1048576) := ⟨1048576 - szStr x0, by unfold Hid; omega⟩
  have q0 : r0 ≤ 1048576 := by have := R0.out; omega
  have s0 : n0 ≤ 1048576 := by have := szStr_len x0; have := H0.out; omega
  have F0 : Hid (∀ x ∈ x0, x.size ≤ 1048576) := by intro x hx; have := szStr_mem hx; omega
  by_cases z1 : szStr x1 ≤ r0
  rotate_left
  · go_enter Try.func5, Try.ntmps5
    go_wp2_with fail
    refine (szStringS_is A0 n0 c0 x0 1048576 r0 R0.out _ h0 (by omega)).mono ?_
    rintro e w' ⟨rfl, rfl⟩
    go_wp2_with fail
    refine (szStringS_no A1 n1 c1 x1 r0 _ h1 (by omega) (fun x hx => by have := f1 x hx; unfold maxLen at this; omega) (by omega) (by omega)).mono ?_
    rintro e w' ⟨rfl, rfl⟩
    go_wp2_with fail
    go_ret
    exact ⟨rfl, Below.refl _ _⟩
  obtain ⟨r1, R1⟩ : ∃ r : Nat, Hid (r + szStr x1 = r0) := ⟨r0 - szStr x1, by unfold Hid; omega⟩
  have q1 : r1 ≤ 1048576 := by have := R1.out; omega
  have s1 : n1 ≤ 1048576 := by have := szStr_len x1; have := H1.out; omega
  have F1 : Hid (∀ x ∈ x1, x.size ≤ 1048576) := by intro x hx; have := szStr_mem hx; omega
  have Z0 := Lib.hid z0; clear z0
  have Z1 := Lib.hid z1; clear z1
  go_enter Try.func5, Try.ntmps5
  go_wp2_with fail
  refine (szStringS_is A0 n0 c0 x0 1048576 r0 R0.out _ h0 (by omega)).mono ?_
  rintro e w' ⟨rfl, rfl⟩
  go_wp2_with fail
  refine (szStringS_is A1 n1 c1 x1 r0 r1 R1.out _ h1 (by omega)).mono ?_
  rintro e w' ⟨rfl, rfl⟩
  have B0 : Below w.heap.size w w := Below.refl _ _
  go_wp2_with fail
  refine (toStringS_any A0 n0 c0 x0 _ (h0.below B0) s0).mono ?_
  rintro e w1 ⟨rfl, s0x_1, b1⟩
  have B1 := below_step B0 b1
  go_wp2_with fail
  refine (toStringS_any A1 n1 c1 x1 _ (h1.below B1) s1).mono ?_
  rintro e w2 ⟨rfl, s1x_2, b2⟩
  have B2 := below_step B1 b2
  have s0x_2 := own_below' s0x_1 b2
  go_wp2_with fail
  refine (toInt64S_any A2 n2 c2 x2 _ (h2.below B2) s2).mono ?_
  rintro e w3 ⟨rfl, s2x_3, b3⟩
  have B3 := below_step B2 b3
  have s0x_3 := own_below' s0x_2 b3
  have s1x_3 := own_below' s1x_2 b3
  go_wp2_with fail
  refine (specIsSimulation_any _ _ n0 n0 x0 _ _ n1 n1 x1 _ _ n2 n2 x2 _ (sl_of_own s0x_3) H0.out s0 F0.out (sl_of_own s1x_3) H1.out s1 F1.out (sl_of_own s2x_3) H2.out s2 f2).mono ?_
  rintro e w4 ⟨rfl, b4⟩
  have B4 := below_step B3 b4
  have s0x_4 := own_below' s0x_3 b4
  have s1x_4 := own_below' s1x_3 b4
  have s2x_4 := own_below' s2x_3 b4
  go_wp2_with fail
  refine (toStringS_any A0 n0 c0 x0 _ (h0.below B4) s0).mono ?_
  rintro e w5 ⟨rfl, u0x_5, b5⟩
  have B5 := below_step B4 b5
  go_wp2_with fail
  refine (toStringS_any A1 n1 c1 x1 _ (h1.below B5) s1).mono ?_
  rintro e w6 ⟨rfl, u1x_6, b6⟩
  have B6 := below_step B5 b6
  have u0x_6 := own_below' u0x_5 b6
  go_wp2_with fail
  refine (toInt64S_any A2 n2 c2 x2 _ (h2.below B6) s2).mono ?_
  rintro e w7 ⟨rfl, u2x_7, b7⟩
  have B7 := below_step B6 b7
  have u0x_7 := own_below' u0x_6 b7
  have u1x_7 := own_below' u1x_6 b7
  go_wp2_with fail
  refine (implIsSimulation_any _ _ n0 n0 x0 _ _ n1 n1 x1 _ _ n2 n2 x2 _ (sl_of_own u0x_7) H0.out s0 F0.out (sl_of_own u1x_7) H1.out s1 F1.out (sl_of_own u2x_7) H2.out s2 f2).mono ?_
  rintro e w8 ⟨rfl, b8⟩
  have B8 := below_step B7 b8
  have u0x_8 := own_below' u0x_7 b8
  have u1x_8 := own_below' u1x_7 b8
  have u2x_8 := own_below' u2x_7 b8
  go_wp2_with fail
  refine (toStringS_any A0 n0 c0 x0 _ (h0.below B8) s0).mono ?_
  rintro e w9 ⟨rfl, t0x_9, b9⟩
  have B9 := below_step B8 b9
  have u0x_9 := own_below' u0x_8 b9
  have u1x_9 := own_below' u1x_8 b9
  have u2x_9 := own_below' u2x_8 b9
  go_wp2_with fail
  refine (eqStringS_any _ _ _ _ _ _ _ _ _ (arg_of_own u0x_9) (arg_of_own t0x_9) (by omega) (by omega)).mono ?_
  rintro e w10 ⟨rfl, q10, hq⟩
  have b10 := quiet_below hq
  clear hq q10
  have B10 := below_step B9 b10
  have u0x_10 := own_below' u0x_9 b10
  have u1x_10 := own_below' u1x_9 b10
  have u2x_10 := own_below' u2x_9 b10
  have t0x_10 := own_below' t0x_9 b10
  go_wp2_with fail
  refine (toStringS_any A1 n1 c1 x1 _ (h1.below B10) s1).mono ?_
  rintro e w11 ⟨rfl, t1x_11, b11⟩
  have B11 := below_step B10 b11
  have u0x_11 := own_below' u0x_10 b11
  have u1x_11 := own_below' u1x_10 b11
  have u2x_11 := own_below' u2x_10 b11
  go_wp2_with fail
  refine (eqStringS_any _ _ _ _ _ _ _ _ _ (arg_of_own u1x_11) (arg_of_own t1x_11) (by omega) (by omega)).mono ?_
  rintro e w12 ⟨rfl, q12, hq⟩
  have b12 := quiet_below hq
  clear hq q12
  have B12 := below_step B11 b12
  have u0x_12 := own_below' u0x_11 b12
  have u1x_12 := own_below' u1x_11 b12
  have u2x_12 := own_below' u2x_11 b12
  have t1x_12 := own_below' t1x_11 b12
  go_wp2_with fail
  refine (toInt64S_any A2 n2 c2 x2 _ (h2.below B12) s2).mono ?_
  rintro e w13 ⟨rfl, t2x_13, b13⟩
  have B13 := below_step B12 b13
  have u0x_13 := own_below' u0x_12 b13
  have u1x_13 := own_below' u1x_12 b13
  have u2x_13 := own_below' u2x_12 b13
  go_wp2_with fail
  refine (eqInt64S_any _ _ _ _ _ _ _ _ _ (arg_of_own u2x_13) (arg_of_own t2x_13) (by omega) (by omega)).mono ?_
  rintro e w14 ⟨rfl, q14, hq⟩
  have b14 := quiet_below hq
  clear hq q14
  have B14 := below_step B13 b14
  have u0x_14 := own_below' u0x_13 b14
  have u1x_14 := own_below' u1x_13 b14
  have u2x_14 := own_below' u2x_13 b14
  have t2x_14 := own_below' t2x_13 b14
  go_wp2_with fail
  go_ret
  exact ⟨rfl, B14⟩
end Go.Proofs.Ytfjbiiklggogkaa
