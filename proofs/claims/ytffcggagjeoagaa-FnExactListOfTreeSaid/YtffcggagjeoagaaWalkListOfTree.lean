/- The walk of the law FnExactListOfTree: it returns true, whatever the arguments, and writes nothing that was there. -/
import Derived.Test.YtffcggagjeoagaaListTree
import Derived.Test.YtffcggagjeoagaaHelpBool
import Derived.Test.YtffcggagjeoagaaHelpBoolSS
import Derived.Test.YtffcggagjeoagaaHeld
namespace Go.Proofs.Ytffcggagjeoagaa
open Go.RowKit

set_option maxRecDepth 100000 in
set_option maxHeartbeats 4000000 in
theorem walkListOfTree (A0 : Option Addr) (n0 c0 : Nat) (x0 : List Bool) (w : World) (h0 : Arg w A0 n0 (x0.map Value.bool)) (m0 : n0 ≤ maxLen) :
    Calls Try.prog 5 #[.slice A0 n0 c0] w fun e w' => e = .returned (.bool true) ∧ Below w.heap.size w w' := by
  unfold maxLen at m0
  by_cases s0 : n0 ≤ 1048576
  rotate_left
  · go_enter Try.func5, Try.ntmps5
    go_wp2_with fail
    go_ret
    exact ⟨rfl, Below.refl _ _⟩
  have H0 : Hid (x0.length = n0) := by have := h0.1; rw [List.length_map] at this; exact this
  go_enter Try.func5, Try.ntmps5
  have B0 : Below w.heap.size w w := Below.refl _ _
  go_wp2_with fail
  refine (toBoolS_any A0 n0 c0 x0 _ (h0.below B0) s0).mono ?_
  rintro e w1 ⟨rfl, o1, b1⟩
  have B1 := below_step B0 b1
  have s0x_1 := flat_of_own o1
  clear o1
  go_wp2_with fail
  refine (specListOfTree_any _ _ n0 n0 x0 _ (sl_of_own s0x_1.is.own) H0.out s0 (Nat.le_refl _)).mono ?_
  rintro e w2 ⟨p0v, p0us, rfl, p0_o, b2⟩
  obtain ⟨p0A, p0c, rfl⟩ := own_form p0_o.own
  have B2 := below_step B1 b2
  have s0x_2 := s0x_1.below b2
  have p0_2 := p0_o.held (Nat.le_refl _)
  clear p0_o
  go_wp2_with fail
  refine (toBoolS_any A0 n0 c0 x0 _ (h0.below B2) s0).mono ?_
  rintro e w3 ⟨rfl, o3, b3⟩
  have B3 := below_step B2 b3
  have p0_3 := p0_2.below b3
  have u0x_3 := flat_of_own o3
  clear o3
  obtain ⟨hl0, HS0⟩ := bndListOfTree0 x0 (by have := H0.out; omega)
  have HS0 := Lib.hid HS0
  obtain ⟨kr0, KR0⟩ : ∃ kr : Nat, Hid (cellsIn 1 (itsOf oneB ((listOfTree x0).1)) = kr) := ⟨_, rfl⟩
  have krb0 : kr0 ≤ 2097152 := by have := KR0.out; rw [cellsIn_its] at this; have := HS0.out; omega
  have IR0 : Hid (∀ it ∈ itsOf oneB ((listOfTree x0).1), it.1 ≤ 4194304) := its_bound (by have := HS0.out; omega)
  go_wp2_with fail
  refine (implListOfTree_any _ _ n0 n0 x0 _ (sl_of_own u0x_3.is.own) H0.out s0 (Nat.le_refl _)).mono ?_
  rintro e w4 ⟨g0v, g0us, rfl, g0_o, b4⟩
  obtain ⟨g0A, g0c, rfl⟩ := own_form g0_o.own
  have B4 := below_step B3 b4
  have p0_4 := p0_3.below b4
  have u0x_4 := u0x_3.below b4
  have g0_4 := g0_o.held (Nat.le_refl _)
  clear g0_o
  go_wp2_with fail
  refine (eqBoolSS_any _ _ _ _ _ _ _ _ _ _ _ (arg_of_own g0_4.is.own) g0_4.is.inn.ins (arg_of_own p0_4.is.own) p0_4.is.inn.ins (by omega) (by omega) (by have := HS0.out; omega) (by have := HS0.out; omega)).mono ?_
  rintro e w5 ⟨rfl, b5⟩
  have B5 := below_step B4 b5
  have p0_5 := p0_4.below b5
  have u0x_5 := u0x_4.below b5
  have g0_5 := g0_4.below b5
  go_wp2_with fail
  refine (toBoolS_any A0 n0 c0 x0 _ (h0.below B5) s0).mono ?_
  rintro e w6 ⟨rfl, o6, b6⟩
  have B6 := below_step B5 b6
  have p0_6 := p0_5.below b6
  have u0x_6 := u0x_5.below b6
  have g0_6 := g0_5.below b6
  have t0x_6 := flat_of_own o6
  clear o6
  go_wp2_with fail
  refine (eqBoolS_any _ _ _ _ _ _ _ _ _ (arg_of_own u0x_6.is.own) (arg_of_own t0x_6.is.own) (by omega) (by omega)).mono ?_
  rintro e w7 ⟨rfl, q7, hq⟩
  have b7 := quiet_below hq
  clear hq q7
  have B7 := below_step B6 b7
  have p0_7 := p0_6.below b7
  have u0x_7 := u0x_6.below b7
  have g0_7 := g0_6.below b7
  have t0x_7 := t0x_6.below b7
  go_wp2_with fail
  refine (markBoolS_any _ _ _ _ _ _ u0x_7.is.own (by omega) (by omega) (by omega)).mono ?_
  rintro e w8 ⟨rfl, o8, g8⟩
  obtain ⟨u0x_8, tt8⟩ := Flat.turn u0x_7 o8 g8
  clear o8 g8
  have B8 := below_touch B7 tt8 (by have := B7.size; have := b1.size; have := b2.size; have := b3.size; have := b4.size; have := b5.size; have := b6.size; have := b7.size; omega)
  have b8s := tt8.size
  have p0_8 := p0_7.far tt8 (.inl (by have := b1.size; have := b2.size; have := b3.size; have := b4.size; have := b5.size; have := b6.size; have := b7.size; omega))
  have g0_8 := g0_7.far tt8 (.inr (by have := b1.size; have := b2.size; have := b3.size; have := b4.size; have := b5.size; have := b6.size; have := b7.size; omega))
  go_wp2_with fail
  refine (eqBoolSS_any _ _ _ _ _ _ _ _ _ _ _ (arg_of_own g0_8.is.own) g0_8.is.inn.ins (arg_of_own p0_8.is.own) p0_8.is.inn.ins (by omega) (by omega) (by have := HS0.out; omega) (by have := HS0.out; omega)).mono ?_
  rintro e w9 ⟨rfl, b9⟩
  have B9 := below_step B8 b9
  have p0_9 := p0_8.below b9
  have g0_9 := g0_8.below b9
  go_wp2_with fail
  refine (markBoolSS_is _ _ _ _ _ _ _ _ _ g0_9.is KR0.out (by omega) (by omega) (by omega) IR0.out).mono ?_
  rintro e w10 ⟨rfl, o10, tt10⟩
  have g0_10 := Grid.turn g0_9 o10 tt10
  clear o10
  have B10 := below_touch B9 tt10 (by have := B9.size; have := b1.size; have := b2.size; have := b3.size; have := b4.size; have := b5.size; have := b6.size; have := b7.size; omega)
  have b10s := tt10.size
  have p0_10 := p0_9.far tt10 (.inl (by have := b1.size; have := b2.size; have := b3.size; have := b4.size; have := b5.size; have := b6.size; have := b7.size; omega))
  go_wp2_with fail
  refine (heldBoolSS_is _ _ _ _ _ _ _ _ _ g0_10.is KR0.out (by omega) (by omega) (by omega) IR0.out).mono ?_
  rintro e w11 ⟨rfl, rfl⟩
  go_wp2_with fail
  refine (toBoolS_any A0 n0 c0 x0 _ (h0.below B10) s0).mono ?_
  rintro e w11 ⟨rfl, o11, b11⟩
  have B11 := below_step B10 b11
  have p0_11 := p0_10.below b11
  have g0_11 := g0_10.below b11
  have y0x_11 := flat_of_own o11
  clear o11
  go_wp2_with fail
  refine (implListOfTree_any _ _ n0 n0 x0 _ (sl_of_own y0x_11.is.own) H0.out s0 (Nat.le_refl _)).mono ?_
  rintro e w12 ⟨h0v, h0us, rfl, h0_o, b12⟩
  obtain ⟨h0A, h0c, rfl⟩ := own_form h0_o.own
  have B12 := below_step B11 b12
  have p0_12 := p0_11.below b12
  have g0_12 := g0_11.below b12
  have y0x_12 := y0x_11.below b12
  have h0_12 := h0_o.held (Nat.le_refl _)
  clear h0_o
  go_wp2_with fail
  refine (eqBoolSS_any _ _ _ _ _ _ _ _ _ _ _ (arg_of_own h0_12.is.own) h0_12.is.inn.ins (arg_of_own p0_12.is.own) p0_12.is.inn.ins (by omega) (by omega) (by have := HS0.out; omega) (by have := HS0.out; omega)).mono ?_
  rintro e w13 ⟨rfl, b13⟩
  have B13 := below_step B12 b13
  have p0_13 := p0_12.below b13
  have g0_13 := g0_12.below b13
  have h0_13 := h0_12.below b13
  go_wp2_with fail
  refine (heldBoolSS_is _ _ _ _ _ _ _ _ _ g0_13.is KR0.out (by omega) (by omega) (by omega) IR0.out).mono ?_
  rintro e w14 ⟨rfl, rfl⟩
  go_wp2_with fail
  go_ret
  exact ⟨rfl, B13⟩
end Go.Proofs.Ytffcggagjeoagaa
