/- The walk of the law FnExactSuccessorsOf: it returns true, whatever the arguments, and writes nothing that was there. -/
import Derived.Test.YtjakgeblmkdbpaaSuccLaw
import Derived.Test.YtjakgeblmkdbpaaHelpRewrite
import Derived.Test.YtjakgeblmkdbpaaHelpInt
import Derived.Test.YtjakgeblmkdbpaaHelpInt64SS
import Derived.Test.YtjakgeblmkdbpaaHeld
namespace Go.Proofs.Ytjakgeblmkdbpaa
open Go.RowKit

set_option maxRecDepth 100000 in
set_option maxHeartbeats 4000000 in
theorem walkSuccessorsOf (A0 : Option Addr) (n0 c0 : Nat) (x0 : List ERewrite) (A1 : Option Addr) (n1 c1 : Nat) (x1 : List Int) (w : World) (h0 : Args 2 w A0 n0 (rows ERewrite.vs x0)) (r0 : RdsRewrite w x0) (m0 : n0 ≤ maxLen) (f0 : ∀ e ∈ x0, wbRewrite 9223372036854775807 e.d ∧ e.d.wf) (h1 : Arg w A1 n1 (x1.map (Value.int .i64))) (m1 : n1 ≤ maxLen) (f1 : Wf64s x1) :
    Calls Try.prog 4 #[.slice A0 n0 c0, .slice A1 n1 c1] w fun e w' => e = .returned (.bool true) ∧ Below w.heap.size w w' := by
  unfold maxLen at m0
  unfold maxLen at m1
  by_cases s1 : n1 ≤ 1048576
  rotate_left
  · go_enter Try.func4, Try.ntmps4
    go_wp2_with fail
    go_ret
    exact ⟨rfl, Below.refl _ _⟩
  obtain ⟨d0, D0⟩ : ∃ d, Hid (x0.map (·.d) = d) := ⟨_, rfl⟩
  have H0 : Hid (d0.length = n0) := by have := h0.1; rw [rows_len (s := 2) (fun _ => rfl)] at this; unfold Hid; rw [← D0.out, List.length_map]; omega
  have W0 : Hid (∀ x ∈ d0, x.wf) := by unfold Hid; rw [← D0.out]; intro x hx; obtain ⟨e, he, rfl⟩ := List.mem_map.1 hx; exact (f0 e he).2
  have F0 : Hid (∀ e ∈ x0, wbRewrite 9223372036854775807 e.d) := fun e he => (f0 e he).1
  clear f0
  obtain ⟨t0, T0⟩ : ∃ t0 : Nat, Hid (sumRewrite d0 = t0) := ⟨_, rfl⟩
  have H1 : Hid (x1.length = n1) := by have := h1.1; rw [List.length_map] at this; exact this
  by_cases z0 : n0 + t0 ≤ 1048576
  rotate_left
  · go_enter Try.func4, Try.ntmps4
    have B0 : Below w.heap.size w w := Below.refl _ _
    go_wp2_with fail
    refine (szRewriteS_not A0 n0 c0 1048576 x0 _ (h0.below B0) (r0.below B0) (by rw [D0.out]; have := T0.out; omega) (by omega) (by omega) F0.out).mono ?_
    rintro e w' ⟨rfl, bz⟩
    go_wp2_with fail
    go_ret
    exact ⟨rfl, (below_step B0 bz)⟩
  obtain ⟨r'0, R0⟩ : ∃ r' : Nat, Hid (r' + (n0 + t0) = 1048576) := ⟨1048576 - (n0 + t0), by unfold Hid; omega⟩
  have q0 : r'0 ≤ 1048576 := by have := R0.out; omega
  have s0 : n0 ≤ 1048576 := by omega
  have u0 : t0 ≤ 1048576 := by omega
  have Z0 := Lib.hid z0; clear z0
  have S0 : Hid (sumRewrite d0 ≤ 1048576) := by have := T0.out; unfold Hid; omega
  go_enter Try.func4, Try.ntmps4
  have B0 : Below w.heap.size w w := Below.refl _ _
  go_wp2_with fail
  refine (szRewriteS_is A0 n0 c0 1048576 r'0 x0 _ (h0.below B0) (r0.below B0) (by rw [D0.out]; have := R0.out; have := T0.out; omega) (by omega) F0.out).mono ?_
  rintro e w1 ⟨rfl, b1⟩
  have B1 := below_step B0 b1
  obtain ⟨k0, K0⟩ : ∃ k0 : Nat, Hid (0 * d0.length + sumRewrite d0 * 1 = k0) := ⟨_, rfl⟩
  have kb0 : k0 ≤ 8388608 := by have := K0.out; have := S0.out; have := H0.out; omega
  go_wp2_with fail
  refine (toRewriteS_any A0 n0 c0 x0 _ (h0.below B1) (r0.below B1) s0 (by rw [D0.out]; exact S0.out)).mono ?_
  rintro e w2 ⟨rfl, ⟨es2, o2, he2, ad2⟩, b2⟩
  have B2 := below_step B1 b2
  have E2 := Lib.hid (he2.trans D0.out); clear he2
  have AD2 := Lib.hid ad2; clear ad2
  have s0x_2 := o2.held (Nat.le_refl _)
  clear o2
  go_wp2_with fail
  refine (toInt64S_any A1 n1 c1 x1 _ (h1.below B2) s1).mono ?_
  rintro e w3 ⟨rfl, o3, b3⟩
  have B3 := below_step B2 b3
  have s0x_3 := s0x_2.below b3
  have s1x_3 := flat_of_own o3
  clear o3
  go_wp2_with fail
  refine (specSuccessorsOf_any _ _ n0 n0 es2 d0 _ _ n1 n1 x1 _ s0x_3.is.slN (rcsRewrite_of s0x_3.is AD2.out (by have := b3.size; omega)) E2.out H0.out s0 (Nat.le_refl _) S0.out W0.out (sl_of_own s1x_3.is.own) H1.out s1 (Nat.le_refl _) f1).mono ?_
  rintro e w4 ⟨p0v, p0us, rfl, p0_o, b4⟩
  obtain ⟨p0A, p0c, rfl⟩ := own_form p0_o.own
  have B4 := below_step B3 b4
  have s0x_4 := s0x_3.below b4
  have s1x_4 := s1x_3.below b4
  have p0_4 := p0_o.held (Nat.le_refl _)
  clear p0_o
  go_wp2_with fail
  refine (toRewriteS_any A0 n0 c0 x0 _ (h0.below B4) (r0.below B4) s0 (by rw [D0.out]; exact S0.out)).mono ?_
  rintro e w5 ⟨rfl, ⟨es5, o5, he5, ad5⟩, b5⟩
  have B5 := below_step B4 b5
  have E5 := Lib.hid (he5.trans D0.out); clear he5
  have AD5 := Lib.hid ad5; clear ad5
  have p0_5 := p0_4.below b5
  have u0x_5 := o5.held (Nat.le_refl _)
  clear o5
  go_wp2_with fail
  refine (toInt64S_any A1 n1 c1 x1 _ (h1.below B5) s1).mono ?_
  rintro e w6 ⟨rfl, o6, b6⟩
  have B6 := below_step B5 b6
  have p0_6 := p0_5.below b6
  have u0x_6 := u0x_5.below b6
  have u1x_6 := flat_of_own o6
  clear o6
  obtain ⟨hl0, HS0⟩ := bndSuccessorsOf0 d0 x1 (by have := H0.out; omega) S0.out (by have := H1.out; omega)
  have HS0 := Lib.hid HS0
  obtain ⟨kr0, KR0⟩ : ∃ kr : Nat, Hid (cellsIn 1 (itsOf oneI ((succsOf d0 x1).1)) = kr) := ⟨_, rfl⟩
  have krb0 : kr0 ≤ 16777216 := by have := KR0.out; rw [cellsIn_its] at this; have := HS0.out; omega
  have IR0 : Hid (∀ it ∈ itsOf oneI ((succsOf d0 x1).1), it.1 ≤ 4194304) := its_each (succs_each _ _)
  go_wp2_with fail
  refine (implSuccessorsOf_any _ _ n0 n0 es5 d0 _ _ n1 n1 x1 _ u0x_6.is.slN (rcsRewrite_of u0x_6.is AD5.out (by have := b6.size; omega)) E5.out H0.out s0 (Nat.le_refl _) S0.out W0.out (sl_of_own u1x_6.is.own) H1.out s1 (Nat.le_refl _) f1).mono ?_
  rintro e w7 ⟨g0v, g0us, rfl, g0_o, b7⟩
  obtain ⟨g0A, g0c, rfl⟩ := own_form g0_o.own
  have B7 := below_step B6 b7
  have p0_7 := p0_6.below b7
  have u0x_7 := u0x_6.below b7
  have u1x_7 := u1x_6.below b7
  have g0_7 := g0_o.held (Nat.le_refl _)
  clear g0_o
  go_wp2_with fail
  refine (eqInt64SSB_any _ _ _ _ _ _ _ _ _ _ _ (arg_of_own g0_7.is.own) g0_7.is.inn.ins (arg_of_own p0_7.is.own) p0_7.is.inn.ins (by omega) (by omega) (succs_each _ _) (succs_each _ _)).mono ?_
  rintro e w8 ⟨rfl, b8⟩
  have B8 := below_step B7 b8
  have p0_8 := p0_7.below b8
  have u0x_8 := u0x_7.below b8
  have u1x_8 := u1x_7.below b8
  have g0_8 := g0_7.below b8
  go_wp2_with fail
  refine (toRewriteS_any A0 n0 c0 x0 _ (h0.below B8) (r0.below B8) s0 (by rw [D0.out]; exact S0.out)).mono ?_
  rintro e w9 ⟨rfl, ⟨es9, o9, he9, ad9⟩, b9⟩
  have B9 := below_step B8 b9
  have E9 := Lib.hid (he9.trans D0.out); clear he9
  have AD9 := Lib.hid ad9; clear ad9
  have p0_9 := p0_8.below b9
  have u0x_9 := u0x_8.below b9
  have u1x_9 := u1x_8.below b9
  have g0_9 := g0_8.below b9
  have t0x_9 := o9.held (Nat.le_refl _)
  clear o9
  go_wp2_with fail
  refine (eqRewriteS_is _ _ _ _ _ _ _ _ _ _ u0x_9.is.argsN (rdsRewrite_of u0x_9.is) t0x_9.is.argsN (rdsRewrite_of t0x_9.is) E5.out E9.out (by omega) (by omega) (by have := S0.out; omega)).mono ?_
  rintro e w10 ⟨rfl, b10⟩
  have B10 := below_step B9 b10
  have p0_10 := p0_9.below b10
  have u0x_10 := u0x_9.below b10
  have u1x_10 := u1x_9.below b10
  have g0_10 := g0_9.below b10
  have t0x_10 := t0x_9.below b10
  go_wp2_with fail
  refine (toInt64S_any A1 n1 c1 x1 _ (h1.below B10) s1).mono ?_
  rintro e w11 ⟨rfl, o11, b11⟩
  have B11 := below_step B10 b11
  have p0_11 := p0_10.below b11
  have u0x_11 := u0x_10.below b11
  have u1x_11 := u1x_10.below b11
  have g0_11 := g0_10.below b11
  have t1x_11 := flat_of_own o11
  clear o11
  go_wp2_with fail
  refine (eqInt64S_any _ _ _ _ _ _ _ _ _ (arg_of_own u1x_11.is.own) (arg_of_own t1x_11.is.own) (by omega) (by omega)).mono ?_
  rintro e w12 ⟨rfl, q12, hq⟩
  have b12 := quiet_below hq
  clear hq q12
  have B12 := below_step B11 b12
  have p0_12 := p0_11.below b12
  have u0x_12 := u0x_11.below b12
  have u1x_12 := u1x_11.below b12
  have g0_12 := g0_11.below b12
  have t1x_12 := t1x_11.below b12
  go_wp2_with fail
  refine (markRewriteS_is _ _ _ _ _ _ _ u0x_12.is ((widSumRewrite_of E5.out).trans K0.out) (by omega) (by omega) (by have h1 := congrArg List.length E5.out; rw [List.length_map] at h1; have := H0.out; omega) (lensRewrite E5.out (by have := S0.out; omega))).mono ?_
  rintro e w13 ⟨rfl, o13, tt13⟩
  have u0x_13 := SGrid.turn u0x_12 o13 tt13
  clear o13
  have B13 := below_touch B12 tt13 (by have := B12.size; have := b1.size; have := b2.size; have := b3.size; have := b4.size; have := b5.size; have := b6.size; have := b7.size; have := b8.size; have := b9.size; have := b10.size; have := b11.size; have := b12.size; omega)
  have b13s := tt13.size
  have p0_13 := p0_12.far tt13 (.inl (by have := b1.size; have := b2.size; have := b3.size; have := b4.size; have := b5.size; have := b6.size; have := b7.size; have := b8.size; have := b9.size; have := b10.size; have := b11.size; have := b12.size; omega))
  have u1x_13 := u1x_12.far tt13 (.inr (by have := b1.size; have := b2.size; have := b3.size; have := b4.size; have := b5.size; have := b6.size; have := b7.size; have := b8.size; have := b9.size; have := b10.size; have := b11.size; have := b12.size; omega))
  have g0_13 := g0_12.far tt13 (.inr (by have := b1.size; have := b2.size; have := b3.size; have := b4.size; have := b5.size; have := b6.size; have := b7.size; have := b8.size; have := b9.size; have := b10.size; have := b11.size; have := b12.size; omega))
  go_wp2_with fail
  refine (markInt64S_any _ _ _ _ _ _ u1x_13.is.own (by omega) (by omega) (by omega)).mono ?_
  rintro e w14 ⟨rfl, o14, g14⟩
  obtain ⟨u1x_14, tt14⟩ := Flat.turn u1x_13 o14 g14
  clear o14 g14
  have B14 := below_touch B13 tt14 (by have := B13.size; have := b1.size; have := b2.size; have := b3.size; have := b4.size; have := b5.size; have := b6.size; have := b7.size; have := b8.size; have := b9.size; have := b10.size; have := b11.size; have := b12.size; omega)
  have b14s := tt14.size
  have p0_14 := p0_13.far tt14 (.inl (by have := b1.size; have := b2.size; have := b3.size; have := b4.size; have := b5.size; have := b6.size; have := b7.size; have := b8.size; have := b9.size; have := b10.size; have := b11.size; have := b12.size; omega))
  have u0x_14 := u0x_13.far tt14 (.inl (by have := b1.size; have := b2.size; have := b3.size; have := b4.size; have := b5.size; have := b6.size; have := b7.size; have := b8.size; have := b9.size; have := b10.size; have := b11.size; have := b12.size; omega))
  have g0_14 := g0_13.far tt14 (.inr (by have := b1.size; have := b2.size; have := b3.size; have := b4.size; have := b5.size; have := b6.size; have := b7.size; have := b8.size; have := b9.size; have := b10.size; have := b11.size; have := b12.size; omega))
  go_wp2_with fail
  refine (eqInt64SSB_any _ _ _ _ _ _ _ _ _ _ _ (arg_of_own g0_14.is.own) g0_14.is.inn.ins (arg_of_own p0_14.is.own) p0_14.is.inn.ins (by omega) (by omega) (succs_each _ _) (succs_each _ _)).mono ?_
  rintro e w15 ⟨rfl, b15⟩
  have B15 := below_step B14 b15
  have p0_15 := p0_14.below b15
  have g0_15 := g0_14.below b15
  go_wp2_with fail
  refine (markInt64SS_is _ _ _ _ _ _ _ _ _ g0_15.is KR0.out (by omega) (by omega) (by omega) IR0.out).mono ?_
  rintro e w16 ⟨rfl, o16, tt16⟩
  have g0_16 := Grid.turn g0_15 o16 tt16
  clear o16
  have B16 := below_touch B15 tt16 (by have := B15.size; have := b1.size; have := b2.size; have := b3.size; have := b4.size; have := b5.size; have := b6.size; have := b7.size; have := b8.size; have := b9.size; have := b10.size; have := b11.size; have := b12.size; omega)
  have b16s := tt16.size
  have p0_16 := p0_15.far tt16 (.inl (by have := b1.size; have := b2.size; have := b3.size; have := b4.size; have := b5.size; have := b6.size; have := b7.size; have := b8.size; have := b9.size; have := b10.size; have := b11.size; have := b12.size; omega))
  go_wp2_with fail
  refine (heldInt64SS_is _ _ _ _ _ _ _ _ _ g0_16.is KR0.out (by omega) (by omega) (by omega) IR0.out).mono ?_
  rintro e w17 ⟨rfl, rfl⟩
  go_wp2_with fail
  refine (toRewriteS_any A0 n0 c0 x0 _ (h0.below B16) (r0.below B16) s0 (by rw [D0.out]; exact S0.out)).mono ?_
  rintro e w17 ⟨rfl, ⟨es17, o17, he17, ad17⟩, b17⟩
  have B17 := below_step B16 b17
  have E17 := Lib.hid (he17.trans D0.out); clear he17
  have AD17 := Lib.hid ad17; clear ad17
  have p0_17 := p0_16.below b17
  have g0_17 := g0_16.below b17
  have y0x_17 := o17.held (Nat.le_refl _)
  clear o17
  go_wp2_with fail
  refine (toInt64S_any A1 n1 c1 x1 _ (h1.below B17) s1).mono ?_
  rintro e w18 ⟨rfl, o18, b18⟩
  have B18 := below_step B17 b18
  have p0_18 := p0_17.below b18
  have g0_18 := g0_17.below b18
  have y0x_18 := y0x_17.below b18
  have y1x_18 := flat_of_own o18
  clear o18
  go_wp2_with fail
  refine (implSuccessorsOf_any _ _ n0 n0 es17 d0 _ _ n1 n1 x1 _ y0x_18.is.slN (rcsRewrite_of y0x_18.is AD17.out (by have := b18.size; omega)) E17.out H0.out s0 (Nat.le_refl _) S0.out W0.out (sl_of_own y1x_18.is.own) H1.out s1 (Nat.le_refl _) f1).mono ?_
  rintro e w19 ⟨h0v, h0us, rfl, h0_o, b19⟩
  obtain ⟨h0A, h0c, rfl⟩ := own_form h0_o.own
  have B19 := below_step B18 b19
  have p0_19 := p0_18.below b19
  have g0_19 := g0_18.below b19
  have y0x_19 := y0x_18.below b19
  have y1x_19 := y1x_18.below b19
  have h0_19 := h0_o.held (Nat.le_refl _)
  clear h0_o
  go_wp2_with fail
  refine (eqInt64SSB_any _ _ _ _ _ _ _ _ _ _ _ (arg_of_own h0_19.is.own) h0_19.is.inn.ins (arg_of_own p0_19.is.own) p0_19.is.inn.ins (by omega) (by omega) (succs_each _ _) (succs_each _ _)).mono ?_
  rintro e w20 ⟨rfl, b20⟩
  have B20 := below_step B19 b20
  have p0_20 := p0_19.below b20
  have g0_20 := g0_19.below b20
  have h0_20 := h0_19.below b20
  go_wp2_with fail
  refine (heldInt64SS_is _ _ _ _ _ _ _ _ _ g0_20.is KR0.out (by omega) (by omega) (by omega) IR0.out).mono ?_
  rintro e w21 ⟨rfl, rfl⟩
  go_wp2_with fail
  go_ret
  exact ⟨rfl, B20⟩
end Go.Proofs.Ytjakgeblmkdbpaa
