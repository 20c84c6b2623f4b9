/- The walk of the law FnExactCheckDerivation: it returns true, whatever the arguments, and writes nothing that was there. -/
import Derived.Test.YteocnkiagifmfaaCheckDer
import Derived.Test.YteocnkiagifmfaaHelpRewrite
import Derived.Test.YteocnkiagifmfaaHelpInt
import Derived.Test.YteocnkiagifmfaaHelpInt64SS
import Derived.Test.YteocnkiagifmfaaHeld
namespace Go.Proofs.Yteocnkiagifmfaa
open Go.RowKit

set_option maxRecDepth 100000 in
set_option maxHeartbeats 4000000 in
theorem walkCheckDerivation (A0 : Option Addr) (n0 c0 : Nat) (x0 : List ERewrite) (A1 : Option Addr) (n1 c1 : Nat) (x1 : List Int) (A2 : Option Addr) (n2 c2 : Nat) (v2 : List Value) (x2 : List (List Int)) (w : World) (h0 : Args 2 w A0 n0 (rows ERewrite.vs x0)) (r0 : RdsRewrite w x0) (m0 : n0 ≤ maxLen) (f0 : ∀ e ∈ x0, wbRewrite 9223372036854775807 e.d ∧ e.d.wf) (h1 : Arg w A1 n1 (x1.map (Value.int .i64))) (m1 : n1 ≤ maxLen) (f1 : Wf64s x1) (h2 : Arg w A2 n2 v2) (r2 : Ins 1 oneI w v2 x2) (m2 : n2 ≤ maxLen) (f2 : ∀ t ∈ x2, (∀ x ∈ t, Wf64 x) ∧ t.length ≤ maxLen) :
    Calls Try.prog 7 #[.slice A0 n0 c0, .slice A1 n1 c1, .slice A2 n2 c2] w fun e w' => e = .returned (.bool true) ∧ Below w.heap.size w w' := by
  unfold maxLen at m0
  unfold maxLen at m1
  unfold maxLen at m2
  by_cases s1 : n1 ≤ 1048576
  rotate_left
  · go_enter Try.func7, Try.ntmps7
    go_wp2_with fail
    go_ret
    exact ⟨rfl, Below.refl _ _⟩
  obtain ⟨d0, D0⟩ : ∃ d, Hid (x0.map (·.d) = d) := ⟨_, rfl⟩
  have H0 : Hid (d0.length = n0) := by have := h0.1; rw [rows_len (s := 2) (fun _ => rfl)] at this; unfold Hid; rw [← D0.out, List.length_map]; omega
  have W0 : Hid (∀ x ∈ d0, x.wf) := by unfold Hid; rw [← D0.out]; intro x hx; obtain ⟨e, he, rfl⟩ := List.mem_map.1 hx; exact (f0 e he).2
  have F0 : Hid (∀ e ∈ x0, wbRewrite 9223372036854775807 e.d) := fun e he => (f0 e he).1
  clear f0
  obtain ⟨t0, T0⟩ : ∃ t0 : Nat, Hid (sumRewrite d0 = t0) := ⟨_, rfl⟩
  have H1 : Hid (x1.length = n1) := by have := h1.1; rw [List.length_map] at this; exact this
  have H2 : Hid (x2.length = n2) := by have := h2.1; have := r2.1; unfold Hid; omega
  have F2 : Hid (∀ t ∈ x2, t.length ≤ 9223372036854775807) := fun t ht => by have := (f2 t ht).2; unfold maxLen at this; exact this
  obtain ⟨t2, T2⟩ : ∃ t2 : Nat, Hid (sumLen x2 = t2) := ⟨_, rfl⟩
  by_cases z0 : n0 + t0 ≤ 1048576
  rotate_left
  · go_enter Try.func7, Try.ntmps7
    have B0 : Below w.heap.size w w := Below.refl _ _
    go_wp2_with fail
    refine (szRewriteS_not A0 n0 c0 1048576 x0 _ (h0.below B0) (r0.below B0) (by rw [D0.out]; have := T0.out; omega) (by omega) (by omega) F0.out).mono ?_
    rintro e w' ⟨rfl, bz⟩
    go_wp2_with fail
    go_ret
    exact ⟨rfl, (below_step B0 bz)⟩
  obtain ⟨r'0, R0⟩ : ∃ r' : Nat, Hid (r' + (n0 + t0) = 1048576) := ⟨1048576 - (n0 + t0), by unfold Hid; omega⟩
  have q0 : r'0 ≤ 1048576 := by have := R0.out; omega
  have s0 : n0 ≤ 1048576 := by omega
  have u0 : t0 ≤ 1048576 := by omega
  by_cases z2 : n2 + t2 ≤ r'0
  rotate_left
  · go_enter Try.func7, Try.ntmps7
    have B0 : Below w.heap.size w w := Below.refl _ _
    go_wp2_with fail
    refine (szRewriteS_is A0 n0 c0 1048576 r'0 x0 _ (h0.below B0) (r0.below B0) (by rw [D0.out]; have := R0.out; have := T0.out; omega) (by omega) F0.out).mono ?_
    rintro e w1 ⟨rfl, b1⟩
    have B1 := below_step B0 b1
    go_wp2_with fail
    refine (szInt64SS_not A2 n2 c2 r'0 v2 x2 _ (h2.below B1) (r2.below B1) (by have := T2.out; omega) (by omega) (by omega) F2.out).mono ?_
    rintro e w' ⟨rfl, rfl⟩
    go_wp2_with fail
    go_ret
    exact ⟨rfl, B1⟩
  obtain ⟨r'2, R2⟩ : ∃ r' : Nat, Hid (r' + (n2 + t2) = r'0) := ⟨r'0 - (n2 + t2), by unfold Hid; omega⟩
  have q2 : r'2 ≤ 1048576 := by have := R2.out; omega
  have s2 : n2 ≤ 1048576 := by omega
  have u2 : t2 ≤ 1048576 := by omega
  have Z0 := Lib.hid z0; clear z0
  have Z2 := Lib.hid z2; clear z2
  have S0 : Hid (sumRewrite d0 ≤ 1048576) := by have := T0.out; unfold Hid; omega
  have S2 : Hid (sumLen x2 ≤ 1048576) := by have := T2.out; unfold Hid; omega
  go_enter Try.func7, Try.ntmps7
  have B0 : Below w.heap.size w w := Below.refl _ _
  go_wp2_with fail
  refine (szRewriteS_is A0 n0 c0 1048576 r'0 x0 _ (h0.below B0) (r0.below B0) (by rw [D0.out]; have := R0.out; have := T0.out; omega) (by omega) F0.out).mono ?_
  rintro e w1 ⟨rfl, b1⟩
  have B1 := below_step B0 b1
  go_wp2_with fail
  refine (szInt64SS_is A2 n2 c2 r'0 r'2 v2 x2 _ (h2.below B1) (r2.below B1) (by have := R2.out; have := T2.out; omega) (by omega)).mono ?_
  rintro e w' ⟨rfl, rfl⟩
  obtain ⟨k0, K0⟩ : ∃ k0 : Nat, Hid (0 * d0.length + sumRewrite d0 * 1 = k0) := ⟨_, rfl⟩
  have kb0 : k0 ≤ 8388608 := by have := K0.out; have := S0.out; have := H0.out; omega
  obtain ⟨k2, K2⟩ : ∃ k2 : Nat, Hid (cellsIn 1 (itsOf oneI x2) = k2) := ⟨_, rfl⟩
  have kb2 : k2 ≤ 2097152 := by have := K2.out; rw [cellsIn_its] at this; have := S2.out; omega
  have I2 : Hid (∀ it ∈ itsOf oneI x2, it.1 ≤ 4194304) := its_bound (by have := S2.out; omega)
  go_wp2_with fail
  refine (toRewriteS_any A0 n0 c0 x0 _ (h0.below B1) (r0.below B1) s0 (by rw [D0.out]; exact S0.out)).mono ?_
  rintro e w2 ⟨rfl, ⟨es2, o2, he2, ad2⟩, b2⟩
  have B2 := below_step B1 b2
  have E2 := Lib.hid (he2.trans D0.out); clear he2
  have AD2 := Lib.hid ad2; clear ad2
  have s0x_2 := o2.held (Nat.le_refl _)
  clear o2
  go_wp2_with fail
  refine (toInt64S_any A1 n1 c1 x1 _ (h1.below B2) s1).mono ?_
  rintro e w3 ⟨rfl, o3, b3⟩
  have B3 := below_step B2 b3
  have s0x_3 := s0x_2.below b3
  have s1x_3 := flat_of_own o3
  clear o3
  go_wp2_with fail
  refine (toInt64SS_any A2 n2 c2 v2 x2 _ (h2.below B3) (r2.below B3) s2 S2.out).mono ?_
  rintro e w4 ⟨rfl, ⟨us4, o4⟩, b4⟩
  have B4 := below_step B3 b4
  have s0x_4 := s0x_3.below b4
  have s1x_4 := s1x_3.below b4
  have s2x_4 := o4.held (Nat.le_refl _)
  clear o4
  go_wp2_with fail
  refine (specCheckDerivation_any _ _ n0 n0 es2 d0 _ _ n1 n1 x1 _ _ n2 n2 _ x2 _ s0x_4.is.slN (rcsRewrite_of s0x_4.is AD2.out (by have := b3.size; have := b4.size; omega)) E2.out H0.out s0 (Nat.le_refl _) S0.out W0.out (sl_of_own s1x_4.is.own) H1.out s1 (Nat.le_refl _) f1 (sl_of_own s2x_4.is.own) s2x_4.is.inn.srcs H2.out s2 S2.out (fun t ht => (f2 t ht).1)).mono ?_
  rintro e w5 ⟨p0v, rfl, p0_o, b5⟩
  obtain ⟨p0A, p0c, rfl⟩ := own_form p0_o
  have B5 := below_step B4 b5
  have s0x_5 := s0x_4.below b5
  have s1x_5 := s1x_4.below b5
  have s2x_5 := s2x_4.below b5
  have p0_5 := flat_of_own p0_o
  clear p0_o
  go_wp2_with fail
  refine (toRewriteS_any A0 n0 c0 x0 _ (h0.below B5) (r0.below B5) s0 (by rw [D0.out]; exact S0.out)).mono ?_
  rintro e w6 ⟨rfl, ⟨es6, o6, he6, ad6⟩, b6⟩
  have B6 := below_step B5 b6
  have E6 := Lib.hid (he6.trans D0.out); clear he6
  have AD6 := Lib.hid ad6; clear ad6
  have p0_6 := p0_5.below b6
  have u0x_6 := o6.held (Nat.le_refl _)
  clear o6
  go_wp2_with fail
  refine (toInt64S_any A1 n1 c1 x1 _ (h1.below B6) s1).mono ?_
  rintro e w7 ⟨rfl, o7, b7⟩
  have B7 := below_step B6 b7
  have p0_7 := p0_6.below b7
  have u0x_7 := u0x_6.below b7
  have u1x_7 := flat_of_own o7
  clear o7
  go_wp2_with fail
  refine (toInt64SS_any A2 n2 c2 v2 x2 _ (h2.below B7) (r2.below B7) s2 S2.out).mono ?_
  rintro e w8 ⟨rfl, ⟨us8, o8⟩, b8⟩
  have B8 := below_step B7 b8
  have p0_8 := p0_7.below b8
  have u0x_8 := u0x_7.below b8
  have u1x_8 := u1x_7.below b8
  have u2x_8 := o8.held (Nat.le_refl _)
  clear o8
  have hl0 := bndCheckDerivation0 d0 x1 x2 (by have := H0.out; omega) S0.out (by have := H1.out; omega) (by have := H2.out; omega) S2.out
  go_wp2_with fail
  refine (implCheckDerivation_any _ _ n0 n0 es6 d0 _ _ n1 n1 x1 _ _ n2 n2 _ x2 _ u0x_8.is.slN (rcsRewrite_of u0x_8.is AD6.out (by have := b7.size; have := b8.size; omega)) E6.out H0.out s0 (Nat.le_refl _) S0.out W0.out (sl_of_own u1x_8.is.own) H1.out s1 (Nat.le_refl _) f1 (sl_of_own u2x_8.is.own) u2x_8.is.inn.srcs H2.out s2 S2.out (fun t ht => (f2 t ht).1)).mono ?_
  rintro e w9 ⟨g0v, rfl, g0_o, b9⟩
  obtain ⟨g0A, g0c, rfl⟩ := own_form g0_o
  have B9 := below_step B8 b9
  have p0_9 := p0_8.below b9
  have u0x_9 := u0x_8.below b9
  have u1x_9 := u1x_8.below b9
  have u2x_9 := u2x_8.below b9
  have g0_9 := flat_of_own g0_o
  clear g0_o
  go_wp2_with fail
  refine (eqInt64S_any _ _ _ _ _ _ _ _ _ (arg_of_own g0_9.is.own) (arg_of_own p0_9.is.own) (by omega) (by omega)).mono ?_
  rintro e w10 ⟨rfl, q10, hq⟩
  have b10 := quiet_below hq
  clear hq q10
  have B10 := below_step B9 b10
  have p0_10 := p0_9.below b10
  have u0x_10 := u0x_9.below b10
  have u1x_10 := u1x_9.below b10
  have u2x_10 := u2x_9.below b10
  have g0_10 := g0_9.below b10
  go_wp2_with fail
  refine (toRewriteS_any A0 n0 c0 x0 _ (h0.below B10) (r0.below B10) s0 (by rw [D0.out]; exact S0.out)).mono ?_
  rintro e w11 ⟨rfl, ⟨es11, o11, he11, ad11⟩, b11⟩
  have B11 := below_step B10 b11
  have E11 := Lib.hid (he11.trans D0.out); clear he11
  have AD11 := Lib.hid ad11; clear ad11
  have p0_11 := p0_10.below b11
  have u0x_11 := u0x_10.below b11
  have u1x_11 := u1x_10.below b11
  have u2x_11 := u2x_10.below b11
  have g0_11 := g0_10.below b11
  have t0x_11 := o11.held (Nat.le_refl _)
  clear o11
  go_wp2_with fail
  refine (eqRewriteS_is _ _ _ _ _ _ _ _ _ _ u0x_11.is.argsN (rdsRewrite_of u0x_11.is) t0x_11.is.argsN (rdsRewrite_of t0x_11.is) E6.out E11.out (by omega) (by omega) (by have := S0.out; omega)).mono ?_
  rintro e w12 ⟨rfl, b12⟩
  have B12 := below_step B11 b12
  have p0_12 := p0_11.below b12
  have u0x_12 := u0x_11.below b12
  have u1x_12 := u1x_11.below b12
  have u2x_12 := u2x_11.below b12
  have g0_12 := g0_11.below b12
  have t0x_12 := t0x_11.below b12
  go_wp2_with fail
  refine (toInt64S_any A1 n1 c1 x1 _ (h1.below B12) s1).mono ?_
  rintro e w13 ⟨rfl, o13, b13⟩
  have B13 := below_step B12 b13
  have p0_13 := p0_12.below b13
  have u0x_13 := u0x_12.below b13
  have u1x_13 := u1x_12.below b13
  have u2x_13 := u2x_12.below b13
  have g0_13 := g0_12.below b13
  have t1x_13 := flat_of_own o13
  clear o13
  go_wp2_with fail
  refine (eqInt64S_any _ _ _ _ _ _ _ _ _ (arg_of_own u1x_13.is.own) (arg_of_own t1x_13.is.own) (by omega) (by omega)).mono ?_
  rintro e w14 ⟨rfl, q14, hq⟩
  have b14 := quiet_below hq
  clear hq q14
  have B14 := below_step B13 b14
  have p0_14 := p0_13.below b14
  have u0x_14 := u0x_13.below b14
  have u1x_14 := u1x_13.below b14
  have u2x_14 := u2x_13.below b14
  have g0_14 := g0_13.below b14
  have t1x_14 := t1x_13.below b14
  go_wp2_with fail
  refine (toInt64SS_any A2 n2 c2 v2 x2 _ (h2.below B14) (r2.below B14) s2 S2.out).mono ?_
  rintro e w15 ⟨rfl, ⟨us15, o15⟩, b15⟩
  have B15 := below_step B14 b15
  have p0_15 := p0_14.below b15
  have u0x_15 := u0x_14.below b15
  have u1x_15 := u1x_14.below b15
  have u2x_15 := u2x_14.below b15
  have g0_15 := g0_14.below b15
  have t2x_15 := o15.held (Nat.le_refl _)
  clear o15
  go_wp2_with fail
  refine (eqInt64SS_any _ _ _ _ _ _ _ _ _ _ _ (arg_of_own u2x_15.is.own) u2x_15.is.inn.ins (arg_of_own t2x_15.is.own) t2x_15.is.inn.ins (by omega) (by omega) (by have := S2.out; omega) (by have := S2.out; omega)).mono ?_
  rintro e w16 ⟨rfl, b16⟩
  have B16 := below_step B15 b16
  have p0_16 := p0_15.below b16
  have u0x_16 := u0x_15.below b16
  have u1x_16 := u1x_15.below b16
  have u2x_16 := u2x_15.below b16
  have g0_16 := g0_15.below b16
  have t2x_16 := t2x_15.below b16
  go_wp2_with fail
  refine (markRewriteS_is _ _ _ _ _ _ _ u0x_16.is ((widSumRewrite_of E6.out).trans K0.out) (by omega) (by omega) (by have h1 := congrArg List.length E6.out; rw [List.length_map] at h1; have := H0.out; omega) (lensRewrite E6.out (by have := S0.out; omega))).mono ?_
  rintro e w17 ⟨rfl, o17, tt17⟩
  have u0x_17 := SGrid.turn u0x_16 o17 tt17
  clear o17
  have B17 := below_touch B16 tt17 (by have := B16.size; have := b1.size; have := b2.size; have := b3.size; have := b4.size; have := b5.size; have := b6.size; have := b7.size; have := b8.size; have := b9.size; have := b10.size; have := b11.size; have := b12.size; have := b13.size; have := b14.size; have := b15.size; have := b16.size; omega)
  have b17s := tt17.size
  have p0_17 := p0_16.far tt17 (.inl (by have := b1.size; have := b2.size; have := b3.size; have := b4.size; have := b5.size; have := b6.size; have := b7.size; have := b8.size; have := b9.size; have := b10.size; have := b11.size; have := b12.size; have := b13.size; have := b14.size; have := b15.size; have := b16.size; omega))
  have u1x_17 := u1x_16.far tt17 (.inr (by have := b1.size; have := b2.size; have := b3.size; have := b4.size; have := b5.size; have := b6.size; have := b7.size; have := b8.size; have := b9.size; have := b10.size; have := b11.size; have := b12.size; have := b13.size; have := b14.size; have := b15.size; have := b16.size; omega))
  have u2x_17 := u2x_16.far tt17 (.inr (by have := b1.size; have := b2.size; have := b3.size; have := b4.size; have := b5.size; have := b6.size; have := b7.size; have := b8.size; have := b9.size; have := b10.size; have := b11.size; have := b12.size; have := b13.size; have := b14.size; have := b15.size; have := b16.size; omega))
  have g0_17 := g0_16.far tt17 (.inr (by have := b1.size; have := b2.size; have := b3.size; have := b4.size; have := b5.size; have := b6.size; have := b7.size; have := b8.size; have := b9.size; have := b10.size; have := b11.size; have := b12.size; have := b13.size; have := b14.size; have := b15.size; have := b16.size; omega))
  go_wp2_with fail
  refine (markInt64S_any _ _ _ _ _ _ u1x_17.is.own (by omega) (by omega) (by omega)).mono ?_
  rintro e w18 ⟨rfl, o18, g18⟩
  obtain ⟨u1x_18, tt18⟩ := Flat.turn u1x_17 o18 g18
  clear o18 g18
  have B18 := below_touch B17 tt18 (by have := B17.size; have := b1.size; have := b2.size; have := b3.size; have := b4.size; have := b5.size; have := b6.size; have := b7.size; have := b8.size; have := b9.size; have := b10.size; have := b11.size; have := b12.size; have := b13.size; have := b14.size; have := b15.size; have := b16.size; omega)
  have b18s := tt18.size
  have p0_18 := p0_17.far tt18 (.inl (by have := b1.size; have := b2.size; have := b3.size; have := b4.size; have := b5.size; have := b6.size; have := b7.size; have := b8.size; have := b9.size; have := b10.size; have := b11.size; have := b12.size; have := b13.size; have := b14.size; have := b15.size; have := b16.size; omega))
  have u0x_18 := u0x_17.far tt18 (.inl (by have := b1.size; have := b2.size; have := b3.size; have := b4.size; have := b5.size; have := b6.size; have := b7.size; have := b8.size; have := b9.size; have := b10.size; have := b11.size; have := b12.size; have := b13.size; have := b14.size; have := b15.size; have := b16.size; omega))
  have u2x_18 := u2x_17.far tt18 (.inr (by have := b1.size; have := b2.size; have := b3.size; have := b4.size; have := b5.size; have := b6.size; have := b7.size; have := b8.size; have := b9.size; have := b10.size; have := b11.size; have := b12.size; have := b13.size; have := b14.size; have := b15.size; have := b16.size; omega))
  have g0_18 := g0_17.far tt18 (.inr (by have := b1.size; have := b2.size; have := b3.size; have := b4.size; have := b5.size; have := b6.size; have := b7.size; have := b8.size; have := b9.size; have := b10.size; have := b11.size; have := b12.size; have := b13.size; have := b14.size; have := b15.size; have := b16.size; omega))
  go_wp2_with fail
  refine (markInt64SS_is _ _ _ _ _ _ _ _ _ u2x_18.is K2.out (by omega) (by omega) (by omega) I2.out).mono ?_
  rintro e w19 ⟨rfl, o19, tt19⟩
  have u2x_19 := Grid.turn u2x_18 o19 tt19
  clear o19
  have B19 := below_touch B18 tt19 (by have := B18.size; have := b1.size; have := b2.size; have := b3.size; have := b4.size; have := b5.size; have := b6.size; have := b7.size; have := b8.size; have := b9.size; have := b10.size; have := b11.size; have := b12.size; have := b13.size; have := b14.size; have := b15.size; have := b16.size; omega)
  have b19s := tt19.size
  have p0_19 := p0_18.far tt19 (.inl (by have := b1.size; have := b2.size; have := b3.size; have := b4.size; have := b5.size; have := b6.size; have := b7.size; have := b8.size; have := b9.size; have := b10.size; have := b11.size; have := b12.size; have := b13.size; have := b14.size; have := b15.size; have := b16.size; omega))
  have u0x_19 := u0x_18.far tt19 (.inl (by have := b1.size; have := b2.size; have := b3.size; have := b4.size; have := b5.size; have := b6.size; have := b7.size; have := b8.size; have := b9.size; have := b10.size; have := b11.size; have := b12.size; have := b13.size; have := b14.size; have := b15.size; have := b16.size; omega))
  have u1x_19 := u1x_18.far tt19 (.inl (by have := b1.size; have := b2.size; have := b3.size; have := b4.size; have := b5.size; have := b6.size; have := b7.size; have := b8.size; have := b9.size; have := b10.size; have := b11.size; have := b12.size; have := b13.size; have := b14.size; have := b15.size; have := b16.size; omega))
  have g0_19 := g0_18.far tt19 (.inr (by have := b1.size; have := b2.size; have := b3.size; have := b4.size; have := b5.size; have := b6.size; have := b7.size; have := b8.size; have := b9.size; have := b10.size; have := b11.size; have := b12.size; have := b13.size; have := b14.size; have := b15.size; have := b16.size; omega))
  go_wp2_with fail
  refine (eqInt64S_any _ _ _ _ _ _ _ _ _ (arg_of_own g0_19.is.own) (arg_of_own p0_19.is.own) (by omega) (by omega)).mono ?_
  rintro e w20 ⟨rfl, q20, hq⟩
  have b20 := quiet_below hq
  clear hq q20
  have B20 := below_step B19 b20
  have p0_20 := p0_19.below b20
  have g0_20 := g0_19.below b20
  go_wp2_with fail
  refine (markInt64S_any _ _ _ _ _ _ g0_20.is.own (by omega) (by omega) (by omega)).mono ?_
  rintro e w21 ⟨rfl, o21, g21⟩
  obtain ⟨g0_21, tt21⟩ := Flat.turn g0_20 o21 g21
  clear o21 g21
  have B21 := below_touch B20 tt21 (by have := B20.size; have := b1.size; have := b2.size; have := b3.size; have := b4.size; have := b5.size; have := b6.size; have := b7.size; have := b8.size; have := b9.size; have := b10.size; have := b11.size; have := b12.size; have := b13.size; have := b14.size; have := b15.size; have := b16.size; omega)
  have b21s := tt21.size
  have p0_21 := p0_20.far tt21 (.inl (by have := b1.size; have := b2.size; have := b3.size; have := b4.size; have := b5.size; have := b6.size; have := b7.size; have := b8.size; have := b9.size; have := b10.size; have := b11.size; have := b12.size; have := b13.size; have := b14.size; have := b15.size; have := b16.size; omega))
  go_wp2_with fail
  refine (heldInt64S_any _ _ _ _ _ (arg_of_own g0_21.is.own) (by omega) (by omega) (by omega)).mono ?_
  rintro e w22 ⟨rfl, rfl⟩
  go_wp2_with fail
  refine (toRewriteS_any A0 n0 c0 x0 _ (h0.below B21) (r0.below B21) s0 (by rw [D0.out]; exact S0.out)).mono ?_
  rintro e w22 ⟨rfl, ⟨es22, o22, he22, ad22⟩, b22⟩
  have B22 := below_step B21 b22
  have E22 := Lib.hid (he22.trans D0.out); clear he22
  have AD22 := Lib.hid ad22; clear ad22
  have p0_22 := p0_21.below b22
  have g0_22 := g0_21.below b22
  have y0x_22 := o22.held (Nat.le_refl _)
  clear o22
  go_wp2_with fail
  refine (toInt64S_any A1 n1 c1 x1 _ (h1.below B22) s1).mono ?_
  rintro e w23 ⟨rfl, o23, b23⟩
  have B23 := below_step B22 b23
  have p0_23 := p0_22.below b23
  have g0_23 := g0_22.below b23
  have y0x_23 := y0x_22.below b23
  have y1x_23 := flat_of_own o23
  clear o23
  go_wp2_with fail
  refine (toInt64SS_any A2 n2 c2 v2 x2 _ (h2.below B23) (r2.below B23) s2 S2.out).mono ?_
  rintro e w24 ⟨rfl, ⟨us24, o24⟩, b24⟩
  have B24 := below_step B23 b24
  have p0_24 := p0_23.below b24
  have g0_24 := g0_23.below b24
  have y0x_24 := y0x_23.below b24
  have y1x_24 := y1x_23.below b24
  have y2x_24 := o24.held (Nat.le_refl _)
  clear o24
  go_wp2_with fail
  refine (implCheckDerivation_any _ _ n0 n0 es22 d0 _ _ n1 n1 x1 _ _ n2 n2 _ x2 _ y0x_24.is.slN (rcsRewrite_of y0x_24.is AD22.out (by have := b23.size; have := b24.size; omega)) E22.out H0.out s0 (Nat.le_refl _) S0.out W0.out (sl_of_own y1x_24.is.own) H1.out s1 (Nat.le_refl _) f1 (sl_of_own y2x_24.is.own) y2x_24.is.inn.srcs H2.out s2 S2.out (fun t ht => (f2 t ht).1)).mono ?_
  rintro e w25 ⟨h0v, rfl, h0_o, b25⟩
  obtain ⟨h0A, h0c, rfl⟩ := own_form h0_o
  have B25 := below_step B24 b25
  have p0_25 := p0_24.below b25
  have g0_25 := g0_24.below b25
  have y0x_25 := y0x_24.below b25
  have y1x_25 := y1x_24.below b25
  have y2x_25 := y2x_24.below b25
  have h0_25 := flat_of_own h0_o
  clear h0_o
  go_wp2_with fail
  refine (eqInt64S_any _ _ _ _ _ _ _ _ _ (arg_of_own h0_25.is.own) (arg_of_own p0_25.is.own) (by omega) (by omega)).mono ?_
  rintro e w26 ⟨rfl, q26, hq⟩
  have b26 := quiet_below hq
  clear hq q26
  have B26 := below_step B25 b26
  have p0_26 := p0_25.below b26
  have g0_26 := g0_25.below b26
  have h0_26 := h0_25.below b26
  go_wp2_with fail
  refine (heldInt64S_any _ _ _ _ _ (arg_of_own g0_26.is.own) (by omega) (by omega) (by omega)).mono ?_
  rintro e w27 ⟨rfl, rfl⟩
  go_wp2_with fail
  go_ret
  exact ⟨rfl, B26⟩
end Go.Proofs.Yteocnkiagifmfaa
