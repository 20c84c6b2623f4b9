/- The walk of the law FnExactEvalExpr: it returns true, whatever the arguments, and writes nothing that was there. -/
import Derived.Test.YtgcedfpjgdeakaaEvImpl3
import Derived.Test.YtgcedfpjgdeakaaHelpExpr
import Derived.Test.YtgcedfpjgdeakaaHelpBool
import Derived.Test.YtgcedfpjgdeakaaHelpBoolSS
import Derived.Test.YtgcedfpjgdeakaaHeld
namespace Go.Proofs.Ytgcedfpjgdeakaa
open Go.RowKit

set_option maxRecDepth 100000 in
set_option maxHeartbeats 4000000 in
theorem walkEvalExpr (A0 : Option Addr) (n0 c0 : Nat) (x0 : List R2) (A1 : Option Addr) (n1 c1 : Nat) (v1 : List Value) (x1 : List (List Bool)) (w : World) (h0 : Args 2 w A0 n0 (rows R2.vs x0)) (m0 : n0 ≤ maxLen) (f0 : ∀ x ∈ x0, x.wf) (h1 : Arg w A1 n1 v1) (r1 : Ins 1 oneB w v1 x1) (m1 : n1 ≤ maxLen) (f1 : ∀ t ∈ x1, (∀ x ∈ t, (fun _ => True) x) ∧ t.length ≤ maxLen) :
    Calls Try.prog 3 #[.slice A0 n0 c0, .slice A1 n1 c1] w fun e w' => e = .returned (.bool true) ∧ Below w.heap.size w w' := by
  unfold maxLen at m0
  unfold maxLen at m1
  have H0 : Hid (x0.length = n0) := by have := h0.1; rw [rows_len R2.vs_len] at this; unfold Hid; omega
  have H1 : Hid (x1.length = n1) := by have := h1.1; have := r1.1; unfold Hid; omega
  have F1 : Hid (∀ t ∈ x1, t.length ≤ 9223372036854775807) := fun t ht => by have := (f1 t ht).2; unfold maxLen at this; exact this
  obtain ⟨t1, T1⟩ : ∃ t1 : Nat, Hid (sumLen x1 = t1) := ⟨_, rfl⟩
  by_cases z0 : n0 ≤ 1048576
  rotate_left
  · go_enter Try.func3, Try.ntmps3
    have B0 : Below w.heap.size w w := Below.refl _ _
    go_wp2_with fail
    refine (szExprS_not A0 n0 c0 1048576 _ (by omega) (by omega) (by omega)).mono ?_
    rintro e w' ⟨rfl, rfl⟩
    go_wp2_with fail
    go_ret
    exact ⟨rfl, B0⟩
  obtain ⟨r'0, R0⟩ : ∃ r' : Nat, Hid (r' + (n0) = 1048576) := ⟨1048576 - (n0), by unfold Hid; omega⟩
  have q0 : r'0 ≤ 1048576 := by have := R0.out; omega
  have s0 : n0 ≤ 1048576 := by omega
  by_cases z1 : n1 + t1 ≤ r'0
  rotate_left
  · go_enter Try.func3, Try.ntmps3
    have B0 : Below w.heap.size w w := Below.refl _ _
    go_wp2_with fail
    refine (szExprS_is A0 n0 c0 1048576 r'0 _ R0.out (by omega)).mono ?_
    rintro e w' ⟨rfl, rfl⟩
    go_wp2_with fail
    refine (szBoolSS_not A1 n1 c1 r'0 v1 x1 _ (h1) (r1) (by have := T1.out; omega) (by omega) (by omega) F1.out).mono ?_
    rintro e w' ⟨rfl, rfl⟩
    go_wp2_with fail
    go_ret
    exact ⟨rfl, B0⟩
  obtain ⟨r'1, R1⟩ : ∃ r' : Nat, Hid (r' + (n1 + t1) = r'0) := ⟨r'0 - (n1 + t1), by unfold Hid; omega⟩
  have q1 : r'1 ≤ 1048576 := by have := R1.out; omega
  have s1 : n1 ≤ 1048576 := by omega
  have u1 : t1 ≤ 1048576 := by omega
  have Z0 := Lib.hid z0; clear z0
  have Z1 := Lib.hid z1; clear z1
  have S1 : Hid (sumLen x1 ≤ 1048576) := by have := T1.out; unfold Hid; omega
  go_enter Try.func3, Try.ntmps3
  have B0 : Below w.heap.size w w := Below.refl _ _
  go_wp2_with fail
  refine (szExprS_is A0 n0 c0 1048576 r'0 _ R0.out (by omega)).mono ?_
  rintro e w' ⟨rfl, rfl⟩
  go_wp2_with fail
  refine (szBoolSS_is A1 n1 c1 r'0 r'1 v1 x1 _ (h1) (r1) (by have := R1.out; have := T1.out; omega) (by omega)).mono ?_
  rintro e w' ⟨rfl, rfl⟩
  obtain ⟨k1, K1⟩ : ∃ k1 : Nat, Hid (cellsIn 1 (itsOf oneB x1) = k1) := ⟨_, rfl⟩
  have kb1 : k1 ≤ 2097152 := by have := K1.out; rw [cellsIn_its] at this; have := S1.out; omega
  have I1 : Hid (∀ it ∈ itsOf oneB x1, it.1 ≤ 4194304) := its_bound (by have := S1.out; omega)
  go_wp2_with fail
  refine (toExprS_any A0 n0 c0 x0 _ (h0.below B0) s0).mono ?_
  rintro e w1 ⟨rfl, o1, b1⟩
  have B1 := below_step B0 b1
  have s0x_1 := flat_of_own o1
  clear o1
  go_wp2_with fail
  refine (toBoolSS_any A1 n1 c1 v1 x1 _ (h1.below B1) (r1.below B1) s1 S1.out).mono ?_
  rintro e w2 ⟨rfl, ⟨us2, o2⟩, b2⟩
  have B2 := below_step B1 b2
  have s0x_2 := s0x_1.below b2
  have s1x_2 := o2.held (Nat.le_refl _)
  clear o2
  go_wp2_with fail
  refine (specEvalExpr_any _ _ n0 n0 x0 _ _ n1 n1 _ x1 _ (sl_of_own s0x_2.is.own) H0.out s0 (Nat.le_refl _) f0 (sl_of_own s1x_2.is.own) s1x_2.is.inn.srcc H1.out s1 S1.out (fun t ht => (f1 t ht).1)).mono ?_
  rintro e w3 ⟨p0v, rfl, p0_o, b3⟩
  obtain ⟨p0A, p0c, rfl⟩ := own_form p0_o
  have B3 := below_step B2 b3
  have s0x_3 := s0x_2.below b3
  have s1x_3 := s1x_2.below b3
  have p0_3 := flat_of_own p0_o
  clear p0_o
  go_wp2_with fail
  refine (toExprS_any A0 n0 c0 x0 _ (h0.below B3) s0).mono ?_
  rintro e w4 ⟨rfl, o4, b4⟩
  have B4 := below_step B3 b4
  have p0_4 := p0_3.below b4
  have u0x_4 := flat_of_own o4
  clear o4
  go_wp2_with fail
  refine (toBoolSS_any A1 n1 c1 v1 x1 _ (h1.below B4) (r1.below B4) s1 S1.out).mono ?_
  rintro e w5 ⟨rfl, ⟨us5, o5⟩, b5⟩
  have B5 := below_step B4 b5
  have p0_5 := p0_4.below b5
  have u0x_5 := u0x_4.below b5
  have u1x_5 := o5.held (Nat.le_refl _)
  clear o5
  have hl0 := bndEvalExpr0 x0 x1 (by have := H0.out; omega) (by have := H1.out; omega) S1.out
  go_wp2_with fail
  refine (implEvalExpr_any _ _ n0 n0 x0 _ _ n1 n1 _ x1 _ (sl_of_own u0x_5.is.own) H0.out s0 (Nat.le_refl _) f0 (sl_of_own u1x_5.is.own) u1x_5.is.inn.srcc H1.out s1 S1.out (fun t ht => (f1 t ht).1)).mono ?_
  rintro e w6 ⟨g0v, rfl, g0_o, b6⟩
  obtain ⟨g0A, g0c, rfl⟩ := own_form g0_o
  have B6 := below_step B5 b6
  have p0_6 := p0_5.below b6
  have u0x_6 := u0x_5.below b6
  have u1x_6 := u1x_5.below b6
  have g0_6 := flat_of_own g0_o
  clear g0_o
  go_wp2_with fail
  refine (eqBoolS_any _ _ _ _ _ _ _ _ _ (arg_of_own g0_6.is.own) (arg_of_own p0_6.is.own) (by omega) (by omega)).mono ?_
  rintro e w7 ⟨rfl, q7, hq⟩
  have b7 := quiet_below hq
  clear hq q7
  have B7 := below_step B6 b7
  have p0_7 := p0_6.below b7
  have u0x_7 := u0x_6.below b7
  have u1x_7 := u1x_6.below b7
  have g0_7 := g0_6.below b7
  go_wp2_with fail
  refine (toExprS_any A0 n0 c0 x0 _ (h0.below B7) s0).mono ?_
  rintro e w8 ⟨rfl, o8, b8⟩
  have B8 := below_step B7 b8
  have p0_8 := p0_7.below b8
  have u0x_8 := u0x_7.below b8
  have u1x_8 := u1x_7.below b8
  have g0_8 := g0_7.below b8
  have t0x_8 := flat_of_own o8
  clear o8
  go_wp2_with fail
  refine (eqExprS_any _ _ _ _ _ _ _ _ _ (args_of_own u0x_8.is.own) (args_of_own t0x_8.is.own) (by omega) (by omega)).mono ?_
  rintro e w9 ⟨rfl, b9⟩
  have B9 := below_step B8 b9
  have p0_9 := p0_8.below b9
  have u0x_9 := u0x_8.below b9
  have u1x_9 := u1x_8.below b9
  have g0_9 := g0_8.below b9
  have t0x_9 := t0x_8.below b9
  go_wp2_with fail
  refine (toBoolSS_any A1 n1 c1 v1 x1 _ (h1.below B9) (r1.below B9) s1 S1.out).mono ?_
  rintro e w10 ⟨rfl, ⟨us10, o10⟩, b10⟩
  have B10 := below_step B9 b10
  have p0_10 := p0_9.below b10
  have u0x_10 := u0x_9.below b10
  have u1x_10 := u1x_9.below b10
  have g0_10 := g0_9.below b10
  have t1x_10 := o10.held (Nat.le_refl _)
  clear o10
  go_wp2_with fail
  refine (eqBoolSS_any _ _ _ _ _ _ _ _ _ _ _ (arg_of_own u1x_10.is.own) u1x_10.is.inn.ins (arg_of_own t1x_10.is.own) t1x_10.is.inn.ins (by omega) (by omega) (by have := S1.out; omega) (by have := S1.out; omega)).mono ?_
  rintro e w11 ⟨rfl, b11⟩
  have B11 := below_step B10 b11
  have p0_11 := p0_10.below b11
  have u0x_11 := u0x_10.below b11
  have u1x_11 := u1x_10.below b11
  have g0_11 := g0_10.below b11
  have t1x_11 := t1x_10.below b11
  go_wp2_with fail
  refine (markExprS_any _ _ _ _ _ _ u0x_11.is.own (by omega) (by omega) (by omega)).mono ?_
  rintro e w12 ⟨rfl, o12, g12⟩
  obtain ⟨u0x_12, tt12⟩ := Flat.turn u0x_11 o12 g12
  clear o12 g12
  have B12 := below_touch B11 tt12 (by have := B11.size; have := b1.size; have := b2.size; have := b3.size; have := b4.size; have := b5.size; have := b6.size; have := b7.size; have := b8.size; have := b9.size; have := b10.size; have := b11.size; omega)
  have b12s := tt12.size
  have p0_12 := p0_11.far tt12 (.inl (by have := b1.size; have := b2.size; have := b3.size; have := b4.size; have := b5.size; have := b6.size; have := b7.size; have := b8.size; have := b9.size; have := b10.size; have := b11.size; omega))
  have u1x_12 := u1x_11.far tt12 (.inr (by have := b1.size; have := b2.size; have := b3.size; have := b4.size; have := b5.size; have := b6.size; have := b7.size; have := b8.size; have := b9.size; have := b10.size; have := b11.size; omega))
  have g0_12 := g0_11.far tt12 (.inr (by have := b1.size; have := b2.size; have := b3.size; have := b4.size; have := b5.size; have := b6.size; have := b7.size; have := b8.size; have := b9.size; have := b10.size; have := b11.size; omega))
  go_wp2_with fail
  refine (markBoolSS_is _ _ _ _ _ _ _ _ _ u1x_12.is K1.out (by omega) (by omega) (by omega) I1.out).mono ?_
  rintro e w13 ⟨rfl, o13, tt13⟩
  have u1x_13 := Grid.turn u1x_12 o13 tt13
  clear o13
  have B13 := below_touch B12 tt13 (by have := B12.size; have := b1.size; have := b2.size; have := b3.size; have := b4.size; have := b5.size; have := b6.size; have := b7.size; have := b8.size; have := b9.size; have := b10.size; have := b11.size; omega)
  have b13s := tt13.size
  have p0_13 := p0_12.far tt13 (.inl (by have := b1.size; have := b2.size; have := b3.size; have := b4.size; have := b5.size; have := b6.size; have := b7.size; have := b8.size; have := b9.size; have := b10.size; have := b11.size; omega))
  have u0x_13 := u0x_12.far tt13 (.inl (by have := b1.size; have := b2.size; have := b3.size; have := b4.size; have := b5.size; have := b6.size; have := b7.size; have := b8.size; have := b9.size; have := b10.size; have := b11.size; omega))
  have g0_13 := g0_12.far tt13 (.inr (by have := b1.size; have := b2.size; have := b3.size; have := b4.size; have := b5.size; have := b6.size; have := b7.size; have := b8.size; have := b9.size; have := b10.size; have := b11.size; omega))
  go_wp2_with fail
  refine (eqBoolS_any _ _ _ _ _ _ _ _ _ (arg_of_own g0_13.is.own) (arg_of_own p0_13.is.own) (by omega) (by omega)).mono ?_
  rintro e w14 ⟨rfl, q14, hq⟩
  have b14 := quiet_below hq
  clear hq q14
  have B14 := below_step B13 b14
  have p0_14 := p0_13.below b14
  have g0_14 := g0_13.below b14
  go_wp2_with fail
  refine (markBoolS_any _ _ _ _ _ _ g0_14.is.own (by omega) (by omega) (by omega)).mono ?_
  rintro e w15 ⟨rfl, o15, g15⟩
  obtain ⟨g0_15, tt15⟩ := Flat.turn g0_14 o15 g15
  clear o15 g15
  have B15 := below_touch B14 tt15 (by have := B14.size; have := b1.size; have := b2.size; have := b3.size; have := b4.size; have := b5.size; have := b6.size; have := b7.size; have := b8.size; have := b9.size; have := b10.size; have := b11.size; omega)
  have b15s := tt15.size
  have p0_15 := p0_14.far tt15 (.inl (by have := b1.size; have := b2.size; have := b3.size; have := b4.size; have := b5.size; have := b6.size; have := b7.size; have := b8.size; have := b9.size; have := b10.size; have := b11.size; omega))
  go_wp2_with fail
  refine (heldBoolS_any _ _ _ _ _ (arg_of_own g0_15.is.own) (by omega) (by omega) (by omega)).mono ?_
  rintro e w16 ⟨rfl, rfl⟩
  go_wp2_with fail
  refine (toExprS_any A0 n0 c0 x0 _ (h0.below B15) s0).mono ?_
  rintro e w16 ⟨rfl, o16, b16⟩
  have B16 := below_step B15 b16
  have p0_16 := p0_15.below b16
  have g0_16 := g0_15.below b16
  have y0x_16 := flat_of_own o16
  clear o16
  go_wp2_with fail
  refine (toBoolSS_any A1 n1 c1 v1 x1 _ (h1.below B16) (r1.below B16) s1 S1.out).mono ?_
  rintro e w17 ⟨rfl, ⟨us17, o17⟩, b17⟩
  have B17 := below_step B16 b17
  have p0_17 := p0_16.below b17
  have g0_17 := g0_16.below b17
  have y0x_17 := y0x_16.below b17
  have y1x_17 := o17.held (Nat.le_refl _)
  clear o17
  go_wp2_with fail
  refine (implEvalExpr_any _ _ n0 n0 x0 _ _ n1 n1 _ x1 _ (sl_of_own y0x_17.is.own) H0.out s0 (Nat.le_refl _) f0 (sl_of_own y1x_17.is.own) y1x_17.is.inn.srcc H1.out s1 S1.out (fun t ht => (f1 t ht).1)).mono ?_
  rintro e w18 ⟨h0v, rfl, h0_o, b18⟩
  obtain ⟨h0A, h0c, rfl⟩ := own_form h0_o
  have B18 := below_step B17 b18
  have p0_18 := p0_17.below b18
  have g0_18 := g0_17.below b18
  have y0x_18 := y0x_17.below b18
  have y1x_18 := y1x_17.below b18
  have h0_18 := flat_of_own h0_o
  clear h0_o
  go_wp2_with fail
  refine (eqBoolS_any _ _ _ _ _ _ _ _ _ (arg_of_own h0_18.is.own) (arg_of_own p0_18.is.own) (by omega) (by omega)).mono ?_
  rintro e w19 ⟨rfl, q19, hq⟩
  have b19 := quiet_below hq
  clear hq q19
  have B19 := below_step B18 b19
  have p0_19 := p0_18.below b19
  have g0_19 := g0_18.below b19
  have h0_19 := h0_18.below b19
  go_wp2_with fail
  refine (heldBoolS_any _ _ _ _ _ (arg_of_own g0_19.is.own) (by omega) (by omega) (by omega)).mono ?_
  rintro e w20 ⟨rfl, rfl⟩
  go_wp2_with fail
  go_ret
  exact ⟨rfl, B19⟩
end Go.Proofs.Ytgcedfpjgdeakaa
