/- The walk of the law FnExactTagToMarkov: it returns true, whatever the arguments, and writes nothing that was there. -/
import Derived.Test.YtcfkjigapnknnaaTagMk
import Derived.Test.YtcfkjigapnknnaaOneTag
import Derived.Test.YtcfkjigapnknnaaHelpMarkovRule
import Derived.Test.YtcfkjigapnknnaaBox
namespace Go.Proofs.Ytcfkjigapnknnaa
open Go.RowKit
set_option linter.all false

set_option maxRecDepth 100000 in
set_option maxHeartbeats 8000000 in
theorem walkTagToMarkov (f0_0 : Int) (A0_1 : Option Addr) (n0_1 c0_1 : Nat) (v0_1 : List Value) (x0_1 : List (List Int)) (A0_2 : Option Addr) (n0_2 c0_2 : Nat) (x0_2 : List Int) (w : World) (w0_0 : Wf64 f0_0) (h0_1 : Arg w A0_1 n0_1 v0_1) (r0_1 : Ins 1 oneI w v0_1 x0_1) (m0_1 : n0_1 ≤ maxLen) (w0_1 : ∀ t ∈ x0_1, (∀ x ∈ t, Wf64 x) ∧ t.length ≤ maxLen) (h0_2 : Arg w A0_2 n0_2 (x0_2.map (Value.int .i64))) (m0_2 : n0_2 ≤ maxLen) (w0_2 : Wf64s x0_2) :
    Calls Try.prog 5 #[.agg #[.int .i64 f0_0, .slice A0_1 n0_1 c0_1, .slice A0_2 n0_2 c0_2]] w fun e w' => e = .returned (.bool true) ∧ Below w.heap.size w w' := by
  unfold maxLen at m0_1
  unfold maxLen at m0_2
  obtain ⟨w0, HW0, B0, x0⟩ := al1 w (.cells #[.int .i64 f0_0, .slice A0_1 n0_1 c0_1, .slice A0_2 n0_2 c0_2] 56)
  have bx0_0 := box_held x0
  have szx0 := heap_lt x0
  clear x0
  have H0_1 : Hid (x0_1.length = n0_1) := by have := h0_1.1; have := r0_1.1; unfold Hid; omega
  have F0_1 : Hid (∀ t ∈ x0_1, t.length ≤ 9223372036854775807) := fun t ht => by have := (w0_1 t ht).2; unfold maxLen at this; exact this
  have H0_2 : Hid (x0_2.length = n0_2) := by have := h0_2.1; rw [List.length_map] at this; exact this
  by_cases z0 : (n0_1 + sumLen x0_1) + (n0_2) ≤ 1048576
  rotate_left
  · go_enter Try.func5, Try.ntmps5
    have lbx0_0 : w0.cell? ⟨w.heap.size, 0, none⟩ = some (.int .i64 f0_0) := by rw [cell_of_heap bx0_0.is]; rfl
    have lbx0_1 : w0.cell? ⟨w.heap.size, 1, none⟩ = some (.slice A0_1 n0_1 c0_1) := by rw [cell_of_heap bx0_0.is]; rfl
    have lbx0_2 : w0.cell? ⟨w.heap.size, 2, none⟩ = some (.slice A0_2 n0_2 c0_2) := by rw [cell_of_heap bx0_0.is]; rfl
    go_wp2_with fail
    rw [← HW0.out]
    refine (szTagO_not f0_0 A0_1 n0_1 c0_1 v0_1 x0_1 A0_2 n0_2 c0_2 x0_2 1048576 _ (h0_1.below B0) (r0_1.below B0) (h0_2.below B0) (by omega) (by omega) (by omega) F0_1.out (by omega)).mono ?_
    rintro e w1 ⟨rfl, b1⟩
    clear lbx0_0 lbx0_1 lbx0_2
    go_wp2_with fail
    go_ret
    exact ⟨rfl, below_step B0 b1⟩
  obtain ⟨r'0, R0⟩ : ∃ r' : Nat, Hid (r' + ((n0_1 + sumLen x0_1) + (n0_2)) = 1048576) := ⟨1048576 - ((n0_1 + sumLen x0_1) + (n0_2)), by unfold Hid; omega⟩
  have q0 : r'0 ≤ 1048576 := by have := R0.out; omega
  have s0_1 : n0_1 ≤ 1048576 := by omega
  have t0_1 : sumLen x0_1 ≤ 1048576 := by omega
  obtain ⟨k0_1, K0_1⟩ : ∃ k : Nat, Hid (cellsIn 1 (itsOf oneI x0_1) = k) := ⟨_, rfl⟩
  have kb0_1 : k0_1 ≤ 1048576 := by have := K0_1.out; rw [cellsIn_its] at this; omega
  have I0_1 : Hid (∀ it ∈ itsOf oneI x0_1, it.1 ≤ 4194304) := its_bound (by omega)
  have TH0_1 := Lib.hid t0_1; clear t0_1
  have s0_2 : n0_2 ≤ 1048576 := by omega
  have Z0 := Lib.hid z0; clear z0
  go_enter Try.func5, Try.ntmps5
  have lbx0_0 : w0.cell? ⟨w.heap.size, 0, none⟩ = some (.int .i64 f0_0) := by rw [cell_of_heap bx0_0.is]; rfl
  have lbx0_1 : w0.cell? ⟨w.heap.size, 1, none⟩ = some (.slice A0_1 n0_1 c0_1) := by rw [cell_of_heap bx0_0.is]; rfl
  have lbx0_2 : w0.cell? ⟨w.heap.size, 2, none⟩ = some (.slice A0_2 n0_2 c0_2) := by rw [cell_of_heap bx0_0.is]; rfl
  go_wp2_with fail
  rw [← HW0.out]
  refine (szTagO_is f0_0 A0_1 n0_1 c0_1 v0_1 x0_1 A0_2 n0_2 c0_2 x0_2 1048576 r'0 _ (h0_1.below B0) (r0_1.below B0) (h0_2.below B0) R0.out (by omega) (by omega) F0_1.out (by omega)).mono ?_
  rintro e w1 ⟨rfl, b1⟩
  clear lbx0_0 lbx0_1 lbx0_2
  have B1 := below_step B0 b1
  have sz1 := b1.size
  have bx0_1 := bx0_0.below b1
  clear bx0_0
  have lbx0_0 : w1.cell? ⟨w.heap.size, 0, none⟩ = some (.int .i64 f0_0) := by rw [cell_of_heap bx0_1.is]; rfl
  have lbx0_1 : w1.cell? ⟨w.heap.size, 1, none⟩ = some (.slice A0_1 n0_1 c0_1) := by rw [cell_of_heap bx0_1.is]; rfl
  have lbx0_2 : w1.cell? ⟨w.heap.size, 2, none⟩ = some (.slice A0_2 n0_2 c0_2) := by rw [cell_of_heap bx0_1.is]; rfl
  go_wp2_with fail
  refine (toTagO_any f0_0 A0_1 n0_1 c0_1 v0_1 x0_1 A0_2 n0_2 c0_2 x0_2 _ (h0_1.below B1) (r0_1.below B1) (h0_2.below B1) s0_1 TH0_1.out s0_2).mono ?_
  rintro e w2 ⟨⟨ga0_1, ea0_1, usa0_1, ga0_2, ea0_2, rfl, loa0_1, gea0_1, loa0_2, gea0_2, lea0, pa0_1_2, pa0_2_2, aua0_1⟩, b2⟩
  clear lbx0_0 lbx0_1 lbx0_2
  have B2 := below_step B1 b2
  have sz2 := b2.size
  have bx0_2 := bx0_1.below b2
  clear bx0_1
  go_wp2_with fail
  refine (specTagToMarkov_any f0_0 ga0_1 n0_1 n0_1 usa0_1 x0_1 ga0_2 n0_2 n0_2 x0_2 _ w0_0 (sl_of_own pa0_1_2.is.own) pa0_1_2.is.inn.srcs H0_1.out s0_1 (Nat.le_refl _) TH0_1.out aua0_1 (sl_of_own pa0_2_2.is.own) H0_2.out s0_2 (Nat.le_refl _)).mono ?_
  rintro e w3 ⟨vs0, ess0, rfl, os0, es0, b3⟩
  have B3 := below_step B2 b3
  have sz3 := b3.size
  have bx0_3 := bx0_2.below b3
  clear bx0_2
  have pa0_1_3 := pa0_1_2.below b3
  clear pa0_1_2
  have pa0_2_3 := pa0_2_2.below b3
  clear pa0_2_2
  obtain ⟨As0, cs0, rfl⟩ := own_form os0.own
  have Es0 := Lib.hid es0; clear es0
  have ps0_3 := os0.held (Nat.le_refl _)
  clear os0
  clear pa0_1_3
  clear pa0_2_3
  obtain ⟨hl0, HS0⟩ := bndTagToMarkov0 f0_0 x0_1 x0_2 (by have := H0_1.out; omega) TH0_1.out (by have := H0_2.out; omega)
  have HL0 := Lib.hid hl0; clear hl0
  have HS0 := Lib.hid HS0
  obtain ⟨kr0, KR0⟩ : ∃ kr : Nat, Hid (1 * ((tagToMarkov f0_0 x0_1 x0_2).1).length + sumMarkovRule ((tagToMarkov f0_0 x0_1 x0_2).1) * 1 = kr) := ⟨_, rfl⟩
  have krb0 : kr0 ≤ 33554432 := by have := KR0.out; have := HS0.out; have := HL0.out; omega
  have lbx0_0 : w3.cell? ⟨w.heap.size, 0, none⟩ = some (.int .i64 f0_0) := by rw [cell_of_heap bx0_3.is]; rfl
  have lbx0_1 : w3.cell? ⟨w.heap.size, 1, none⟩ = some (.slice A0_1 n0_1 c0_1) := by rw [cell_of_heap bx0_3.is]; rfl
  have lbx0_2 : w3.cell? ⟨w.heap.size, 2, none⟩ = some (.slice A0_2 n0_2 c0_2) := by rw [cell_of_heap bx0_3.is]; rfl
  go_wp2_with fail
  refine (toTagO_any f0_0 A0_1 n0_1 c0_1 v0_1 x0_1 A0_2 n0_2 c0_2 x0_2 _ (h0_1.below B3) (r0_1.below B3) (h0_2.below B3) s0_1 TH0_1.out s0_2).mono ?_
  rintro e w4 ⟨⟨gx0_1, ex0_1, usx0_1, gx0_2, ex0_2, rfl, lox0_1, gex0_1, lox0_2, gex0_2, lex0, px0_1_4, px0_2_4, aux0_1⟩, b4⟩
  clear lbx0_0 lbx0_1 lbx0_2
  have B4 := below_step B3 b4
  have sz4 := b4.size
  have bx0_4 := bx0_3.below b4
  clear bx0_3
  have ps0_4 := ps0_3.below b4
  clear ps0_3
  obtain ⟨w5, HW5, b5, y5⟩ := al1 w4 (.cells #[.int .i64 f0_0, .slice (some ⟨gx0_1, 0, none⟩) n0_1 n0_1, .slice (some ⟨gx0_2, 0, none⟩) n0_2 n0_2] 61)
  have B5 := below_step B4 b5
  have sz5 := b5.size
  have bx0_5 := bx0_4.below b5
  clear bx0_4
  have ps0_5 := ps0_4.below b5
  clear ps0_4
  have px0_1_5 := px0_1_4.below b5
  clear px0_1_4
  have px0_2_5 := px0_2_4.below b5
  clear px0_2_4
  have z0_5 := box_held y5
  have szy5 := heap_lt y5
  clear y5
  have lz0_0 : w5.cell? ⟨w4.heap.size, 0, none⟩ = some (.int .i64 f0_0) := by rw [cell_of_heap z0_5.is]; rfl
  have lz0_1 : w5.cell? ⟨w4.heap.size, 1, none⟩ = some (.slice (some ⟨gx0_1, 0, none⟩) n0_1 n0_1) := by rw [cell_of_heap z0_5.is]; rfl
  have lz0_2 : w5.cell? ⟨w4.heap.size, 2, none⟩ = some (.slice (some ⟨gx0_2, 0, none⟩) n0_2 n0_2) := by rw [cell_of_heap z0_5.is]; rfl
  go_wp2_with fail
  rw [← HW5.out]
  refine (implTagToMarkov_any f0_0 gx0_1 n0_1 n0_1 usx0_1 x0_1 gx0_2 n0_2 n0_2 x0_2 _ w0_0 (sl_of_own px0_1_5.is.own) px0_1_5.is.inn.srcs H0_1.out s0_1 (Nat.le_refl _) TH0_1.out aux0_1 (sl_of_own px0_2_5.is.own) H0_2.out s0_2 (Nat.le_refl _)).mono ?_
  rintro e w6 ⟨vg0, esg0, rfl, og0, eg0, b6⟩
  clear lz0_0 lz0_1 lz0_2
  have B6 := below_step B5 b6
  have sz6 := b6.size
  have bx0_6 := bx0_5.below b6
  clear bx0_5
  have ps0_6 := ps0_5.below b6
  clear ps0_5
  have px0_1_6 := px0_1_5.below b6
  clear px0_1_5
  have px0_2_6 := px0_2_5.below b6
  clear px0_2_5
  have z0_6 := z0_5.below b6
  clear z0_5
  obtain ⟨Ag0, cg0, rfl⟩ := own_form og0.own
  have Eg0 := Lib.hid eg0; clear eg0
  have pg0_6 := og0.held (Nat.le_refl _)
  clear og0
  go_wp2_with fail
  refine (eqMarkovRuleS_is _ _ _ _ _ _ _ _ _ _ pg0_6.is.argsN (rdsMarkovRule_of pg0_6.is) ps0_6.is.argsN (rdsMarkovRule_of ps0_6.is) Eg0.out Es0.out (by have h1 := congrArg List.length Eg0.out; rw [List.length_map] at h1; have := HL0.out; omega) (by have h1 := congrArg List.length Es0.out; rw [List.length_map] at h1; have := HL0.out; omega) (by have := HS0.out; omega)).mono ?_
  rintro e w7 ⟨rfl, b7⟩
  have B7 := below_step B6 b7
  have sz7 := b7.size
  have bx0_7 := bx0_6.below b7
  clear bx0_6
  have ps0_7 := ps0_6.below b7
  clear ps0_6
  have px0_1_7 := px0_1_6.below b7
  clear px0_1_6
  have px0_2_7 := px0_2_6.below b7
  clear px0_2_6
  have z0_7 := z0_6.below b7
  clear z0_6
  have pg0_7 := pg0_6.below b7
  clear pg0_6
  have lz0_0 : w7.cell? ⟨w4.heap.size, 0, none⟩ = some (.int .i64 f0_0) := by rw [cell_of_heap z0_7.is]; rfl
  have lz0_1 : w7.cell? ⟨w4.heap.size, 1, none⟩ = some (.slice (some ⟨gx0_1, 0, none⟩) n0_1 n0_1) := by rw [cell_of_heap z0_7.is]; rfl
  have lz0_2 : w7.cell? ⟨w4.heap.size, 2, none⟩ = some (.slice (some ⟨gx0_2, 0, none⟩) n0_2 n0_2) := by rw [cell_of_heap z0_7.is]; rfl
  have lbx0_0 : w7.cell? ⟨w.heap.size, 0, none⟩ = some (.int .i64 f0_0) := by rw [cell_of_heap bx0_7.is]; rfl
  have lbx0_1 : w7.cell? ⟨w.heap.size, 1, none⟩ = some (.slice A0_1 n0_1 c0_1) := by rw [cell_of_heap bx0_7.is]; rfl
  have lbx0_2 : w7.cell? ⟨w.heap.size, 2, none⟩ = some (.slice A0_2 n0_2 c0_2) := by rw [cell_of_heap bx0_7.is]; rfl
  go_wp2_with fail
  go_region_held3 (fun W => W.cell? ⟨w4.heap.size, 0, none⟩ = some (.int .i64 f0_0) ∧ W.cell? ⟨w4.heap.size, 1, none⟩ = some (.slice (some ⟨gx0_1, 0, none⟩) n0_1 n0_1) ∧ W.cell? ⟨w4.heap.size, 2, none⟩ = some (.slice (some ⟨gx0_2, 0, none⟩) n0_2 n0_2) ∧ W.cell? ⟨w.heap.size, 0, none⟩ = some (.int .i64 f0_0) ∧ W.cell? ⟨w.heap.size, 1, none⟩ = some (.slice A0_1 n0_1 c0_1) ∧ W.cell? ⟨w.heap.size, 2, none⟩ = some (.slice A0_2 n0_2 c0_2)) (first | go_keep | exact ⟨r8_0, r8_1, r8_2, r8_3, r8_4, r8_5⟩ | exact ⟨s8_0, s8_1, s8_2, s8_3, s8_4, s8_5⟩)
    ((first
      | (go_at_call 31; refine (toTagO_any f0_0 A0_1 n0_1 c0_1 v0_1 x0_1 A0_2 n0_2 c0_2 x0_2 _ (h0_1.below (B7.drew)) (r0_1.below (B7.drew)) (h0_2.below (B7.drew)) s0_1 TH0_1.out s0_2).mono ?_; rintro e w8 ⟨⟨gt0_1, et0_1, ust0_1, gt0_2, et0_2, rfl, lot0_1, get0_1, lot0_2, get0_2, let0, pt0_1_8, pt0_2_8, aut0_1⟩, b8'⟩; have b8 := below_drew_at b8'; have r8_0 := cell_step (by exact lz0_0) b8; have r8_1 := cell_step (by exact lz0_1) b8; have r8_2 := cell_step (by exact lz0_2) b8; have r8_3 := cell_step (by exact lbx0_0) b8; have r8_4 := cell_step (by exact lbx0_1) b8; have r8_5 := cell_step (by exact lbx0_2) b8)
      | (go_at_call 34; refine (eqTagO_same f0_0 _ _ n0_1 _ _ _ _ x0_1 _ _ n0_2 _ _ x0_2 _ (arg_of_own ((px0_1_7.below b8).is.own)) ((px0_1_7.below b8).is.inn.ins) (arg_of_own pt0_1_8.is.own) pt0_1_8.is.inn.ins (arg_of_own ((px0_2_7.below b8).is.own)) (arg_of_own pt0_2_8.is.own) (by omega) (by have := TH0_1.out; omega) (by omega)).mono ?_; rintro e w9 ⟨rfl, b9⟩; have s8_0 := cell_step (by exact r8_0) b9; have s8_1 := cell_step (by exact r8_1) b9; have s8_2 := cell_step (by exact r8_2) b9; have s8_3 := cell_step (by exact r8_3) b9; have s8_4 := cell_step (by exact r8_4) b9; have s8_5 := cell_step (by exact r8_5) b9)))
  all_goals
    have b9 := below_step b8 b9
    clear r8_0 r8_1 r8_2 r8_3 r8_4 r8_5 s8_0 s8_1 s8_2 s8_3 s8_4 s8_5 pt0_1_8 pt0_2_8 b8' lz0_0 lz0_1 lz0_2 lbx0_0 lbx0_1 lbx0_2 lot0_1 get0_1 lot0_2 get0_2 let0
    have B9 := below_step B7 b9
    have sz9 := b9.size
    have bx0_9 := bx0_7.below b9
    clear bx0_7
    have ps0_9 := ps0_7.below b9
    clear ps0_7
    have px0_1_9 := px0_1_7.below b9
    clear px0_1_7
    have px0_2_9 := px0_2_7.below b9
    clear px0_2_7
    have z0_9 := z0_7.below b9
    clear z0_7
    have pg0_9 := pg0_7.below b9
    clear pg0_7
    clear b9
    have lz0_0 : w9.cell? ⟨w4.heap.size, 0, none⟩ = some (.int .i64 f0_0) := by rw [cell_of_heap z0_9.is]; rfl
    have lz0_1 : w9.cell? ⟨w4.heap.size, 1, none⟩ = some (.slice (some ⟨gx0_1, 0, none⟩) n0_1 n0_1) := by rw [cell_of_heap z0_9.is]; rfl
    have lz0_2 : w9.cell? ⟨w4.heap.size, 2, none⟩ = some (.slice (some ⟨gx0_2, 0, none⟩) n0_2 n0_2) := by rw [cell_of_heap z0_9.is]; rfl
    go_wp2_with fail
    refine (markTagO_any f0_0 gx0_1 ex0_1 n0_1 n0_1 usx0_1 x0_1 gx0_2 ex0_2 n0_2 n0_2 _ k0_1 _ _ px0_1_9 px0_2_9 lox0_2 gex0_1 gex0_2 K0_1.out (by omega) I0_1.out (by omega) (by omega) (by omega) (by omega)).mono ?_
    rintro e w10 ⟨rfl, px0_1_10, px0_2_10, tt10⟩
    clear px0_1_9 px0_2_9
    clear lz0_0 lz0_1 lz0_2
    have B10 := below_touch B9 tt10 (by have := B0.size;  omega)
    have sz10 := tt10.size
    have bx0_10 := bx0_9.far tt10 (.inl (by have := B0.size;  omega))
    clear bx0_9
    have ps0_10 := ps0_9.far tt10 (.inl (by have := B0.size;  omega))
    clear ps0_9
    have z0_10 := z0_9.far tt10 (.inr (by have := B0.size;  omega))
    clear z0_9
    have pg0_10 := pg0_9.far tt10 (.inr (by have := B0.size;  omega))
    clear pg0_9
    clear px0_1_10
    clear px0_2_10
    clear z0_10
    go_wp2_with fail
    refine (eqMarkovRuleS_is _ _ _ _ _ _ _ _ _ _ pg0_10.is.argsN (rdsMarkovRule_of pg0_10.is) ps0_10.is.argsN (rdsMarkovRule_of ps0_10.is) Eg0.out Es0.out (by have h1 := congrArg List.length Eg0.out; rw [List.length_map] at h1; have := HL0.out; omega) (by have h1 := congrArg List.length Es0.out; rw [List.length_map] at h1; have := HL0.out; omega) (by have := HS0.out; omega)).mono ?_
    rintro e w11 ⟨rfl, b11⟩
    have B11 := below_step B10 b11
    have sz11 := b11.size
    have bx0_11 := bx0_10.below b11
    clear bx0_10
    have ps0_11 := ps0_10.below b11
    clear ps0_10
    have pg0_11 := pg0_10.below b11
    clear pg0_10
    go_wp2_with fail
    refine (markMarkovRuleS_is _ _ _ _ _ _ _ pg0_11.is ((widSumMarkovRule_of Eg0.out).trans KR0.out) (by omega) (by omega) (by have h1 := congrArg List.length Eg0.out; rw [List.length_map] at h1; have := HL0.out; omega) (lensMarkovRule Eg0.out (by have := HS0.out; omega))).mono ?_
    rintro e w12 ⟨rfl, o12, tt12⟩
    have pg0_12 := SGrid.turn pg0_11 o12 tt12
    clear o12 pg0_11
    have B12 := below_touch B11 tt12 (by have := B0.size;  omega)
    have sz12 := tt12.size
    have bx0_12 := bx0_11.far tt12 (.inl (by have := B0.size;  omega))
    clear bx0_11
    have ps0_12 := ps0_11.far tt12 (.inl (by have := B0.size;  omega))
    clear ps0_11
    go_wp2_with fail
    refine (heldMarkovRuleS_is _ _ _ _ _ _ _ pg0_12.is ((widSumMarkovRule_of Eg0.out).trans KR0.out) (by omega) (by omega) (by have h1 := congrArg List.length Eg0.out; rw [List.length_map] at h1; have := HL0.out; omega) (lensMarkovRule Eg0.out (by have := HS0.out; omega))).mono ?_
    rintro e w' ⟨rfl, rfl⟩
    have lbx0_0 : w12.cell? ⟨w.heap.size, 0, none⟩ = some (.int .i64 f0_0) := by rw [cell_of_heap bx0_12.is]; rfl
    have lbx0_1 : w12.cell? ⟨w.heap.size, 1, none⟩ = some (.slice A0_1 n0_1 c0_1) := by rw [cell_of_heap bx0_12.is]; rfl
    have lbx0_2 : w12.cell? ⟨w.heap.size, 2, none⟩ = some (.slice A0_2 n0_2 c0_2) := by rw [cell_of_heap bx0_12.is]; rfl
    go_wp2_with fail
    refine (toTagO_any f0_0 A0_1 n0_1 c0_1 v0_1 x0_1 A0_2 n0_2 c0_2 x0_2 _ (h0_1.below B12) (r0_1.below B12) (h0_2.below B12) s0_1 TH0_1.out s0_2).mono ?_
    rintro e w13 ⟨⟨gy0_1, ey0_1, usy0_1, gy0_2, ey0_2, rfl, loy0_1, gey0_1, loy0_2, gey0_2, ley0, py0_1_13, py0_2_13, auy0_1⟩, b13⟩
    clear lbx0_0 lbx0_1 lbx0_2
    have B13 := below_step B12 b13
    have sz13 := b13.size
    have bx0_13 := bx0_12.below b13
    clear bx0_12
    have ps0_13 := ps0_12.below b13
    clear ps0_12
    have pg0_13 := pg0_12.below b13
    clear pg0_12
    go_wp2_with fail
    refine (implTagToMarkov_any f0_0 gy0_1 n0_1 n0_1 usy0_1 x0_1 gy0_2 n0_2 n0_2 x0_2 _ w0_0 (sl_of_own py0_1_13.is.own) py0_1_13.is.inn.srcs H0_1.out s0_1 (Nat.le_refl _) TH0_1.out auy0_1 (sl_of_own py0_2_13.is.own) H0_2.out s0_2 (Nat.le_refl _)).mono ?_
    rintro e w14 ⟨vh0, esh0, rfl, oh0, eh0, b14⟩
    have B14 := below_step B13 b14
    have sz14 := b14.size
    have bx0_14 := bx0_13.below b14
    clear bx0_13
    have ps0_14 := ps0_13.below b14
    clear ps0_13
    have pg0_14 := pg0_13.below b14
    clear pg0_13
    have py0_1_14 := py0_1_13.below b14
    clear py0_1_13
    have py0_2_14 := py0_2_13.below b14
    clear py0_2_13
    obtain ⟨Ah0, ch0, rfl⟩ := own_form oh0.own
    have Eh0 := Lib.hid eh0; clear eh0
    have ph0_14 := oh0.held (Nat.le_refl _)
    clear oh0
    clear py0_1_14
    clear py0_2_14
    go_wp2_with fail
    refine (eqMarkovRuleS_is _ _ _ _ _ _ _ _ _ _ ph0_14.is.argsN (rdsMarkovRule_of ph0_14.is) ps0_14.is.argsN (rdsMarkovRule_of ps0_14.is) Eh0.out Es0.out (by have h1 := congrArg List.length Eh0.out; rw [List.length_map] at h1; have := HL0.out; omega) (by have h1 := congrArg List.length Es0.out; rw [List.length_map] at h1; have := HL0.out; omega) (by have := HS0.out; omega)).mono ?_
    rintro e w15 ⟨rfl, b15⟩
    have B15 := below_step B14 b15
    have sz15 := b15.size
    have bx0_15 := bx0_14.below b15
    clear bx0_14
    have ps0_15 := ps0_14.below b15
    clear ps0_14
    have pg0_15 := pg0_14.below b15
    clear pg0_14
    have ph0_15 := ph0_14.below b15
    clear ph0_14
    go_wp2_with fail
    refine (heldMarkovRuleS_is _ _ _ _ _ _ _ pg0_15.is ((widSumMarkovRule_of Eg0.out).trans KR0.out) (by omega) (by omega) (by have h1 := congrArg List.length Eg0.out; rw [List.length_map] at h1; have := HL0.out; omega) (lensMarkovRule Eg0.out (by have := HS0.out; omega))).mono ?_
    rintro e w' ⟨rfl, rfl⟩
    go_wp2_with fail
    go_ret
    exact ⟨rfl, B15⟩
end Go.Proofs.Ytcfkjigapnknnaa
