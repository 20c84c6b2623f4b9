/- The walk of the law FnExactConfigOfWord: it returns true, whatever the arguments, and writes nothing that was there. -/
import Derived.Test.YtjakgeblmkdbpaaCfgTop
import Derived.Test.YtjakgeblmkdbpaaTwoConfig
import Derived.Test.YtjakgeblmkdbpaaOneMachine
import Derived.Test.YtjakgeblmkdbpaaHelpInt
import Derived.Test.YtjakgeblmkdbpaaBox
namespace Go.Proofs.Ytjakgeblmkdbpaa
open Go.RowKit
set_option linter.all false

set_option maxRecDepth 100000 in
set_option maxHeartbeats 8000000 in
theorem walkConfigOfWord (f0_0 : Int) (f0_1 : Int) (A0_2 : Option Addr) (n0_2 c0_2 : Nat) (x0_2 : List R3) (A1 : Option Addr) (n1 c1 : Nat) (x1 : List Int) (w : World) (w0_0 : Wf64 f0_0) (w0_1 : Wf64 f0_1) (h0_2 : Args 3 w A0_2 n0_2 (rows R3.vs x0_2)) (m0_2 : n0_2 ≤ maxLen) (w0_2 : ∀ x ∈ x0_2, x.wf) (h1 : Arg w A1 n1 (x1.map (Value.int .i64))) (m1 : n1 ≤ maxLen) (wq1 : Wf64s x1) :
    Calls Try.prog 5 #[.agg #[.int .i64 f0_0, .int .i64 f0_1, .slice A0_2 n0_2 c0_2], .slice A1 n1 c1] w fun e w' => e = .returned (.bool true) ∧ Below w.heap.size w w' := by
  unfold maxLen at m0_2
  unfold maxLen at m1
  obtain ⟨w0, HW0, B0, x0⟩ := al1 w (.cells #[.int .i64 f0_0, .int .i64 f0_1, .slice A0_2 n0_2 c0_2] 24)
  have bx0_0 := box_held x0
  have szx0 := heap_lt x0
  clear x0
  by_cases s1 : n1 ≤ 1048576
  rotate_left
  · go_enter Try.func5, Try.ntmps5
    go_wp2_with fail
    go_ret
    exact ⟨rfl, by rw [← HW0.out]; exact B0⟩
  have H1 : Hid (x1.length = n1) := by have := h1.1; rw [List.length_map] at this; exact this
  have H0_2 : Hid (x0_2.length = n0_2) := by have := h0_2.1; rw [rows_len R3.vs_len] at this; unfold Hid; omega
  by_cases z0 : (n0_2) ≤ 1048576
  rotate_left
  · go_enter Try.func5, Try.ntmps5
    have lbx0_0 : w0.cell? ⟨w.heap.size, 0, none⟩ = some (.int .i64 f0_0) := by rw [cell_of_heap bx0_0.is]; rfl
    have lbx0_1 : w0.cell? ⟨w.heap.size, 1, none⟩ = some (.int .i64 f0_1) := by rw [cell_of_heap bx0_0.is]; rfl
    have lbx0_2 : w0.cell? ⟨w.heap.size, 2, none⟩ = some (.slice A0_2 n0_2 c0_2) := by rw [cell_of_heap bx0_0.is]; rfl
    go_wp2_with fail
    rw [← HW0.out]
    refine (szMachineO_not f0_0 f0_1 A0_2 n0_2 c0_2 x0_2 1048576 _ (h0_2.below B0) (by omega) (by omega) (by omega)).mono ?_
    rintro e w1 ⟨rfl, b1⟩
    clear lbx0_0 lbx0_1 lbx0_2
    go_wp2_with fail
    go_ret
    exact ⟨rfl, below_step B0 b1⟩
  obtain ⟨r'0, R0⟩ : ∃ r' : Nat, Hid (r' + ((n0_2)) = 1048576) := ⟨1048576 - ((n0_2)), by unfold Hid; omega⟩
  have q0 : r'0 ≤ 1048576 := by have := R0.out; omega
  have s0_2 : n0_2 ≤ 1048576 := by omega
  have Z0 := Lib.hid z0; clear z0
  go_enter Try.func5, Try.ntmps5
  have lbx0_0 : w0.cell? ⟨w.heap.size, 0, none⟩ = some (.int .i64 f0_0) := by rw [cell_of_heap bx0_0.is]; rfl
  have lbx0_1 : w0.cell? ⟨w.heap.size, 1, none⟩ = some (.int .i64 f0_1) := by rw [cell_of_heap bx0_0.is]; rfl
  have lbx0_2 : w0.cell? ⟨w.heap.size, 2, none⟩ = some (.slice A0_2 n0_2 c0_2) := by rw [cell_of_heap bx0_0.is]; rfl
  go_wp2_with fail
  rw [← HW0.out]
  refine (szMachineO_is f0_0 f0_1 A0_2 n0_2 c0_2 x0_2 1048576 r'0 _ (h0_2.below B0) R0.out (by omega) (by omega)).mono ?_
  rintro e w1 ⟨rfl, b1⟩
  clear lbx0_0 lbx0_1 lbx0_2
  have B1 := below_step B0 b1
  have sz1 := b1.size
  have bx0_1 := bx0_0.below b1
  clear bx0_0
  have lbx0_0 : w1.cell? ⟨w.heap.size, 0, none⟩ = some (.int .i64 f0_0) := by rw [cell_of_heap bx0_1.is]; rfl
  have lbx0_1 : w1.cell? ⟨w.heap.size, 1, none⟩ = some (.int .i64 f0_1) := by rw [cell_of_heap bx0_1.is]; rfl
  have lbx0_2 : w1.cell? ⟨w.heap.size, 2, none⟩ = some (.slice A0_2 n0_2 c0_2) := by rw [cell_of_heap bx0_1.is]; rfl
  go_wp2_with fail
  refine (toMachineO_any f0_0 f0_1 A0_2 n0_2 c0_2 x0_2 _ (h0_2.below B1) s0_2).mono ?_
  rintro e w2 ⟨⟨ga0_2, ea0_2, rfl, loa0_2, gea0_2, lea0, pa0_2_2⟩, b2⟩
  clear lbx0_0 lbx0_1 lbx0_2
  have B2 := below_step B1 b2
  have sz2 := b2.size
  have bx0_2 := bx0_1.below b2
  clear bx0_1
  go_wp2_with fail
  refine (toInt64S_any A1 n1 c1 x1 _ (h1.below B2) s1).mono ?_
  rintro e w3 ⟨rfl, o3, b3⟩
  have B3 := below_step B2 b3
  have sz3 := b3.size
  have bx0_3 := bx0_2.below b3
  clear bx0_2
  have pa0_2_3 := pa0_2_2.below b3
  clear pa0_2_2
  have pa1_3 := flat_of_own o3
  clear o3
  go_wp2_with fail
  refine (specConfigOfWord_any f0_0 f0_1 ga0_2 n0_2 n0_2 x0_2 _ _ n1 n1 x1 _ w0_0 w0_1 (sl_of_own pa0_2_3.is.own) H0_2.out s0_2 (Nat.le_refl _) (sl_of_own pa1_3.is.own) H1.out s1 (Nat.le_refl _) wq1).mono ?_
  rintro e w4 ⟨hres, b4⟩
  obtain ⟨vs0_1, vs0_2, rfl, os0⟩ := Two.of_res hres
  clear hres
  have B4 := below_step B3 b4
  have sz4 := b4.size
  have bx0_4 := bx0_3.below b4
  clear bx0_3
  have pa0_2_4 := pa0_2_3.below b4
  clear pa0_2_3
  have pa1_4 := pa1_3.below b4
  clear pa1_3
  obtain ⟨As0_1, cs0_1, rfl⟩ := own_form os0.o1
  obtain ⟨As0_2, cs0_2, rfl⟩ := own_form os0.o2
  have ps0_4 := os0.held (Nat.le_refl _)
  clear os0
  clear pa0_2_4
  clear pa1_4
  have hl0_1 := bndConfigOfWord0_1 f0_0 f0_1 x0_2 x1 (by have := H0_2.out; omega) (by have := H1.out; omega)
  have hl0_2 := bndConfigOfWord0_2 f0_0 f0_1 x0_2 x1 (by have := H0_2.out; omega) (by have := H1.out; omega)
  obtain ⟨w5, HW5, b5, y5⟩ := al1 w4 (.cells #[.int .i64 (configOfWord f0_0 f0_1 x0_2 x1).1.f0, .slice As0_1 (configOfWord f0_0 f0_1 x0_2 x1).1.f1.length cs0_1, .slice As0_2 (configOfWord f0_0 f0_1 x0_2 x1).1.f2.length cs0_2] 36)
  have B5 := below_step B4 b5
  have sz5 := b5.size
  have bx0_5 := bx0_4.below b5
  clear bx0_4
  have ps0_5 := ps0_4.below b5
  clear ps0_4
  have ys0_5 := box_held y5
  have szy5 := heap_lt y5
  clear y5
  have lbx0_0 : (w4.alloc (.cells #[.int .i64 (configOfWord f0_0 f0_1 x0_2 x1).1.f0, .slice As0_1 (configOfWord f0_0 f0_1 x0_2 x1).1.f1.length cs0_1, .slice As0_2 (configOfWord f0_0 f0_1 x0_2 x1).1.f2.length cs0_2] 36)).cell? ⟨w.heap.size, 0, none⟩ = some (.int .i64 f0_0) := by rw [← HW5.out, cell_of_heap bx0_5.is]; rfl
  have lbx0_1 : (w4.alloc (.cells #[.int .i64 (configOfWord f0_0 f0_1 x0_2 x1).1.f0, .slice As0_1 (configOfWord f0_0 f0_1 x0_2 x1).1.f1.length cs0_1, .slice As0_2 (configOfWord f0_0 f0_1 x0_2 x1).1.f2.length cs0_2] 36)).cell? ⟨w.heap.size, 1, none⟩ = some (.int .i64 f0_1) := by rw [← HW5.out, cell_of_heap bx0_5.is]; rfl
  have lbx0_2 : (w4.alloc (.cells #[.int .i64 (configOfWord f0_0 f0_1 x0_2 x1).1.f0, .slice As0_1 (configOfWord f0_0 f0_1 x0_2 x1).1.f1.length cs0_1, .slice As0_2 (configOfWord f0_0 f0_1 x0_2 x1).1.f2.length cs0_2] 36)).cell? ⟨w.heap.size, 2, none⟩ = some (.slice A0_2 n0_2 c0_2) := by rw [← HW5.out, cell_of_heap bx0_5.is]; rfl
  go_wp2_with fail
  rw [← HW5.out]
  refine (toMachineO_any f0_0 f0_1 A0_2 n0_2 c0_2 x0_2 _ (h0_2.below B5) s0_2).mono ?_
  rintro e w6 ⟨⟨gx0_2, ex0_2, rfl, lox0_2, gex0_2, lex0, px0_2_6⟩, b6⟩
  clear lbx0_0 lbx0_1 lbx0_2
  have B6 := below_step B5 b6
  have sz6 := b6.size
  have bx0_6 := bx0_5.below b6
  clear bx0_5
  have ps0_6 := ps0_5.below b6
  clear ps0_5
  have ys0_6 := ys0_5.below b6
  clear ys0_5
  obtain ⟨w7, HW7, b7, y7⟩ := al1 w6 (.cells #[.int .i64 f0_0, .int .i64 f0_1, .slice (some ⟨gx0_2, 0, none⟩) n0_2 n0_2] 34)
  have B7 := below_step B6 b7
  have sz7 := b7.size
  have bx0_7 := bx0_6.below b7
  clear bx0_6
  have ps0_7 := ps0_6.below b7
  clear ps0_6
  have ys0_7 := ys0_6.below b7
  clear ys0_6
  have px0_2_7 := px0_2_6.below b7
  clear px0_2_6
  have z0_7 := box_held y7
  have szy7 := heap_lt y7
  clear y7
  go_wp2_with fail
  rw [← HW7.out]
  refine (toInt64S_any A1 n1 c1 x1 _ (h1.below B7) s1).mono ?_
  rintro e w8 ⟨rfl, o8, b8⟩
  have B8 := below_step B7 b8
  have sz8 := b8.size
  have bx0_8 := bx0_7.below b8
  clear bx0_7
  have ps0_8 := ps0_7.below b8
  clear ps0_7
  have ys0_8 := ys0_7.below b8
  clear ys0_7
  have px0_2_8 := px0_2_7.below b8
  clear px0_2_7
  have z0_8 := z0_7.below b8
  clear z0_7
  have px1_8 := flat_of_own o8
  clear o8
  have lz0_0 : w8.cell? ⟨w6.heap.size, 0, none⟩ = some (.int .i64 f0_0) := by rw [cell_of_heap z0_8.is]; rfl
  have lz0_1 : w8.cell? ⟨w6.heap.size, 1, none⟩ = some (.int .i64 f0_1) := by rw [cell_of_heap z0_8.is]; rfl
  have lz0_2 : w8.cell? ⟨w6.heap.size, 2, none⟩ = some (.slice (some ⟨gx0_2, 0, none⟩) n0_2 n0_2) := by rw [cell_of_heap z0_8.is]; rfl
  go_wp2_with fail
  refine (implConfigOfWord_any f0_0 f0_1 gx0_2 n0_2 n0_2 x0_2 _ _ n1 n1 x1 _ w0_0 w0_1 (sl_of_own px0_2_8.is.own) H0_2.out s0_2 (Nat.le_refl _) (sl_of_own px1_8.is.own) H1.out s1 (Nat.le_refl _) wq1).mono ?_
  rintro e w9 ⟨hres, b9⟩
  obtain ⟨vg0_1, vg0_2, rfl, og0⟩ := Two.of_res hres
  clear hres
  clear lz0_0 lz0_1 lz0_2
  have B9 := below_step B8 b9
  have sz9 := b9.size
  have bx0_9 := bx0_8.below b9
  clear bx0_8
  have ps0_9 := ps0_8.below b9
  clear ps0_8
  have ys0_9 := ys0_8.below b9
  clear ys0_8
  have px0_2_9 := px0_2_8.below b9
  clear px0_2_8
  have z0_9 := z0_8.below b9
  clear z0_8
  have px1_9 := px1_8.below b9
  clear px1_8
  obtain ⟨Ag0_1, cg0_1, rfl⟩ := own_form og0.o1
  obtain ⟨Ag0_2, cg0_2, rfl⟩ := own_form og0.o2
  have pg0_9 := og0.held (Nat.le_refl _)
  clear og0
  obtain ⟨w10, HW10, b10, y10⟩ := al1 w9 (.cells #[.int .i64 (configOfWord f0_0 f0_1 x0_2 x1).1.f0, .slice Ag0_1 (configOfWord f0_0 f0_1 x0_2 x1).1.f1.length cg0_1, .slice Ag0_2 (configOfWord f0_0 f0_1 x0_2 x1).1.f2.length cg0_2] 36)
  have B10 := below_step B9 b10
  have sz10 := b10.size
  have bx0_10 := bx0_9.below b10
  clear bx0_9
  have ps0_10 := ps0_9.below b10
  clear ps0_9
  have ys0_10 := ys0_9.below b10
  clear ys0_9
  have px0_2_10 := px0_2_9.below b10
  clear px0_2_9
  have z0_10 := z0_9.below b10
  clear z0_9
  have px1_10 := px1_9.below b10
  clear px1_9
  have pg0_10 := pg0_9.below b10
  clear pg0_9
  have yg0_10 := box_held y10
  have szy10 := heap_lt y10
  clear y10
  have lyg0_0 : (w9.alloc (.cells #[.int .i64 (configOfWord f0_0 f0_1 x0_2 x1).1.f0, .slice Ag0_1 (configOfWord f0_0 f0_1 x0_2 x1).1.f1.length cg0_1, .slice Ag0_2 (configOfWord f0_0 f0_1 x0_2 x1).1.f2.length cg0_2] 36)).cell? ⟨w9.heap.size, 0, none⟩ = some (.int .i64 (configOfWord f0_0 f0_1 x0_2 x1).1.f0) := by rw [← HW10.out, cell_of_heap yg0_10.is]; rfl
  have lyg0_1 : (w9.alloc (.cells #[.int .i64 (configOfWord f0_0 f0_1 x0_2 x1).1.f0, .slice Ag0_1 (configOfWord f0_0 f0_1 x0_2 x1).1.f1.length cg0_1, .slice Ag0_2 (configOfWord f0_0 f0_1 x0_2 x1).1.f2.length cg0_2] 36)).cell? ⟨w9.heap.size, 1, none⟩ = some (.slice Ag0_1 (configOfWord f0_0 f0_1 x0_2 x1).1.f1.length cg0_1) := by rw [← HW10.out, cell_of_heap yg0_10.is]; rfl
  have lyg0_2 : (w9.alloc (.cells #[.int .i64 (configOfWord f0_0 f0_1 x0_2 x1).1.f0, .slice Ag0_1 (configOfWord f0_0 f0_1 x0_2 x1).1.f1.length cg0_1, .slice Ag0_2 (configOfWord f0_0 f0_1 x0_2 x1).1.f2.length cg0_2] 36)).cell? ⟨w9.heap.size, 2, none⟩ = some (.slice Ag0_2 (configOfWord f0_0 f0_1 x0_2 x1).1.f2.length cg0_2) := by rw [← HW10.out, cell_of_heap yg0_10.is]; rfl
  have lys0_0 : (w9.alloc (.cells #[.int .i64 (configOfWord f0_0 f0_1 x0_2 x1).1.f0, .slice Ag0_1 (configOfWord f0_0 f0_1 x0_2 x1).1.f1.length cg0_1, .slice Ag0_2 (configOfWord f0_0 f0_1 x0_2 x1).1.f2.length cg0_2] 36)).cell? ⟨w4.heap.size, 0, none⟩ = some (.int .i64 (configOfWord f0_0 f0_1 x0_2 x1).1.f0) := by rw [← HW10.out, cell_of_heap ys0_10.is]; rfl
  have lys0_1 : (w9.alloc (.cells #[.int .i64 (configOfWord f0_0 f0_1 x0_2 x1).1.f0, .slice Ag0_1 (configOfWord f0_0 f0_1 x0_2 x1).1.f1.length cg0_1, .slice Ag0_2 (configOfWord f0_0 f0_1 x0_2 x1).1.f2.length cg0_2] 36)).cell? ⟨w4.heap.size, 1, none⟩ = some (.slice As0_1 (configOfWord f0_0 f0_1 x0_2 x1).1.f1.length cs0_1) := by rw [← HW10.out, cell_of_heap ys0_10.is]; rfl
  have lys0_2 : (w9.alloc (.cells #[.int .i64 (configOfWord f0_0 f0_1 x0_2 x1).1.f0, .slice Ag0_1 (configOfWord f0_0 f0_1 x0_2 x1).1.f1.length cg0_1, .slice Ag0_2 (configOfWord f0_0 f0_1 x0_2 x1).1.f2.length cg0_2] 36)).cell? ⟨w4.heap.size, 2, none⟩ = some (.slice As0_2 (configOfWord f0_0 f0_1 x0_2 x1).1.f2.length cs0_2) := by rw [← HW10.out, cell_of_heap ys0_10.is]; rfl
  go_wp2_with fail
  rw [← HW10.out]
  refine (eqConfigO_same (configOfWord f0_0 f0_1 x0_2 x1).1.f0 _ _ _ _ _ (configOfWord f0_0 f0_1 x0_2 x1).1.f1 _ _ _ _ _ (configOfWord f0_0 f0_1 x0_2 x1).1.f2 _ (arg_of_own pg0_10.is.o1) (arg_of_own ps0_10.is.o1) (arg_of_own pg0_10.is.o2) (arg_of_own ps0_10.is.o2) (by omega) (by omega)).mono ?_
  rintro e w11 ⟨rfl, b11⟩
  clear lyg0_0 lyg0_1 lyg0_2 lys0_0 lys0_1 lys0_2
  have B11 := below_step B10 b11
  have sz11 := b11.size
  have bx0_11 := bx0_10.below b11
  clear bx0_10
  have ps0_11 := ps0_10.below b11
  clear ps0_10
  have ys0_11 := ys0_10.below b11
  clear ys0_10
  have px0_2_11 := px0_2_10.below b11
  clear px0_2_10
  have z0_11 := z0_10.below b11
  clear z0_10
  have px1_11 := px1_10.below b11
  clear px1_10
  have pg0_11 := pg0_10.below b11
  clear pg0_10
  have yg0_11 := yg0_10.below b11
  clear yg0_10
  have lz0_0 : w11.cell? ⟨w6.heap.size, 0, none⟩ = some (.int .i64 f0_0) := by rw [cell_of_heap z0_11.is]; rfl
  have lz0_1 : w11.cell? ⟨w6.heap.size, 1, none⟩ = some (.int .i64 f0_1) := by rw [cell_of_heap z0_11.is]; rfl
  have lz0_2 : w11.cell? ⟨w6.heap.size, 2, none⟩ = some (.slice (some ⟨gx0_2, 0, none⟩) n0_2 n0_2) := by rw [cell_of_heap z0_11.is]; rfl
  have lbx0_0 : w11.cell? ⟨w.heap.size, 0, none⟩ = some (.int .i64 f0_0) := by rw [cell_of_heap bx0_11.is]; rfl
  have lbx0_1 : w11.cell? ⟨w.heap.size, 1, none⟩ = some (.int .i64 f0_1) := by rw [cell_of_heap bx0_11.is]; rfl
  have lbx0_2 : w11.cell? ⟨w.heap.size, 2, none⟩ = some (.slice A0_2 n0_2 c0_2) := by rw [cell_of_heap bx0_11.is]; rfl
  go_wp2_with fail
  go_region_held3 (fun W => W.cell? ⟨w6.heap.size, 0, none⟩ = some (.int .i64 f0_0) ∧ W.cell? ⟨w6.heap.size, 1, none⟩ = some (.int .i64 f0_1) ∧ W.cell? ⟨w6.heap.size, 2, none⟩ = some (.slice (some ⟨gx0_2, 0, none⟩) n0_2 n0_2) ∧ W.cell? ⟨w.heap.size, 0, none⟩ = some (.int .i64 f0_0) ∧ W.cell? ⟨w.heap.size, 1, none⟩ = some (.int .i64 f0_1) ∧ W.cell? ⟨w.heap.size, 2, none⟩ = some (.slice A0_2 n0_2 c0_2)) (first | go_keep | exact ⟨r12_0, r12_1, r12_2, r12_3, r12_4, r12_5⟩ | exact ⟨s12_0, s12_1, s12_2, s12_3, s12_4, s12_5⟩)
    ((first
      | (go_at_call 10; refine (toMachineO_any f0_0 f0_1 A0_2 n0_2 c0_2 x0_2 _ (h0_2.below (B11.drew)) s0_2).mono ?_; rintro e w12 ⟨⟨gt0_2, et0_2, rfl, lot0_2, get0_2, let0, pt0_2_12⟩, b12'⟩; have b12 := below_drew_at b12'; have r12_0 := cell_step (by exact lz0_0) b12; have r12_1 := cell_step (by exact lz0_1) b12; have r12_2 := cell_step (by exact lz0_2) b12; have r12_3 := cell_step (by exact lbx0_0) b12; have r12_4 := cell_step (by exact lbx0_1) b12; have r12_5 := cell_step (by exact lbx0_2) b12)
      | (go_at_call 13; refine (eqMachineO_same f0_0 f0_1 _ _ n0_2 _ _ x0_2 _ (args_of_own ((px0_2_11.below b12).is.own)) (args_of_own pt0_2_12.is.own) (by omega)).mono ?_; rintro e w13 ⟨rfl, b13⟩; have s12_0 := cell_step (by exact r12_0) b13; have s12_1 := cell_step (by exact r12_1) b13; have s12_2 := cell_step (by exact r12_2) b13; have s12_3 := cell_step (by exact r12_3) b13; have s12_4 := cell_step (by exact r12_4) b13; have s12_5 := cell_step (by exact r12_5) b13)))
  all_goals
    have b9 := below_step b12 b13
    clear r12_0 r12_1 r12_2 r12_3 r12_4 r12_5 s12_0 s12_1 s12_2 s12_3 s12_4 s12_5 pt0_2_12 b12' lz0_0 lz0_1 lz0_2 lbx0_0 lbx0_1 lbx0_2 lot0_2 get0_2 let0
    have B13 := below_step B11 b9
    have sz13 := b9.size
    have bx0_13 := bx0_11.below b9
    clear bx0_11
    have ps0_13 := ps0_11.below b9
    clear ps0_11
    have ys0_13 := ys0_11.below b9
    clear ys0_11
    have px0_2_13 := px0_2_11.below b9
    clear px0_2_11
    have z0_13 := z0_11.below b9
    clear z0_11
    have px1_13 := px1_11.below b9
    clear px1_11
    have pg0_13 := pg0_11.below b9
    clear pg0_11
    have yg0_13 := yg0_11.below b9
    clear yg0_11
    clear b9
    go_wp2_with fail
    refine (toInt64S_any A1 n1 c1 x1 _ (h1.below B13) s1).mono ?_
    rintro e w14 ⟨rfl, o14, b14⟩
    have B14 := below_step B13 b14
    have sz14 := b14.size
    have bx0_14 := bx0_13.below b14
    clear bx0_13
    have ps0_14 := ps0_13.below b14
    clear ps0_13
    have ys0_14 := ys0_13.below b14
    clear ys0_13
    have px0_2_14 := px0_2_13.below b14
    clear px0_2_13
    have z0_14 := z0_13.below b14
    clear z0_13
    have px1_14 := px1_13.below b14
    clear px1_13
    have pg0_14 := pg0_13.below b14
    clear pg0_13
    have yg0_14 := yg0_13.below b14
    clear yg0_13
    have pt1_14 := flat_of_own o14
    clear o14
    go_wp2_with fail
    refine (eqInt64S_any _ _ _ _ _ _ _ _ _ (arg_of_own px1_14.is.own) (arg_of_own pt1_14.is.own) (by omega) (by omega)).mono ?_
    rintro e w15 ⟨rfl, q15, hq⟩
    have b15 := quiet_below hq
    clear hq q15
    have B15 := below_step B14 b15
    have sz15 := b15.size
    have bx0_15 := bx0_14.below b15
    clear bx0_14
    have ps0_15 := ps0_14.below b15
    clear ps0_14
    have ys0_15 := ys0_14.below b15
    clear ys0_14
    have px0_2_15 := px0_2_14.below b15
    clear px0_2_14
    have z0_15 := z0_14.below b15
    clear z0_14
    have px1_15 := px1_14.below b15
    clear px1_14
    have pg0_15 := pg0_14.below b15
    clear pg0_14
    have yg0_15 := yg0_14.below b15
    clear yg0_14
    have pt1_15 := pt1_14.below b15
    clear pt1_14
    clear pt1_15
    have lz0_0 : w15.cell? ⟨w6.heap.size, 0, none⟩ = some (.int .i64 f0_0) := by rw [cell_of_heap z0_15.is]; rfl
    have lz0_1 : w15.cell? ⟨w6.heap.size, 1, none⟩ = some (.int .i64 f0_1) := by rw [cell_of_heap z0_15.is]; rfl
    have lz0_2 : w15.cell? ⟨w6.heap.size, 2, none⟩ = some (.slice (some ⟨gx0_2, 0, none⟩) n0_2 n0_2) := by rw [cell_of_heap z0_15.is]; rfl
    go_wp2_with fail
    refine (markMachineO_any f0_0 f0_1 gx0_2 ex0_2 n0_2 n0_2 _  _ _ px0_2_15  gex0_2  (by omega) (by omega) (by omega)).mono ?_
    rintro e w16 ⟨rfl, px0_2_16, tt16⟩
    clear px0_2_15
    clear lz0_0 lz0_1 lz0_2
    have B16 := below_touch B15 tt16 (by have := B0.size;  omega)
    have sz16 := tt16.size
    have bx0_16 := bx0_15.far tt16 (.inl (by have := B0.size;  omega))
    clear bx0_15
    have ps0_16 := ps0_15.far tt16 (.inl (by have := B0.size;  omega))
    clear ps0_15
    have ys0_16 := ys0_15.far tt16 (.inl (by have := B0.size;  omega))
    clear ys0_15
    have z0_16 := z0_15.far tt16 (.inr (by have := B0.size;  omega))
    clear z0_15
    have px1_16 := px1_15.far tt16 (.inr (by have := B0.size;  omega))
    clear px1_15
    have pg0_16 := pg0_15.far tt16 (.inr (by have := B0.size;  omega))
    clear pg0_15
    have yg0_16 := yg0_15.far tt16 (.inr (by have := B0.size;  omega))
    clear yg0_15
    go_wp2_with fail
    refine (markInt64S_any _ _ _ _ _ _ px1_16.is.own (by omega) (by omega) (by omega)).mono ?_
    rintro e w17 ⟨rfl, o17, g17⟩
    obtain ⟨px1_17, tt17⟩ := Flat.turn px1_16 o17 g17
    clear o17 g17 px1_16
    have B17 := below_touch B16 tt17 (by have := B0.size;  omega)
    have sz17 := tt17.size
    have bx0_17 := bx0_16.far tt17 (.inl (by have := B0.size;  omega))
    clear bx0_16
    have ps0_17 := ps0_16.far tt17 (.inl (by have := B0.size;  omega))
    clear ps0_16
    have ys0_17 := ys0_16.far tt17 (.inl (by have := B0.size;  omega))
    clear ys0_16
    have px0_2_17 := px0_2_16.far tt17 (.inl (by have := B0.size;  omega))
    clear px0_2_16
    have z0_17 := z0_16.far tt17 (.inl (by have := B0.size;  omega))
    clear z0_16
    have pg0_17 := pg0_16.far tt17 (.inr (by have := B0.size;  omega))
    clear pg0_16
    have yg0_17 := yg0_16.far tt17 (.inr (by have := B0.size;  omega))
    clear yg0_16
    clear px0_2_17
    clear z0_17
    clear px1_17
    have lyg0_0 : w17.cell? ⟨w9.heap.size, 0, none⟩ = some (.int .i64 (configOfWord f0_0 f0_1 x0_2 x1).1.f0) := by rw [cell_of_heap yg0_17.is]; rfl
    have lyg0_1 : w17.cell? ⟨w9.heap.size, 1, none⟩ = some (.slice Ag0_1 (configOfWord f0_0 f0_1 x0_2 x1).1.f1.length cg0_1) := by rw [cell_of_heap yg0_17.is]; rfl
    have lyg0_2 : w17.cell? ⟨w9.heap.size, 2, none⟩ = some (.slice Ag0_2 (configOfWord f0_0 f0_1 x0_2 x1).1.f2.length cg0_2) := by rw [cell_of_heap yg0_17.is]; rfl
    have lys0_0 : w17.cell? ⟨w4.heap.size, 0, none⟩ = some (.int .i64 (configOfWord f0_0 f0_1 x0_2 x1).1.f0) := by rw [cell_of_heap ys0_17.is]; rfl
    have lys0_1 : w17.cell? ⟨w4.heap.size, 1, none⟩ = some (.slice As0_1 (configOfWord f0_0 f0_1 x0_2 x1).1.f1.length cs0_1) := by rw [cell_of_heap ys0_17.is]; rfl
    have lys0_2 : w17.cell? ⟨w4.heap.size, 2, none⟩ = some (.slice As0_2 (configOfWord f0_0 f0_1 x0_2 x1).1.f2.length cs0_2) := by rw [cell_of_heap ys0_17.is]; rfl
    go_wp2_with fail
    refine (eqConfigO_same (configOfWord f0_0 f0_1 x0_2 x1).1.f0 _ _ _ _ _ (configOfWord f0_0 f0_1 x0_2 x1).1.f1 _ _ _ _ _ (configOfWord f0_0 f0_1 x0_2 x1).1.f2 _ (arg_of_own pg0_17.is.o1) (arg_of_own ps0_17.is.o1) (arg_of_own pg0_17.is.o2) (arg_of_own ps0_17.is.o2) (by omega) (by omega)).mono ?_
    rintro e w18 ⟨rfl, b18⟩
    clear lyg0_0 lyg0_1 lyg0_2 lys0_0 lys0_1 lys0_2
    have B18 := below_step B17 b18
    have sz18 := b18.size
    have bx0_18 := bx0_17.below b18
    clear bx0_17
    have ps0_18 := ps0_17.below b18
    clear ps0_17
    have ys0_18 := ys0_17.below b18
    clear ys0_17
    have pg0_18 := pg0_17.below b18
    clear pg0_17
    have yg0_18 := yg0_17.below b18
    clear yg0_17
    have lyg0_0 : w18.cell? ⟨w9.heap.size, 0, none⟩ = some (.int .i64 (configOfWord f0_0 f0_1 x0_2 x1).1.f0) := by rw [cell_of_heap yg0_18.is]; rfl
    have lyg0_1 : w18.cell? ⟨w9.heap.size, 1, none⟩ = some (.slice Ag0_1 (configOfWord f0_0 f0_1 x0_2 x1).1.f1.length cg0_1) := by rw [cell_of_heap yg0_18.is]; rfl
    have lyg0_2 : w18.cell? ⟨w9.heap.size, 2, none⟩ = some (.slice Ag0_2 (configOfWord f0_0 f0_1 x0_2 x1).1.f2.length cg0_2) := by rw [cell_of_heap yg0_18.is]; rfl
    go_wp2_with fail
    refine (markConfigT_any (configOfWord f0_0 f0_1 x0_2 x1).1.f0 _ _ _ _ _ _ _ _ _ _ _ _ pg0_18 (by omega) (by omega) (by omega) (by omega) (by omega)).mono ?_
    rintro e w19 ⟨rfl, pg0_19, tt19⟩
    clear pg0_18
    clear lyg0_0 lyg0_1 lyg0_2
    have B19 := below_touch B18 tt19 (by have := B0.size;  omega)
    have sz19 := tt19.size
    have bx0_19 := bx0_18.far tt19 (.inl (by have := B0.size;  omega))
    clear bx0_18
    have ps0_19 := ps0_18.far tt19 (.inl (by have := B0.size;  omega))
    clear ps0_18
    have ys0_19 := ys0_18.far tt19 (.inl (by have := B0.size;  omega))
    clear ys0_18
    have yg0_19 := yg0_18.far tt19 (.inr (by have := B0.size;  omega))
    clear yg0_18
    have lyg0_0 : w19.cell? ⟨w9.heap.size, 0, none⟩ = some (.int .i64 (configOfWord f0_0 f0_1 x0_2 x1).1.f0) := by rw [cell_of_heap yg0_19.is]; rfl
    have lyg0_1 : w19.cell? ⟨w9.heap.size, 1, none⟩ = some (.slice Ag0_1 (configOfWord f0_0 f0_1 x0_2 x1).1.f1.length cg0_1) := by rw [cell_of_heap yg0_19.is]; rfl
    have lyg0_2 : w19.cell? ⟨w9.heap.size, 2, none⟩ = some (.slice Ag0_2 (configOfWord f0_0 f0_1 x0_2 x1).1.f2.length cg0_2) := by rw [cell_of_heap yg0_19.is]; rfl
    go_wp2_with fail
    refine (heldConfigO_any (configOfWord f0_0 f0_1 x0_2 x1).1.f0 _ _ _ _ _ _ _ _ (arg_of_own pg0_19.is.o1) (arg_of_own pg0_19.is.o2) (by omega) (by omega) (by omega) (by omega)).mono ?_
    rintro e w20 ⟨rfl, b20⟩
    clear lyg0_0 lyg0_1 lyg0_2
    have B20 := below_step B19 b20
    have sz20 := b20.size
    have bx0_20 := bx0_19.below b20
    clear bx0_19
    have ps0_20 := ps0_19.below b20
    clear ps0_19
    have ys0_20 := ys0_19.below b20
    clear ys0_19
    have pg0_20 := pg0_19.below b20
    clear pg0_19
    have yg0_20 := yg0_19.below b20
    clear yg0_19
    have lbx0_0 : w20.cell? ⟨w.heap.size, 0, none⟩ = some (.int .i64 f0_0) := by rw [cell_of_heap bx0_20.is]; rfl
    have lbx0_1 : w20.cell? ⟨w.heap.size, 1, none⟩ = some (.int .i64 f0_1) := by rw [cell_of_heap bx0_20.is]; rfl
    have lbx0_2 : w20.cell? ⟨w.heap.size, 2, none⟩ = some (.slice A0_2 n0_2 c0_2) := by rw [cell_of_heap bx0_20.is]; rfl
    go_wp2_with fail
    refine (toMachineO_any f0_0 f0_1 A0_2 n0_2 c0_2 x0_2 _ (h0_2.below B20) s0_2).mono ?_
    rintro e w21 ⟨⟨gy0_2, ey0_2, rfl, loy0_2, gey0_2, ley0, py0_2_21⟩, b21⟩
    clear lbx0_0 lbx0_1 lbx0_2
    have B21 := below_step B20 b21
    have sz21 := b21.size
    have bx0_21 := bx0_20.below b21
    clear bx0_20
    have ps0_21 := ps0_20.below b21
    clear ps0_20
    have ys0_21 := ys0_20.below b21
    clear ys0_20
    have pg0_21 := pg0_20.below b21
    clear pg0_20
    have yg0_21 := yg0_20.below b21
    clear yg0_20
    go_wp2_with fail
    refine (toInt64S_any A1 n1 c1 x1 _ (h1.below B21) s1).mono ?_
    rintro e w22 ⟨rfl, o22, b22⟩
    have B22 := below_step B21 b22
    have sz22 := b22.size
    have bx0_22 := bx0_21.below b22
    clear bx0_21
    have ps0_22 := ps0_21.below b22
    clear ps0_21
    have ys0_22 := ys0_21.below b22
    clear ys0_21
    have pg0_22 := pg0_21.below b22
    clear pg0_21
    have yg0_22 := yg0_21.below b22
    clear yg0_21
    have py0_2_22 := py0_2_21.below b22
    clear py0_2_21
    have py1_22 := flat_of_own o22
    clear o22
    go_wp2_with fail
    refine (implConfigOfWord_any f0_0 f0_1 gy0_2 n0_2 n0_2 x0_2 _ _ n1 n1 x1 _ w0_0 w0_1 (sl_of_own py0_2_22.is.own) H0_2.out s0_2 (Nat.le_refl _) (sl_of_own py1_22.is.own) H1.out s1 (Nat.le_refl _) wq1).mono ?_
    rintro e w23 ⟨hres, b23⟩
    obtain ⟨vh0_1, vh0_2, rfl, oh0⟩ := Two.of_res hres
    clear hres
    have B23 := below_step B22 b23
    have sz23 := b23.size
    have bx0_23 := bx0_22.below b23
    clear bx0_22
    have ps0_23 := ps0_22.below b23
    clear ps0_22
    have ys0_23 := ys0_22.below b23
    clear ys0_22
    have pg0_23 := pg0_22.below b23
    clear pg0_22
    have yg0_23 := yg0_22.below b23
    clear yg0_22
    have py0_2_23 := py0_2_22.below b23
    clear py0_2_22
    have py1_23 := py1_22.below b23
    clear py1_22
    obtain ⟨Ah0_1, ch0_1, rfl⟩ := own_form oh0.o1
    obtain ⟨Ah0_2, ch0_2, rfl⟩ := own_form oh0.o2
    have ph0_23 := oh0.held (Nat.le_refl _)
    clear oh0
    clear py0_2_23
    clear py1_23
    obtain ⟨w24, HW24, b24, y24⟩ := al1 w23 (.cells #[.int .i64 (configOfWord f0_0 f0_1 x0_2 x1).1.f0, .slice Ah0_1 (configOfWord f0_0 f0_1 x0_2 x1).1.f1.length ch0_1, .slice Ah0_2 (configOfWord f0_0 f0_1 x0_2 x1).1.f2.length ch0_2] 36)
    have B24 := below_step B23 b24
    have sz24 := b24.size
    have bx0_24 := bx0_23.below b24
    clear bx0_23
    have ps0_24 := ps0_23.below b24
    clear ps0_23
    have ys0_24 := ys0_23.below b24
    clear ys0_23
    have pg0_24 := pg0_23.below b24
    clear pg0_23
    have yg0_24 := yg0_23.below b24
    clear yg0_23
    have ph0_24 := ph0_23.below b24
    clear ph0_23
    have yh0_24 := box_held y24
    have szy24 := heap_lt y24
    clear y24
    have lyh0_0 : (w23.alloc (.cells #[.int .i64 (configOfWord f0_0 f0_1 x0_2 x1).1.f0, .slice Ah0_1 (configOfWord f0_0 f0_1 x0_2 x1).1.f1.length ch0_1, .slice Ah0_2 (configOfWord f0_0 f0_1 x0_2 x1).1.f2.length ch0_2] 36)).cell? ⟨w23.heap.size, 0, none⟩ = some (.int .i64 (configOfWord f0_0 f0_1 x0_2 x1).1.f0) := by rw [← HW24.out, cell_of_heap yh0_24.is]; rfl
    have lyh0_1 : (w23.alloc (.cells #[.int .i64 (configOfWord f0_0 f0_1 x0_2 x1).1.f0, .slice Ah0_1 (configOfWord f0_0 f0_1 x0_2 x1).1.f1.length ch0_1, .slice Ah0_2 (configOfWord f0_0 f0_1 x0_2 x1).1.f2.length ch0_2] 36)).cell? ⟨w23.heap.size, 1, none⟩ = some (.slice Ah0_1 (configOfWord f0_0 f0_1 x0_2 x1).1.f1.length ch0_1) := by rw [← HW24.out, cell_of_heap yh0_24.is]; rfl
    have lyh0_2 : (w23.alloc (.cells #[.int .i64 (configOfWord f0_0 f0_1 x0_2 x1).1.f0, .slice Ah0_1 (configOfWord f0_0 f0_1 x0_2 x1).1.f1.length ch0_1, .slice Ah0_2 (configOfWord f0_0 f0_1 x0_2 x1).1.f2.length ch0_2] 36)).cell? ⟨w23.heap.size, 2, none⟩ = some (.slice Ah0_2 (configOfWord f0_0 f0_1 x0_2 x1).1.f2.length ch0_2) := by rw [← HW24.out, cell_of_heap yh0_24.is]; rfl
    have lys0_0 : (w23.alloc (.cells #[.int .i64 (configOfWord f0_0 f0_1 x0_2 x1).1.f0, .slice Ah0_1 (configOfWord f0_0 f0_1 x0_2 x1).1.f1.length ch0_1, .slice Ah0_2 (configOfWord f0_0 f0_1 x0_2 x1).1.f2.length ch0_2] 36)).cell? ⟨w4.heap.size, 0, none⟩ = some (.int .i64 (configOfWord f0_0 f0_1 x0_2 x1).1.f0) := by rw [← HW24.out, cell_of_heap ys0_24.is]; rfl
    have lys0_1 : (w23.alloc (.cells #[.int .i64 (configOfWord f0_0 f0_1 x0_2 x1).1.f0, .slice Ah0_1 (configOfWord f0_0 f0_1 x0_2 x1).1.f1.length ch0_1, .slice Ah0_2 (configOfWord f0_0 f0_1 x0_2 x1).1.f2.length ch0_2] 36)).cell? ⟨w4.heap.size, 1, none⟩ = some (.slice As0_1 (configOfWord f0_0 f0_1 x0_2 x1).1.f1.length cs0_1) := by rw [← HW24.out, cell_of_heap ys0_24.is]; rfl
    have lys0_2 : (w23.alloc (.cells #[.int .i64 (configOfWord f0_0 f0_1 x0_2 x1).1.f0, .slice Ah0_1 (configOfWord f0_0 f0_1 x0_2 x1).1.f1.length ch0_1, .slice Ah0_2 (configOfWord f0_0 f0_1 x0_2 x1).1.f2.length ch0_2] 36)).cell? ⟨w4.heap.size, 2, none⟩ = some (.slice As0_2 (configOfWord f0_0 f0_1 x0_2 x1).1.f2.length cs0_2) := by rw [← HW24.out, cell_of_heap ys0_24.is]; rfl
    go_wp2_with fail
    rw [← HW24.out]
    refine (eqConfigO_same (configOfWord f0_0 f0_1 x0_2 x1).1.f0 _ _ _ _ _ (configOfWord f0_0 f0_1 x0_2 x1).1.f1 _ _ _ _ _ (configOfWord f0_0 f0_1 x0_2 x1).1.f2 _ (arg_of_own ph0_24.is.o1) (arg_of_own ps0_24.is.o1) (arg_of_own ph0_24.is.o2) (arg_of_own ps0_24.is.o2) (by omega) (by omega)).mono ?_
    rintro e w25 ⟨rfl, b25⟩
    clear lyh0_0 lyh0_1 lyh0_2 lys0_0 lys0_1 lys0_2
    have B25 := below_step B24 b25
    have sz25 := b25.size
    have bx0_25 := bx0_24.below b25
    clear bx0_24
    have ps0_25 := ps0_24.below b25
    clear ps0_24
    have ys0_25 := ys0_24.below b25
    clear ys0_24
    have pg0_25 := pg0_24.below b25
    clear pg0_24
    have yg0_25 := yg0_24.below b25
    clear yg0_24
    have ph0_25 := ph0_24.below b25
    clear ph0_24
    have yh0_25 := yh0_24.below b25
    clear yh0_24
    have lyg0_0 : w25.cell? ⟨w9.heap.size, 0, none⟩ = some (.int .i64 (configOfWord f0_0 f0_1 x0_2 x1).1.f0) := by rw [cell_of_heap yg0_25.is]; rfl
    have lyg0_1 : w25.cell? ⟨w9.heap.size, 1, none⟩ = some (.slice Ag0_1 (configOfWord f0_0 f0_1 x0_2 x1).1.f1.length cg0_1) := by rw [cell_of_heap yg0_25.is]; rfl
    have lyg0_2 : w25.cell? ⟨w9.heap.size, 2, none⟩ = some (.slice Ag0_2 (configOfWord f0_0 f0_1 x0_2 x1).1.f2.length cg0_2) := by rw [cell_of_heap yg0_25.is]; rfl
    go_wp2_with fail
    refine (heldConfigO_any (configOfWord f0_0 f0_1 x0_2 x1).1.f0 _ _ _ _ _ _ _ _ (arg_of_own pg0_25.is.o1) (arg_of_own pg0_25.is.o2) (by omega) (by omega) (by omega) (by omega)).mono ?_
    rintro e w26 ⟨rfl, b26⟩
    clear lyg0_0 lyg0_1 lyg0_2
    have B26 := below_step B25 b26
    have sz26 := b26.size
    have bx0_26 := bx0_25.below b26
    clear bx0_25
    have ps0_26 := ps0_25.below b26
    clear ps0_25
    have ys0_26 := ys0_25.below b26
    clear ys0_25
    have pg0_26 := pg0_25.below b26
    clear pg0_25
    have yg0_26 := yg0_25.below b26
    clear yg0_25
    have ph0_26 := ph0_25.below b26
    clear ph0_25
    have yh0_26 := yh0_25.below b26
    clear yh0_25
    go_wp2_with fail
    go_ret
    exact ⟨rfl, B26⟩
end Go.Proofs.Ytjakgeblmkdbpaa
