/- One node of a recursive function: validNode and the reference's l11Many, l11Node. -/
import Derived.Test.YtfmfpknigafnoaaFuncPlain
import Derived.Test.YtfmfpknigafnoaaHelpFunc
import Derived.Test.YtfmfpknigafnoaaSeq
namespace Go.Proofs.Ytfmfpknigafnoaa
open Go.RowKit
set_option linter.all false

/-- Three cells that hold a record. -/
def At3 (w : World) (b o : Nat) (x : R3) : Prop := w.cell? ⟨b, o, none⟩ = some (.int .i64 x.a) ∧ w.cell? ⟨b, o + 1, none⟩ = some (.int .i64 x.b) ∧ w.cell? ⟨b, o + 2, none⟩ = some (.int .i64 x.c)
theorem At3.of {w : World} {b off : Nat} {xs : List R3} (h : Sl w b off (rows R3.vs xs)) {k : Nat} {x : R3} (hx : xs[k]? = some x) : At3 w b (off + k * 3) x := h.rec3 hx

set_option maxRecDepth 100000 in
theorem validNode0 (b c : Int) (v : Bool) (h : fOkN ⟨0, b, c⟩ = v) (w : World) : Calls Try.prog 212 #[.agg #[.int .i64 0, .int .i64 b, .int .i64 c]] w fun e w' => e = .returned (.bool v) ∧ Below w.heap.size w w' := by
  have h0 : Below w.heap.size w (w.alloc (.cells #[.int .i64 0, .int .i64 b, .int .i64 c] 115)) := laid_below _ _
  rw [fOkN_0 rfl] at h
  simp only at h
  rcases Bool.eq_false_or_eq_true (inB b 0 4) with h1 | h1
  rotate_left
  · have H0 := Lib.hid h1
    have HV : Hid (false = v) := by unfold Hid; rw [← h, h1]; first | rfl | simp
    clear h h1
    go_enter Try.func212, Try.ntmps212
    go_wp2_with fail
    refine (within_is _ _ _ false H0.out _).mono ?_
    rintro e w1 ⟨rfl, rfl⟩
    go_wp2
    go_ret
    exact ⟨ret_bool HV.out, h0⟩
  have H0 := Lib.hid h1
  rw [h1] at h
  clear h1
  by_cases g1 : c = 0
  rotate_left
  · have e1 : (c == 0) = false := by simpa using g1
    have HV : Hid (false = v) := by unfold Hid; rw [← h]; simp [g1]
    clear h g1
    go_enter Try.func212, Try.ntmps212
    go_wp2_with fail
    refine (within_is _ _ _ true H0.out _).mono ?_
    rintro e w1 ⟨rfl, rfl⟩
    go_wp2
    go_ret
    exact ⟨ret_bool HV.out, h0⟩
  subst g1
  have H1 : Hid (True) := trivial
  have HV : Hid (true = v) := by unfold Hid; rw [← h]; first | rfl | simp [H0.out, H1.out] | simp
  clear h
  go_enter Try.func212, Try.ntmps212
  go_wp2_with fail
  refine (within_is _ _ _ true H0.out _).mono ?_
  rintro e w1 ⟨rfl, rfl⟩
  go_wp2
  go_ret
  exact ⟨ret_bool HV.out, h0⟩

set_option maxRecDepth 100000 in
theorem validNode1 (b c : Int) (v : Bool) (h : fOkN ⟨1, b, c⟩ = v) (w : World) : Calls Try.prog 212 #[.agg #[.int .i64 1, .int .i64 b, .int .i64 c]] w fun e w' => e = .returned (.bool v) ∧ Below w.heap.size w w' := by
  have h0 : Below w.heap.size w (w.alloc (.cells #[.int .i64 1, .int .i64 b, .int .i64 c] 115)) := laid_below _ _
  rw [fOkN_1 rfl] at h
  simp only at h
  by_cases g0 : b = 1
  rotate_left
  · have e0 : (b == 1) = false := by simpa using g0
    have HV : Hid (false = v) := by unfold Hid; rw [← h]; simp [g0]
    clear h g0
    go_enter Try.func212, Try.ntmps212
    go_wp2
    go_ret
    exact ⟨ret_bool HV.out, h0⟩
  subst g0
  have H0 : Hid (True) := trivial
  by_cases g1 : c = 0
  rotate_left
  · have e1 : (c == 0) = false := by simpa using g1
    have HV : Hid (false = v) := by unfold Hid; rw [← h]; simp [g1]
    clear h g1
    go_enter Try.func212, Try.ntmps212
    go_wp2
    go_ret
    exact ⟨ret_bool HV.out, h0⟩
  subst g1
  have H1 : Hid (True) := trivial
  have HV : Hid (true = v) := by unfold Hid; rw [← h]; first | rfl | simp [H0.out, H1.out] | simp
  clear h
  go_enter Try.func212, Try.ntmps212
  go_wp2
  go_ret
  exact ⟨ret_bool HV.out, h0⟩

set_option maxRecDepth 100000 in
theorem validNode2 (b c : Int) (v : Bool) (h : fOkN ⟨2, b, c⟩ = v) (w : World) : Calls Try.prog 212 #[.agg #[.int .i64 2, .int .i64 b, .int .i64 c]] w fun e w' => e = .returned (.bool v) ∧ Below w.heap.size w w' := by
  have h0 : Below w.heap.size w (w.alloc (.cells #[.int .i64 2, .int .i64 b, .int .i64 c] 115)) := laid_below _ _
  rw [fOkN_2 rfl] at h
  simp only at h
  rcases Bool.eq_false_or_eq_true (inB b 1 4) with h1 | h1
  rotate_left
  · have H0 := Lib.hid h1
    have HV : Hid (false = v) := by unfold Hid; rw [← h, h1]; first | rfl | simp
    clear h h1
    go_enter Try.func212, Try.ntmps212
    go_wp2_with fail
    refine (within_is _ _ _ false H0.out _).mono ?_
    rintro e w1 ⟨rfl, rfl⟩
    go_wp2
    go_ret
    exact ⟨ret_bool HV.out, h0⟩
  have H0 := Lib.hid h1
  rw [h1] at h
  clear h1
  have hb1 : 1 ≤ b := ((inB_iff _ _ _).1 H0.out).1
  have hb4 : b ≤ 4 := ((inB_iff _ _ _).1 H0.out).2
  rcases Bool.eq_false_or_eq_true (inB c 0 (b - 1)) with h2 | h2
  rotate_left
  · have H1 := Lib.hid h2
    have HV : Hid (false = v) := by unfold Hid; rw [← h, h2]; first | rfl | simp
    clear h h2
    go_enter Try.func212, Try.ntmps212
    go_wp2_with fail
    refine (within_is _ _ _ true H0.out _).mono ?_
    rintro e w1 ⟨rfl, rfl⟩
    go_wp2_with fail
    refine (within_is _ _ _ false H1.out _).mono ?_
    rintro e w2 ⟨rfl, rfl⟩
    go_wp2
    go_ret
    exact ⟨ret_bool HV.out, h0⟩
  have H1 := Lib.hid h2
  rw [h2] at h
  clear h2
  have HV : Hid (true = v) := by unfold Hid; rw [← h]; first | rfl | simp [H0.out, H1.out] | simp
  clear h
  go_enter Try.func212, Try.ntmps212
  go_wp2_with fail
  refine (within_is _ _ _ true H0.out _).mono ?_
  rintro e w1 ⟨rfl, rfl⟩
  go_wp2_with fail
  refine (within_is _ _ _ true H1.out _).mono ?_
  rintro e w2 ⟨rfl, rfl⟩
  go_wp2
  go_ret
  exact ⟨ret_bool HV.out, h0⟩

set_option maxRecDepth 100000 in
theorem validNode3 (b c : Int) (v : Bool) (h : fOkN ⟨3, b, c⟩ = v) (w : World) : Calls Try.prog 212 #[.agg #[.int .i64 3, .int .i64 b, .int .i64 c]] w fun e w' => e = .returned (.bool v) ∧ Below w.heap.size w w' := by
  have h0 : Below w.heap.size w (w.alloc (.cells #[.int .i64 3, .int .i64 b, .int .i64 c] 115)) := laid_below _ _
  rw [fOkN_3 rfl] at h
  simp only at h
  rcases Bool.eq_false_or_eq_true (inB b 0 4) with h1 | h1
  rotate_left
  · have H0 := Lib.hid h1
    have HV : Hid (false = v) := by unfold Hid; rw [← h, h1]; first | rfl | simp
    clear h h1
    go_enter Try.func212, Try.ntmps212
    go_wp2_with fail
    refine (within_is _ _ _ false H0.out _).mono ?_
    rintro e w1 ⟨rfl, rfl⟩
    go_wp2
    go_ret
    exact ⟨ret_bool HV.out, h0⟩
  have H0 := Lib.hid h1
  rw [h1] at h
  clear h1
  rcases Bool.eq_false_or_eq_true (inB c 1 4) with h2 | h2
  rotate_left
  · have H1 := Lib.hid h2
    have HV : Hid (false = v) := by unfold Hid; rw [← h, h2]; first | rfl | simp
    clear h h2
    go_enter Try.func212, Try.ntmps212
    go_wp2_with fail
    refine (within_is _ _ _ true H0.out _).mono ?_
    rintro e w1 ⟨rfl, rfl⟩
    go_wp2_with fail
    refine (within_is _ _ _ false H1.out _).mono ?_
    rintro e w2 ⟨rfl, rfl⟩
    go_wp2
    go_ret
    exact ⟨ret_bool HV.out, h0⟩
  have H1 := Lib.hid h2
  rw [h2] at h
  clear h2
  have HV : Hid (true = v) := by unfold Hid; rw [← h]; first | rfl | simp [H0.out, H1.out] | simp
  clear h
  go_enter Try.func212, Try.ntmps212
  go_wp2_with fail
  refine (within_is _ _ _ true H0.out _).mono ?_
  rintro e w1 ⟨rfl, rfl⟩
  go_wp2_with fail
  refine (within_is _ _ _ true H1.out _).mono ?_
  rintro e w2 ⟨rfl, rfl⟩
  go_wp2
  go_ret
  exact ⟨ret_bool HV.out, h0⟩

set_option maxRecDepth 100000 in
theorem validNode4 (b c : Int) (v : Bool) (h : fOkN ⟨4, b, c⟩ = v) (w : World) : Calls Try.prog 212 #[.agg #[.int .i64 4, .int .i64 b, .int .i64 c]] w fun e w' => e = .returned (.bool v) ∧ Below w.heap.size w w' := by
  have h0 : Below w.heap.size w (w.alloc (.cells #[.int .i64 4, .int .i64 b, .int .i64 c] 115)) := laid_below _ _
  rw [fOkN_4 rfl] at h
  simp only at h
  rcases Bool.eq_false_or_eq_true (inB b 1 3) with h1 | h1
  rotate_left
  · have H0 := Lib.hid h1
    have HV : Hid (false = v) := by unfold Hid; rw [← h, h1]; first | rfl | simp
    clear h h1
    go_enter Try.func212, Try.ntmps212
    go_wp2_with fail
    refine (within_is _ _ _ false H0.out _).mono ?_
    rintro e w1 ⟨rfl, rfl⟩
    go_wp2
    go_ret
    exact ⟨ret_bool HV.out, h0⟩
  have H0 := Lib.hid h1
  rw [h1] at h
  clear h1
  by_cases g1 : c = 0
  rotate_left
  · have e1 : (c == 0) = false := by simpa using g1
    have HV : Hid (false = v) := by unfold Hid; rw [← h]; simp [g1]
    clear h g1
    go_enter Try.func212, Try.ntmps212
    go_wp2_with fail
    refine (within_is _ _ _ true H0.out _).mono ?_
    rintro e w1 ⟨rfl, rfl⟩
    go_wp2
    go_ret
    exact ⟨ret_bool HV.out, h0⟩
  subst g1
  have H1 : Hid (True) := trivial
  have HV : Hid (true = v) := by unfold Hid; rw [← h]; first | rfl | simp [H0.out, H1.out] | simp
  clear h
  go_enter Try.func212, Try.ntmps212
  go_wp2_with fail
  refine (within_is _ _ _ true H0.out _).mono ?_
  rintro e w1 ⟨rfl, rfl⟩
  go_wp2
  go_ret
  exact ⟨ret_bool HV.out, h0⟩

set_option maxRecDepth 100000 in
theorem validNode5 (b c : Int) (v : Bool) (h : fOkN ⟨5, b, c⟩ = v) (w : World) : Calls Try.prog 212 #[.agg #[.int .i64 5, .int .i64 b, .int .i64 c]] w fun e w' => e = .returned (.bool v) ∧ Below w.heap.size w w' := by
  have h0 : Below w.heap.size w (w.alloc (.cells #[.int .i64 5, .int .i64 b, .int .i64 c] 115)) := laid_below _ _
  rw [fOkN_5 rfl] at h
  simp only at h
  rcases Bool.eq_false_or_eq_true (inB b 0 3) with h1 | h1
  rotate_left
  · have H0 := Lib.hid h1
    have HV : Hid (false = v) := by unfold Hid; rw [← h, h1]; first | rfl | simp
    clear h h1
    go_enter Try.func212, Try.ntmps212
    go_wp2_with fail
    refine (within_is _ _ _ false H0.out _).mono ?_
    rintro e w1 ⟨rfl, rfl⟩
    go_wp2
    go_ret
    exact ⟨ret_bool HV.out, h0⟩
  have H0 := Lib.hid h1
  rw [h1] at h
  clear h1
  by_cases g1 : c = 0
  rotate_left
  · have e1 : (c == 0) = false := by simpa using g1
    have HV : Hid (false = v) := by unfold Hid; rw [← h]; simp [g1]
    clear h g1
    go_enter Try.func212, Try.ntmps212
    go_wp2_with fail
    refine (within_is _ _ _ true H0.out _).mono ?_
    rintro e w1 ⟨rfl, rfl⟩
    go_wp2
    go_ret
    exact ⟨ret_bool HV.out, h0⟩
  subst g1
  have H1 : Hid (True) := trivial
  have HV : Hid (true = v) := by unfold Hid; rw [← h]; first | rfl | simp [H0.out, H1.out] | simp
  clear h
  go_enter Try.func212, Try.ntmps212
  go_wp2_with fail
  refine (within_is _ _ _ true H0.out _).mono ?_
  rintro e w1 ⟨rfl, rfl⟩
  go_wp2
  go_ret
  exact ⟨ret_bool HV.out, h0⟩

set_option maxRecDepth 100000 in
theorem validNode6 (a b c : Int) (v : Bool) (h : fOkN ⟨a, b, c⟩ = v) (w : World) (a0 : a ≠ 0) (a1 : a ≠ 1) (a2 : a ≠ 2) (a3 : a ≠ 3) (a4 : a ≠ 4) (a5 : a ≠ 5) : Calls Try.prog 212 #[.agg #[.int .i64 a, .int .i64 b, .int .i64 c]] w fun e w' => e = .returned (.bool v) ∧ Below w.heap.size w w' := by
  have h0 : Below w.heap.size w (w.alloc (.cells #[.int .i64 a, .int .i64 b, .int .i64 c] 115)) := laid_below _ _
  have HV : Hid (false = v) := by unfold Hid; rw [← h, fOkN_6 a0 a1 a2 a3 a4 a5]
  have e0 : (a == 0) = false := by simpa using a0
  have e1 : (a == 1) = false := by simpa using a1
  have e2 : (a == 2) = false := by simpa using a2
  have e3 : (a == 3) = false := by simpa using a3
  have e4 : (a == 4) = false := by simpa using a4
  have e5 : (a == 5) = false := by simpa using a5
  clear h a0 a1 a2 a3 a4 a5
  go_enter Try.func212, Try.ntmps212
  go_wp2
  go_ret
  exact ⟨ret_bool HV.out, h0⟩

theorem validNode_is (x : R3) (v : Bool) (h : fOkN x = v) (w : World) : Calls Try.prog 212 #[.agg #[.int .i64 x.a, .int .i64 x.b, .int .i64 x.c]] w fun e w' => e = .returned (.bool v) ∧ Below w.heap.size w w' := by
  obtain ⟨a, b, c⟩ := x
  by_cases a0 : a = 0
  · subst a0; exact validNode0 b c v h w
  by_cases a1 : a = 1
  · subst a1; exact validNode1 b c v h w
  by_cases a2 : a = 2
  · subst a2; exact validNode2 b c v h w
  by_cases a3 : a = 3
  · subst a3; exact validNode3 b c v h w
  by_cases a4 : a = 4
  · subst a4; exact validNode4 b c v h w
  by_cases a5 : a = 5
  · subst a5; exact validNode5 b c v h w
  exact validNode6 a b c v h w a0 a1 a2 a3 a4 a5

set_option maxRecDepth 100000 in
theorem l11Node0 (b c : Int) (p o : Nat) (v : Bool) (h : fOkN ⟨0, b, c⟩ = v) (w : World) (hp : At3 w p o ⟨0, b, c⟩) : Calls Try.prog 208 #[.pointer (some ⟨p, o, none⟩)] w fun e w' => e = .returned (.bool v) ∧ Below w.heap.size w w' := by
  obtain ⟨p0, p1, p2⟩ := hp
  simp only at p0 p1 p2
  rw [fOkN_0 rfl] at h
  simp only at h
  rcases Bool.eq_false_or_eq_true (inB b 0 4) with h1 | h1
  rotate_left
  · have H0 := Lib.hid h1
    have HV : Hid (false = v) := by unfold Hid; rw [← h, h1]; first | rfl | simp
    clear h h1
    go_enter Try.func208, Try.ntmps208
    go_wp2_with fail
    refine (l00In_is _ _ _ false H0.out _).mono ?_
    rintro e w1 ⟨rfl, rfl⟩
    go_wp2
    go_ret
    exact ⟨ret_bool HV.out, Below.refl _ _⟩
  have H0 := Lib.hid h1
  rw [h1] at h
  clear h1
  by_cases g1 : c = 0
  rotate_left
  · have e1 : (c == 0) = false := by simpa using g1
    have HV : Hid (false = v) := by unfold Hid; rw [← h]; simp [g1]
    clear h g1
    go_enter Try.func208, Try.ntmps208
    go_wp2_with fail
    refine (l00In_is _ _ _ true H0.out _).mono ?_
    rintro e w1 ⟨rfl, rfl⟩
    go_wp2
    go_ret
    exact ⟨ret_bool HV.out, Below.refl _ _⟩
  subst g1
  have H1 : Hid (True) := trivial
  have HV : Hid (true = v) := by unfold Hid; rw [← h]; first | rfl | simp [H0.out, H1.out] | simp
  clear h
  go_enter Try.func208, Try.ntmps208
  go_wp2_with fail
  refine (l00In_is _ _ _ true H0.out _).mono ?_
  rintro e w1 ⟨rfl, rfl⟩
  go_wp2
  go_ret
  exact ⟨ret_bool HV.out, Below.refl _ _⟩

set_option maxRecDepth 100000 in
theorem l11Node1 (b c : Int) (p o : Nat) (v : Bool) (h : fOkN ⟨1, b, c⟩ = v) (w : World) (hp : At3 w p o ⟨1, b, c⟩) : Calls Try.prog 208 #[.pointer (some ⟨p, o, none⟩)] w fun e w' => e = .returned (.bool v) ∧ Below w.heap.size w w' := by
  obtain ⟨p0, p1, p2⟩ := hp
  simp only at p0 p1 p2
  rw [fOkN_1 rfl] at h
  simp only at h
  by_cases g0 : b = 1
  rotate_left
  · have e0 : (b == 1) = false := by simpa using g0
    have HV : Hid (false = v) := by unfold Hid; rw [← h]; simp [g0]
    clear h g0
    go_enter Try.func208, Try.ntmps208
    go_wp2
    go_ret
    exact ⟨ret_bool HV.out, Below.refl _ _⟩
  subst g0
  have H0 : Hid (True) := trivial
  by_cases g1 : c = 0
  rotate_left
  · have e1 : (c == 0) = false := by simpa using g1
    have HV : Hid (false = v) := by unfold Hid; rw [← h]; simp [g1]
    clear h g1
    go_enter Try.func208, Try.ntmps208
    go_wp2
    go_ret
    exact ⟨ret_bool HV.out, Below.refl _ _⟩
  subst g1
  have H1 : Hid (True) := trivial
  have HV : Hid (true = v) := by unfold Hid; rw [← h]; first | rfl | simp [H0.out, H1.out] | simp
  clear h
  go_enter Try.func208, Try.ntmps208
  go_wp2
  go_ret
  exact ⟨ret_bool HV.out, Below.refl _ _⟩

set_option maxRecDepth 100000 in
theorem l11Node2 (b c : Int) (p o : Nat) (v : Bool) (h : fOkN ⟨2, b, c⟩ = v) (w : World) (hp : At3 w p o ⟨2, b, c⟩) : Calls Try.prog 208 #[.pointer (some ⟨p, o, none⟩)] w fun e w' => e = .returned (.bool v) ∧ Below w.heap.size w w' := by
  obtain ⟨p0, p1, p2⟩ := hp
  simp only at p0 p1 p2
  rw [fOkN_2 rfl] at h
  simp only at h
  rcases Bool.eq_false_or_eq_true (inB b 1 4) with h1 | h1
  rotate_left
  · have H0 := Lib.hid h1
    have HV : Hid (false = v) := by unfold Hid; rw [← h, h1]; first | rfl | simp
    clear h h1
    go_enter Try.func208, Try.ntmps208
    go_wp2
    go_quiet ((go_at_call 57; exact quiet_eq (l00In_is _ _ _ _ (by first | exact H0.out) _)))
    go_wp2
    go_ret
    exact ⟨ret_bool HV.out, quiet_below rfl⟩
  have H0 := Lib.hid h1
  rw [h1] at h
  clear h1
  have hb1 : 1 ≤ b := ((inB_iff _ _ _).1 H0.out).1
  have hb4 : b ≤ 4 := ((inB_iff _ _ _).1 H0.out).2
  rcases Bool.eq_false_or_eq_true (inB c 0 (b - 1)) with h2 | h2
  rotate_left
  · have H1 := Lib.hid h2
    have HV : Hid (false = v) := by unfold Hid; rw [← h, h2]; first | rfl | simp
    clear h h2
    have w1 : IntKind.i64.wrap (b - 1) = b - 1 := IntWalk.i64_in _ (by omega)
    go_enter Try.func208, Try.ntmps208
    go_wp2
    go_quiet ((go_at_call 57; exact quiet_eq (l00In_is _ _ _ _ (by first | exact H0.out | exact H1.out) _)))
    go_wp2
    go_ret
    exact ⟨ret_bool HV.out, quiet_below rfl⟩
  have H1 := Lib.hid h2
  rw [h2] at h
  clear h2
  have HV : Hid (true = v) := by unfold Hid; rw [← h]; first | rfl | simp [H0.out, H1.out] | simp
  clear h
  have w1 : IntKind.i64.wrap (b - 1) = b - 1 := IntWalk.i64_in _ (by omega)
  go_enter Try.func208, Try.ntmps208
  go_wp2
  go_quiet ((go_at_call 57; exact quiet_eq (l00In_is _ _ _ _ (by first | exact H0.out | exact H1.out) _)))
  go_wp2
  go_ret
  exact ⟨ret_bool HV.out, quiet_below rfl⟩

set_option maxRecDepth 100000 in
theorem l11Node3 (b c : Int) (p o : Nat) (v : Bool) (h : fOkN ⟨3, b, c⟩ = v) (w : World) (hp : At3 w p o ⟨3, b, c⟩) : Calls Try.prog 208 #[.pointer (some ⟨p, o, none⟩)] w fun e w' => e = .returned (.bool v) ∧ Below w.heap.size w w' := by
  obtain ⟨p0, p1, p2⟩ := hp
  simp only at p0 p1 p2
  rw [fOkN_3 rfl] at h
  simp only at h
  rcases Bool.eq_false_or_eq_true (inB b 0 4) with h1 | h1
  rotate_left
  · have H0 := Lib.hid h1
    have HV : Hid (false = v) := by unfold Hid; rw [← h, h1]; first | rfl | simp
    clear h h1
    go_enter Try.func208, Try.ntmps208
    go_wp2_with fail
    refine (l00In_is _ _ _ false H0.out _).mono ?_
    rintro e w1 ⟨rfl, rfl⟩
    go_wp2
    go_ret
    exact ⟨ret_bool HV.out, Below.refl _ _⟩
  have H0 := Lib.hid h1
  rw [h1] at h
  clear h1
  rcases Bool.eq_false_or_eq_true (inB c 1 4) with h2 | h2
  rotate_left
  · have H1 := Lib.hid h2
    have HV : Hid (false = v) := by unfold Hid; rw [← h, h2]; first | rfl | simp
    clear h h2
    go_enter Try.func208, Try.ntmps208
    go_wp2_with fail
    refine (l00In_is _ _ _ true H0.out _).mono ?_
    rintro e w1 ⟨rfl, rfl⟩
    go_wp2_with fail
    refine (l00In_is _ _ _ false H1.out _).mono ?_
    rintro e w2 ⟨rfl, rfl⟩
    go_wp2
    go_ret
    exact ⟨ret_bool HV.out, Below.refl _ _⟩
  have H1 := Lib.hid h2
  rw [h2] at h
  clear h2
  have HV : Hid (true = v) := by unfold Hid; rw [← h]; first | rfl | simp [H0.out, H1.out] | simp
  clear h
  go_enter Try.func208, Try.ntmps208
  go_wp2_with fail
  refine (l00In_is _ _ _ true H0.out _).mono ?_
  rintro e w1 ⟨rfl, rfl⟩
  go_wp2_with fail
  refine (l00In_is _ _ _ true H1.out _).mono ?_
  rintro e w2 ⟨rfl, rfl⟩
  go_wp2
  go_ret
  exact ⟨ret_bool HV.out, Below.refl _ _⟩

set_option maxRecDepth 100000 in
theorem l11Node4 (b c : Int) (p o : Nat) (v : Bool) (h : fOkN ⟨4, b, c⟩ = v) (w : World) (hp : At3 w p o ⟨4, b, c⟩) : Calls Try.prog 208 #[.pointer (some ⟨p, o, none⟩)] w fun e w' => e = .returned (.bool v) ∧ Below w.heap.size w w' := by
  obtain ⟨p0, p1, p2⟩ := hp
  simp only at p0 p1 p2
  rw [fOkN_4 rfl] at h
  simp only at h
  rcases Bool.eq_false_or_eq_true (inB b 1 3) with h1 | h1
  rotate_left
  · have H0 := Lib.hid h1
    have HV : Hid (false = v) := by unfold Hid; rw [← h, h1]; first | rfl | simp
    clear h h1
    go_enter Try.func208, Try.ntmps208
    go_wp2_with fail
    refine (l00In_is _ _ _ false H0.out _).mono ?_
    rintro e w1 ⟨rfl, rfl⟩
    go_wp2
    go_ret
    exact ⟨ret_bool HV.out, Below.refl _ _⟩
  have H0 := Lib.hid h1
  rw [h1] at h
  clear h1
  by_cases g1 : c = 0
  rotate_left
  · have e1 : (c == 0) = false := by simpa using g1
    have HV : Hid (false = v) := by unfold Hid; rw [← h]; simp [g1]
    clear h g1
    go_enter Try.func208, Try.ntmps208
    go_wp2_with fail
    refine (l00In_is _ _ _ true H0.out _).mono ?_
    rintro e w1 ⟨rfl, rfl⟩
    go_wp2
    go_ret
    exact ⟨ret_bool HV.out, Below.refl _ _⟩
  subst g1
  have H1 : Hid (True) := trivial
  have HV : Hid (true = v) := by unfold Hid; rw [← h]; first | rfl | simp [H0.out, H1.out] | simp
  clear h
  go_enter Try.func208, Try.ntmps208
  go_wp2_with fail
  refine (l00In_is _ _ _ true H0.out _).mono ?_
  rintro e w1 ⟨rfl, rfl⟩
  go_wp2
  go_ret
  exact ⟨ret_bool HV.out, Below.refl _ _⟩

set_option maxRecDepth 100000 in
theorem l11Node5 (b c : Int) (p o : Nat) (v : Bool) (h : fOkN ⟨5, b, c⟩ = v) (w : World) (hp : At3 w p o ⟨5, b, c⟩) : Calls Try.prog 208 #[.pointer (some ⟨p, o, none⟩)] w fun e w' => e = .returned (.bool v) ∧ Below w.heap.size w w' := by
  obtain ⟨p0, p1, p2⟩ := hp
  simp only at p0 p1 p2
  rw [fOkN_5 rfl] at h
  simp only at h
  rcases Bool.eq_false_or_eq_true (inB b 0 3) with h1 | h1
  rotate_left
  · have H0 := Lib.hid h1
    have HV : Hid (false = v) := by unfold Hid; rw [← h, h1]; first | rfl | simp
    clear h h1
    go_enter Try.func208, Try.ntmps208
    go_wp2_with fail
    refine (l00In_is _ _ _ false H0.out _).mono ?_
    rintro e w1 ⟨rfl, rfl⟩
    go_wp2
    go_ret
    exact ⟨ret_bool HV.out, Below.refl _ _⟩
  have H0 := Lib.hid h1
  rw [h1] at h
  clear h1
  by_cases g1 : c = 0
  rotate_left
  · have e1 : (c == 0) = false := by simpa using g1
    have HV : Hid (false = v) := by unfold Hid; rw [← h]; simp [g1]
    clear h g1
    go_enter Try.func208, Try.ntmps208
    go_wp2_with fail
    refine (l00In_is _ _ _ true H0.out _).mono ?_
    rintro e w1 ⟨rfl, rfl⟩
    go_wp2
    go_ret
    exact ⟨ret_bool HV.out, Below.refl _ _⟩
  subst g1
  have H1 : Hid (True) := trivial
  have HV : Hid (true = v) := by unfold Hid; rw [← h]; first | rfl | simp [H0.out, H1.out] | simp
  clear h
  go_enter Try.func208, Try.ntmps208
  go_wp2_with fail
  refine (l00In_is _ _ _ true H0.out _).mono ?_
  rintro e w1 ⟨rfl, rfl⟩
  go_wp2
  go_ret
  exact ⟨ret_bool HV.out, Below.refl _ _⟩

set_option maxRecDepth 100000 in
theorem l11Node6 (a b c : Int) (p o : Nat) (v : Bool) (h : fOkN ⟨a, b, c⟩ = v) (w : World) (hp : At3 w p o ⟨a, b, c⟩) (a0 : a ≠ 0) (a1 : a ≠ 1) (a2 : a ≠ 2) (a3 : a ≠ 3) (a4 : a ≠ 4) (a5 : a ≠ 5) : Calls Try.prog 208 #[.pointer (some ⟨p, o, none⟩)] w fun e w' => e = .returned (.bool v) ∧ Below w.heap.size w w' := by
  obtain ⟨p0, p1, p2⟩ := hp
  simp only at p0 p1 p2
  have HV : Hid (false = v) := by unfold Hid; rw [← h, fOkN_6 a0 a1 a2 a3 a4 a5]
  have e0 : (a == 0) = false := by simpa using a0
  have e1 : (a == 1) = false := by simpa using a1
  have e2 : (a == 2) = false := by simpa using a2
  have e3 : (a == 3) = false := by simpa using a3
  have e4 : (a == 4) = false := by simpa using a4
  have e5 : (a == 5) = false := by simpa using a5
  clear h a0 a1 a2 a3 a4 a5
  go_enter Try.func208, Try.ntmps208
  go_wp2
  go_ret
  exact ⟨ret_bool HV.out, Below.refl _ _⟩

theorem l11Node_is (p o : Nat) (x : R3) (v : Bool) (h : fOkN x = v) (w : World) (hp : At3 w p o x) : Calls Try.prog 208 #[.pointer (some ⟨p, o, none⟩)] w fun e w' => e = .returned (.bool v) ∧ Below w.heap.size w w' := by
  obtain ⟨a, b, c⟩ := x
  by_cases a0 : a = 0
  · subst a0; exact l11Node0 b c p o v h w hp
  by_cases a1 : a = 1
  · subst a1; exact l11Node1 b c p o v h w hp
  by_cases a2 : a = 2
  · subst a2; exact l11Node2 b c p o v h w hp
  by_cases a3 : a = 3
  · subst a3; exact l11Node3 b c p o v h w hp
  by_cases a4 : a = 4
  · subst a4; exact l11Node4 b c p o v h w hp
  by_cases a5 : a = 5
  · subst a5; exact l11Node5 b c p o v h w hp
  exact l11Node6 a b c p o v h w hp a0 a1 a2 a3 a4 a5

set_option maxRecDepth 100000 in
theorem l11Many_any (p o : Nat) (x : R3) (hok : fOkN x = true) (w : World) (hp : At3 w p o x) : Calls Try.prog 209 #[.pointer (some ⟨p, o, none⟩)] w fun e w' => e = .returned (.int .i64 (fMany x : Nat)) ∧ w = w' := by
  have hx := (fOkN_iff x).1 hok
  obtain ⟨a, b, c⟩ := x
  obtain ⟨p0, p1, p2⟩ := hp
  simp only at *
  by_cases a3 : a = 3
  · subst a3
    have hc0 : 0 ≤ c := by omega
    have hc1 : c ≤ 4 := by omega
    have HE : Hid ((fMany ⟨3, b, c⟩ : Int) = c + 1) := by unfold Hid; rw [fMany_3 rfl]; simp only; omega
    clear hx hok
    go_enter Try.func209, Try.ntmps209
    go_wp2
    go_ret
    exact ⟨ret_int HE.out.symm, rfl⟩
  by_cases a4 : a = 4
  · subst a4
    clear hx hok a3
    go_enter Try.func209, Try.ntmps209
    go_wp2
    go_ret
    exact ⟨ret_int (by rw [fMany_4 rfl]; rfl), rfl⟩
  by_cases a5 : a = 5
  · subst a5
    clear hx hok a3 a4
    go_enter Try.func209, Try.ntmps209
    go_wp2
    go_ret
    exact ⟨ret_int (by rw [fMany_5 rfl]; rfl), rfl⟩
  have HE : Hid (fMany ⟨a, b, c⟩ = 0) := fMany_0 a3 a4 a5
  have e3 : (a == 3) = false := by simpa using a3
  have e4 : (a == 4) = false := by simpa using a4
  have e5 : (a == 5) = false := by simpa using a5
  clear hx hok a3 a4 a5
  go_enter Try.func209, Try.ntmps209
  go_wp2
  go_ret
  exact ⟨ret_int (by rw [HE.out]; rfl), rfl⟩
end Go.Proofs.Ytfmfpknigafnoaa
