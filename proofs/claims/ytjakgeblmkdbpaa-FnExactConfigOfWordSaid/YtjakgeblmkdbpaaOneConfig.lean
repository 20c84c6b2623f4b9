/- Contracts of the laws' helpers on one Config: copy, compare with a copy, size, mark, look at the marks. -/
import Derived.Test.YtjakgeblmkdbpaaHeld
import Derived.Test.YtjakgeblmkdbpaaSGrid
import Derived.Test.YtjakgeblmkdbpaaHelpInt
import Derived.Test.YtjakgeblmkdbpaaInInt64S
import Derived.Test.YtjakgeblmkdbpaaSeq
namespace Go.Proofs.Ytjakgeblmkdbpaa
open Go.RowKit
set_option linter.all false

theorem quiet_q_belowConfig {w w' : World} (h : ∃ q, w' = w.drewN q) : Below w.heap.size w w' := by obtain ⟨q, hq⟩ := h; exact quiet_below hq

set_option maxRecDepth 100000 in
set_option maxHeartbeats 1000000 in
theorem toConfigO_any (f0 : Int) (A1 : Option Addr) (n1 c1 : Nat) (x1 : List Int) (A2 : Option Addr) (n2 c2 : Nat) (x2 : List Int) (w : World) (h1 : Arg w A1 n1 (x1.map (Value.int .i64))) (h2 : Arg w A2 n2 (x2.map (Value.int .i64))) (s1 : n1 ≤ 1048576) (s2 : n2 ≤ 1048576) :
    Calls Try.prog 11 #[.agg #[.int .i64 f0, .slice A1 n1 c1, .slice A2 n2 c2]] w fun z w' => (∃ (g1 e1 : Nat) (g2 e2 : Nat), z = .returned (.agg #[.int .i64 f0, .slice (some ⟨g1, 0, none⟩) n1 n1, .slice (some ⟨g2, 0, none⟩) n2 n2]) ∧ w.heap.size ≤ g1 ∧ g1 ≤ e1 ∧ e1 ≤ g2 ∧ g2 ≤ e2 ∧ e2 ≤ w'.heap.size ∧ Held g1 e1 (Flat g1 e1 2 1 (.slice (some ⟨g1, 0, none⟩) n1 n1) n1 (x1.map (Value.int .i64))) w' ∧ Held g2 e2 (Flat g2 e2 2 1 (.slice (some ⟨g2, 0, none⟩) n2 n2) n2 (x2.map (Value.int .i64))) w') ∧ Below w.heap.size w w' := by
  obtain ⟨w0, HW0, B0, hx0, y0, z0, sz0⟩ := al3 w (.cells #[.int .i64 f0, .slice A1 n1 c1, .slice A2 n2 c2] 27) (.cells #[.int .i64 0, .slice none 0 0, .slice none 0 0] 36) (.cells #[.int .i64 f0, .slice none 0 0, .slice none 0 0] 36)
  have L0 : w.heap.size + 1 + 1 + 1 ≤ w0.heap.size := by omega
  go_enter Try.func11, Try.ntmps11
  go_wp2_with fail
  rw [← HW0.out]
  refine (toInt64S_any A1 n1 c1 x1 _ (h1.below B0) s1).mono ?_
  rintro z w1a ⟨rfl, own1, b1⟩
  have B0a := below_step B0 b1
  have hx0a := (b1.block _ (heap_lt hx0)).trans hx0
  have y0a := (b1.block _ (heap_lt y0)).trans y0
  have z0a := (b1.block _ (heap_lt z0)).trans z0
  have bz1 := b1.size
  have H1_0a := flat_of_own own1
  obtain ⟨g1, hg1⟩ : ∃ g : Nat, g = w0.heap.size := ⟨_, rfl⟩
  obtain ⟨e1, he91⟩ : ∃ e : Nat, e = w1a.heap.size := ⟨_, rfl⟩
  rw [← hg1, ← he91] at H1_0a
  rw [← hg1]
  have LG1 : w.heap.size + 1 + 1 + 1 ≤ g1 := by omega
  have GE1 : g1 ≤ e1 := by omega
  have EW1 : e1 = w1a.heap.size := he91
  clear hg1
  obtain ⟨w1, HW1, B1, hx1, y1, z1, H1_1, SZ1⟩ : ∃ w1, Hid (w1 = (w1a.setCell ⟨w.heap.size + 1 + 1, 1, none⟩ (.slice (some ⟨g1, 0, none⟩) n1 n1))) ∧ Below w.heap.size w w1 ∧ w1.heap[w.heap.size]? = some (.cells #[.int .i64 f0, .slice A1 n1 c1, .slice A2 n2 c2] 27 (0, 0)) ∧ w1.heap[w.heap.size + 1]? = some (.cells #[.int .i64 0, .slice none 0 0, .slice none 0 0] 36 (0, 0)) ∧ w1.heap[w.heap.size + 1 + 1]? = some (.cells #[.int .i64 f0, .slice (some ⟨g1, 0, none⟩) n1 n1, .slice none 0 0] 36 (0, 0)) ∧ Held g1 e1 (Flat g1 e1 2 1 (.slice (some ⟨g1, 0, none⟩) n1 n1) n1 (x1.map (Value.int .i64))) w1 ∧ w1a.heap.size = w1.heap.size := by
    refine ⟨_, rfl, ?_, ?_, ?_, ?_, ?_, ?_⟩
    · exact (B0a.setCell (p := ⟨w.heap.size + 1 + 1, 1, none⟩) (by simp; omega) _)
    · exact (heap_set_other hx0a ⟨w.heap.size + 1 + 1, 1, none⟩ (by dsimp only; omega) _)
    · exact (heap_set_other y0a ⟨w.heap.size + 1 + 1, 1, none⟩ (by dsimp only; omega) _)
    · exact (heap_set z0a (.slice (some ⟨g1, 0, none⟩) n1 n1))
    · exact H1_0a.far ((Touch.refl (w.heap.size + 1 + 1) (w.heap.size + 1 + 1 + 1) w1a).setCell (p := ⟨w.heap.size + 1 + 1, 1, none⟩) ⟨by simp, by simp⟩ _) (.inr LG1)
    · simp [World.setCell]
  have kz0 : w1a.frozen? ⟨w.heap.size + 1 + 1, 0, none⟩ = false := frozen_of_heap z0a
  have ez0_1 : ∃ u, w1a.cell? ⟨w.heap.size + 1 + 1, 1, none⟩ = some u := ⟨_, by rw [cell_of_heap z0a]; rfl⟩
  obtain ⟨oz0_1, ez0_1⟩ := ez0_1
  have fz0_1 : w1a.frozen? ⟨w.heap.size + 1 + 1, 1, none⟩ = false := frozen_of_heap z0a
  have cx0_2 : w1a.cell? ⟨w.heap.size, 2, none⟩ = some (.slice A2 n2 c2) := by rw [cell_of_heap hx0a]; rfl
  clear HW0 hx0 y0 z0 hx0a own1 H1_0a  y0a z0a
  go_wp2_with fail
  rw [← HW1.out]
  refine (toInt64S_any A2 n2 c2 x2 _ (h2.below B1) s2).mono ?_
  rintro z w2a ⟨rfl, own2, b2⟩
  have B1a := below_step B1 b2
  have hx1a := (b2.block _ (heap_lt hx1)).trans hx1
  have y1a := (b2.block _ (heap_lt y1)).trans y1
  have z1a := (b2.block _ (heap_lt z1)).trans z1
  have bz2 := b2.size
  have H2_1a := flat_of_own own2
  have H1_1a := H1_1.below b2
  obtain ⟨g2, hg2⟩ : ∃ g : Nat, g = w1.heap.size := ⟨_, rfl⟩
  obtain ⟨e2, he92⟩ : ∃ e : Nat, e = w2a.heap.size := ⟨_, rfl⟩
  rw [← hg2, ← he92] at H2_1a
  rw [← hg2]
  have LG2 : w.heap.size + 1 + 1 + 1 ≤ g2 := by omega
  have GE2 : g2 ≤ e2 := by omega
  have EW2 : e2 = w2a.heap.size := he92
  have EG2 : e1 ≤ g2 := by omega
  clear hg2
  obtain ⟨w2, HW2, B2, hx2, y2, z2, H1_2, H2_2, SZ2⟩ : ∃ w2, Hid (w2 = (w2a.setCell ⟨w.heap.size + 1 + 1, 2, none⟩ (.slice (some ⟨g2, 0, none⟩) n2 n2))) ∧ Below w.heap.size w w2 ∧ w2.heap[w.heap.size]? = some (.cells #[.int .i64 f0, .slice A1 n1 c1, .slice A2 n2 c2] 27 (0, 0)) ∧ w2.heap[w.heap.size + 1]? = some (.cells #[.int .i64 0, .slice none 0 0, .slice none 0 0] 36 (0, 0)) ∧ w2.heap[w.heap.size + 1 + 1]? = some (.cells #[.int .i64 f0, .slice (some ⟨g1, 0, none⟩) n1 n1, .slice (some ⟨g2, 0, none⟩) n2 n2] 36 (0, 0)) ∧ Held g1 e1 (Flat g1 e1 2 1 (.slice (some ⟨g1, 0, none⟩) n1 n1) n1 (x1.map (Value.int .i64))) w2 ∧ Held g2 e2 (Flat g2 e2 2 1 (.slice (some ⟨g2, 0, none⟩) n2 n2) n2 (x2.map (Value.int .i64))) w2 ∧ w2a.heap.size = w2.heap.size := by
    refine ⟨_, rfl, ?_, ?_, ?_, ?_, ?_, ?_, ?_⟩
    · exact (B1a.setCell (p := ⟨w.heap.size + 1 + 1, 2, none⟩) (by simp; omega) _)
    · exact (heap_set_other hx1a ⟨w.heap.size + 1 + 1, 2, none⟩ (by dsimp only; omega) _)
    · exact (heap_set_other y1a ⟨w.heap.size + 1 + 1, 2, none⟩ (by dsimp only; omega) _)
    · exact (heap_set z1a (.slice (some ⟨g2, 0, none⟩) n2 n2))
    · exact H1_1a.far ((Touch.refl (w.heap.size + 1 + 1) (w.heap.size + 1 + 1 + 1) w2a).setCell (p := ⟨w.heap.size + 1 + 1, 2, none⟩) ⟨by simp, by simp⟩ _) (.inr LG1)
    · exact H2_1a.far ((Touch.refl (w.heap.size + 1 + 1) (w.heap.size + 1 + 1 + 1) w2a).setCell (p := ⟨w.heap.size + 1 + 1, 2, none⟩) ⟨by simp, by simp⟩ _) (.inr LG2)
    · simp [World.setCell]
  have kz1 : w2a.frozen? ⟨w.heap.size + 1 + 1, 0, none⟩ = false := frozen_of_heap z1a
  have ez1_2 : ∃ u, w2a.cell? ⟨w.heap.size + 1 + 1, 2, none⟩ = some u := ⟨_, by rw [cell_of_heap z1a]; rfl⟩
  obtain ⟨oz1_2, ez1_2⟩ := ez1_2
  have fz1_2 : w2a.frozen? ⟨w.heap.size + 1 + 1, 2, none⟩ = false := frozen_of_heap z1a
  clear HW1 hx1 y1 z1 hx1a own2 H1_1a H2_1a H1_1 
  have lz0 : w2a.cell? ⟨w.heap.size + 1 + 1, 0, none⟩ = some (.int .i64 f0) := by rw [cell_of_heap z1a]; rfl
  have ly0 : w2a.cell? ⟨w.heap.size + 1, 0, none⟩ = some (.int .i64 0) := by rw [cell_of_heap y1a]; rfl
  have fy0 : w2a.frozen? ⟨w.heap.size + 1, 0, none⟩ = false := frozen_of_heap y1a
  have lz1 : w2a.cell? ⟨w.heap.size + 1 + 1, 1, none⟩ = some (.slice (some ⟨g1, 0, none⟩) n1 n1) := by rw [cell_of_heap z1a]; rfl
  have ly1 : w2a.cell? ⟨w.heap.size + 1, 1, none⟩ = some (.slice none 0 0) := by rw [cell_of_heap y1a]; rfl
  have fy1 : w2a.frozen? ⟨w.heap.size + 1, 1, none⟩ = false := frozen_of_heap y1a
  have ly2 : w2a.cell? ⟨w.heap.size + 1, 2, none⟩ = some (.slice none 0 0) := by rw [cell_of_heap y1a]; rfl
  have fy2 : w2a.frozen? ⟨w.heap.size + 1, 2, none⟩ = false := frozen_of_heap y1a
  clear y1a z1a
  go_wp2
  refine bodyPost_ret (v := .agg #[.int .i64 f0, .slice (some ⟨g1, 0, none⟩) n1 n1, .slice (some ⟨g2, 0, none⟩) n2 n2]) (by simp [results, Try.results11, go_sem, ly0, ly1, ly2]) rfl ?_
  rw [← HW2.out]
  refine ⟨⟨g1, e1, g2, e2, rfl, by omega, GE1, EG2, GE2, ?_, ?_, ?_⟩, ?_⟩
  · simp [World.setCell]; omega
  · exact H1_2.far ((((Touch.refl (w.heap.size + 1) (w.heap.size + 1 + 1) w2).setCell (p := ⟨w.heap.size + 1, 0, none⟩) ⟨by simp, by simp⟩ _).setCell (p := ⟨w.heap.size + 1, 1, none⟩) ⟨by simp, by simp⟩ _).setCell (p := ⟨w.heap.size + 1, 2, none⟩) ⟨by simp, by simp⟩ _) (.inr (by omega))
  · exact H2_2.far ((((Touch.refl (w.heap.size + 1) (w.heap.size + 1 + 1) w2).setCell (p := ⟨w.heap.size + 1, 0, none⟩) ⟨by simp, by simp⟩ _).setCell (p := ⟨w.heap.size + 1, 1, none⟩) ⟨by simp, by simp⟩ _).setCell (p := ⟨w.heap.size + 1, 2, none⟩) ⟨by simp, by simp⟩ _) (.inr (by omega))
  · exact (((B2.setCell (p := ⟨w.heap.size + 1, 0, none⟩) (by simp) _).setCell (p := ⟨w.heap.size + 1, 1, none⟩) (by simp) _).setCell (p := ⟨w.heap.size + 1, 2, none⟩) (by simp) _)

set_option maxRecDepth 100000 in
set_option maxHeartbeats 1000000 in
theorem szConfigO_any (f0 : Int) (A1 : Option Addr) (n1 c1 : Nat) (x1 : List Int) (A2 : Option Addr) (n2 c2 : Nat) (x2 : List Int) (left : Int) (w : World) (h1 : Arg w A1 n1 (x1.map (Value.int .i64))) (h2 : Arg w A2 n2 (x2.map (Value.int .i64))) (hl0 : 0 ≤ left) (hl1 : left ≤ 1048576) (u1 : n1 ≤ 9223372036854775807) (u2 : n2 ≤ 9223372036854775807) :
    Calls Try.prog 8 #[.agg #[.int .i64 f0, .slice A1 n1 c1, .slice A2 n2 c2], .int .i64 left] w fun z w' => (∃ q : Int, z = .returned (.int .i64 q) ∧ SzOut ((n1) + (n2)) left q) ∧ Below w.heap.size w w' := by
  obtain ⟨w0, HW0, B0, hx0⟩ := al1 w (.cells #[.int .i64 f0, .slice A1 n1 c1, .slice A2 n2 c2] 27)
  by_cases y1 : (n1 : Int) ≤ left
  rotate_left
  · have Y := Lib.hid y1
    go_enter Try.func8, Try.ntmps8
    have lx1 : w0.cell? ⟨w.heap.size, 1, none⟩ = some (.slice A1 n1 c1) := by rw [cell_of_heap hx0]; rfl
    go_wp2_with fail
    rw [← HW0.out]
    refine (inSzInt64S A1 n1 c1 (left) _ (by omega) (by omega) (by omega)).mono ?_
    rintro z w' ⟨⟨q1, rfl, hq1⟩, rfl⟩
    unfold SzOut at hq1
    obtain rfl : q1 = -1 := by omega
    go_wp2_with fail
    go_ret
    exact ⟨⟨_, rfl, szOut_no (by omega)⟩, B0⟩
  by_cases y2 : (n1 : Int) + (n2 : Int) ≤ left
  rotate_left
  · have Y := Lib.hid y2
    go_enter Try.func8, Try.ntmps8
    have lx1 : w0.cell? ⟨w.heap.size, 1, none⟩ = some (.slice A1 n1 c1) := by rw [cell_of_heap hx0]; rfl
    go_wp2_with fail
    rw [← HW0.out]
    refine (inSzInt64S A1 n1 c1 (left) _ (by omega) (by omega) (by omega)).mono ?_
    rintro z w' ⟨⟨q1, rfl, hq1⟩, rfl⟩
    unfold SzOut at hq1
    obtain rfl : q1 = left - (n1 : Int) := by omega
    have nn1 : ¬ left - (n1 : Int) < 0 := by omega
    clear hq1
    have lx2 : w0.cell? ⟨w.heap.size, 2, none⟩ = some (.slice A2 n2 c2) := by rw [cell_of_heap hx0]; rfl
    go_wp2_with fail
    refine (inSzInt64S A2 n2 c2 (left - (n1 : Int)) _ (by omega) (by omega) (by omega)).mono ?_
    rintro z w' ⟨⟨q2, rfl, hq2⟩, rfl⟩
    unfold SzOut at hq2
    obtain rfl : q2 = -1 := by omega
    go_wp2_with fail
    go_ret
    exact ⟨⟨_, rfl, szOut_no (by omega)⟩, B0⟩
  go_enter Try.func8, Try.ntmps8
  have lx1 : w0.cell? ⟨w.heap.size, 1, none⟩ = some (.slice A1 n1 c1) := by rw [cell_of_heap hx0]; rfl
  go_wp2_with fail
  rw [← HW0.out]
  refine (inSzInt64S A1 n1 c1 (left) _ (by omega) (by omega) (by omega)).mono ?_
  rintro z w' ⟨⟨q1, rfl, hq1⟩, rfl⟩
  unfold SzOut at hq1
  obtain rfl : q1 = left - (n1 : Int) := by omega
  have nn1 : ¬ left - (n1 : Int) < 0 := by omega
  clear hq1
  have lx2 : w0.cell? ⟨w.heap.size, 2, none⟩ = some (.slice A2 n2 c2) := by rw [cell_of_heap hx0]; rfl
  go_wp2_with fail
  refine (inSzInt64S A2 n2 c2 (left - (n1 : Int)) _ (by omega) (by omega) (by omega)).mono ?_
  rintro z w' ⟨⟨q2, rfl, hq2⟩, rfl⟩
  unfold SzOut at hq2
  obtain rfl : q2 = left - (n1 : Int) - (n2 : Int) := by omega
  have nn2 : ¬ left - (n1 : Int) - (n2 : Int) < 0 := by omega
  clear hq2
  go_wp2_with fail
  go_ret
  exact ⟨⟨_, rfl, szOut_yes (by omega) (by omega)⟩, B0⟩

theorem szConfigO_is (f0 : Int) (A1 : Option Addr) (n1 c1 : Nat) (x1 : List Int) (A2 : Option Addr) (n2 c2 : Nat) (x2 : List Int) (left r : Nat) (w : World) (h1 : Arg w A1 n1 (x1.map (Value.int .i64))) (h2 : Arg w A2 n2 (x2.map (Value.int .i64))) (hr : r + ((n1) + (n2)) = left) (hl1 : left ≤ 1048576) (u1 : n1 ≤ 9223372036854775807) (u2 : n2 ≤ 9223372036854775807) :
    Calls Try.prog 8 #[.agg #[.int .i64 f0, .slice A1 n1 c1, .slice A2 n2 c2], .int .i64 left] w fun z w' => z = .returned (.int .i64 r) ∧ Below w.heap.size w w' := by
  refine (szConfigO_any f0 A1 n1 c1 x1 A2 n2 c2 x2 left w h1 h2 (by omega) (by omega) u1 u2).mono ?_
  rintro z w' ⟨⟨q, rfl, hq⟩, hb⟩
  unfold SzOut at hq
  obtain rfl : q = (r : Int) := by omega
  exact ⟨rfl, hb⟩
theorem szConfigO_not (f0 : Int) (A1 : Option Addr) (n1 c1 : Nat) (x1 : List Int) (A2 : Option Addr) (n2 c2 : Nat) (x2 : List Int) (left : Nat) (w : World) (h1 : Arg w A1 n1 (x1.map (Value.int .i64))) (h2 : Arg w A2 n2 (x2.map (Value.int .i64))) (hr : left < (n1) + (n2)) (hl1 : left ≤ 1048576) (u1 : n1 ≤ 9223372036854775807) (u2 : n2 ≤ 9223372036854775807) :
    Calls Try.prog 8 #[.agg #[.int .i64 f0, .slice A1 n1 c1, .slice A2 n2 c2], .int .i64 left] w fun z w' => z = .returned (.int .i64 (-1)) ∧ Below w.heap.size w w' := by
  refine (szConfigO_any f0 A1 n1 c1 x1 A2 n2 c2 x2 left w h1 h2 (by omega) (by omega) u1 u2).mono ?_
  rintro z w' ⟨⟨q, rfl, hq⟩, hb⟩
  unfold SzOut at hq
  obtain rfl : q = -1 := by omega
  exact ⟨rfl, hb⟩

set_option maxRecDepth 100000 in
set_option maxHeartbeats 1000000 in
theorem eqConfigO_same (f0 : Int) (A1 A1b : Option Addr) (n1 c1 c1b : Nat) (x1 : List Int) (A2 A2b : Option Addr) (n2 c2 c2b : Nat) (x2 : List Int) (w : World) (h1 : Arg w A1 n1 (x1.map (Value.int .i64))) (h1b : Arg w A1b n1 (x1.map (Value.int .i64))) (h2 : Arg w A2 n2 (x2.map (Value.int .i64))) (h2b : Arg w A2b n2 (x2.map (Value.int .i64))) (s1 : n1 ≤ 4194304) (s2 : n2 ≤ 4194304) :
    Calls Try.prog 14 #[.agg #[.int .i64 f0, .slice A1 n1 c1, .slice A2 n2 c2], .agg #[.int .i64 f0, .slice A1b n1 c1b, .slice A2b n2 c2b]] w fun z w' => z = .returned (.bool true) ∧ Below w.heap.size w w' := by
  obtain ⟨w0, HW0, B0, hx0, y0⟩ := al2 w (.cells #[.int .i64 f0, .slice A1 n1 c1, .slice A2 n2 c2] 36) (.cells #[.int .i64 f0, .slice A1b n1 c1b, .slice A2b n2 c2b] 36)
  have E1 := fun W hA hB => eqInt64S_any A1 A1b n1 n1 c1 c1b x1 x1 W hA hB s1 s1
  rw [decide_eq_true (rfl : x1 = x1)] at E1
  have HE1 := Lib.hid E1; clear E1
  have E2 := fun W hA hB => eqInt64S_any A2 A2b n2 n2 c2 c2b x2 x2 W hA hB s2 s2
  rw [decide_eq_true (rfl : x2 = x2)] at E2
  have HE2 := Lib.hid E2; clear E2
  go_enter Try.func14, Try.ntmps14
  have lx0 : w0.cell? ⟨w.heap.size, 0, none⟩ = some (.int .i64 f0) := by rw [cell_of_heap hx0]; rfl
  have ly0 : w0.cell? ⟨w.heap.size + 1, 0, none⟩ = some (.int .i64 f0) := by rw [cell_of_heap y0]; rfl
  have lx1 : w0.cell? ⟨w.heap.size, 1, none⟩ = some (.slice A1 n1 c1) := by rw [cell_of_heap hx0]; rfl
  have ly1 : w0.cell? ⟨w.heap.size + 1, 1, none⟩ = some (.slice A1b n1 c1b) := by rw [cell_of_heap y0]; rfl
  go_wp2_with fail
  rw [← HW0.out]
  refine (HE1.out _ (h1.below B0) (h1b.below B0)).mono ?_
  rintro e w1 ⟨rfl, hq⟩
  have b1 := quiet_q_belowConfig hq
  clear hq
  have B1 := below_step B0 b1
  have hx1 := (b1.block _ (heap_lt hx0)).trans hx0
  have y1 := (b1.block _ (heap_lt y0)).trans y0
  clear lx0 ly0
  clear lx1 ly1
  have lx2 : w1.cell? ⟨w.heap.size, 2, none⟩ = some (.slice A2 n2 c2) := by rw [cell_of_heap hx1]; rfl
  have ly2 : w1.cell? ⟨w.heap.size + 1, 2, none⟩ = some (.slice A2b n2 c2b) := by rw [cell_of_heap y1]; rfl
  go_wp2_with fail
  refine (HE2.out _ (h2.below B1) (h2b.below B1)).mono ?_
  rintro e w2 ⟨rfl, hq⟩
  have b2 := quiet_q_belowConfig hq
  clear hq
  have B2 := below_step B1 b2
  have hx2 := (b2.block _ (heap_lt hx1)).trans hx1
  have y2 := (b2.block _ (heap_lt y1)).trans y1
  clear lx2 ly2
  go_wp2_with fail
  go_ret
  exact ⟨rfl, B2⟩

set_option maxRecDepth 100000 in
set_option maxHeartbeats 1000000 in
theorem markConfigO_any (f0 : Int) (g1 e1 n1 c1 : Nat) (y1 : List Value) (g2 e2 n2 c2 : Nat) (y2 : List Value)  (k : Int) (w : World) (h1 : Held g1 e1 (Flat g1 e1 2 1 (.slice (some ⟨g1, 0, none⟩) n1 c1) n1 y1) w) (h2 : Held g2 e2 (Flat g2 e2 2 1 (.slice (some ⟨g2, 0, none⟩) n2 c2) n2 y2) w) (o2 : e1 ≤ g2) (ge1 : g1 ≤ e1) (ge2 : g2 ≤ e2)  (hkb0 : 0 ≤ k) (hkb1 : k ≤ 1073741824) (s1 : n1 ≤ 4194304) (s2 : n2 ≤ 4194304) :
    Calls Try.prog 30 #[.agg #[.int .i64 f0, .slice (some ⟨g1, 0, none⟩) n1 c1, .slice (some ⟨g2, 0, none⟩) n2 c2], .int .i64 k] w fun z w' => z = .returned (.int .i64 (k + (n1 : Int) + (n2 : Int))) ∧ Held g1 e1 (Flat g1 e1 2 1 (.slice (some ⟨g1, 0, none⟩) n1 c1) n1 (marks mkInt64S (k) n1)) w' ∧ Held g2 e2 (Flat g2 e2 2 1 (.slice (some ⟨g2, 0, none⟩) n2 c2) n2 (marks mkInt64S (k + (n1 : Int)) n2)) w' ∧ Touch g1 e2 w w' := by
  obtain ⟨w0, HW0, B0, hx0⟩ := al1 w (.cells #[.int .i64 f0, .slice (some ⟨g1, 0, none⟩) n1 c1, .slice (some ⟨g2, 0, none⟩) n2 c2] 36)
  have T0 : Touch g1 e2 w w0 := Touch.of_below B0
  have H1 := h1.below B0; have le1 := h1.le
  have H2 := h2.below B0; have le2 := h2.le
  go_enter Try.func30, Try.ntmps30
  have lx1 : w0.cell? ⟨w.heap.size, 1, none⟩ = some (.slice (some ⟨g1, 0, none⟩) n1 c1) := by rw [cell_of_heap hx0]; rfl
  go_wp2_with fail
  rw [← HW0.out]
  refine (markInt64S_any _ _ n1 (k) _ _ H1.is.own (by omega) (by omega) (by omega)).mono ?_
  rintro z w1 ⟨rfl, o9, g9⟩
  obtain ⟨N1, t9⟩ := Flat.turn H1 o9 g9
  clear o9 g9
  have H2q0 := H2.far t9 (.inr (by omega))
  have hx1 := (t9.block _ (heap_lt hx0) (.inr (by omega))).trans hx0
  have T1 := T0.trans (t9.mono (by omega) (by omega))
  clear t9 lx1
  have lx2 : w1.cell? ⟨w.heap.size, 2, none⟩ = some (.slice (some ⟨g2, 0, none⟩) n2 c2) := by rw [cell_of_heap hx1]; rfl
  go_wp2_with fail
  refine (markInt64S_any _ _ n2 (k + (n1 : Int)) _ _ H2q0.is.own (by omega) (by omega) (by omega)).mono ?_
  rintro z w2 ⟨rfl, o9, g9⟩
  obtain ⟨N2, t9⟩ := Flat.turn H2q0 o9 g9
  clear o9 g9
  have H1q1 := N1.far t9 (.inl (by omega))
  have hx2 := (t9.block _ (heap_lt hx1) (.inr (by omega))).trans hx1
  have T2 := T1.trans (t9.mono (by omega) (by omega))
  clear t9 lx2
  go_wp2_with fail
  go_ret
  exact ⟨rfl, H1q1, N2, T2⟩

set_option maxRecDepth 100000 in
set_option maxHeartbeats 1000000 in
theorem heldConfigO_any (f0 : Int) (A1 : Option Addr) (n1 c1 : Nat) (A2 : Option Addr) (n2 c2 : Nat) (k : Int) (w : World) (h1 : Arg w A1 n1 (marks mkInt64S (k) n1)) (h2 : Arg w A2 n2 (marks mkInt64S (k + (n1 : Int)) n2)) (hkb0 : 0 ≤ k) (hkb1 : k ≤ 1073741824) (s1 : n1 ≤ 4194304) (s2 : n2 ≤ 4194304) :
    Calls Try.prog 31 #[.agg #[.int .i64 f0, .slice A1 n1 c1, .slice A2 n2 c2], .int .i64 k] w fun z w' => z = .returned (.int .i64 (k + (n1 : Int) + (n2 : Int))) ∧ Below w.heap.size w w' := by
  obtain ⟨w0, HW0, B0, hx0⟩ := al1 w (.cells #[.int .i64 f0, .slice A1 n1 c1, .slice A2 n2 c2] 36)
  go_enter Try.func31, Try.ntmps31
  have lx1 : w0.cell? ⟨w.heap.size, 1, none⟩ = some (.slice A1 n1 c1) := by rw [cell_of_heap hx0]; rfl
  have nn1 : ¬ k + (n1 : Int) < 0 := by omega
  go_wp2_with fail
  rw [← HW0.out]
  refine (heldInt64S_any A1 n1 c1 (k) _ (h1.below B0) (by omega) (by omega) (by omega)).mono ?_
  rintro z w' ⟨rfl, rfl⟩
  have lx2 : w0.cell? ⟨w.heap.size, 2, none⟩ = some (.slice A2 n2 c2) := by rw [cell_of_heap hx0]; rfl
  have nn2 : ¬ k + (n1 : Int) + (n2 : Int) < 0 := by omega
  go_wp2_with fail
  refine (heldInt64S_any A2 n2 c2 (k + (n1 : Int)) _ (h2.below B0) (by omega) (by omega) (by omega)).mono ?_
  rintro z w' ⟨rfl, rfl⟩
  go_wp2_with fail
  go_ret
  exact ⟨rfl, B0⟩

end Go.Proofs.Ytjakgeblmkdbpaa
