/- Contracts of the laws' helpers on one Tag: copy, compare with a copy, size, mark, look at the marks. -/
import Derived.Test.YtcfkjigapnknnaaHeld
import Derived.Test.YtcfkjigapnknnaaSGrid
import Derived.Test.YtcfkjigapnknnaaHelpInt
import Derived.Test.YtcfkjigapnknnaaHelpInt64SS
import Derived.Test.YtcfkjigapnknnaaInInt64S
import Derived.Test.YtcfkjigapnknnaaSeq
namespace Go.Proofs.Ytcfkjigapnknnaa
open Go.RowKit
set_option linter.all false

theorem quiet_q_belowTag {w w' : World} (h : ∃ q, w' = w.drewN q) : Below w.heap.size w w' := by obtain ⟨q, hq⟩ := h; exact quiet_below hq

set_option maxRecDepth 100000 in
set_option maxHeartbeats 1000000 in
theorem toTagO_any (f0 : Int) (A1 : Option Addr) (n1 c1 : Nat) (v1 : List Value) (x1 : List (List Int)) (A2 : Option Addr) (n2 c2 : Nat) (x2 : List Int) (w : World) (h1 : Arg w A1 n1 v1) (r1 : Ins 1 oneI w v1 x1) (h2 : Arg w A2 n2 (x2.map (Value.int .i64))) (s1 : n1 ≤ 1048576) (t1 : sumLen x1 ≤ 1048576) (s2 : n2 ≤ 1048576) :
    Calls Try.prog 31 #[.agg #[.int .i64 f0, .slice A1 n1 c1, .slice A2 n2 c2]] w fun z w' => (∃ (g1 e1 : Nat) (us1 : List Value) (g2 e2 : Nat), z = .returned (.agg #[.int .i64 f0, .slice (some ⟨g1, 0, none⟩) n1 n1, .slice (some ⟨g2, 0, none⟩) n2 n2]) ∧ w.heap.size ≤ g1 ∧ g1 ≤ e1 ∧ e1 ≤ g2 ∧ g2 ≤ e2 ∧ e2 ≤ w'.heap.size ∧ Held g1 e1 (Grid g1 e1 25 1 (.slice (some ⟨g1, 0, none⟩) n1 n1) n1 us1 2 1 us1 (itsOf oneI x1)) w' ∧ Held g2 e2 (Flat g2 e2 2 1 (.slice (some ⟨g2, 0, none⟩) n2 n2) n2 (x2.map (Value.int .i64))) w' ∧ AdrW us1) ∧ Below w.heap.size w w' := by
  obtain ⟨w0, HW0, B0, hx0, y0, z0, sz0⟩ := al3 w (.cells #[.int .i64 f0, .slice A1 n1 c1, .slice A2 n2 c2] 56) (.cells #[.int .i64 0, .slice none 0 0, .slice none 0 0] 61) (.cells #[.int .i64 f0, .slice none 0 0, .slice none 0 0] 61)
  have L0 : w.heap.size + 1 + 1 + 1 ≤ w0.heap.size := by omega
  go_enter Try.func31, Try.ntmps31
  go_wp2_with fail
  rw [← HW0.out]
  refine (toInt64SSA_any A1 n1 c1 v1 x1 _ (h1.below B0) (r1.below B0) s1 t1).mono ?_
  rintro z w1a ⟨rfl, ⟨us1, own1, ad1⟩, b1⟩
  have B0a := below_step B0 b1
  have hx0a := (b1.block _ (heap_lt hx0)).trans hx0
  have y0a := (b1.block _ (heap_lt y0)).trans y0
  have z0a := (b1.block _ (heap_lt z0)).trans z0
  have bz1 := b1.size
  have H1_0a := own1.held (Nat.le_refl _)
  obtain ⟨g1, hg1⟩ : ∃ g : Nat, g = w0.heap.size := ⟨_, rfl⟩
  obtain ⟨e1, he91⟩ : ∃ e : Nat, e = w1a.heap.size := ⟨_, rfl⟩
  rw [← hg1, ← he91] at H1_0a
  rw [← hg1]
  have LG1 : w.heap.size + 1 + 1 + 1 ≤ g1 := by omega
  have GE1 : g1 ≤ e1 := by omega
  have EW1 : e1 = w1a.heap.size := he91
  clear hg1
  obtain ⟨w1, HW1, B1, hx1, y1, z1, H1_1, SZ1⟩ : ∃ w1, Hid (w1 = (w1a.setCell ⟨w.heap.size + 1 + 1, 1, none⟩ (.slice (some ⟨g1, 0, none⟩) n1 n1))) ∧ Below w.heap.size w w1 ∧ w1.heap[w.heap.size]? = some (.cells #[.int .i64 f0, .slice A1 n1 c1, .slice A2 n2 c2] 56 (0, 0)) ∧ w1.heap[w.heap.size + 1]? = some (.cells #[.int .i64 0, .slice none 0 0, .slice none 0 0] 61 (0, 0)) ∧ w1.heap[w.heap.size + 1 + 1]? = some (.cells #[.int .i64 f0, .slice (some ⟨g1, 0, none⟩) n1 n1, .slice none 0 0] 61 (0, 0)) ∧ Held g1 e1 (Grid g1 e1 25 1 (.slice (some ⟨g1, 0, none⟩) n1 n1) n1 us1 2 1 us1 (itsOf oneI x1)) w1 ∧ w1a.heap.size = w1.heap.size := by
    refine ⟨_, rfl, ?_, ?_, ?_, ?_, ?_, ?_⟩
    · exact (B0a.setCell (p := ⟨w.heap.size + 1 + 1, 1, none⟩) (by simp; omega) _)
    · exact (heap_set_other hx0a ⟨w.heap.size + 1 + 1, 1, none⟩ (by dsimp only; omega) _)
    · exact (heap_set_other y0a ⟨w.heap.size + 1 + 1, 1, none⟩ (by dsimp only; omega) _)
    · exact (heap_set z0a (.slice (some ⟨g1, 0, none⟩) n1 n1))
    · exact H1_0a.far ((Touch.refl (w.heap.size + 1 + 1) (w.heap.size + 1 + 1 + 1) w1a).setCell (p := ⟨w.heap.size + 1 + 1, 1, none⟩) ⟨by simp, by simp⟩ _) (.inr LG1)
    · simp [World.setCell]
  have kz0 : w1a.frozen? ⟨w.heap.size + 1 + 1, 0, none⟩ = false := frozen_of_heap z0a
  have ez0_1 : ∃ u, w1a.cell? ⟨w.heap.size + 1 + 1, 1, none⟩ = some u := ⟨_, by rw [cell_of_heap z0a]; rfl⟩
  obtain ⟨oz0_1, ez0_1⟩ := ez0_1
  have fz0_1 : w1a.frozen? ⟨w.heap.size + 1 + 1, 1, none⟩ = false := frozen_of_heap z0a
  have cx0_2 : w1a.cell? ⟨w.heap.size, 2, none⟩ = some (.slice A2 n2 c2) := by rw [cell_of_heap hx0a]; rfl
  clear HW0 hx0 y0 z0 hx0a own1 H1_0a  y0a z0a
  go_wp2_with fail
  rw [← HW1.out]
  refine (toInt64S_any A2 n2 c2 x2 _ (h2.below B1) s2).mono ?_
  rintro z w2a ⟨rfl, own2, b2⟩
  have B1a := below_step B1 b2
  have hx1a := (b2.block _ (heap_lt hx1)).trans hx1
  have y1a := (b2.block _ (heap_lt y1)).trans y1
  have z1a := (b2.block _ (heap_lt z1)).trans z1
  have bz2 := b2.size
  have H2_1a := flat_of_own own2
  have H1_1a := H1_1.below b2
  obtain ⟨g2, hg2⟩ : ∃ g : Nat, g = w1.heap.size := ⟨_, rfl⟩
  obtain ⟨e2, he92⟩ : ∃ e : Nat, e = w2a.heap.size := ⟨_, rfl⟩
  rw [← hg2, ← he92] at H2_1a
  rw [← hg2]
  have LG2 : w.heap.size + 1 + 1 + 1 ≤ g2 := by omega
  have GE2 : g2 ≤ e2 := by omega
  have EW2 : e2 = w2a.heap.size := he92
  have EG2 : e1 ≤ g2 := by omega
  clear hg2
  obtain ⟨w2, HW2, B2, hx2, y2, z2, H1_2, H2_2, SZ2⟩ : ∃ w2, Hid (w2 = (w2a.setCell ⟨w.heap.size + 1 + 1, 2, none⟩ (.slice (some ⟨g2, 0, none⟩) n2 n2))) ∧ Below w.heap.size w w2 ∧ w2.heap[w.heap.size]? = some (.cells #[.int .i64 f0, .slice A1 n1 c1, .slice A2 n2 c2] 56 (0, 0)) ∧ w2.heap[w.heap.size + 1]? = some (.cells #[.int .i64 0, .slice none 0 0, .slice none 0 0] 61 (0, 0)) ∧ w2.heap[w.heap.size + 1 + 1]? = some (.cells #[.int .i64 f0, .slice (some ⟨g1, 0, none⟩) n1 n1, .slice (some ⟨g2, 0, none⟩) n2 n2] 61 (0, 0)) ∧ Held g1 e1 (Grid g1 e1 25 1 (.slice (some ⟨g1, 0, none⟩) n1 n1) n1 us1 2 1 us1 (itsOf oneI x1)) w2 ∧ Held g2 e2 (Flat g2 e2 2 1 (.slice (some ⟨g2, 0, none⟩) n2 n2) n2 (x2.map (Value.int .i64))) w2 ∧ w2a.heap.size = w2.heap.size := by
    refine ⟨_, rfl, ?_, ?_, ?_, ?_, ?_, ?_, ?_⟩
    · exact (B1a.setCell (p := ⟨w.heap.size + 1 + 1, 2, none⟩) (by simp; omega) _)
    · exact (heap_set_other hx1a ⟨w.heap.size + 1 + 1, 2, none⟩ (by dsimp only; omega) _)
    · exact (heap_set_other y1a ⟨w.heap.size + 1 + 1, 2, none⟩ (by dsimp only; omega) _)
    · exact (heap_set z1a (.slice (some ⟨g2, 0, none⟩) n2 n2))
    · exact H1_1a.far ((Touch.refl (w.heap.size + 1 + 1) (w.heap.size + 1 + 1 + 1) w2a).setCell (p := ⟨w.heap.size + 1 + 1, 2, none⟩) ⟨by simp, by simp⟩ _) (.inr LG1)
    · exact H2_1a.far ((Touch.refl (w.heap.size + 1 + 1) (w.heap.size + 1 + 1 + 1) w2a).setCell (p := ⟨w.heap.size + 1 + 1, 2, none⟩) ⟨by simp, by simp⟩ _) (.inr LG2)
    · simp [World.setCell]
  have kz1 : w2a.frozen? ⟨w.heap.size + 1 + 1, 0, none⟩ = false := frozen_of_heap z1a
  have ez1_2 : ∃ u, w2a.cell? ⟨w.heap.size + 1 + 1, 2, none⟩ = some u := ⟨_, by rw [cell_of_heap z1a]; rfl⟩
  obtain ⟨oz1_2, ez1_2⟩ := ez1_2
  have fz1_2 : w2a.frozen? ⟨w.heap.size + 1 + 1, 2, none⟩ = false := frozen_of_heap z1a
  clear HW1 hx1 y1 z1 hx1a own2 H1_1a H2_1a H1_1 
  have lz0 : w2a.cell? ⟨w.heap.size + 1 + 1, 0, none⟩ = some (.int .i64 f0) := by rw [cell_of_heap z1a]; rfl
  have ly0 : w2a.cell? ⟨w.heap.size + 1, 0, none⟩ = some (.int .i64 0) := by rw [cell_of_heap y1a]; rfl
  have fy0 : w2a.frozen? ⟨w.heap.size + 1, 0, none⟩ = false := frozen_of_heap y1a
  have lz1 : w2a.cell? ⟨w.heap.size + 1 + 1, 1, none⟩ = some (.slice (some ⟨g1, 0, none⟩) n1 n1) := by rw [cell_of_heap z1a]; rfl
  have ly1 : w2a.cell? ⟨w.heap.size + 1, 1, none⟩ = some (.slice none 0 0) := by rw [cell_of_heap y1a]; rfl
  have fy1 : w2a.frozen? ⟨w.heap.size + 1, 1, none⟩ = false := frozen_of_heap y1a
  have ly2 : w2a.cell? ⟨w.heap.size + 1, 2, none⟩ = some (.slice none 0 0) := by rw [cell_of_heap y1a]; rfl
  have fy2 : w2a.frozen? ⟨w.heap.size + 1, 2, none⟩ = false := frozen_of_heap y1a
  clear y1a z1a
  go_wp2
  refine bodyPost_ret (v := .agg #[.int .i64 f0, .slice (some ⟨g1, 0, none⟩) n1 n1, .slice (some ⟨g2, 0, none⟩) n2 n2]) (by simp [results, Try.results31, go_sem, ly0, ly1, ly2]) rfl ?_
  rw [← HW2.out]
  refine ⟨⟨g1, e1, us1, g2, e2, rfl, by omega, GE1, EG2, GE2, ?_, ?_, ?_, ad1⟩, ?_⟩
  · simp [World.setCell]; omega
  · exact H1_2.far ((((Touch.refl (w.heap.size + 1) (w.heap.size + 1 + 1) w2).setCell (p := ⟨w.heap.size + 1, 0, none⟩) ⟨by simp, by simp⟩ _).setCell (p := ⟨w.heap.size + 1, 1, none⟩) ⟨by simp, by simp⟩ _).setCell (p := ⟨w.heap.size + 1, 2, none⟩) ⟨by simp, by simp⟩ _) (.inr (by omega))
  · exact H2_2.far ((((Touch.refl (w.heap.size + 1) (w.heap.size + 1 + 1) w2).setCell (p := ⟨w.heap.size + 1, 0, none⟩) ⟨by simp, by simp⟩ _).setCell (p := ⟨w.heap.size + 1, 1, none⟩) ⟨by simp, by simp⟩ _).setCell (p := ⟨w.heap.size + 1, 2, none⟩) ⟨by simp, by simp⟩ _) (.inr (by omega))
  · exact (((B2.setCell (p := ⟨w.heap.size + 1, 0, none⟩) (by simp) _).setCell (p := ⟨w.heap.size + 1, 1, none⟩) (by simp) _).setCell (p := ⟨w.heap.size + 1, 2, none⟩) (by simp) _)

set_option maxRecDepth 100000 in
set_option maxHeartbeats 1000000 in
theorem szTagO_any (f0 : Int) (A1 : Option Addr) (n1 c1 : Nat) (v1 : List Value) (x1 : List (List Int)) (A2 : Option Addr) (n2 c2 : Nat) (x2 : List Int) (left : Int) (w : World) (h1 : Arg w A1 n1 v1) (r1 : Ins 1 oneI w v1 x1) (h2 : Arg w A2 n2 (x2.map (Value.int .i64))) (hl0 : 0 ≤ left) (hl1 : left ≤ 1048576) (u1 : n1 ≤ 9223372036854775807) (l1 : ∀ t ∈ x1, t.length ≤ 9223372036854775807) (u2 : n2 ≤ 9223372036854775807) :
    Calls Try.prog 29 #[.agg #[.int .i64 f0, .slice A1 n1 c1, .slice A2 n2 c2], .int .i64 left] w fun z w' => (∃ q : Int, z = .returned (.int .i64 q) ∧ SzOut ((n1 + sumLen x1) + (n2)) left q) ∧ Below w.heap.size w w' := by
  obtain ⟨w0, HW0, B0, hx0⟩ := al1 w (.cells #[.int .i64 f0, .slice A1 n1 c1, .slice A2 n2 c2] 56)
  obtain ⟨m1, hm1⟩ : ∃ m, Hid (m = n1 + sumLen x1) := ⟨_, rfl⟩
  rw [← hm1.out]
  by_cases y1 : (m1 : Int) ≤ left
  rotate_left
  · have Y := Lib.hid y1
    go_enter Try.func29, Try.ntmps29
    have lx1 : w0.cell? ⟨w.heap.size, 1, none⟩ = some (.slice A1 n1 c1) := by rw [cell_of_heap hx0]; rfl
    go_wp2_with fail
    rw [← HW0.out]
    refine (szInt64SS_any A1 n1 c1 v1 x1 (left) _ (h1.below B0) (r1.below B0) (by omega) (by omega) u1 l1).mono ?_
    rintro z w' ⟨⟨q1, rfl, hq1⟩, rfl⟩
    rw [← hm1.out] at hq1
    unfold SzOut at hq1
    obtain rfl : q1 = -1 := by omega
    go_wp2_with fail
    go_ret
    exact ⟨⟨_, rfl, szOut_no (by omega)⟩, B0⟩
  by_cases y2 : (m1 : Int) + (n2 : Int) ≤ left
  rotate_left
  · have Y := Lib.hid y2
    go_enter Try.func29, Try.ntmps29
    have lx1 : w0.cell? ⟨w.heap.size, 1, none⟩ = some (.slice A1 n1 c1) := by rw [cell_of_heap hx0]; rfl
    go_wp2_with fail
    rw [← HW0.out]
    refine (szInt64SS_any A1 n1 c1 v1 x1 (left) _ (h1.below B0) (r1.below B0) (by omega) (by omega) u1 l1).mono ?_
    rintro z w' ⟨⟨q1, rfl, hq1⟩, rfl⟩
    rw [← hm1.out] at hq1
    unfold SzOut at hq1
    obtain rfl : q1 = left - (m1 : Int) := by omega
    have nn1 : ¬ left - (m1 : Int) < 0 := by omega
    clear hq1
    have lx2 : w0.cell? ⟨w.heap.size, 2, none⟩ = some (.slice A2 n2 c2) := by rw [cell_of_heap hx0]; rfl
    go_wp2_with fail
    refine (inSzInt64S A2 n2 c2 (left - (m1 : Int)) _ (by omega) (by omega) (by omega)).mono ?_
    rintro z w' ⟨⟨q2, rfl, hq2⟩, rfl⟩
    unfold SzOut at hq2
    obtain rfl : q2 = -1 := by omega
    go_wp2_with fail
    go_ret
    exact ⟨⟨_, rfl, szOut_no (by omega)⟩, B0⟩
  go_enter Try.func29, Try.ntmps29
  have lx1 : w0.cell? ⟨w.heap.size, 1, none⟩ = some (.slice A1 n1 c1) := by rw [cell_of_heap hx0]; rfl
  go_wp2_with fail
  rw [← HW0.out]
  refine (szInt64SS_any A1 n1 c1 v1 x1 (left) _ (h1.below B0) (r1.below B0) (by omega) (by omega) u1 l1).mono ?_
  rintro z w' ⟨⟨q1, rfl, hq1⟩, rfl⟩
  rw [← hm1.out] at hq1
  unfold SzOut at hq1
  obtain rfl : q1 = left - (m1 : Int) := by omega
  have nn1 : ¬ left - (m1 : Int) < 0 := by omega
  clear hq1
  have lx2 : w0.cell? ⟨w.heap.size, 2, none⟩ = some (.slice A2 n2 c2) := by rw [cell_of_heap hx0]; rfl
  go_wp2_with fail
  refine (inSzInt64S A2 n2 c2 (left - (m1 : Int)) _ (by omega) (by omega) (by omega)).mono ?_
  rintro z w' ⟨⟨q2, rfl, hq2⟩, rfl⟩
  unfold SzOut at hq2
  obtain rfl : q2 = left - (m1 : Int) - (n2 : Int) := by omega
  have nn2 : ¬ left - (m1 : Int) - (n2 : Int) < 0 := by omega
  clear hq2
  go_wp2_with fail
  go_ret
  exact ⟨⟨_, rfl, szOut_yes (by omega) (by omega)⟩, B0⟩

theorem szTagO_is (f0 : Int) (A1 : Option Addr) (n1 c1 : Nat) (v1 : List Value) (x1 : List (List Int)) (A2 : Option Addr) (n2 c2 : Nat) (x2 : List Int) (left r : Nat) (w : World) (h1 : Arg w A1 n1 v1) (r1 : Ins 1 oneI w v1 x1) (h2 : Arg w A2 n2 (x2.map (Value.int .i64))) (hr : r + ((n1 + sumLen x1) + (n2)) = left) (hl1 : left ≤ 1048576) (u1 : n1 ≤ 9223372036854775807) (l1 : ∀ t ∈ x1, t.length ≤ 9223372036854775807) (u2 : n2 ≤ 9223372036854775807) :
    Calls Try.prog 29 #[.agg #[.int .i64 f0, .slice A1 n1 c1, .slice A2 n2 c2], .int .i64 left] w fun z w' => z = .returned (.int .i64 r) ∧ Below w.heap.size w w' := by
  refine (szTagO_any f0 A1 n1 c1 v1 x1 A2 n2 c2 x2 left w h1 r1 h2 (by omega) (by omega) u1 l1 u2).mono ?_
  rintro z w' ⟨⟨q, rfl, hq⟩, hb⟩
  unfold SzOut at hq
  obtain rfl : q = (r : Int) := by omega
  exact ⟨rfl, hb⟩
theorem szTagO_not (f0 : Int) (A1 : Option Addr) (n1 c1 : Nat) (v1 : List Value) (x1 : List (List Int)) (A2 : Option Addr) (n2 c2 : Nat) (x2 : List Int) (left : Nat) (w : World) (h1 : Arg w A1 n1 v1) (r1 : Ins 1 oneI w v1 x1) (h2 : Arg w A2 n2 (x2.map (Value.int .i64))) (hr : left < (n1 + sumLen x1) + (n2)) (hl1 : left ≤ 1048576) (u1 : n1 ≤ 9223372036854775807) (l1 : ∀ t ∈ x1, t.length ≤ 9223372036854775807) (u2 : n2 ≤ 9223372036854775807) :
    Calls Try.prog 29 #[.agg #[.int .i64 f0, .slice A1 n1 c1, .slice A2 n2 c2], .int .i64 left] w fun z w' => z = .returned (.int .i64 (-1)) ∧ Below w.heap.size w w' := by
  refine (szTagO_any f0 A1 n1 c1 v1 x1 A2 n2 c2 x2 left w h1 r1 h2 (by omega) (by omega) u1 l1 u2).mono ?_
  rintro z w' ⟨⟨q, rfl, hq⟩, hb⟩
  unfold SzOut at hq
  obtain rfl : q = -1 := by omega
  exact ⟨rfl, hb⟩

set_option maxRecDepth 100000 in
set_option maxHeartbeats 1000000 in
theorem eqTagO_same (f0 : Int) (A1 A1b : Option Addr) (n1 c1 c1b : Nat) (v1 v1b : List Value) (x1 : List (List Int)) (A2 A2b : Option Addr) (n2 c2 c2b : Nat) (x2 : List Int) (w : World) (h1 : Arg w A1 n1 v1) (r1 : Ins 1 oneI w v1 x1) (h1b : Arg w A1b n1 v1b) (r1b : Ins 1 oneI w v1b x1) (h2 : Arg w A2 n2 (x2.map (Value.int .i64))) (h2b : Arg w A2b n2 (x2.map (Value.int .i64))) (s1 : n1 ≤ 4194304) (t1 : sumLen x1 ≤ 4194304) (s2 : n2 ≤ 4194304) :
    Calls Try.prog 34 #[.agg #[.int .i64 f0, .slice A1 n1 c1, .slice A2 n2 c2], .agg #[.int .i64 f0, .slice A1b n1 c1b, .slice A2b n2 c2b]] w fun z w' => z = .returned (.bool true) ∧ Below w.heap.size w w' := by
  obtain ⟨w0, HW0, B0, hx0, y0⟩ := al2 w (.cells #[.int .i64 f0, .slice A1 n1 c1, .slice A2 n2 c2] 61) (.cells #[.int .i64 f0, .slice A1b n1 c1b, .slice A2b n2 c2b] 61)
  have E1 := fun W hA hu hB hv => eqInt64SS_any A1 A1b n1 n1 c1 c1b v1 v1b x1 x1 W hA hu hB hv s1 s1 t1 t1
  rw [decide_eq_true (rfl : x1 = x1)] at E1
  have HE1 := Lib.hid E1; clear E1
  have E2 := fun W hA hB => eqInt64S_any A2 A2b n2 n2 c2 c2b x2 x2 W hA hB s2 s2
  rw [decide_eq_true (rfl : x2 = x2)] at E2
  have HE2 := Lib.hid E2; clear E2
  go_enter Try.func34, Try.ntmps34
  have lx0 : w0.cell? ⟨w.heap.size, 0, none⟩ = some (.int .i64 f0) := by rw [cell_of_heap hx0]; rfl
  have ly0 : w0.cell? ⟨w.heap.size + 1, 0, none⟩ = some (.int .i64 f0) := by rw [cell_of_heap y0]; rfl
  have lx1 : w0.cell? ⟨w.heap.size, 1, none⟩ = some (.slice A1 n1 c1) := by rw [cell_of_heap hx0]; rfl
  have ly1 : w0.cell? ⟨w.heap.size + 1, 1, none⟩ = some (.slice A1b n1 c1b) := by rw [cell_of_heap y0]; rfl
  go_wp2_with fail
  rw [← HW0.out]
  refine (HE1.out _ (h1.below B0) (r1.below B0) (h1b.below B0) (r1b.below B0)).mono ?_
  rintro e w1 ⟨rfl, b1⟩
  have B1 := below_step B0 b1
  have hx1 := (b1.block _ (heap_lt hx0)).trans hx0
  have y1 := (b1.block _ (heap_lt y0)).trans y0
  clear lx0 ly0
  clear lx1 ly1
  have lx2 : w1.cell? ⟨w.heap.size, 2, none⟩ = some (.slice A2 n2 c2) := by rw [cell_of_heap hx1]; rfl
  have ly2 : w1.cell? ⟨w.heap.size + 1, 2, none⟩ = some (.slice A2b n2 c2b) := by rw [cell_of_heap y1]; rfl
  go_wp2_with fail
  refine (HE2.out _ (h2.below B1) (h2b.below B1)).mono ?_
  rintro e w2 ⟨rfl, hq⟩
  have b2 := quiet_q_belowTag hq
  clear hq
  have B2 := below_step B1 b2
  have hx2 := (b2.block _ (heap_lt hx1)).trans hx1
  have y2 := (b2.block _ (heap_lt y1)).trans y1
  clear lx2 ly2
  go_wp2_with fail
  go_ret
  exact ⟨rfl, B2⟩

set_option maxRecDepth 100000 in
set_option maxHeartbeats 1000000 in
theorem markTagO_any (f0 : Int) (g1 e1 n1 c1 : Nat) (us1 : List Value) (x1 : List (List Int)) (g2 e2 n2 c2 : Nat) (y2 : List Value) (k1 : Nat) (k : Int) (w : World) (h1 : Held g1 e1 (Grid g1 e1 25 1 (.slice (some ⟨g1, 0, none⟩) n1 c1) n1 us1 2 1 us1 (itsOf oneI x1)) w) (h2 : Held g2 e2 (Flat g2 e2 2 1 (.slice (some ⟨g2, 0, none⟩) n2 c2) n2 y2) w) (o2 : e1 ≤ g2) (ge1 : g1 ≤ e1) (ge2 : g2 ≤ e2) (hk1 : cellsIn 1 (itsOf oneI x1) = k1) (hb1 : k1 ≤ 8388608) (ht1 : ∀ it ∈ itsOf oneI x1, it.1 ≤ 4194304) (hkb0 : 0 ≤ k) (hkb1 : k ≤ 1073741824) (s1 : n1 ≤ 4194304) (s2 : n2 ≤ 4194304) :
    Calls Try.prog 35 #[.agg #[.int .i64 f0, .slice (some ⟨g1, 0, none⟩) n1 c1, .slice (some ⟨g2, 0, none⟩) n2 c2], .int .i64 k] w fun z w' => z = .returned (.int .i64 (k + (k1 : Int) + (n2 : Int))) ∧ Held g1 e1 (Grid g1 e1 25 1 (.slice (some ⟨g1, 0, none⟩) n1 c1) n1 us1 2 1 us1 (mks mkInt64S 1 (k) (itsOf oneI x1))) w' ∧ Held g2 e2 (Flat g2 e2 2 1 (.slice (some ⟨g2, 0, none⟩) n2 c2) n2 (marks mkInt64S (k + (k1 : Int)) n2)) w' ∧ Touch g1 e2 w w' := by
  obtain ⟨w0, HW0, B0, hx0⟩ := al1 w (.cells #[.int .i64 f0, .slice (some ⟨g1, 0, none⟩) n1 c1, .slice (some ⟨g2, 0, none⟩) n2 c2] 61)
  have T0 : Touch g1 e2 w w0 := Touch.of_below B0
  have H1 := h1.below B0; have le1 := h1.le
  have H2 := h2.below B0; have le2 := h2.le
  go_enter Try.func35, Try.ntmps35
  have lx1 : w0.cell? ⟨w.heap.size, 1, none⟩ = some (.slice (some ⟨g1, 0, none⟩) n1 c1) := by rw [cell_of_heap hx0]; rfl
  go_wp2_with fail
  rw [← HW0.out]
  refine (markInt64SS_is _ _ _ _ _ _ (k) k1 _ H1.is hk1 (by omega) (by omega) (by omega) ht1).mono ?_
  rintro z w1 ⟨rfl, o9, t9⟩
  have N1 := Grid.turn H1 o9 t9
  clear o9
  have H2q0 := H2.far t9 (.inr (by omega))
  have hx1 := (t9.block _ (heap_lt hx0) (.inr (by omega))).trans hx0
  have T1 := T0.trans (t9.mono (by omega) (by omega))
  clear t9 lx1
  have lx2 : w1.cell? ⟨w.heap.size, 2, none⟩ = some (.slice (some ⟨g2, 0, none⟩) n2 c2) := by rw [cell_of_heap hx1]; rfl
  go_wp2_with fail
  refine (markInt64S_any _ _ n2 (k + (k1 : Int)) _ _ H2q0.is.own (by omega) (by omega) (by omega)).mono ?_
  rintro z w2 ⟨rfl, o9, g9⟩
  obtain ⟨N2, t9⟩ := Flat.turn H2q0 o9 g9
  clear o9 g9
  have H1q1 := N1.far t9 (.inl (by omega))
  have hx2 := (t9.block _ (heap_lt hx1) (.inr (by omega))).trans hx1
  have T2 := T1.trans (t9.mono (by omega) (by omega))
  clear t9 lx2
  go_wp2_with fail
  go_ret
  exact ⟨rfl, H1q1, N2, T2⟩

end Go.Proofs.Ytcfkjigapnknnaa
