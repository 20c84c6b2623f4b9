/- Contracts of the laws' helpers on one Machine: copy, compare with a copy, size, mark, look at the marks. -/
import Derived.Test.YtjakgeblmkdbpaaHeld
import Derived.Test.YtjakgeblmkdbpaaSGrid
import Derived.Test.YtjakgeblmkdbpaaHelpRule
import Derived.Test.YtjakgeblmkdbpaaRec
import Derived.Test.YtjakgeblmkdbpaaInInt64S
import Derived.Test.YtjakgeblmkdbpaaSeq
namespace Go.Proofs.Ytjakgeblmkdbpaa
open Go.RowKit
set_option linter.all false

theorem quiet_q_belowMachine {w w' : World} (h : ∃ q, w' = w.drewN q) : Below w.heap.size w w' := by obtain ⟨q, hq⟩ := h; exact quiet_below hq

set_option maxRecDepth 100000 in
set_option maxHeartbeats 1000000 in
theorem toMachineO_any (f0 : Int) (f1 : Int) (A2 : Option Addr) (n2 c2 : Nat) (x2 : List R3) (w : World) (h2 : Args 3 w A2 n2 (rows R3.vs x2)) (s2 : n2 ≤ 1048576) :
    Calls Try.prog 10 #[.agg #[.int .i64 f0, .int .i64 f1, .slice A2 n2 c2]] w fun z w' => (∃ (g2 e2 : Nat), z = .returned (.agg #[.int .i64 f0, .int .i64 f1, .slice (some ⟨g2, 0, none⟩) n2 n2]) ∧ w.heap.size ≤ g2 ∧ g2 ≤ e2 ∧ e2 ≤ w'.heap.size ∧ Held g2 e2 (Flat g2 e2 136 3 (.slice (some ⟨g2, 0, none⟩) n2 n2) n2 (rows R3.vs x2)) w') ∧ Below w.heap.size w w' := by
  obtain ⟨w0, HW0, B0, hx0, y0, z0, sz0⟩ := al3 w (.cells #[.int .i64 f0, .int .i64 f1, .slice A2 n2 c2] 24) (.cells #[.int .i64 0, .int .i64 0, .slice none 0 0] 34) (.cells #[.int .i64 f0, .int .i64 f1, .slice none 0 0] 34)
  have L0 : w.heap.size + 1 + 1 + 1 ≤ w0.heap.size := by omega
  go_enter Try.func10, Try.ntmps10
  go_wp2_with fail
  rw [← HW0.out]
  refine (toRuleS_any A2 n2 c2 x2 _ (h2.below B0) s2).mono ?_
  rintro z w1a ⟨rfl, own2, b2⟩
  have B0a := below_step B0 b2
  have hx0a := (b2.block _ (heap_lt hx0)).trans hx0
  have y0a := (b2.block _ (heap_lt y0)).trans y0
  have z0a := (b2.block _ (heap_lt z0)).trans z0
  have bz2 := b2.size
  have H2_0a := flat_of_own own2
  obtain ⟨g2, hg2⟩ : ∃ g : Nat, g = w0.heap.size := ⟨_, rfl⟩
  obtain ⟨e2, he92⟩ : ∃ e : Nat, e = w1a.heap.size := ⟨_, rfl⟩
  rw [← hg2, ← he92] at H2_0a
  rw [← hg2]
  have LG2 : w.heap.size + 1 + 1 + 1 ≤ g2 := by omega
  have GE2 : g2 ≤ e2 := by omega
  have EW2 : e2 = w1a.heap.size := he92
  clear hg2
  obtain ⟨w1, HW1, B1, hx1, y1, z1, H2_1, SZ1⟩ : ∃ w1, Hid (w1 = (w1a.setCell ⟨w.heap.size + 1 + 1, 2, none⟩ (.slice (some ⟨g2, 0, none⟩) n2 n2))) ∧ Below w.heap.size w w1 ∧ w1.heap[w.heap.size]? = some (.cells #[.int .i64 f0, .int .i64 f1, .slice A2 n2 c2] 24 (0, 0)) ∧ w1.heap[w.heap.size + 1]? = some (.cells #[.int .i64 0, .int .i64 0, .slice none 0 0] 34 (0, 0)) ∧ w1.heap[w.heap.size + 1 + 1]? = some (.cells #[.int .i64 f0, .int .i64 f1, .slice (some ⟨g2, 0, none⟩) n2 n2] 34 (0, 0)) ∧ Held g2 e2 (Flat g2 e2 136 3 (.slice (some ⟨g2, 0, none⟩) n2 n2) n2 (rows R3.vs x2)) w1 ∧ w1a.heap.size = w1.heap.size := by
    refine ⟨_, rfl, ?_, ?_, ?_, ?_, ?_, ?_⟩
    · exact (B0a.setCell (p := ⟨w.heap.size + 1 + 1, 2, none⟩) (by simp; omega) _)
    · exact (heap_set_other hx0a ⟨w.heap.size + 1 + 1, 2, none⟩ (by dsimp only; omega) _)
    · exact (heap_set_other y0a ⟨w.heap.size + 1 + 1, 2, none⟩ (by dsimp only; omega) _)
    · exact (heap_set z0a (.slice (some ⟨g2, 0, none⟩) n2 n2))
    · exact H2_0a.far ((Touch.refl (w.heap.size + 1 + 1) (w.heap.size + 1 + 1 + 1) w1a).setCell (p := ⟨w.heap.size + 1 + 1, 2, none⟩) ⟨by simp, by simp⟩ _) (.inr LG2)
    · simp [World.setCell]
  have kz0 : w1a.frozen? ⟨w.heap.size + 1 + 1, 0, none⟩ = false := frozen_of_heap z0a
  have ez0_2 : ∃ u, w1a.cell? ⟨w.heap.size + 1 + 1, 2, none⟩ = some u := ⟨_, by rw [cell_of_heap z0a]; rfl⟩
  obtain ⟨oz0_2, ez0_2⟩ := ez0_2
  have fz0_2 : w1a.frozen? ⟨w.heap.size + 1 + 1, 2, none⟩ = false := frozen_of_heap z0a
  clear HW0 hx0 y0 z0 hx0a own2 H2_0a  
  have lz0 : w1a.cell? ⟨w.heap.size + 1 + 1, 0, none⟩ = some (.int .i64 f0) := by rw [cell_of_heap z0a]; rfl
  have ly0 : w1a.cell? ⟨w.heap.size + 1, 0, none⟩ = some (.int .i64 0) := by rw [cell_of_heap y0a]; rfl
  have fy0 : w1a.frozen? ⟨w.heap.size + 1, 0, none⟩ = false := frozen_of_heap y0a
  have lz1 : w1a.cell? ⟨w.heap.size + 1 + 1, 1, none⟩ = some (.int .i64 f1) := by rw [cell_of_heap z0a]; rfl
  have ly1 : w1a.cell? ⟨w.heap.size + 1, 1, none⟩ = some (.int .i64 0) := by rw [cell_of_heap y0a]; rfl
  have fy1 : w1a.frozen? ⟨w.heap.size + 1, 1, none⟩ = false := frozen_of_heap y0a
  have ly2 : w1a.cell? ⟨w.heap.size + 1, 2, none⟩ = some (.slice none 0 0) := by rw [cell_of_heap y0a]; rfl
  have fy2 : w1a.frozen? ⟨w.heap.size + 1, 2, none⟩ = false := frozen_of_heap y0a
  clear y0a z0a
  go_wp2
  refine bodyPost_ret (v := .agg #[.int .i64 f0, .int .i64 f1, .slice (some ⟨g2, 0, none⟩) n2 n2]) (by simp [results, Try.results10, go_sem, ly0, ly1, ly2]) rfl ?_
  rw [← HW1.out]
  refine ⟨⟨g2, e2, rfl, by omega, GE2, ?_, ?_⟩, ?_⟩
  · simp [World.setCell]; omega
  · exact H2_1.far ((((Touch.refl (w.heap.size + 1) (w.heap.size + 1 + 1) w1).setCell (p := ⟨w.heap.size + 1, 0, none⟩) ⟨by simp, by simp⟩ _).setCell (p := ⟨w.heap.size + 1, 1, none⟩) ⟨by simp, by simp⟩ _).setCell (p := ⟨w.heap.size + 1, 2, none⟩) ⟨by simp, by simp⟩ _) (.inr (by omega))
  · exact (((B1.setCell (p := ⟨w.heap.size + 1, 0, none⟩) (by simp) _).setCell (p := ⟨w.heap.size + 1, 1, none⟩) (by simp) _).setCell (p := ⟨w.heap.size + 1, 2, none⟩) (by simp) _)

set_option maxRecDepth 100000 in
set_option maxHeartbeats 1000000 in
theorem szMachineO_any (f0 : Int) (f1 : Int) (A2 : Option Addr) (n2 c2 : Nat) (x2 : List R3) (left : Int) (w : World) (h2 : Args 3 w A2 n2 (rows R3.vs x2)) (hl0 : 0 ≤ left) (hl1 : left ≤ 1048576) (u2 : n2 ≤ 9223372036854775807) :
    Calls Try.prog 7 #[.agg #[.int .i64 f0, .int .i64 f1, .slice A2 n2 c2], .int .i64 left] w fun z w' => (∃ q : Int, z = .returned (.int .i64 q) ∧ SzOut ((n2)) left q) ∧ Below w.heap.size w w' := by
  obtain ⟨w0, HW0, B0, hx0⟩ := al1 w (.cells #[.int .i64 f0, .int .i64 f1, .slice A2 n2 c2] 24)
  by_cases y2 : (n2 : Int) ≤ left
  rotate_left
  · have Y := Lib.hid y2
    go_enter Try.func7, Try.ntmps7
    have lx2 : w0.cell? ⟨w.heap.size, 2, none⟩ = some (.slice A2 n2 c2) := by rw [cell_of_heap hx0]; rfl
    go_wp2_with fail
    rw [← HW0.out]
    refine (szRuleS_any A2 n2 c2 (left) _ (by omega) (by omega) (by omega)).mono ?_
    rintro z w' ⟨he, rfl⟩
    obtain ⟨q2, hq9⟩ : ∃ q : Int, q = (if (n2 : Int) ≤ left then left - n2 else -1) := ⟨_, rfl⟩
    rw [← hq9] at he
    subst he
    have hq2 : SzOut n2 (left) q2 := by unfold SzOut; rw [hq9]; split <;> omega
    clear hq9
    unfold SzOut at hq2
    obtain rfl : q2 = -1 := by omega
    go_wp2_with fail
    go_ret
    exact ⟨⟨_, rfl, szOut_no (by omega)⟩, B0⟩
  go_enter Try.func7, Try.ntmps7
  have lx2 : w0.cell? ⟨w.heap.size, 2, none⟩ = some (.slice A2 n2 c2) := by rw [cell_of_heap hx0]; rfl
  go_wp2_with fail
  rw [← HW0.out]
  refine (szRuleS_any A2 n2 c2 (left) _ (by omega) (by omega) (by omega)).mono ?_
  rintro z w' ⟨he, rfl⟩
  obtain ⟨q2, hq9⟩ : ∃ q : Int, q = (if (n2 : Int) ≤ left then left - n2 else -1) := ⟨_, rfl⟩
  rw [← hq9] at he
  subst he
  have hq2 : SzOut n2 (left) q2 := by unfold SzOut; rw [hq9]; split <;> omega
  clear hq9
  unfold SzOut at hq2
  obtain rfl : q2 = left - (n2 : Int) := by omega
  have nn2 : ¬ left - (n2 : Int) < 0 := by omega
  clear hq2
  go_wp2_with fail
  go_ret
  exact ⟨⟨_, rfl, szOut_yes (by omega) (by omega)⟩, B0⟩

theorem szMachineO_is (f0 : Int) (f1 : Int) (A2 : Option Addr) (n2 c2 : Nat) (x2 : List R3) (left r : Nat) (w : World) (h2 : Args 3 w A2 n2 (rows R3.vs x2)) (hr : r + ((n2)) = left) (hl1 : left ≤ 1048576) (u2 : n2 ≤ 9223372036854775807) :
    Calls Try.prog 7 #[.agg #[.int .i64 f0, .int .i64 f1, .slice A2 n2 c2], .int .i64 left] w fun z w' => z = .returned (.int .i64 r) ∧ Below w.heap.size w w' := by
  refine (szMachineO_any f0 f1 A2 n2 c2 x2 left w h2 (by omega) (by omega) u2).mono ?_
  rintro z w' ⟨⟨q, rfl, hq⟩, hb⟩
  unfold SzOut at hq
  obtain rfl : q = (r : Int) := by omega
  exact ⟨rfl, hb⟩
theorem szMachineO_not (f0 : Int) (f1 : Int) (A2 : Option Addr) (n2 c2 : Nat) (x2 : List R3) (left : Nat) (w : World) (h2 : Args 3 w A2 n2 (rows R3.vs x2)) (hr : left < (n2)) (hl1 : left ≤ 1048576) (u2 : n2 ≤ 9223372036854775807) :
    Calls Try.prog 7 #[.agg #[.int .i64 f0, .int .i64 f1, .slice A2 n2 c2], .int .i64 left] w fun z w' => z = .returned (.int .i64 (-1)) ∧ Below w.heap.size w w' := by
  refine (szMachineO_any f0 f1 A2 n2 c2 x2 left w h2 (by omega) (by omega) u2).mono ?_
  rintro z w' ⟨⟨q, rfl, hq⟩, hb⟩
  unfold SzOut at hq
  obtain rfl : q = -1 := by omega
  exact ⟨rfl, hb⟩

set_option maxRecDepth 100000 in
set_option maxHeartbeats 1000000 in
theorem eqMachineO_same (f0 : Int) (f1 : Int) (A2 A2b : Option Addr) (n2 c2 c2b : Nat) (x2 : List R3) (w : World) (h2 : Args 3 w A2 n2 (rows R3.vs x2)) (h2b : Args 3 w A2b n2 (rows R3.vs x2)) (s2 : n2 ≤ 4194304) :
    Calls Try.prog 13 #[.agg #[.int .i64 f0, .int .i64 f1, .slice A2 n2 c2], .agg #[.int .i64 f0, .int .i64 f1, .slice A2b n2 c2b]] w fun z w' => z = .returned (.bool true) ∧ Below w.heap.size w w' := by
  obtain ⟨w0, HW0, B0, hx0, y0⟩ := al2 w (.cells #[.int .i64 f0, .int .i64 f1, .slice A2 n2 c2] 34) (.cells #[.int .i64 f0, .int .i64 f1, .slice A2b n2 c2b] 34)
  have E2 := fun W hA hB => eqRuleS_any A2 A2b n2 n2 c2 c2b x2 x2 W hA hB s2 s2
  rw [decide_eq_true (rfl : x2 = x2)] at E2
  have HE2 := Lib.hid E2; clear E2
  go_enter Try.func13, Try.ntmps13
  have lx0 : w0.cell? ⟨w.heap.size, 0, none⟩ = some (.int .i64 f0) := by rw [cell_of_heap hx0]; rfl
  have ly0 : w0.cell? ⟨w.heap.size + 1, 0, none⟩ = some (.int .i64 f0) := by rw [cell_of_heap y0]; rfl
  have lx1 : w0.cell? ⟨w.heap.size, 1, none⟩ = some (.int .i64 f1) := by rw [cell_of_heap hx0]; rfl
  have ly1 : w0.cell? ⟨w.heap.size + 1, 1, none⟩ = some (.int .i64 f1) := by rw [cell_of_heap y0]; rfl
  have lx2 : w0.cell? ⟨w.heap.size, 2, none⟩ = some (.slice A2 n2 c2) := by rw [cell_of_heap hx0]; rfl
  have ly2 : w0.cell? ⟨w.heap.size + 1, 2, none⟩ = some (.slice A2b n2 c2b) := by rw [cell_of_heap y0]; rfl
  go_wp2_with fail
  rw [← HW0.out]
  refine (HE2.out _ (h2.below B0) (h2b.below B0)).mono ?_
  rintro e w1 ⟨rfl, b1⟩
  have B1 := below_step B0 b1
  have hx1 := (b1.block _ (heap_lt hx0)).trans hx0
  have y1 := (b1.block _ (heap_lt y0)).trans y0
  clear lx0 ly0
  clear lx1 ly1
  clear lx2 ly2
  go_wp2_with fail
  go_ret
  exact ⟨rfl, B1⟩

set_option maxRecDepth 100000 in
set_option maxHeartbeats 1000000 in
theorem markMachineO_any (f0 : Int) (f1 : Int) (g2 e2 n2 c2 : Nat) (y2 : List Value)  (k : Int) (w : World) (h2 : Held g2 e2 (Flat g2 e2 136 3 (.slice (some ⟨g2, 0, none⟩) n2 c2) n2 y2) w)  (ge2 : g2 ≤ e2)  (hkb0 : 0 ≤ k) (hkb1 : k ≤ 1073741824) (s2 : n2 ≤ 4194304) :
    Calls Try.prog 29 #[.agg #[.int .i64 f0, .int .i64 f1, .slice (some ⟨g2, 0, none⟩) n2 c2], .int .i64 k] w fun z w' => z = .returned (.int .i64 (k + ((n2 * 3 : Nat) : Int))) ∧ Held g2 e2 (Flat g2 e2 136 3 (.slice (some ⟨g2, 0, none⟩) n2 c2) n2 (marks (.int .i64) (k) (n2 * 3))) w' ∧ Touch g2 e2 w w' := by
  obtain ⟨w0, HW0, B0, hx0⟩ := al1 w (.cells #[.int .i64 f0, .int .i64 f1, .slice (some ⟨g2, 0, none⟩) n2 c2] 34)
  have T0 : Touch g2 e2 w w0 := Touch.of_below B0
  have H2 := h2.below B0; have le2 := h2.le
  go_enter Try.func29, Try.ntmps29
  have lx2 : w0.cell? ⟨w.heap.size, 2, none⟩ = some (.slice (some ⟨g2, 0, none⟩) n2 c2) := by rw [cell_of_heap hx0]; rfl
  go_wp2_with fail
  rw [← HW0.out]
  refine (markRuleS_any _ _ n2 (k) _ _ H2.is.own (by omega) (by omega) (by omega)).mono ?_
  rintro z w1 ⟨rfl, o9, g9⟩
  obtain ⟨N2, t9⟩ := Flat.turn H2 o9 g9
  clear o9 g9
  have hx1 := (t9.block _ (heap_lt hx0) (.inr (by omega))).trans hx0
  have T1 := T0.trans (t9.mono (by omega) (by omega))
  clear t9 lx2
  go_wp2_with fail
  go_ret
  exact ⟨rfl, N2, T1⟩

end Go.Proofs.Ytjakgeblmkdbpaa
