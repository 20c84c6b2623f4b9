/- The law FnExactMultiConfigText returns true for every input, and each argument reads afterwards as before: the proof, part 8. No conditions. -/
import Derived.Test.YtgcedfpjgdeakaaDoorMultiConfigTextZg
import Derived.ProofKit
import Derived.OpenShut
import Derived.ShutString
import Derived.ChangeOld
import Derived.Deep.Slices
import Derived.Deep.Fields
import Derived.ChangeSame
import Derived.Test.YtgcedfpjgdeakaaDoorCards
import Derived.Test.YtgcedfpjgdeakaaDoorTie
import Derived.LaidMore
import Derived.Lay
import Derived.SevenTiedAt
import Derived.Stop.Joined
/- Contracts of the laws' helpers on one Multi: copy, compare with a copy, size, mark, look at the marks. -/
namespace Go.Proofs.YtgcedfpjgdeakaaDoor
open Go.RowKit
set_option linter.all false

theorem quiet_q_belowMulti {w w' : World} (h : ∃ q, w' = w.drewN q) : Below w.heap.size w w' := by obtain ⟨q, hq⟩ := h; exact quiet_below hq

set_option maxRecDepth 100000 in
set_option maxHeartbeats 1000000 in
theorem toMultiO_any (f0 : Int) (f1 : Int) (f2 : Int) (A3 : Option Addr) (n3 c3 : Nat) (x3 : List EMultiRule) (w : World) (h3 : Args 5 w A3 n3 (rows EMultiRule.vs x3)) (r3 : RdsMultiRule w x3) (s3 : n3 ≤ 1048576) (t3 : sumMultiRule (x3.map (·.d)) ≤ 1048576) :
    Calls Tryd.prog 13 #[.agg #[.int .i64 f0, .int .i64 f1, .int .i64 f2, .slice A3 n3 c3]] w fun z w' => (∃ (g3 e3 : Nat) (es3 : List EMultiRule), z = .returned (.agg #[.int .i64 f0, .int .i64 f1, .int .i64 f2, .slice (some ⟨g3, 0, none⟩) n3 n3]) ∧ w.heap.size ≤ g3 ∧ g3 ≤ e3 ∧ e3 ≤ w'.heap.size ∧ Held g3 e3 (SGrid kndMultiRule g3 e3 90 2 1 (.slice (some ⟨g3, 0, none⟩) n3 n3) es3) w' ∧ es3.map (·.d) = x3.map (·.d) ∧ (∀ e ∈ es3, adrMultiRule w'.heap.size e)) ∧ Below w.heap.size w w' := by
  obtain ⟨w0, HW0, B0, hx0, y0, z0, sz0⟩ := al3 w (.cells #[.int .i64 f0, .int .i64 f1, .int .i64 f2, .slice A3 n3 c3] 30) (.cells #[.int .i64 0, .int .i64 0, .int .i64 0, .slice none 0 0] 39) (.cells #[.int .i64 f0, .int .i64 f1, .int .i64 f2, .slice none 0 0] 39)
  have L0 : w.heap.size + 1 + 1 + 1 ≤ w0.heap.size := by omega
  go_enter Tryd.func13, Tryd.ntmps13
  go_wp2_with fail
  rw [← HW0.out]
  refine (toMultiRuleS_any A3 n3 c3 x3 _ (h3.below B0) (r3.below B0) s3 t3).mono ?_
  rintro z w1a ⟨rfl, ⟨es3, own3, he3, ad3⟩, b3⟩
  have B0a := below_step B0 b3
  have hx0a := (b3.block _ (heap_lt hx0)).trans hx0
  have y0a := (b3.block _ (heap_lt y0)).trans y0
  have z0a := (b3.block _ (heap_lt z0)).trans z0
  have bz3 := b3.size
  have H3_0a := own3.held (Nat.le_refl _)
  obtain ⟨g3, hg3⟩ : ∃ g : Nat, g = w0.heap.size := ⟨_, rfl⟩
  obtain ⟨e3, he93⟩ : ∃ e : Nat, e = w1a.heap.size := ⟨_, rfl⟩
  rw [← hg3, ← he93] at H3_0a
  rw [← hg3]
  have LG3 : w.heap.size + 1 + 1 + 1 ≤ g3 := by omega
  have GE3 : g3 ≤ e3 := by omega
  have EW3 : e3 = w1a.heap.size := he93
  clear hg3
  obtain ⟨w1, HW1, B1, hx1, y1, z1, H3_1, SZ1⟩ : ∃ w1, Hid (w1 = (w1a.setCell ⟨w.heap.size + 1 + 1, 3, none⟩ (.slice (some ⟨g3, 0, none⟩) n3 n3))) ∧ Below w.heap.size w w1 ∧ w1.heap[w.heap.size]? = some (.cells #[.int .i64 f0, .int .i64 f1, .int .i64 f2, .slice A3 n3 c3] 30 (0, 0)) ∧ w1.heap[w.heap.size + 1]? = some (.cells #[.int .i64 0, .int .i64 0, .int .i64 0, .slice none 0 0] 39 (0, 0)) ∧ w1.heap[w.heap.size + 1 + 1]? = some (.cells #[.int .i64 f0, .int .i64 f1, .int .i64 f2, .slice (some ⟨g3, 0, none⟩) n3 n3] 39 (0, 0)) ∧ Held g3 e3 (SGrid kndMultiRule g3 e3 90 2 1 (.slice (some ⟨g3, 0, none⟩) n3 n3) es3) w1 ∧ w1a.heap.size = w1.heap.size := by
    refine ⟨_, rfl, ?_, ?_, ?_, ?_, ?_, ?_⟩
    · exact (B0a.setCell (p := ⟨w.heap.size + 1 + 1, 3, none⟩) (by simp; omega) _)
    · exact (heap_set_other hx0a ⟨w.heap.size + 1 + 1, 3, none⟩ (by dsimp only; omega) _)
    · exact (heap_set_other y0a ⟨w.heap.size + 1 + 1, 3, none⟩ (by dsimp only; omega) _)
    · exact (heap_set z0a (.slice (some ⟨g3, 0, none⟩) n3 n3))
    · exact H3_0a.far ((Touch.refl (w.heap.size + 1 + 1) (w.heap.size + 1 + 1 + 1) w1a).setCell (p := ⟨w.heap.size + 1 + 1, 3, none⟩) ⟨by simp, by simp⟩ _) (.inr LG3)
    · simp [World.setCell]
  have kz0 : w1a.frozen? ⟨w.heap.size + 1 + 1, 0, none⟩ = false := frozen_of_heap z0a
  have ez0_3 : ∃ u, w1a.cell? ⟨w.heap.size + 1 + 1, 3, none⟩ = some u := ⟨_, by rw [cell_of_heap z0a]; rfl⟩
  obtain ⟨oz0_3, ez0_3⟩ := ez0_3
  have fz0_3 : w1a.frozen? ⟨w.heap.size + 1 + 1, 3, none⟩ = false := frozen_of_heap z0a
  clear HW0 hx0 y0 z0 hx0a own3 H3_0a  
  have lz0 : w1a.cell? ⟨w.heap.size + 1 + 1, 0, none⟩ = some (.int .i64 f0) := by rw [cell_of_heap z0a]; rfl
  have ly0 : w1a.cell? ⟨w.heap.size + 1, 0, none⟩ = some (.int .i64 0) := by rw [cell_of_heap y0a]; rfl
  have fy0 : w1a.frozen? ⟨w.heap.size + 1, 0, none⟩ = false := frozen_of_heap y0a
  have lz1 : w1a.cell? ⟨w.heap.size + 1 + 1, 1, none⟩ = some (.int .i64 f1) := by rw [cell_of_heap z0a]; rfl
  have ly1 : w1a.cell? ⟨w.heap.size + 1, 1, none⟩ = some (.int .i64 0) := by rw [cell_of_heap y0a]; rfl
  have fy1 : w1a.frozen? ⟨w.heap.size + 1, 1, none⟩ = false := frozen_of_heap y0a
  have lz2 : w1a.cell? ⟨w.heap.size + 1 + 1, 2, none⟩ = some (.int .i64 f2) := by rw [cell_of_heap z0a]; rfl
  have ly2 : w1a.cell? ⟨w.heap.size + 1, 2, none⟩ = some (.int .i64 0) := by rw [cell_of_heap y0a]; rfl
  have fy2 : w1a.frozen? ⟨w.heap.size + 1, 2, none⟩ = false := frozen_of_heap y0a
  have ly3 : w1a.cell? ⟨w.heap.size + 1, 3, none⟩ = some (.slice none 0 0) := by rw [cell_of_heap y0a]; rfl
  have fy3 : w1a.frozen? ⟨w.heap.size + 1, 3, none⟩ = false := frozen_of_heap y0a
  clear y0a z0a
  go_wp2
  refine bodyPost_ret (v := .agg #[.int .i64 f0, .int .i64 f1, .int .i64 f2, .slice (some ⟨g3, 0, none⟩) n3 n3]) (by simp [results, Tryd.results13, go_sem, ly0, ly1, ly2, ly3]) rfl ?_
  rw [← HW1.out]
  refine ⟨⟨g3, e3, es3, rfl, by omega, GE3, ?_, ?_, he3, ?_⟩, ?_⟩
  · simp [World.setCell]; omega
  · exact H3_1.far (((((Touch.refl (w.heap.size + 1) (w.heap.size + 1 + 1) w1).setCell (p := ⟨w.heap.size + 1, 0, none⟩) ⟨by simp, by simp⟩ _).setCell (p := ⟨w.heap.size + 1, 1, none⟩) ⟨by simp, by simp⟩ _).setCell (p := ⟨w.heap.size + 1, 2, none⟩) ⟨by simp, by simp⟩ _).setCell (p := ⟨w.heap.size + 1, 3, none⟩) ⟨by simp, by simp⟩ _) (.inr (by omega))
  · intro e he; exact (ad3 e he).mono (by simp [World.setCell]; omega)
  · exact ((((B1.setCell (p := ⟨w.heap.size + 1, 0, none⟩) (by simp) _).setCell (p := ⟨w.heap.size + 1, 1, none⟩) (by simp) _).setCell (p := ⟨w.heap.size + 1, 2, none⟩) (by simp) _).setCell (p := ⟨w.heap.size + 1, 3, none⟩) (by simp) _)

set_option maxRecDepth 100000 in
set_option maxHeartbeats 1000000 in
theorem szMultiO_any (f0 : Int) (f1 : Int) (f2 : Int) (A3 : Option Addr) (n3 c3 : Nat) (x3 : List EMultiRule) (left : Int) (w : World) (h3 : Args 5 w A3 n3 (rows EMultiRule.vs x3)) (r3 : RdsMultiRule w x3) (hl0 : 0 ≤ left) (hl1 : left ≤ 1048576) (u3 : n3 ≤ 9223372036854775807) (l3 : ∀ e ∈ x3, wbMultiRule 9223372036854775807 e.d) :
    Calls Tryd.prog 10 #[.agg #[.int .i64 f0, .int .i64 f1, .int .i64 f2, .slice A3 n3 c3], .int .i64 left] w fun z w' => (∃ q : Int, z = .returned (.int .i64 q) ∧ SzOut ((n3 + sumMultiRule (x3.map (·.d)))) left q) ∧ Below w.heap.size w w' := by
  obtain ⟨w0, HW0, B0, hx0⟩ := al1 w (.cells #[.int .i64 f0, .int .i64 f1, .int .i64 f2, .slice A3 n3 c3] 30)
  obtain ⟨m3, hm3⟩ : ∃ m, Hid (m = n3 + sumMultiRule (x3.map (·.d))) := ⟨_, rfl⟩
  rw [← hm3.out]
  by_cases y3 : (m3 : Int) ≤ left
  rotate_left
  · have Y := Lib.hid y3
    go_enter Tryd.func10, Tryd.ntmps10
    have lx3 : w0.cell? ⟨w.heap.size, 3, none⟩ = some (.slice A3 n3 c3) := by rw [cell_of_heap hx0]; rfl
    go_wp2_with fail
    rw [← HW0.out]
    refine (szMultiRuleS_any A3 n3 c3 x3 (left) _ (h3.below B0) (r3.below B0) (by omega) (by omega) u3 l3).mono ?_
    rintro z w1 ⟨⟨q3, rfl, hq3⟩, b1⟩
    have B1 := below_step B0 b1
    have hx1 := (b1.block _ (heap_lt hx0)).trans hx0
    rw [← hm3.out] at hq3
    unfold SzOut at hq3
    obtain rfl : q3 = -1 := by omega
    go_wp2_with fail
    go_ret
    exact ⟨⟨_, rfl, szOut_no (by omega)⟩, B1⟩
  go_enter Tryd.func10, Tryd.ntmps10
  have lx3 : w0.cell? ⟨w.heap.size, 3, none⟩ = some (.slice A3 n3 c3) := by rw [cell_of_heap hx0]; rfl
  go_wp2_with fail
  rw [← HW0.out]
  refine (szMultiRuleS_any A3 n3 c3 x3 (left) _ (h3.below B0) (r3.below B0) (by omega) (by omega) u3 l3).mono ?_
  rintro z w1 ⟨⟨q3, rfl, hq3⟩, b1⟩
  have B1 := below_step B0 b1
  have hx1 := (b1.block _ (heap_lt hx0)).trans hx0
  rw [← hm3.out] at hq3
  unfold SzOut at hq3
  obtain rfl : q3 = left - (m3 : Int) := by omega
  have nn3 : ¬ left - (m3 : Int) < 0 := by omega
  clear hq3
  go_wp2_with fail
  go_ret
  exact ⟨⟨_, rfl, szOut_yes (by omega) (by omega)⟩, B1⟩

theorem szMultiO_is (f0 : Int) (f1 : Int) (f2 : Int) (A3 : Option Addr) (n3 c3 : Nat) (x3 : List EMultiRule) (left r : Nat) (w : World) (h3 : Args 5 w A3 n3 (rows EMultiRule.vs x3)) (r3 : RdsMultiRule w x3) (hr : r + ((n3 + sumMultiRule (x3.map (·.d)))) = left) (hl1 : left ≤ 1048576) (u3 : n3 ≤ 9223372036854775807) (l3 : ∀ e ∈ x3, wbMultiRule 9223372036854775807 e.d) :
    Calls Tryd.prog 10 #[.agg #[.int .i64 f0, .int .i64 f1, .int .i64 f2, .slice A3 n3 c3], .int .i64 left] w fun z w' => z = .returned (.int .i64 r) ∧ Below w.heap.size w w' := by
  refine (szMultiO_any f0 f1 f2 A3 n3 c3 x3 left w h3 r3 (by omega) (by omega) u3 l3).mono ?_
  rintro z w' ⟨⟨q, rfl, hq⟩, hb⟩
  unfold SzOut at hq
  obtain rfl : q = (r : Int) := by omega
  exact ⟨rfl, hb⟩
theorem szMultiO_not (f0 : Int) (f1 : Int) (f2 : Int) (A3 : Option Addr) (n3 c3 : Nat) (x3 : List EMultiRule) (left : Nat) (w : World) (h3 : Args 5 w A3 n3 (rows EMultiRule.vs x3)) (r3 : RdsMultiRule w x3) (hr : left < (n3 + sumMultiRule (x3.map (·.d)))) (hl1 : left ≤ 1048576) (u3 : n3 ≤ 9223372036854775807) (l3 : ∀ e ∈ x3, wbMultiRule 9223372036854775807 e.d) :
    Calls Tryd.prog 10 #[.agg #[.int .i64 f0, .int .i64 f1, .int .i64 f2, .slice A3 n3 c3], .int .i64 left] w fun z w' => z = .returned (.int .i64 (-1)) ∧ Below w.heap.size w w' := by
  refine (szMultiO_any f0 f1 f2 A3 n3 c3 x3 left w h3 r3 (by omega) (by omega) u3 l3).mono ?_
  rintro z w' ⟨⟨q, rfl, hq⟩, hb⟩
  unfold SzOut at hq
  obtain rfl : q = -1 := by omega
  exact ⟨rfl, hb⟩

set_option maxRecDepth 100000 in
set_option maxHeartbeats 1000000 in
theorem eqMultiO_same (f0 : Int) (f1 : Int) (f2 : Int) (A3 A3b : Option Addr) (n3 c3 c3b : Nat) (x3 x3b : List EMultiRule) (w : World) (h3 : Args 5 w A3 n3 (rows EMultiRule.vs x3)) (r3 : RdsMultiRule w x3) (h3b : Args 5 w A3b n3 (rows EMultiRule.vs x3b)) (r3b : RdsMultiRule w x3b) (d3 : x3.map (·.d) = x3b.map (·.d)) (s3 : n3 ≤ 4194304) (t3 : sumMultiRule (x3.map (·.d)) ≤ 4194304) :
    Calls Tryd.prog 16 #[.agg #[.int .i64 f0, .int .i64 f1, .int .i64 f2, .slice A3 n3 c3], .agg #[.int .i64 f0, .int .i64 f1, .int .i64 f2, .slice A3b n3 c3b]] w fun z w' => z = .returned (.bool true) ∧ Below w.heap.size w w' := by
  obtain ⟨w0, HW0, B0, hx0, y0⟩ := al2 w (.cells #[.int .i64 f0, .int .i64 f1, .int .i64 f2, .slice A3 n3 c3] 39) (.cells #[.int .i64 f0, .int .i64 f1, .int .i64 f2, .slice A3b n3 c3b] 39)
  have E3 := fun W hA hu hB hv => eqMultiRuleS_any A3 A3b n3 n3 c3 c3b x3 x3b W hA hu hB hv s3 s3 t3 (by rw [← d3]; exact t3)
  rw [decide_eq_true d3] at E3
  have HE3 := Lib.hid E3; clear E3
  go_enter Tryd.func16, Tryd.ntmps16
  have lx0 : w0.cell? ⟨w.heap.size, 0, none⟩ = some (.int .i64 f0) := by rw [cell_of_heap hx0]; rfl
  have ly0 : w0.cell? ⟨w.heap.size + 1, 0, none⟩ = some (.int .i64 f0) := by rw [cell_of_heap y0]; rfl
  have lx1 : w0.cell? ⟨w.heap.size, 1, none⟩ = some (.int .i64 f1) := by rw [cell_of_heap hx0]; rfl
  have ly1 : w0.cell? ⟨w.heap.size + 1, 1, none⟩ = some (.int .i64 f1) := by rw [cell_of_heap y0]; rfl
  have lx2 : w0.cell? ⟨w.heap.size, 2, none⟩ = some (.int .i64 f2) := by rw [cell_of_heap hx0]; rfl
  have ly2 : w0.cell? ⟨w.heap.size + 1, 2, none⟩ = some (.int .i64 f2) := by rw [cell_of_heap y0]; rfl
  have lx3 : w0.cell? ⟨w.heap.size, 3, none⟩ = some (.slice A3 n3 c3) := by rw [cell_of_heap hx0]; rfl
  have ly3 : w0.cell? ⟨w.heap.size + 1, 3, none⟩ = some (.slice A3b n3 c3b) := by rw [cell_of_heap y0]; rfl
  go_wp2_with fail
  rw [← HW0.out]
  refine (HE3.out _ (h3.below B0) (r3.below B0) (h3b.below B0) (r3b.below B0)).mono ?_
  rintro e w1 ⟨rfl, b1⟩
  have B1 := below_step B0 b1
  have hx1 := (b1.block _ (heap_lt hx0)).trans hx0
  have y1 := (b1.block _ (heap_lt y0)).trans y0
  clear lx0 ly0
  clear lx1 ly1
  clear lx2 ly2
  clear lx3 ly3
  go_wp2_with fail
  go_ret
  exact ⟨rfl, B1⟩

end Go.Proofs.YtgcedfpjgdeakaaDoor

/- Contracts of the laws' helpers on one MultiConfig: copy, compare with a copy, size, mark, look at the marks. -/
namespace Go.Proofs.YtgcedfpjgdeakaaDoor
open Go.RowKit
set_option linter.all false

theorem quiet_q_belowMultiConfig {w w' : World} (h : ∃ q, w' = w.drewN q) : Below w.heap.size w w' := by obtain ⟨q, hq⟩ := h; exact quiet_below hq

set_option maxRecDepth 100000 in
set_option maxHeartbeats 1000000 in
theorem toMultiConfigO_any (f0 : Int) (A1 : Option Addr) (n1 c1 : Nat) (x1 : List ETape) (w : World) (h1 : Args 2 w A1 n1 (rows ETape.vs x1)) (r1 : RdsTape w x1) (s1 : n1 ≤ 1048576) (t1 : sumTape (x1.map (·.d)) ≤ 1048576) :
    Calls Tryd.prog 14 #[.agg #[.int .i64 f0, .slice A1 n1 c1]] w fun z w' => (∃ (g1 e1 : Nat) (es1 : List ETape), z = .returned (.agg #[.int .i64 f0, .slice (some ⟨g1, 0, none⟩) n1 n1]) ∧ w.heap.size ≤ g1 ∧ g1 ≤ e1 ∧ e1 ≤ w'.heap.size ∧ Held g1 e1 (SGrid kndTape g1 e1 94 2 1 (.slice (some ⟨g1, 0, none⟩) n1 n1) es1) w' ∧ es1.map (·.d) = x1.map (·.d) ∧ (∀ e ∈ es1, adrTape w'.heap.size e)) ∧ Below w.heap.size w w' := by
  obtain ⟨w0, HW0, B0, hx0, y0, z0, sz0⟩ := al3 w (.cells #[.int .i64 f0, .slice A1 n1 c1] 33) (.cells #[.int .i64 0, .slice none 0 0] 43) (.cells #[.int .i64 f0, .slice none 0 0] 43)
  have L0 : w.heap.size + 1 + 1 + 1 ≤ w0.heap.size := by omega
  go_enter Tryd.func14, Tryd.ntmps14
  go_wp2_with fail
  rw [← HW0.out]
  refine (toTapeS_any A1 n1 c1 x1 _ (h1.below B0) (r1.below B0) s1 t1).mono ?_
  rintro z w1a ⟨rfl, ⟨es1, own1, he1, ad1⟩, b1⟩
  have B0a := below_step B0 b1
  have hx0a := (b1.block _ (heap_lt hx0)).trans hx0
  have y0a := (b1.block _ (heap_lt y0)).trans y0
  have z0a := (b1.block _ (heap_lt z0)).trans z0
  have bz1 := b1.size
  have H1_0a := own1.held (Nat.le_refl _)
  obtain ⟨g1, hg1⟩ : ∃ g : Nat, g = w0.heap.size := ⟨_, rfl⟩
  obtain ⟨e1, he91⟩ : ∃ e : Nat, e = w1a.heap.size := ⟨_, rfl⟩
  rw [← hg1, ← he91] at H1_0a
  rw [← hg1]
  have LG1 : w.heap.size + 1 + 1 + 1 ≤ g1 := by omega
  have GE1 : g1 ≤ e1 := by omega
  have EW1 : e1 = w1a.heap.size := he91
  clear hg1
  obtain ⟨w1, HW1, B1, hx1, y1, z1, H1_1, SZ1⟩ : ∃ w1, Hid (w1 = (w1a.setCell ⟨w.heap.size + 1 + 1, 1, none⟩ (.slice (some ⟨g1, 0, none⟩) n1 n1))) ∧ Below w.heap.size w w1 ∧ w1.heap[w.heap.size]? = some (.cells #[.int .i64 f0, .slice A1 n1 c1] 33 (0, 0)) ∧ w1.heap[w.heap.size + 1]? = some (.cells #[.int .i64 0, .slice none 0 0] 43 (0, 0)) ∧ w1.heap[w.heap.size + 1 + 1]? = some (.cells #[.int .i64 f0, .slice (some ⟨g1, 0, none⟩) n1 n1] 43 (0, 0)) ∧ Held g1 e1 (SGrid kndTape g1 e1 94 2 1 (.slice (some ⟨g1, 0, none⟩) n1 n1) es1) w1 ∧ w1a.heap.size = w1.heap.size := by
    refine ⟨_, rfl, ?_, ?_, ?_, ?_, ?_, ?_⟩
    · exact (B0a.setCell (p := ⟨w.heap.size + 1 + 1, 1, none⟩) (by simp; omega) _)
    · exact (heap_set_other hx0a ⟨w.heap.size + 1 + 1, 1, none⟩ (by dsimp only; omega) _)
    · exact (heap_set_other y0a ⟨w.heap.size + 1 + 1, 1, none⟩ (by dsimp only; omega) _)
    · exact (heap_set z0a (.slice (some ⟨g1, 0, none⟩) n1 n1))
    · exact H1_0a.far ((Touch.refl (w.heap.size + 1 + 1) (w.heap.size + 1 + 1 + 1) w1a).setCell (p := ⟨w.heap.size + 1 + 1, 1, none⟩) ⟨by simp, by simp⟩ _) (.inr LG1)
    · simp [World.setCell]
  have kz0 : w1a.frozen? ⟨w.heap.size + 1 + 1, 0, none⟩ = false := frozen_of_heap z0a
  have ez0_1 : ∃ u, w1a.cell? ⟨w.heap.size + 1 + 1, 1, none⟩ = some u := ⟨_, by rw [cell_of_heap z0a]; rfl⟩
  obtain ⟨oz0_1, ez0_1⟩ := ez0_1
  have fz0_1 : w1a.frozen? ⟨w.heap.size + 1 + 1, 1, none⟩ = false := frozen_of_heap z0a
  clear HW0 hx0 y0 z0 hx0a own1 H1_0a  
  have lz0 : w1a.cell? ⟨w.heap.size + 1 + 1, 0, none⟩ = some (.int .i64 f0) := by rw [cell_of_heap z0a]; rfl
  have ly0 : w1a.cell? ⟨w.heap.size + 1, 0, none⟩ = some (.int .i64 0) := by rw [cell_of_heap y0a]; rfl
  have fy0 : w1a.frozen? ⟨w.heap.size + 1, 0, none⟩ = false := frozen_of_heap y0a
  have ly1 : w1a.cell? ⟨w.heap.size + 1, 1, none⟩ = some (.slice none 0 0) := by rw [cell_of_heap y0a]; rfl
  have fy1 : w1a.frozen? ⟨w.heap.size + 1, 1, none⟩ = false := frozen_of_heap y0a
  clear y0a z0a
  go_wp2
  refine bodyPost_ret (v := .agg #[.int .i64 f0, .slice (some ⟨g1, 0, none⟩) n1 n1]) (by simp [results, Tryd.results14, go_sem, ly0, ly1]) rfl ?_
  rw [← HW1.out]
  refine ⟨⟨g1, e1, es1, rfl, by omega, GE1, ?_, ?_, he1, ?_⟩, ?_⟩
  · simp [World.setCell]; omega
  · exact H1_1.far (((Touch.refl (w.heap.size + 1) (w.heap.size + 1 + 1) w1).setCell (p := ⟨w.heap.size + 1, 0, none⟩) ⟨by simp, by simp⟩ _).setCell (p := ⟨w.heap.size + 1, 1, none⟩) ⟨by simp, by simp⟩ _) (.inr (by omega))
  · intro e he; exact (ad1 e he).mono (by simp [World.setCell]; omega)
  · exact ((B1.setCell (p := ⟨w.heap.size + 1, 0, none⟩) (by simp) _).setCell (p := ⟨w.heap.size + 1, 1, none⟩) (by simp) _)

set_option maxRecDepth 100000 in
set_option maxHeartbeats 1000000 in
theorem szMultiConfigO_any (f0 : Int) (A1 : Option Addr) (n1 c1 : Nat) (x1 : List ETape) (left : Int) (w : World) (h1 : Args 2 w A1 n1 (rows ETape.vs x1)) (r1 : RdsTape w x1) (hl0 : 0 ≤ left) (hl1 : left ≤ 1048576) (u1 : n1 ≤ 9223372036854775807) (l1 : ∀ e ∈ x1, wbTape 9223372036854775807 e.d) :
    Calls Tryd.prog 11 #[.agg #[.int .i64 f0, .slice A1 n1 c1], .int .i64 left] w fun z w' => (∃ q : Int, z = .returned (.int .i64 q) ∧ SzOut ((n1 + sumTape (x1.map (·.d)))) left q) ∧ Below w.heap.size w w' := by
  obtain ⟨w0, HW0, B0, hx0⟩ := al1 w (.cells #[.int .i64 f0, .slice A1 n1 c1] 33)
  obtain ⟨m1, hm1⟩ : ∃ m, Hid (m = n1 + sumTape (x1.map (·.d))) := ⟨_, rfl⟩
  rw [← hm1.out]
  by_cases y1 : (m1 : Int) ≤ left
  rotate_left
  · have Y := Lib.hid y1
    go_enter Tryd.func11, Tryd.ntmps11
    have lx1 : w0.cell? ⟨w.heap.size, 1, none⟩ = some (.slice A1 n1 c1) := by rw [cell_of_heap hx0]; rfl
    go_wp2_with fail
    rw [← HW0.out]
    refine (szTapeS_any A1 n1 c1 x1 (left) _ (h1.below B0) (r1.below B0) (by omega) (by omega) u1 l1).mono ?_
    rintro z w1 ⟨⟨q1, rfl, hq1⟩, b1⟩
    have B1 := below_step B0 b1
    have hx1 := (b1.block _ (heap_lt hx0)).trans hx0
    rw [← hm1.out] at hq1
    unfold SzOut at hq1
    obtain rfl : q1 = -1 := by omega
    go_wp2_with fail
    go_ret
    exact ⟨⟨_, rfl, szOut_no (by omega)⟩, B1⟩
  go_enter Tryd.func11, Tryd.ntmps11
  have lx1 : w0.cell? ⟨w.heap.size, 1, none⟩ = some (.slice A1 n1 c1) := by rw [cell_of_heap hx0]; rfl
  go_wp2_with fail
  rw [← HW0.out]
  refine (szTapeS_any A1 n1 c1 x1 (left) _ (h1.below B0) (r1.below B0) (by omega) (by omega) u1 l1).mono ?_
  rintro z w1 ⟨⟨q1, rfl, hq1⟩, b1⟩
  have B1 := below_step B0 b1
  have hx1 := (b1.block _ (heap_lt hx0)).trans hx0
  rw [← hm1.out] at hq1
  unfold SzOut at hq1
  obtain rfl : q1 = left - (m1 : Int) := by omega
  have nn1 : ¬ left - (m1 : Int) < 0 := by omega
  clear hq1
  go_wp2_with fail
  go_ret
  exact ⟨⟨_, rfl, szOut_yes (by omega) (by omega)⟩, B1⟩

theorem szMultiConfigO_is (f0 : Int) (A1 : Option Addr) (n1 c1 : Nat) (x1 : List ETape) (left r : Nat) (w : World) (h1 : Args 2 w A1 n1 (rows ETape.vs x1)) (r1 : RdsTape w x1) (hr : r + ((n1 + sumTape (x1.map (·.d)))) = left) (hl1 : left ≤ 1048576) (u1 : n1 ≤ 9223372036854775807) (l1 : ∀ e ∈ x1, wbTape 9223372036854775807 e.d) :
    Calls Tryd.prog 11 #[.agg #[.int .i64 f0, .slice A1 n1 c1], .int .i64 left] w fun z w' => z = .returned (.int .i64 r) ∧ Below w.heap.size w w' := by
  refine (szMultiConfigO_any f0 A1 n1 c1 x1 left w h1 r1 (by omega) (by omega) u1 l1).mono ?_
  rintro z w' ⟨⟨q, rfl, hq⟩, hb⟩
  unfold SzOut at hq
  obtain rfl : q = (r : Int) := by omega
  exact ⟨rfl, hb⟩
theorem szMultiConfigO_not (f0 : Int) (A1 : Option Addr) (n1 c1 : Nat) (x1 : List ETape) (left : Nat) (w : World) (h1 : Args 2 w A1 n1 (rows ETape.vs x1)) (r1 : RdsTape w x1) (hr : left < (n1 + sumTape (x1.map (·.d)))) (hl1 : left ≤ 1048576) (u1 : n1 ≤ 9223372036854775807) (l1 : ∀ e ∈ x1, wbTape 9223372036854775807 e.d) :
    Calls Tryd.prog 11 #[.agg #[.int .i64 f0, .slice A1 n1 c1], .int .i64 left] w fun z w' => z = .returned (.int .i64 (-1)) ∧ Below w.heap.size w w' := by
  refine (szMultiConfigO_any f0 A1 n1 c1 x1 left w h1 r1 (by omega) (by omega) u1 l1).mono ?_
  rintro z w' ⟨⟨q, rfl, hq⟩, hb⟩
  unfold SzOut at hq
  obtain rfl : q = -1 := by omega
  exact ⟨rfl, hb⟩

set_option maxRecDepth 100000 in
set_option maxHeartbeats 1000000 in
theorem eqMultiConfigO_same (f0 : Int) (A1 A1b : Option Addr) (n1 c1 c1b : Nat) (x1 x1b : List ETape) (w : World) (h1 : Args 2 w A1 n1 (rows ETape.vs x1)) (r1 : RdsTape w x1) (h1b : Args 2 w A1b n1 (rows ETape.vs x1b)) (r1b : RdsTape w x1b) (d1 : x1.map (·.d) = x1b.map (·.d)) (s1 : n1 ≤ 4194304) (t1 : sumTape (x1.map (·.d)) ≤ 4194304) :
    Calls Tryd.prog 17 #[.agg #[.int .i64 f0, .slice A1 n1 c1], .agg #[.int .i64 f0, .slice A1b n1 c1b]] w fun z w' => z = .returned (.bool true) ∧ Below w.heap.size w w' := by
  obtain ⟨w0, HW0, B0, hx0, y0⟩ := al2 w (.cells #[.int .i64 f0, .slice A1 n1 c1] 43) (.cells #[.int .i64 f0, .slice A1b n1 c1b] 43)
  have E1 := fun W hA hu hB hv => eqTapeS_any A1 A1b n1 n1 c1 c1b x1 x1b W hA hu hB hv s1 s1 t1 (by rw [← d1]; exact t1)
  rw [decide_eq_true d1] at E1
  have HE1 := Lib.hid E1; clear E1
  go_enter Tryd.func17, Tryd.ntmps17
  have lx0 : w0.cell? ⟨w.heap.size, 0, none⟩ = some (.int .i64 f0) := by rw [cell_of_heap hx0]; rfl
  have ly0 : w0.cell? ⟨w.heap.size + 1, 0, none⟩ = some (.int .i64 f0) := by rw [cell_of_heap y0]; rfl
  have lx1 : w0.cell? ⟨w.heap.size, 1, none⟩ = some (.slice A1 n1 c1) := by rw [cell_of_heap hx0]; rfl
  have ly1 : w0.cell? ⟨w.heap.size + 1, 1, none⟩ = some (.slice A1b n1 c1b) := by rw [cell_of_heap y0]; rfl
  go_wp2_with fail
  rw [← HW0.out]
  refine (HE1.out _ (h1.below B0) (r1.below B0) (h1b.below B0) (r1b.below B0)).mono ?_
  rintro e w1 ⟨rfl, b1⟩
  have B1 := below_step B0 b1
  have hx1 := (b1.block _ (heap_lt hx0)).trans hx0
  have y1 := (b1.block _ (heap_lt y0)).trans y0
  clear lx0 ly0
  clear lx1 ly1
  go_wp2_with fail
  go_ret
  exact ⟨rfl, B1⟩

end Go.Proofs.YtgcedfpjgdeakaaDoor

/- The walk of the law FnExactMultiConfigText: it returns true, whatever the arguments, and writes nothing that was there. -/
namespace Go.Proofs.YtgcedfpjgdeakaaDoor
open Go.RowKit
set_option linter.all false

def BxAt (w : World) (g : Nat) (o : Obj) : Prop := w.heap[g]? = some o
theorem BxAt.below {w w' : World} {g : Nat} {o : Obj} (h : BxAt w g o) (hb : Below w.heap.size w w') : BxAt w' g o := (hb.block _ (heap_lt h)).trans h
theorem BxAt.four {w : World} {g : Nat} {a b c d : Value} {T : TypeId} {z : Nat × Nat} (h : BxAt w g (.cells #[a, b, c, d] T z)) : w.cell? ⟨g, 0, none⟩ = some a ∧ w.cell? ⟨g, 1, none⟩ = some b ∧ w.cell? ⟨g, 2, none⟩ = some c ∧ w.cell? ⟨g, 3, none⟩ = some d :=
  ⟨by rw [cell_of_heap h]; rfl, by rw [cell_of_heap h]; rfl, by rw [cell_of_heap h]; rfl, by rw [cell_of_heap h]; rfl⟩
theorem BxAt.two {w : World} {g : Nat} {a b : Value} {T : TypeId} {z : Nat × Nat} (h : BxAt w g (.cells #[a, b] T z)) : w.cell? ⟨g, 0, none⟩ = some a ∧ w.cell? ⟨g, 1, none⟩ = some b :=
  ⟨by rw [cell_of_heap h]; rfl, by rw [cell_of_heap h]; rfl⟩
/-- The arguments' boxes and what they lead to. -/
structure LawArgs (T1 T2 : TypeId) (w0 W : World) (g0 g1 : Nat) (t s q : Int) (A : Option Addr) (n c : Nat) (es : List EMultiRule) (st : Int) (B : Option Addr) (m ct : Nat) (ts : List ETape) : Prop where
  x : BxAt W g0 (.cells #[.int .i64 t, .int .i64 s, .int .i64 q, .slice A n c] T1 (0, 0))
  y : BxAt W g1 (.cells #[.int .i64 st, .slice B m ct] T2 (0, 0))
  a : Args 5 W A n (rows EMultiRule.vs es)
  ra : RdsMultiRule W es
  b : Args 2 W B m (rows ETape.vs ts)
  rb : RdsTape W ts
  be : Below w0.heap.size w0 W
theorem LawArgs.below {T1 T2 : TypeId} {w0 w w' : World} {g0 g1 : Nat} {t s q : Int} {A : Option Addr} {n c : Nat} {es : List EMultiRule} {st : Int} {B : Option Addr} {m ct : Nat} {ts : List ETape} (h : LawArgs T1 T2 w0 w g0 g1 t s q A n c es st B m ct ts) (hb : Below w.heap.size w w') : LawArgs T1 T2 w0 w' g0 g1 t s q A n c es st B m ct ts :=
  ⟨h.x.below hb, h.y.below hb, h.a.below hb, h.ra.below hb, h.b.below hb, h.rb.below hb, below_step h.be hb⟩

set_option maxRecDepth 100000 in
set_option maxHeartbeats 8000000 in
theorem walkMultiConfigText (t s q : Int) (A : Option Addr) (n c : Nat) (es : List EMultiRule) (st : Int) (B : Option Addr) (m ct : Nat) (ts : List ETape) (w : World) (hA : Args 5 w A n (rows EMultiRule.vs es)) (rA : RdsMultiRule w es) (mA : n ≤ maxLen) (wA : ∀ e ∈ es, wbMultiRule 9223372036854775807 e.d) (hB : Args 2 w B m (rows ETape.vs ts)) (rB : RdsTape w ts) (mB : m ≤ maxLen) (wB : ∀ e ∈ ts, wbTape 9223372036854775807 e.d) :
    Calls Tryd.prog 4 #[.agg #[.int .i64 t, .int .i64 s, .int .i64 q, .slice A n c], .agg #[.int .i64 st, .slice B m ct]] w fun e w' => e = .returned (.bool true) ∧ Below w.heap.size w w' := by
  unfold maxLen at mA mB
  obtain ⟨w0, HW0, B0, x0, y0⟩ := al2 w (.cells #[.int .i64 t, .int .i64 s, .int .i64 q, .slice A n c] 30) (.cells #[.int .i64 st, .slice B m ct] 33)
  have L0 : Hid (LawArgs 30 33 w w0 w.heap.size (w.heap.size + 1) t s q A n c es st B m ct ts) := ⟨x0, y0, hA.below B0, rA.below B0, hB.below B0, rB.below B0, B0⟩
  have HLA : Hid (es.length = n) := by have := hA.1; rw [rows_len (show ∀ a, (EMultiRule.vs a).length = 5 from fun _ => rfl)] at this; unfold Hid; omega
  have HLB : Hid (ts.length = m) := by have := hB.1; rw [rows_len (show ∀ a, (ETape.vs a).length = 2 from fun _ => rfl)] at this; unfold Hid; omega
  clear hA rA hB rB x0 y0 B0
  obtain ⟨sa, HSA⟩ : ∃ sa, Hid (sumMultiRule (es.map (·.d)) = sa) := ⟨_, rfl⟩
  obtain ⟨sb, HSB⟩ : ∃ sb, Hid (sumTape (ts.map (·.d)) = sb) := ⟨_, rfl⟩
  have WA := Lib.hid wA; have WB := Lib.hid wB
  clear wA wB
  obtain ⟨m0, m1, m2, m3⟩ := L0.out.x.four
  obtain ⟨c0, c1⟩ := L0.out.y.two
  by_cases z0 : n + sa ≤ 1048576
  rotate_left
  · go_enter Tryd.func4, Tryd.ntmps4
    go_wp2_with fail
    rw [← HW0.out]
    refine (szMultiO_not t s q A n c es 1048576 _ L0.out.a L0.out.ra (by rw [HSA.out]; omega) (by omega) (by omega) WA.out).mono ?_
    rintro z w1 ⟨rfl, b1⟩
    have B9 := Lib.hid (L0.out.below b1).be
    clear b1 m0 m1 m2 m3 c0 c1
    go_wp2_with fail
    go_ret
    exact ⟨rfl, B9.out⟩
  obtain ⟨r0, R0⟩ : ∃ r0, r0 + (n + sa) = 1048576 := ⟨1048576 - (n + sa), by omega⟩
  by_cases z1 : m + sb ≤ r0
  rotate_left
  · go_enter Tryd.func4, Tryd.ntmps4
    go_wp2_with fail
    rw [← HW0.out]
    refine (szMultiO_is t s q A n c es 1048576 r0 _ L0.out.a L0.out.ra (by rw [HSA.out]; omega) (by omega) (by omega) WA.out).mono ?_
    rintro z w1 ⟨rfl, b1⟩
    have L1 := Lib.hid (L0.out.below b1)
    clear b1 m0 m1 m2 m3 c0 c1
    obtain ⟨m0, m1, m2, m3⟩ := L1.out.x.four
    obtain ⟨c0, c1⟩ := L1.out.y.two
    go_wp2_with fail
    refine (szMultiConfigO_not st B m ct ts r0 _ L1.out.b L1.out.rb (by rw [HSB.out]; omega) (by omega) (by omega) WB.out).mono ?_
    rintro z w2 ⟨rfl, b2⟩
    have B9 := Lib.hid (L1.out.below b2).be
    clear b2 m0 m1 m2 m3 c0 c1
    go_wp2_with fail
    go_ret
    exact ⟨rfl, B9.out⟩
  obtain ⟨r1, R1⟩ : ∃ r1, r1 + (m + sb) = r0 := ⟨r0 - (m + sb), by omega⟩
  go_enter Tryd.func4, Tryd.ntmps4
  go_wp2_with fail
  rw [← HW0.out]
  refine (szMultiO_is t s q A n c es 1048576 r0 _ L0.out.a L0.out.ra (by rw [HSA.out]; omega) (by omega) (by omega) WA.out).mono ?_
  rintro z w1 ⟨rfl, b1⟩
  have L1 := Lib.hid (L0.out.below b1)
  clear b1 m0 m1 m2 m3 c0 c1
  obtain ⟨m0, m1, m2, m3⟩ := L1.out.x.four
  obtain ⟨c0, c1⟩ := L1.out.y.two
  go_wp2_with fail
  refine (szMultiConfigO_is st B m ct ts r0 r1 _ L1.out.b L1.out.rb (by rw [HSB.out]; omega) (by omega) (by omega) WB.out).mono ?_
  rintro z w2 ⟨rfl, b2⟩
  have L2 := Lib.hid (L1.out.below b2)
  have hn1 : n ≤ 1048576 := by omega
  have hm1 : m ≤ 1048576 := by omega
  have hsa : sa ≤ 1048576 := by omega
  have hsb : sb ≤ 1048576 := by omega
  have nr1 : ¬ (r1 : Int) < 0 := by omega
  clear b2 m0 m1 m2 m3 c0 c1 z0 z1 R0 R1
  obtain ⟨m0, m1, m2, m3⟩ := L2.out.x.four
  obtain ⟨c0, c1⟩ := L2.out.y.two
  have BR := Below.refl w2.heap.size w2
  go_upto_region 8 with fail
  have LX := L2.out
  refine wp_region_held_drew (S := fun W => W.cell? ⟨w.heap.size, 0, none⟩ = some (.int .i64 t) ∧ W.cell? ⟨w.heap.size, 1, none⟩ = some (.int .i64 s) ∧ W.cell? ⟨w.heap.size, 2, none⟩ = some (.int .i64 q) ∧ W.cell? ⟨w.heap.size, 3, none⟩ = some (.slice A n c) ∧ W.cell? ⟨w.heap.size + 1, 0, none⟩ = some (.int .i64 st) ∧ W.cell? ⟨w.heap.size + 1, 1, none⟩ = some (.slice B m ct)) (by kernel_rfl) ?_ (fun hHeld => ?_)
  · (try dsimp only); (first | go_keep | exact ⟨m0, m1, m2, m3, c0, c1⟩)
  refine takeD (i := 0) (v := ?_) (d := some 20) rfl rfl (by kernel_rfl) (by kernel_rfl) (by kernel_rfl) (fun _ _ _ h => h) (Or.inl ⟨by kernel_rfl, ?hya0⟩) (by assumption) ?resta0
  case hya0 => first | (intro w hSw; (try dsimp only at hSw); go_simp; done) | (intro w hSw; (try dsimp only at hSw); go_simp; with_reducible rfl)
  (try simp only [Act.put, List.setIfInBounds_toArray, List.set_cons_zero, List.set_cons_succ])
  refine takeD (i := 2) (v := ?_) (d := some 22) rfl rfl (by kernel_rfl) (by kernel_rfl) (by kernel_rfl) (fun _ _ _ h => h) (Or.inl ⟨by kernel_rfl, ?hya2⟩) (by assumption) ?resta2
  case hya2 => first | (intro w hSw; (try dsimp only at hSw); go_simp; done) | (intro w hSw; (try dsimp only at hSw); go_simp; with_reducible rfl)
  (try simp only [Act.put, List.setIfInBounds_toArray, List.set_cons_zero, List.set_cons_succ])
  refine wpAnyH_ready (rs := [1]) (by kernel_rfl) (by simp) ?_
  refine AllReadyH.cons rfl (fun K hK => ?_) AllReadyH.nil
  go_simp
  (go_at_call 13; refine (toMultiO_any t s q A n c es _ (LX.a.below BR.drew) (LX.ra.below BR.drew) hn1 (by rw [HSA.out]; exact hsa)).mono ?_; rintro z x1 ⟨⟨ga, ea, as1, rfl, -, -, -, pa, qa, aa⟩, bb⟩; replace bb := below_drew_at bb; replace LX := LX.below bb; replace qa := Lib.hid qa; have rca := rcsMultiRule_of pa.is aa (Nat.le_refl _); have sla : Sl x1 ga 0 (rows EMultiRule.vs as1) := (by (have na : as1.length = n := by (have h1 := congrArg List.length qa.out; rw [List.length_map, List.length_map] at h1; exact h1.trans HLA.out)); (have h := pa.is.own); (rw [na] at h); exact sl_of_own h); clear pa aa; clear bb m0 m1 m2 m3 c0 c1; obtain ⟨m0, m1, m2, m3⟩ := LX.x.four; obtain ⟨c0, c1⟩ := LX.y.two)
  (try go_wp2_with fail)
  refine hK.out _ _ ?_ (fun hHeld => ?_)
  · (try dsimp only); (first | go_keep | exact ⟨m0, m1, m2, m3, c0, c1⟩)
  clear hK K
  (try simp only [Act.put, List.setIfInBounds_toArray, List.set_cons_zero, List.set_cons_succ])
  refine wpAnyH_ready (rs := [3]) (by kernel_rfl) (by simp) ?_
  refine AllReadyH.cons rfl (fun K hK => ?_) AllReadyH.nil
  go_simp
  (go_at_call 14; refine (toMultiConfigO_any st B m ct ts _ LX.b LX.rb hm1 (by rw [HSB.out]; exact hsb)).mono ?_; rintro z x2 ⟨⟨gb, eb, bs, rfl, -, -, -, pb, qb, ab⟩, bb⟩; replace LX := LX.below bb; replace rca := rca.below bb; replace sla := sla.below' bb; replace qb := Lib.hid qb; have rcb := rcsTape_of pb.is ab (Nat.le_refl _); have slb : Sl x2 gb 0 (rows ETape.vs bs) := (by (have nb : bs.length = m := by (have h1 := congrArg List.length qb.out; rw [List.length_map, List.length_map] at h1; exact h1.trans HLB.out)); (have h := pb.is.own); (rw [nb] at h); exact sl_of_own h); clear pb ab; clear bb m0 m1 m2 m3 c0 c1; obtain ⟨m0, m1, m2, m3⟩ := LX.x.four; obtain ⟨c0, c1⟩ := LX.y.two)
  (try go_wp2_with fail)
  refine hK.out _ _ ?_ (fun hHeld => ?_)
  · (try dsimp only); (first | go_keep | exact ⟨m0, m1, m2, m3, c0, c1⟩)
  clear hK K
  (try simp only [Act.put, List.setIfInBounds_toArray, List.set_cons_zero, List.set_cons_succ])
  refine wpAnyH_ready (rs := [4]) (by kernel_rfl) (by simp) ?_
  refine AllReadyH.cons rfl (fun K hK => ?_) AllReadyH.nil
  go_simp
  (go_at_call 12; refine (specMultiConfigText_is t s q ga n n as1 (es.map (·.d)) st gb m m bs (ts.map (·.d)) _ sla rca qa.out (by rw [List.length_map]; exact HLA.out) hn1 (by rw [HSA.out]; exact hsa) slb rcb qb.out (by rw [List.length_map]; exact HLB.out) hm1 (by rw [HSB.out]; exact hsb)).mono ?_; rintro z x3 ⟨rfl, bb⟩; replace LX := LX.below bb; clear rca sla rcb slb qa qb; clear bb m0 m1 m2 m3 c0 c1; obtain ⟨m0, m1, m2, m3⟩ := LX.x.four; obtain ⟨c0, c1⟩ := LX.y.two)
  (try go_wp2_with fail)
  refine hK.out _ _ ?_ (fun hHeld => ?_)
  · (try dsimp only); (first | go_keep | exact ⟨m0, m1, m2, m3, c0, c1⟩)
  clear hK K
  (try simp only [Act.put, List.setIfInBounds_toArray, List.set_cons_zero, List.set_cons_succ])
  refine takeD (i := 5) (v := ?_) (d := some 6) rfl rfl (by kernel_rfl) (by kernel_rfl) (by kernel_rfl) (fun _ _ _ h => h) (Or.inl ⟨by kernel_rfl, ?hya5⟩) (by assumption) ?resta5
  case hya5 => first | (intro w hSw; (try dsimp only at hSw); go_simp; done) | (intro w hSw; (try dsimp only at hSw); go_simp; with_reducible rfl)
  (try simp only [Act.put, List.setIfInBounds_toArray, List.set_cons_zero, List.set_cons_succ])
  refine wpAnyH_done (by kernel_rfl) ?_ _
  have L3 := Lib.hid LX
  clear LX BR m0 m1 m2 m3 c0 c1
  obtain ⟨m0, m1, m2, m3⟩ := L3.out.x.four
  obtain ⟨c0, c1⟩ := L3.out.y.two
  go_wp2_with fail
  refine (toMultiO_any t s q A n c es _ L3.out.a L3.out.ra hn1 (by rw [HSA.out]; exact hsa)).mono ?_
  rintro z w4 ⟨⟨ga, ea, as1, rfl, -, -, -, pa, qa, aa⟩, bb⟩
  have na : as1.length = n := by have h1 := congrArg List.length qa; rw [List.length_map, List.length_map] at h1; exact h1.trans HLA.out
  have hga := pa.is.argsN
  have hra := rcsMultiRule_of pa.is aa (Nat.le_refl _)
  obtain ⟨w5, HW5, b5, y5⟩ := al1 w4 (.cells #[.int .i64 t, .int .i64 s, .int .i64 q, .slice (some ⟨ga, 0, none⟩) n n] 39)
  have L5 := Lib.hid ((L3.out.below bb).below b5)
  have QA := Lib.hid qa
  have XA : Hid (Args 5 w5 (some ⟨ga, 0, none⟩) n (rows EMultiRule.vs as1)) := hga.below b5
  have XR : Hid (RcsMultiRule w5 as1) := hra.below b5
  have XB : Hid (BxAt w5 w4.heap.size (.cells #[.int .i64 t, .int .i64 s, .int .i64 q, .slice (some ⟨ga, 0, none⟩) n n] 39 (0, 0))) := y5
  have SLA : Hid (Sl w5 ga 0 (rows EMultiRule.vs as1)) := by have h := pa.is.own; rw [na] at h; exact (sl_of_own h).below' b5
  clear pa qa aa bb na hga hra b5 y5 m0 m1 m2 m3 c0 c1
  obtain ⟨c0, c1⟩ := L5.out.y.two
  rw [HW5.out] at c0 c1
  go_wp2_with fail
  rw [← HW5.out] at c0 c1 ⊢
  refine (toMultiConfigO_any st B m ct ts _ L5.out.b L5.out.rb hm1 (by rw [HSB.out]; exact hsb)).mono ?_
  rintro z w6 ⟨⟨gb, eb, bs, rfl, -, -, -, pb, qb, ab⟩, bb⟩
  have nb : bs.length = m := by have h1 := congrArg List.length qb; rw [List.length_map, List.length_map] at h1; exact h1.trans HLB.out
  have hgb := pb.is.argsN
  have hrb := rcsTape_of pb.is ab (Nat.le_refl _)
  obtain ⟨w7, HW7, b7, y7⟩ := al1 w6 (.cells #[.int .i64 st, .slice (some ⟨gb, 0, none⟩) m m] 43)
  have L7 := Lib.hid ((L5.out.below bb).below b7)
  have QB := Lib.hid qb
  have b57 := below_step bb b7
  have K7 : Hid (LawArgs 39 43 w7 w7 w4.heap.size w6.heap.size t s q (some ⟨ga, 0, none⟩) n n as1 st (some ⟨gb, 0, none⟩) m m bs) := ⟨XB.out.below b57, y7, XA.out.below b57, (XR.out.below b57).1, hgb.below b7, (hrb.below b7).1, Below.refl _ _⟩
  have SLB : Hid (Sl w7 gb 0 (rows ETape.vs bs)) := by have h := pb.is.own; rw [nb] at h; exact (sl_of_own h).below' b7
  have HI := Lib.hid (implMultiConfigText_is t s q ga n n as1 (es.map (·.d)) st gb m m bs (ts.map (·.d)) w7 (SLA.out.below' b57) (XR.out.below b57) QA.out (by rw [List.length_map]; exact HLA.out) hn1 (by rw [HSA.out]; exact hsa) SLB.out (hrb.below b7) QB.out (by rw [List.length_map]; exact HLB.out) hm1 (by rw [HSB.out]; exact hsb))
  clear pb qb ab bb nb hgb hrb b7 y7 b57 c0 c1 XA XR XB SLA SLB
  obtain ⟨m0, m1, m2, m3⟩ := K7.out.x.four
  obtain ⟨c0, c1⟩ := K7.out.y.two
  rw [HW7.out] at m0 m1 m2 m3 c0 c1
  go_wp2_with fail
  rw [← HW7.out] at m0 m1 m2 m3 c0 c1 ⊢
  refine HI.out.mono ?_
  rintro z w8 ⟨rfl, bb⟩
  have L8 := L7.out.below bb
  have K8 := K7.out.below bb
  clear bb m0 m1 m2 m3 c0 c1
  obtain ⟨m0, m1, m2, m3⟩ := L8.x.four
  obtain ⟨k0, k1, k2, k3⟩ := K8.x.four
  have BR := Below.refl w8.heap.size w8
  go_upto_region 14 with fail
  refine wp_region_held_drew (S := fun W => W.cell? ⟨w4.heap.size, 0, none⟩ = some (.int .i64 t) ∧ W.cell? ⟨w4.heap.size, 1, none⟩ = some (.int .i64 s) ∧ W.cell? ⟨w4.heap.size, 2, none⟩ = some (.int .i64 q) ∧ W.cell? ⟨w4.heap.size, 3, none⟩ = some (.slice (some ⟨ga, 0, none⟩) n n) ∧ W.cell? ⟨w.heap.size, 0, none⟩ = some (.int .i64 t) ∧ W.cell? ⟨w.heap.size, 1, none⟩ = some (.int .i64 s) ∧ W.cell? ⟨w.heap.size, 2, none⟩ = some (.int .i64 q) ∧ W.cell? ⟨w.heap.size, 3, none⟩ = some (.slice A n c)) (by kernel_rfl) ?_ (fun hHeld => ?_)
  · (try dsimp only); (first | go_keep | exact ⟨k0, k1, k2, k3, m0, m1, m2, m3⟩)
  refine takeD (i := 0) (v := ?_) (d := some 35) rfl rfl (by kernel_rfl) (by kernel_rfl) (by kernel_rfl) (fun _ _ _ h => h) (Or.inl ⟨by kernel_rfl, ?hyb0⟩) (by assumption) ?restb0
  case hyb0 => first | (intro w hSw; (try dsimp only at hSw); go_simp; done) | (intro w hSw; (try dsimp only at hSw); go_simp; with_reducible rfl)
  (try simp only [Act.put, List.setIfInBounds_toArray, List.set_cons_zero, List.set_cons_succ])
  refine takeD (i := 1) (v := ?_) (d := some 36) rfl rfl (by kernel_rfl) (by kernel_rfl) (by kernel_rfl) (fun _ _ _ h => h) (Or.inl ⟨by kernel_rfl, ?hyb1⟩) (by assumption) ?restb1
  case hyb1 => first | (intro w hSw; (try dsimp only at hSw); go_simp; done) | (intro w hSw; (try dsimp only at hSw); go_simp; with_reducible rfl)
  (try simp only [Act.put, List.setIfInBounds_toArray, List.set_cons_zero, List.set_cons_succ])
  refine wpAnyH_ready (rs := [2]) (by kernel_rfl) (by simp) ?_
  refine AllReadyH.cons rfl (fun K hK => ?_) AllReadyH.nil
  go_simp
  (go_at_call 13; refine (toMultiO_any t s q A n c es _ (L8.a.below BR.drew) (L8.ra.below BR.drew) hn1 (by rw [HSA.out]; exact hsa)).mono ?_; rintro z x1 ⟨⟨gd, ed, ds1, rfl, -, -, -, pd, qd, ad⟩, bb⟩; replace bb := below_drew_at bb; replace L8 := L8.below bb; replace K8 := K8.below bb; replace qd := Lib.hid qd; have rd := (rcsMultiRule_of pd.is ad (Nat.le_refl _)).1; have ard : Args 5 x1 (some ⟨gd, 0, none⟩) n (rows EMultiRule.vs ds1) := pd.is.argsN; clear pd ad; clear bb m0 m1 m2 m3 k0 k1 k2 k3; obtain ⟨m0, m1, m2, m3⟩ := L8.x.four; obtain ⟨k0, k1, k2, k3⟩ := K8.x.four)
  (try go_wp2_with fail)
  refine hK.out _ _ ?_ (fun hHeld => ?_)
  · (try dsimp only); (first | go_keep | exact ⟨k0, k1, k2, k3, m0, m1, m2, m3⟩)
  clear hK K
  (try simp only [Act.put, List.setIfInBounds_toArray, List.set_cons_zero, List.set_cons_succ])
  refine wpAnyH_ready (rs := [3]) (by kernel_rfl) (by simp) ?_
  refine AllReadyH.cons rfl (fun K hK => ?_) AllReadyH.nil
  go_simp
  (go_at_call 16; refine (eqMultiO_same t s q _ _ n _ _ as1 ds1 _ K8.a K8.ra ard rd (QA.out.trans qd.out.symm) (by omega) (by rw [QA.out, HSA.out]; omega)).mono ?_; rintro z x2 ⟨rfl, bb⟩; replace L8 := L8.below bb; replace K8 := K8.below bb; clear ard rd qd; clear bb m0 m1 m2 m3 k0 k1 k2 k3; obtain ⟨m0, m1, m2, m3⟩ := L8.x.four; obtain ⟨k0, k1, k2, k3⟩ := K8.x.four)
  (try go_wp2_with fail)
  refine hK.out _ _ ?_ (fun hHeld => ?_)
  · (try dsimp only); (first | go_keep | exact ⟨k0, k1, k2, k3, m0, m1, m2, m3⟩)
  clear hK K
  (try simp only [Act.put, List.setIfInBounds_toArray, List.set_cons_zero, List.set_cons_succ])
  refine takeD (i := 4) (v := ?_) (d := some 39) rfl rfl (by kernel_rfl) (by kernel_rfl) (by kernel_rfl) (fun _ _ _ h => h) (Or.inl ⟨by kernel_rfl, ?hyb4⟩) (by assumption) ?restb4
  case hyb4 => first | (intro w hSw; (try dsimp only at hSw); go_simp; done) | (intro w hSw; (try dsimp only at hSw); go_simp; with_reducible rfl)
  (try simp only [Act.put, List.setIfInBounds_toArray, List.set_cons_zero, List.set_cons_succ])
  refine wpAnyH_done (by kernel_rfl) ?_ _
  have L9 := L8; have K9 := K8
  clear L8 K8 BR m0 m1 m2 m3 k0 k1 k2 k3
  obtain ⟨c0, c1⟩ := L9.y.two
  obtain ⟨k0, k1⟩ := K9.y.two
  obtain ⟨w9, hw9⟩ : ∃ w9, w9 = w2 := ⟨_, rfl⟩
  clear hw9 w9
  go_upto_region 16 with fail
  refine wp_region_held_drew (S := fun W => W.cell? ⟨w6.heap.size, 0, none⟩ = some (.int .i64 st) ∧ W.cell? ⟨w6.heap.size, 1, none⟩ = some (.slice (some ⟨gb, 0, none⟩) m m) ∧ W.cell? ⟨w.heap.size + 1, 0, none⟩ = some (.int .i64 st) ∧ W.cell? ⟨w.heap.size + 1, 1, none⟩ = some (.slice B m ct)) (by kernel_rfl) ?_ (fun hHeld => ?_)
  · (try dsimp only); (first | go_keep | exact ⟨k0, k1, c0, c1⟩)
  refine takeD (i := 0) (v := ?_) (d := some 40) rfl rfl (by kernel_rfl) (by kernel_rfl) (by kernel_rfl) (fun _ _ _ h => h) (Or.inl ⟨by kernel_rfl, ?hyc0⟩) (by assumption) ?restc0
  case hyc0 => first | (intro w hSw; (try dsimp only at hSw); go_simp; done) | (intro w hSw; (try dsimp only at hSw); go_simp; with_reducible rfl)
  (try simp only [Act.put, List.setIfInBounds_toArray, List.set_cons_zero, List.set_cons_succ])
  refine takeD (i := 1) (v := ?_) (d := some 41) rfl rfl (by kernel_rfl) (by kernel_rfl) (by kernel_rfl) (fun _ _ _ h => h) (Or.inl ⟨by kernel_rfl, ?hyc1⟩) (by assumption) ?restc1
  case hyc1 => first | (intro w hSw; (try dsimp only at hSw); go_simp; done) | (intro w hSw; (try dsimp only at hSw); go_simp; with_reducible rfl)
  (try simp only [Act.put, List.setIfInBounds_toArray, List.set_cons_zero, List.set_cons_succ])
  refine wpAnyH_ready (rs := [2]) (by kernel_rfl) (by simp) ?_
  refine AllReadyH.cons rfl (fun K hK => ?_) AllReadyH.nil
  go_simp
  (go_at_call 14; refine (toMultiConfigO_any st B m ct ts _ (L9.b.below (Below.refl _ _).drew) (L9.rb.below (Below.refl _ _).drew) hm1 (by rw [HSB.out]; exact hsb)).mono ?_; rintro z x1 ⟨⟨gd, ed, ds1, rfl, -, -, -, pd, qd, ad⟩, bb⟩; replace bb := below_drew_at bb; replace L9 := L9.below bb; replace K9 := K9.below bb; replace qd := Lib.hid qd; have rd := (rcsTape_of pd.is ad (Nat.le_refl _)).1; have ard : Args 2 x1 (some ⟨gd, 0, none⟩) m (rows ETape.vs ds1) := pd.is.argsN; clear pd ad; clear bb c0 c1 k0 k1; obtain ⟨c0, c1⟩ := L9.y.two; obtain ⟨k0, k1⟩ := K9.y.two)
  (try go_wp2_with fail)
  refine hK.out _ _ ?_ (fun hHeld => ?_)
  · (try dsimp only); (first | go_keep | exact ⟨k0, k1, c0, c1⟩)
  clear hK K
  (try simp only [Act.put, List.setIfInBounds_toArray, List.set_cons_zero, List.set_cons_succ])
  refine wpAnyH_ready (rs := [3]) (by kernel_rfl) (by simp) ?_
  refine AllReadyH.cons rfl (fun K hK => ?_) AllReadyH.nil
  go_simp
  (go_at_call 17; refine (eqMultiConfigO_same st _ _ m _ _ bs ds1 _ K9.b K9.rb ard rd (QB.out.trans qd.out.symm) (by omega) (by rw [QB.out, HSB.out]; omega)).mono ?_; rintro z x2 ⟨rfl, bb⟩; replace L9 := L9.below bb; replace K9 := K9.below bb; clear ard rd qd; clear bb c0 c1 k0 k1; obtain ⟨c0, c1⟩ := L9.y.two; obtain ⟨k0, k1⟩ := K9.y.two)
  (try go_wp2_with fail)
  refine hK.out _ _ ?_ (fun hHeld => ?_)
  · (try dsimp only); (first | go_keep | exact ⟨k0, k1, c0, c1⟩)
  clear hK K
  (try simp only [Act.put, List.setIfInBounds_toArray, List.set_cons_zero, List.set_cons_succ])
  refine takeD (i := 4) (v := ?_) (d := some 44) rfl rfl (by kernel_rfl) (by kernel_rfl) (by kernel_rfl) (fun _ _ _ h => h) (Or.inl ⟨by kernel_rfl, ?hyc4⟩) (by assumption) ?restc4
  case hyc4 => first | (intro w hSw; (try dsimp only at hSw); go_simp; done) | (intro w hSw; (try dsimp only at hSw); go_simp; with_reducible rfl)
  (try simp only [Act.put, List.setIfInBounds_toArray, List.set_cons_zero, List.set_cons_succ])
  refine wpAnyH_done (by kernel_rfl) ?_ _
  have B9 := Lib.hid L9.be
  clear L9 K9 c0 c1 k0 k1
  go_wp2_with fail
  go_ret
  exact ⟨rfl, B9.out⟩
end Go.Proofs.YtgcedfpjgdeakaaDoor

/- How the laws' arguments are opened: a slice that came in reads as a list of its elements' cells. -/
namespace Go.Proofs.YtgcedfpjgdeakaaDoor
open Go.ChangeShapes Go.WideShapes Go.ChangeAt Go.RowKit Go.Deep
open Go.ChangeMaps (open_string shut_string)

theorem own : ownKnob Tryd.prog.godebug = none := by kernel_rfl
theorem laidOut : laidOutB Tryd.prog = true := by kernel_rfl

theorem list_of_fun {α : Type} (n : Nat) (p : Nat → α → Prop) (h : ∀ i, i < n → ∃ x, p i x) : ∃ xs : List α, xs.length = n ∧ ∀ i x, xs[i]? = some x → p i x := by
  induction n with
  | zero => exact ⟨[], rfl, by simp⟩
  | succ n ih =>
    obtain ⟨xs, hl, hp⟩ := ih (fun i hi => h i (by omega))
    obtain ⟨x, hx⟩ := h n (by omega)
    refine ⟨xs ++ [x], by simp [hl], fun i y hy => ?_⟩
    rw [List.getElem?_append] at hy
    split at hy
    · exact hp i y hy
    · rw [List.getElem?_singleton] at hy
      split at hy
      · injection hy with hy
        subst hy
        obtain rfl : i = n := by omega
        exact hx
      · cases hy

theorem add_none {b off j : Nat} : (⟨b, off, none⟩ : Addr).add j = ⟨b, off + j, none⟩ := by
  unfold Addr.add
  split
  · rename_i h; subst h; rfl
  · rfl

section
variable {H : Type} {enc : TypeId × Value → H} {P : Program} {w : World} {base : Nat} {spare : Nat → Bool} {held : Bool}

/-- A slice of one-cell elements that came in. 'helem' says how an element's cell reads. -/
theorem arg_of_trod {α : Type} (f : α → Value) (ok : α → Prop) {t e : TypeId} {A : Option Addr} {n c : Nat} {d : DataW H} {ps : List MemPlace} (ht : P.underlying t = some (.slice e)) (hC : P.cellsOf e = 1)
    (helem : ∀ fuel cs x, DataW.trod enc P w base spare held fuel e cs = some x → ∃ a, cs = [f a] ∧ ok a)
    (h : DataW.Trod enc P w base spare held t (.slice A n c) d ps) : ∃ xs : List α, Arg w A n (xs.map f) ∧ (∀ x ∈ xs, ok x) ∧ n ≤ maxLen := by
  obtain ⟨fuel, hf⟩ := h
  rcases open_slice ht hf with ⟨h0, _⟩ | ⟨a, len, cap, m, n', D, Pl, hcs, _, hl, hm, hmm, _, hi⟩
  · simp [Value.cells] at h0
    obtain ⟨rfl, rfl, rfl⟩ := h0
    exact ⟨[], Arg.of_nil _ _, by simp, by simp [maxLen]⟩
  · simp [Value.cells] at hcs
    obtain ⟨rfl, rfl, rfl⟩ := hcs
    have hnm : n ≤ m := by rw [hmm]; split <;> omega
    have hex : ∀ i, i < n → ∃ x : α, w.cell? (a.add i) = some (f x) ∧ ok x := by
      intro i hin
      obtain ⟨cs', hc, ht'⟩ := hi i (by omega)
      rw [hC] at hc
      obtain ⟨x, rfl, hok⟩ := helem _ _ _ ht'
      obtain ⟨_, _, hat⟩ := World.cells?_some hc
      refine ⟨x, ?_, hok⟩
      have := hat 0 (by omega)
      simpa [Addr.add] using this
    obtain ⟨xs, hlen, hp⟩ := list_of_fun n _ hex
    refine ⟨xs, ⟨by simp [hlen], ?_⟩, fun x hx => by obtain ⟨i, hi⟩ := List.getElem?_of_mem hx; exact (hp i x hi).2, by omega⟩
    rcases Nat.eq_zero_or_pos n with h0 | h0
    · exact .inl h0
    · obtain ⟨b, off, spot⟩ := a
      obtain ⟨x0, hx0, _⟩ := hex 0 h0
      have hspot : spot = none := by simpa [Addr.add] using World.cell?_spot hx0
      subst hspot
      refine .inr ⟨b, off, rfl, World.block_lt_of_cell? w _ (by simpa [Addr.add] using hx0), fun j u hu => ?_⟩
      rw [List.getElem?_map] at hu
      obtain ⟨x, hx, rfl⟩ := Option.map_eq_some_iff.1 hu
      rw [← add_none]
      exact (hp j x hx).1

theorem arg_bools {t e : TypeId} {A : Option Addr} {n c : Nat} {d : DataW H} {ps : List MemPlace} (ht : P.underlying t = some (.slice e)) (hC : P.cellsOf e = 1) (he : P.underlying e = some .bool)
    (h : DataW.Trod enc P w base spare held t (.slice A n c) d ps) : ∃ xs : List Bool, Arg w A n (xs.map Value.bool) ∧ n ≤ maxLen := by
  obtain ⟨xs, h1, _, h3⟩ := arg_of_trod Value.bool (fun _ => True) ht hC (fun fuel cs x hx => by obtain ⟨b, hb, _⟩ := DataW.trod_bool he hx; exact ⟨b, hb, trivial⟩) h
  exact ⟨xs, h1, h3⟩

theorem arg_ints {k : IntKind} {t e : TypeId} {A : Option Addr} {n c : Nat} {d : DataW H} {ps : List MemPlace} (ht : P.underlying t = some (.slice e)) (hC : P.cellsOf e = 1) (he : P.underlying e = some (.int k))
    (h : DataW.Trod enc P w base spare held t (.slice A n c) d ps) : ∃ xs : List Int, Arg w A n (xs.map (Value.int k)) ∧ (∀ x ∈ xs, (Lit.int k x).wf = true) ∧ n ≤ maxLen :=
  arg_of_trod (Value.int k) (fun x => (Lit.int k x).wf = true) ht hC (fun fuel cs x hx => by obtain ⟨b, hb, _, hw⟩ := DataW.trod_int he hx; exact ⟨b, hb, hw⟩) h

theorem arg_strings {t e : TypeId} {A : Option Addr} {n c : Nat} {d : DataW H} {ps : List MemPlace} (ht : P.underlying t = some (.slice e)) (hC : P.cellsOf e = 1) (he : P.underlying e = some .string)
    (h : DataW.Trod enc P w base spare held t (.slice A n c) d ps) : ∃ xs : List ByteArray, Arg w A n (xs.map Value.string) ∧ (∀ x ∈ xs, x.size ≤ maxLen) ∧ n ≤ maxLen :=
  arg_of_trod Value.string (fun x => x.size ≤ maxLen) ht hC (fun fuel cs x hx => by obtain ⟨b, hb, _, hw⟩ := DataW.trod_string he hx; exact ⟨b, hb, hw⟩) h
end
end Go.Proofs.YtgcedfpjgdeakaaDoor

/- How the laws' arguments that are slices of records of numbers are opened. -/
namespace Go.Proofs.YtgcedfpjgdeakaaDoor
open Go.ChangeShapes Go.WideShapes Go.ChangeAt Go.RowKit Go.Deep
set_option linter.all false

section
variable {H : Type} {enc : TypeId × Value → H} {P : Program} {w : World} {base : Nat} {spare : Nat → Bool} {held : Bool}

theorem args_of_trod {α : Type} (f : α → List Value) (ok : α → Prop) {s : Nat} (hs : ∀ x, (f x).length = s) (hs0 : 0 < s) {t e : TypeId} {A : Option Addr} {n c : Nat} {d : DataW H} {ps : List MemPlace} (ht : P.underlying t = some (.slice e)) (hC : P.cellsOf e = s)
    (helem : ∀ fuel cs x, DataW.trod enc P w base spare held fuel e cs = some x → ∃ a, cs = f a ∧ ok a)
    (h : DataW.Trod enc P w base spare held t (.slice A n c) d ps) : ∃ xs : List α, Args s w A n (rows f xs) ∧ (∀ x ∈ xs, ok x) ∧ n ≤ maxLen := by
  obtain ⟨fuel, hf⟩ := h
  rcases open_slice ht hf with ⟨h0, _⟩ | ⟨a, len, cap, m, n', D, Pl, hcs, _, hl, hm, hmm, _, hi⟩
  · simp [Value.cells] at h0
    obtain ⟨rfl, rfl, rfl⟩ := h0
    exact ⟨[], Args.of_nil _ _ _, by simp, by simp [maxLen]⟩
  · simp [Value.cells] at hcs
    obtain ⟨rfl, rfl, rfl⟩ := hcs
    have hnm : n ≤ m := by rw [hmm]; split <;> omega
    have hex : ∀ i, i < n → ∃ x : α, (∀ j u, (f x)[j]? = some u → w.cell? (a.add (i * s + j)) = some u) ∧ ok x := by
      intro i hin
      obtain ⟨cs', hc, ht'⟩ := hi i (by omega)
      rw [hC] at hc
      obtain ⟨x, rfl, hok⟩ := helem _ _ _ ht'
      obtain ⟨_, _, hat⟩ := World.cells?_some hc
      refine ⟨x, fun j u hu => ?_, hok⟩
      have hj : j < s := by rw [← hs x]; exact (List.getElem?_eq_some_iff.1 hu).1
      have := hat j hj
      rw [← Go.Deep.add_add, this, hu]
    obtain ⟨xs, hlen, hp⟩ := list_of_fun n _ hex
    refine ⟨xs, ⟨by rw [rows_len hs, hlen], ?_⟩, fun x hx => by obtain ⟨i, hi⟩ := List.getElem?_of_mem hx; exact (hp i x hi).2, by omega⟩
    rcases Nat.eq_zero_or_pos n with h0 | h0
    · exact .inl h0
    · obtain ⟨b, off, spot⟩ := a
      obtain ⟨x0, hx0, _⟩ := hex 0 h0
      have hx0' := hx0 0 ((f x0)[0]'(by rw [hs]; exact hs0)) (List.getElem?_eq_getElem _)
      have hspot : spot = none := by simpa [Addr.add] using World.cell?_spot hx0'
      subst hspot
      refine .inr ⟨b, off, rfl, World.block_lt_of_cell? w _ (by simpa [Addr.add] using hx0'), fun j u hu => ?_⟩
      have hjl : j < n * s := by have := (List.getElem?_eq_some_iff.1 hu).1; rw [rows_len hs, hlen] at this; exact this
      have hq : j / s < n := Nat.div_lt_of_lt_mul (by rw [Nat.mul_comm]; exact hjl)
      have hm : j % s < s := Nat.mod_lt _ hs0
      have hjj : j = j / s * s + j % s := by rw [Nat.mul_comm]; exact (Nat.div_add_mod j s).symm
      have hx : xs[j / s]? = some (xs[j / s]'(by omega)) := List.getElem?_eq_getElem _
      rw [hjj, rows_at hs hx hm] at hu
      rw [hjj, ← add_none]
      exact (hp _ _ hx).1 _ _ hu

theorem one_of {n : Nat} {ty : TypeId} {v : Value} {y : DataW H × List MemPlace} (hu : P.underlying ty = some (.int .i64)) (h : DataW.trod enc P w base spare held n ty [v] = some y) : ∃ x : Int, v = .int .i64 x ∧ Wf64 x := by
  obtain ⟨b, hb, _, hw⟩ := DataW.trod_int hu h
  exact ⟨b, by simpa using hb, wf64_of hw⟩

theorem args_recs2 {t e : TypeId} {f0 f1 : Field} {A : Option Addr} {n c : Nat} {d : DataW H} {ps : List MemPlace} (ht : P.underlying t = some (.slice e)) (hC : P.cellsOf e = 2) (he : P.underlying e = some (.struct #[f0, f1])) (hone : oneCellFields P #[f0, f1] = true)
    (h0 : P.underlying f0.type = some (.int .i64)) (h1 : P.underlying f1.type = some (.int .i64)) (h : DataW.Trod enc P w base spare held t (.slice A n c) d ps) : ∃ xs : List R2, Args 2 w A n (rows R2.vs xs) ∧ (∀ x ∈ xs, x.wf) ∧ n ≤ maxLen := by
  refine args_of_trod R2.vs R2.wf R2.vs_len (by omega) ht hC (fun fuel cs x hx => ?_) h
  obtain ⟨xs, n', _, hx', hcl, hlen, hg⟩ := DataW.trod_struct he hx
  obtain ⟨o0, k0⟩ := hone_of hone 0 f0 rfl
  obtain ⟨o1, k1⟩ := hone_of hone 1 f1 rfl
  rw [hC] at hcl
  match cs, hcl with
  | [c0, c1], _ =>
    match xs, hlen with
    | [y0, y1], _ =>
      obtain ⟨a0, rfl, w0⟩ := one_of h0 (by simpa [o0, k0] using hg 0 f0 rfl)
      obtain ⟨a1, rfl, w1⟩ := one_of h1 (by simpa [o1, k1] using hg 1 f1 rfl)
      exact ⟨⟨a0, a1⟩, rfl, w0, w1⟩

theorem args_recs3 {t e : TypeId} {f0 f1 f2 : Field} {A : Option Addr} {n c : Nat} {d : DataW H} {ps : List MemPlace} (ht : P.underlying t = some (.slice e)) (hC : P.cellsOf e = 3) (he : P.underlying e = some (.struct #[f0, f1, f2])) (hone : oneCellFields P #[f0, f1, f2] = true)
    (h0 : P.underlying f0.type = some (.int .i64)) (h1 : P.underlying f1.type = some (.int .i64)) (h2 : P.underlying f2.type = some (.int .i64)) (h : DataW.Trod enc P w base spare held t (.slice A n c) d ps) : ∃ xs : List R3, Args 3 w A n (rows R3.vs xs) ∧ (∀ x ∈ xs, x.wf) ∧ n ≤ maxLen := by
  refine args_of_trod R3.vs R3.wf R3.vs_len (by omega) ht hC (fun fuel cs x hx => ?_) h
  obtain ⟨xs, n', _, hx', hcl, hlen, hg⟩ := DataW.trod_struct he hx
  obtain ⟨o0, k0⟩ := hone_of hone 0 f0 rfl
  obtain ⟨o1, k1⟩ := hone_of hone 1 f1 rfl
  obtain ⟨o2, k2⟩ := hone_of hone 2 f2 rfl
  rw [hC] at hcl
  match cs, hcl with
  | [c0, c1, c2], _ =>
    match xs, hlen with
    | [y0, y1, y2], _ =>
      obtain ⟨a0, rfl, w0⟩ := one_of h0 (by simpa [o0, k0] using hg 0 f0 rfl)
      obtain ⟨a1, rfl, w1⟩ := one_of h1 (by simpa [o1, k1] using hg 1 f1 rfl)
      obtain ⟨a2, rfl, w2⟩ := one_of h2 (by simpa [o2, k2] using hg 2 f2 rfl)
      exact ⟨⟨a0, a1, a2⟩, rfl, w0, w1, w2⟩

theorem args_recs4 {t e : TypeId} {f0 f1 f2 f3 : Field} {A : Option Addr} {n c : Nat} {d : DataW H} {ps : List MemPlace} (ht : P.underlying t = some (.slice e)) (hC : P.cellsOf e = 4) (he : P.underlying e = some (.struct #[f0, f1, f2, f3])) (hone : oneCellFields P #[f0, f1, f2, f3] = true)
    (h0 : P.underlying f0.type = some (.int .i64)) (h1 : P.underlying f1.type = some (.int .i64)) (h2 : P.underlying f2.type = some (.int .i64)) (h3 : P.underlying f3.type = some (.int .i64)) (h : DataW.Trod enc P w base spare held t (.slice A n c) d ps) : ∃ xs : List R4, Args 4 w A n (rows R4.vs xs) ∧ (∀ x ∈ xs, x.wf) ∧ n ≤ maxLen := by
  refine args_of_trod R4.vs R4.wf R4.vs_len (by omega) ht hC (fun fuel cs x hx => ?_) h
  obtain ⟨xs, n', _, hx', hcl, hlen, hg⟩ := DataW.trod_struct he hx
  obtain ⟨o0, k0⟩ := hone_of hone 0 f0 rfl
  obtain ⟨o1, k1⟩ := hone_of hone 1 f1 rfl
  obtain ⟨o2, k2⟩ := hone_of hone 2 f2 rfl
  obtain ⟨o3, k3⟩ := hone_of hone 3 f3 rfl
  rw [hC] at hcl
  match cs, hcl with
  | [c0, c1, c2, c3], _ =>
    match xs, hlen with
    | [y0, y1, y2, y3], _ =>
      obtain ⟨a0, rfl, w0⟩ := one_of h0 (by simpa [o0, k0] using hg 0 f0 rfl)
      obtain ⟨a1, rfl, w1⟩ := one_of h1 (by simpa [o1, k1] using hg 1 f1 rfl)
      obtain ⟨a2, rfl, w2⟩ := one_of h2 (by simpa [o2, k2] using hg 2 f2 rfl)
      obtain ⟨a3, rfl, w3⟩ := one_of h3 (by simpa [o3, k3] using hg 3 f3 rfl)
      exact ⟨⟨a0, a1, a2, a3⟩, rfl, w0, w1, w2, w3⟩
end
end Go.Proofs.YtgcedfpjgdeakaaDoor

/- How the laws' arguments that are slices of slices are opened. -/
namespace Go.Proofs.YtgcedfpjgdeakaaDoor
open Go.ChangeShapes Go.WideShapes Go.ChangeAt Go.RowKit Go.Deep
set_option linter.all false

section
variable {H : Type} {enc : TypeId × Value → H} {P : Program} {w : World} {base : Nat} {spare : Nat → Bool} {held : Bool}

/-- A slice in a cell. -/
theorem slice_cell {α : Type} (f : α → List Value) (ok : α → Prop) {s : Nat} (hs : ∀ x, (f x).length = s) (hs0 : 0 < s) {e e2 : TypeId} (he : P.underlying e = some (.slice e2)) (hC2 : P.cellsOf e2 = s)
    (helem : ∀ fuel cs x, DataW.trod enc P w base spare held fuel e2 cs = some x → ∃ a, cs = f a ∧ ok a) {fuel : Nat} {cs : List Value} {x : DataW H × List MemPlace} (h : DataW.trod enc P w base spare held fuel e cs = some x) :
    ∃ (A : Option Addr) (c : Nat) (t : List α), cs = [.slice A t.length c] ∧ Args s w A t.length (rows f t) ∧ (∀ x ∈ t, ok x) ∧ t.length ≤ maxLen := by
  rcases open_slice he h with ⟨rfl, _⟩ | ⟨a, len, cap, m, n', D, Pl, rfl, _, _, _, _, _, _⟩
  · exact ⟨none, 0, [], rfl, Args.of_nil _ _ _, by simp, by simp [maxLen]⟩
  · obtain ⟨t, ht, hok, hm⟩ := args_of_trod f ok hs hs0 he hC2 helem (A := some a) (n := len) (c := cap) (d := x.1) (ps := x.2) ⟨fuel, h⟩
    have hl : t.length = len := by have := ht.1; rw [rows_len hs] at this; exact Nat.eq_of_mul_eq_mul_right hs0 this
    subst hl
    exact ⟨some a, cap, t, rfl, ht, hok, hm⟩

theorem arg_nested {α : Type} (f : α → List Value) (ok : α → Prop) {s : Nat} (hs : ∀ x, (f x).length = s) (hs0 : 0 < s) {t e e2 : TypeId} {A : Option Addr} {n c : Nat} {d : DataW H} {ps : List MemPlace} (ht : P.underlying t = some (.slice e)) (hC : P.cellsOf e = 1) (he : P.underlying e = some (.slice e2)) (hC2 : P.cellsOf e2 = s)
    (helem : ∀ fuel cs x, DataW.trod enc P w base spare held fuel e2 cs = some x → ∃ a, cs = f a ∧ ok a)
    (h : DataW.Trod enc P w base spare held t (.slice A n c) d ps) : ∃ (vs : List Value) (ts : List (List α)), Arg w A n vs ∧ Ins s f w vs ts ∧ (∀ t ∈ ts, (∀ x ∈ t, ok x) ∧ t.length ≤ maxLen) ∧ n ≤ maxLen := by
  obtain ⟨ps2, h1, h2, h3⟩ := arg_of_trod (α := Value × List α) (fun p => p.1) (fun p => (∃ A c, p.1 = .slice A p.2.length c ∧ Args s w A p.2.length (rows f p.2)) ∧ (∀ x ∈ p.2, ok x) ∧ p.2.length ≤ maxLen) ht hC (fun fuel cs x hx => by
    obtain ⟨A, c, t, rfl, ha, hok, hm⟩ := slice_cell f ok hs hs0 he hC2 helem hx
    exact ⟨(.slice A t.length c, t), rfl, ⟨A, c, rfl, ha⟩, hok, hm⟩) h
  refine ⟨ps2.map (·.1), ps2.map (·.2), h1, ⟨by simp, fun j v t hv ht => ?_⟩, fun t ht => ?_, h3⟩
  · rw [List.getElem?_map] at hv ht
    obtain ⟨p, hp, rfl⟩ := Option.map_eq_some_iff.1 hv
    rw [hp] at ht
    simp at ht
    subst ht
    obtain ⟨⟨A, c, e1, ha⟩, _⟩ := h2 p (List.mem_of_getElem? hp)
    exact ⟨A, c, e1, ha⟩
  · obtain ⟨p, hp, rfl⟩ := List.mem_map.1 ht
    exact (h2 p hp).2

theorem elem_int {e : TypeId} (he : P.underlying e = some (.int .i64)) : ∀ fuel cs x, DataW.trod enc P w base spare held fuel e cs = some x → ∃ a, cs = oneI a ∧ Wf64 a := fun fuel cs x hx => by
  obtain ⟨b, hb, _, hw⟩ := DataW.trod_int he hx
  exact ⟨b, hb, wf64_of hw⟩
theorem elem_bool {e : TypeId} (he : P.underlying e = some .bool) : ∀ fuel cs x, DataW.trod enc P w base spare held fuel e cs = some x → ∃ a, cs = oneB a ∧ True := fun fuel cs x hx => by
  obtain ⟨b, hb, _⟩ := DataW.trod_bool he hx
  exact ⟨b, hb, trivial⟩
theorem elem_rec2 {e : TypeId} {f0 f1 : Field} (hC : P.cellsOf e = 2) (he : P.underlying e = some (.struct #[f0, f1])) (hone : oneCellFields P #[f0, f1] = true)
    (h0 : P.underlying f0.type = some (.int .i64)) (h1 : P.underlying f1.type = some (.int .i64)) : ∀ fuel cs x, DataW.trod enc P w base spare held fuel e cs = some x → ∃ a, cs = R2.vs a ∧ R2.wf a := fun fuel cs x hx => by
  obtain ⟨xs, n', _, hx', hcl, hlen, hg⟩ := DataW.trod_struct he hx
  obtain ⟨o0, k0⟩ := hone_of hone 0 f0 rfl
  obtain ⟨o1, k1⟩ := hone_of hone 1 f1 rfl
  rw [hC] at hcl
  match cs, hcl with
  | [c0, c1], _ =>
    match xs, hlen with
    | [y0, y1], _ =>
      obtain ⟨a0, rfl, w0⟩ := one_of h0 (by simpa [o0, k0] using hg 0 f0 rfl)
      obtain ⟨a1, rfl, w1⟩ := one_of h1 (by simpa [o1, k1] using hg 1 f1 rfl)
      exact ⟨⟨a0, a1⟩, rfl, w0, w1⟩
end
end Go.Proofs.YtgcedfpjgdeakaaDoor

/- How the laws' arguments of type Tape and []Tape are opened. -/
namespace Go.Proofs.YtgcedfpjgdeakaaDoor
open Go.ChangeShapes Go.WideShapes Go.ChangeAt Go.RowKit Go.Deep
set_option linter.all false
variable {H : Type} {enc : TypeId × Value → H} {P : Program} {w : World} {base : Nat} {spare : Nat → Bool} {held : Bool}
theorem elemTape {e e0 e1 : TypeId} {f0 f1 : Field} (hC : P.cellsOf e = 2) (he : P.underlying e = some (.struct #[f0, f1])) (hone : oneCellFields P #[f0, f1] = true) (h0 : P.underlying f0.type = some (.slice e0)) (hC0 : P.cellsOf e0 = 1) (el0 : ∀ fuel cs x, DataW.trod enc P w base spare held fuel e0 cs = some x → ∃ a : Int, cs = oneI a ∧ Wf64 a) (h1 : P.underlying f1.type = some (.slice e1)) (hC1 : P.cellsOf e1 = 1) (el1 : ∀ fuel cs x, DataW.trod enc P w base spare held fuel e1 cs = some x → ∃ a : Int, cs = oneI a ∧ Wf64 a) :
    ∀ fuel cs x, DataW.trod enc P w base spare held fuel e cs = some x → ∃ a : ETape, cs = ETape.vs a ∧ (RdTape w a ∧ wbTape maxLen a.d ∧ a.d.wf) := fun fuel cs x hx => by
  obtain ⟨xs, n', _, hx', hcl, hlen, hg⟩ := DataW.trod_struct he hx
  obtain ⟨o0, k0⟩ := hone_of hone 0 f0 rfl
  obtain ⟨o1, k1⟩ := hone_of hone 1 f1 rfl
  rw [hC] at hcl
  match cs, hcl with
  | [c0, c1], _ =>
    match xs, hlen with
    | [y0, y1], _ =>
      obtain ⟨A0, q0, a0, hb0, g0, w0, l0⟩ := slice_cell (s := 1) oneI Wf64 (fun _ => rfl) (by omega) h0 hC0 el0 (by simpa [o0, k0] using hg 0 f0 rfl)
      obtain rfl : c0 = .slice A0 a0.length q0 := by simpa using hb0
      obtain ⟨A1, q1, a1, hb1, g1, w1, l1⟩ := slice_cell (s := 1) oneI Wf64 (fun _ => rfl) (by omega) h1 hC1 el1 (by simpa [o1, k1] using hg 1 f1 rfl)
      obtain rfl : c1 = .slice A1 a1.length q1 := by simpa using hb1
      exact ⟨⟨⟨a0, a1⟩, .slice A0 a0.length q0, .slice A1 a1.length q1⟩, rfl, ⟨⟨A0, q0, rfl, g0⟩, ⟨A1, q1, rfl, g1⟩, trivial⟩, ⟨l0, l1, trivial⟩, w0, w1⟩
theorem argsTape {t e : TypeId} {A : Option Addr} {n c : Nat} {d : DataW H} {ps : List MemPlace} (ht : P.underlying t = some (.slice e)) (hC : P.cellsOf e = 2)
    (hel : ∀ fuel cs x, DataW.trod enc P w base spare held fuel e cs = some x → ∃ a : ETape, cs = ETape.vs a ∧ (RdTape w a ∧ wbTape maxLen a.d ∧ a.d.wf))
    (h : DataW.Trod enc P w base spare held t (.slice A n c) d ps) : ∃ es : List ETape, Args 2 w A n (rows ETape.vs es) ∧ RdsTape w es ∧ (∀ e ∈ es, wbTape 9223372036854775807 e.d ∧ e.d.wf) ∧ n ≤ maxLen := by
  obtain ⟨es, h1, h2, h3⟩ := args_of_trod ETape.vs _ (fun _ => rfl) (by omega) ht hC hel h
  exact ⟨es, h1, fun e he => (h2 e he).1, fun e he => ⟨(h2 e he).2.1, (h2 e he).2.2⟩, h3⟩
end Go.Proofs.YtgcedfpjgdeakaaDoor

/- How the laws' arguments of type MultiRule and []MultiRule are opened. -/
namespace Go.Proofs.YtgcedfpjgdeakaaDoor
open Go.ChangeShapes Go.WideShapes Go.ChangeAt Go.RowKit Go.Deep
set_option linter.all false
variable {H : Type} {enc : TypeId × Value → H} {P : Program} {w : World} {base : Nat} {spare : Nat → Bool} {held : Bool}
theorem elemMultiRule {e e1 e2 e3 : TypeId} {f0 f1 f2 f3 f4 : Field} (hC : P.cellsOf e = 5) (he : P.underlying e = some (.struct #[f0, f1, f2, f3, f4])) (hone : oneCellFields P #[f0, f1, f2, f3, f4] = true) (h0 : P.underlying f0.type = some (.int .i64)) (h1 : P.underlying f1.type = some (.slice e1)) (hC1 : P.cellsOf e1 = 1) (el1 : ∀ fuel cs x, DataW.trod enc P w base spare held fuel e1 cs = some x → ∃ a : Int, cs = oneI a ∧ Wf64 a) (h2 : P.underlying f2.type = some (.slice e2)) (hC2 : P.cellsOf e2 = 1) (el2 : ∀ fuel cs x, DataW.trod enc P w base spare held fuel e2 cs = some x → ∃ a : Int, cs = oneI a ∧ Wf64 a) (h3 : P.underlying f3.type = some (.slice e3)) (hC3 : P.cellsOf e3 = 1) (el3 : ∀ fuel cs x, DataW.trod enc P w base spare held fuel e3 cs = some x → ∃ a : Int, cs = oneI a ∧ Wf64 a) (h4 : P.underlying f4.type = some (.int .i64)) :
    ∀ fuel cs x, DataW.trod enc P w base spare held fuel e cs = some x → ∃ a : EMultiRule, cs = EMultiRule.vs a ∧ (RdMultiRule w a ∧ wbMultiRule maxLen a.d ∧ a.d.wf) := fun fuel cs x hx => by
  obtain ⟨xs, n', _, hx', hcl, hlen, hg⟩ := DataW.trod_struct he hx
  obtain ⟨o0, k0⟩ := hone_of hone 0 f0 rfl
  obtain ⟨o1, k1⟩ := hone_of hone 1 f1 rfl
  obtain ⟨o2, k2⟩ := hone_of hone 2 f2 rfl
  obtain ⟨o3, k3⟩ := hone_of hone 3 f3 rfl
  obtain ⟨o4, k4⟩ := hone_of hone 4 f4 rfl
  rw [hC] at hcl
  match cs, hcl with
  | [c0, c1, c2, c3, c4], _ =>
    match xs, hlen with
    | [y0, y1, y2, y3, y4], _ =>
      obtain ⟨a0, rfl, w0⟩ := one_of h0 (by simpa [o0, k0] using hg 0 f0 rfl)
      obtain ⟨A1, q1, a1, hb1, g1, w1, l1⟩ := slice_cell (s := 1) oneI Wf64 (fun _ => rfl) (by omega) h1 hC1 el1 (by simpa [o1, k1] using hg 1 f1 rfl)
      obtain rfl : c1 = .slice A1 a1.length q1 := by simpa using hb1
      obtain ⟨A2, q2, a2, hb2, g2, w2, l2⟩ := slice_cell (s := 1) oneI Wf64 (fun _ => rfl) (by omega) h2 hC2 el2 (by simpa [o2, k2] using hg 2 f2 rfl)
      obtain rfl : c2 = .slice A2 a2.length q2 := by simpa using hb2
      obtain ⟨A3, q3, a3, hb3, g3, w3, l3⟩ := slice_cell (s := 1) oneI Wf64 (fun _ => rfl) (by omega) h3 hC3 el3 (by simpa [o3, k3] using hg 3 f3 rfl)
      obtain rfl : c3 = .slice A3 a3.length q3 := by simpa using hb3
      obtain ⟨a4, rfl, w4⟩ := one_of h4 (by simpa [o4, k4] using hg 4 f4 rfl)
      exact ⟨⟨⟨a0, a1, a2, a3, a4⟩, .slice A1 a1.length q1, .slice A2 a2.length q2, .slice A3 a3.length q3⟩, rfl, ⟨⟨A1, q1, rfl, g1⟩, ⟨A2, q2, rfl, g2⟩, ⟨A3, q3, rfl, g3⟩, trivial⟩, ⟨l1, l2, l3, trivial⟩, w0, w4, w1, w2, w3⟩
theorem argsMultiRule {t e : TypeId} {A : Option Addr} {n c : Nat} {d : DataW H} {ps : List MemPlace} (ht : P.underlying t = some (.slice e)) (hC : P.cellsOf e = 5)
    (hel : ∀ fuel cs x, DataW.trod enc P w base spare held fuel e cs = some x → ∃ a : EMultiRule, cs = EMultiRule.vs a ∧ (RdMultiRule w a ∧ wbMultiRule maxLen a.d ∧ a.d.wf))
    (h : DataW.Trod enc P w base spare held t (.slice A n c) d ps) : ∃ es : List EMultiRule, Args 5 w A n (rows EMultiRule.vs es) ∧ RdsMultiRule w es ∧ (∀ e ∈ es, wbMultiRule 9223372036854775807 e.d ∧ e.d.wf) ∧ n ≤ maxLen := by
  obtain ⟨es, h1, h2, h3⟩ := args_of_trod EMultiRule.vs _ (fun _ => rfl) (by omega) ht hC hel h
  exact ⟨es, h1, fun e he => (h2 e he).1, fun e he => ⟨(h2 e he).2.1, (h2 e he).2.2⟩, h3⟩
end Go.Proofs.YtgcedfpjgdeakaaDoor

/- How the laws' arguments that are one Multi or one MultiConfig are opened. -/
namespace Go.Proofs.YtgcedfpjgdeakaaDoor
open Go.ChangeShapes Go.WideShapes Go.ChangeAt Go.RowKit Go.Deep
set_option linter.all false

section
variable {H : Type} {enc : TypeId × Value → H} {P : Program} {w : World} {base : Nat} {spare : Nat → Bool} {held : Bool}
theorem oneMulti {t e : TypeId} {f0 f1 f2 f3 : Field} {v : Value} {d : DataW H} {ps : List MemPlace} (ht : P.underlying t = some (.struct #[f0, f1, f2, f3])) (hC : P.cellsOf t = 4) (hone : oneCellFields P #[f0, f1, f2, f3] = true) (h0 : P.underlying f0.type = some (.int .i64)) (h1 : P.underlying f1.type = some (.int .i64)) (h2 : P.underlying f2.type = some (.int .i64)) (h3 : P.underlying f3.type = some (.slice e)) (hCe : P.cellsOf e = 5) (el : ∀ fuel cs x, DataW.trod enc P w base spare held fuel e cs = some x → ∃ a : EMultiRule, cs = EMultiRule.vs a ∧ (RdMultiRule w a ∧ wbMultiRule maxLen a.d ∧ a.d.wf)) {r : Reach} {b0 : Nat} (hw : Value.okWide P w r b0 t v) (h : DataW.Trod enc P w base spare held t v d ps) :
    ∃ (a0 : Int) (a1 : Int) (a2 : Int) (A : Option Addr) (n c : Nat) (x : List EMultiRule), v = .agg #[.int .i64 a0, .int .i64 a1, .int .i64 a2, .slice A n c] ∧ Args 5 w A n (rows EMultiRule.vs x) ∧ RdsMultiRule w x ∧ n ≤ maxLen ∧ (∀ a ∈ x, wbMultiRule 9223372036854775807 a.d) := by
  obtain ⟨cs, rfl, hsz⟩ := okWide_struct ht hw
  obtain ⟨fuel, hx⟩ := h
  obtain ⟨xs, n', _, hx', hcl, hlen, hg⟩ := DataW.trod_struct ht hx
  obtain ⟨o0, k0⟩ := hone_of hone 0 f0 rfl
  obtain ⟨o1, k1⟩ := hone_of hone 1 f1 rfl
  obtain ⟨o2, k2⟩ := hone_of hone 2 f2 rfl
  obtain ⟨o3, k3⟩ := hone_of hone 3 f3 rfl
  rw [hC] at hsz
  obtain ⟨l⟩ := cs
  match l, hsz with
  | [c0, c1, c2, c3], _ =>
    match xs, hlen with
    | [y0, y1, y2, y3], _ =>
      obtain ⟨a0, rfl, w0⟩ := one_of h0 (by simpa [o0, k0, Value.cells] using hg 0 f0 rfl)
      obtain ⟨a1, rfl, w1⟩ := one_of h1 (by simpa [o1, k1, Value.cells] using hg 1 f1 rfl)
      obtain ⟨a2, rfl, w2⟩ := one_of h2 (by simpa [o2, k2, Value.cells] using hg 2 f2 rfl)
      obtain ⟨A, q, x, hb, g1, wz, lz⟩ := slice_cell (s := 5) EMultiRule.vs (fun a : EMultiRule => RdMultiRule w a ∧ wbMultiRule maxLen a.d ∧ a.d.wf) (fun _ => rfl) (by omega) h3 hCe el (by simpa [o3, k3, Value.cells] using hg 3 f3 rfl)
      obtain rfl : c3 = .slice A x.length q := by simpa using hb
      exact ⟨a0, a1, a2, A, x.length, q, x, rfl, g1, fun a ha => (wz a ha).1, lz, fun a ha => (wz a ha).2.1⟩
theorem oneMultiConfig {t e : TypeId} {f0 f1 : Field} {v : Value} {d : DataW H} {ps : List MemPlace} (ht : P.underlying t = some (.struct #[f0, f1])) (hC : P.cellsOf t = 2) (hone : oneCellFields P #[f0, f1] = true) (h0 : P.underlying f0.type = some (.int .i64)) (h1 : P.underlying f1.type = some (.slice e)) (hCe : P.cellsOf e = 2) (el : ∀ fuel cs x, DataW.trod enc P w base spare held fuel e cs = some x → ∃ a : ETape, cs = ETape.vs a ∧ (RdTape w a ∧ wbTape maxLen a.d ∧ a.d.wf)) {r : Reach} {b0 : Nat} (hw : Value.okWide P w r b0 t v) (h : DataW.Trod enc P w base spare held t v d ps) :
    ∃ (a0 : Int) (A : Option Addr) (n c : Nat) (x : List ETape), v = .agg #[.int .i64 a0, .slice A n c] ∧ Args 2 w A n (rows ETape.vs x) ∧ RdsTape w x ∧ n ≤ maxLen ∧ (∀ a ∈ x, wbTape 9223372036854775807 a.d) := by
  obtain ⟨cs, rfl, hsz⟩ := okWide_struct ht hw
  obtain ⟨fuel, hx⟩ := h
  obtain ⟨xs, n', _, hx', hcl, hlen, hg⟩ := DataW.trod_struct ht hx
  obtain ⟨o0, k0⟩ := hone_of hone 0 f0 rfl
  obtain ⟨o1, k1⟩ := hone_of hone 1 f1 rfl
  rw [hC] at hsz
  obtain ⟨l⟩ := cs
  match l, hsz with
  | [c0, c1], _ =>
    match xs, hlen with
    | [y0, y1], _ =>
      obtain ⟨a0, rfl, w0⟩ := one_of h0 (by simpa [o0, k0, Value.cells] using hg 0 f0 rfl)
      obtain ⟨A, q, x, hb, g1, wz, lz⟩ := slice_cell (s := 2) ETape.vs (fun a : ETape => RdTape w a ∧ wbTape maxLen a.d ∧ a.d.wf) (fun _ => rfl) (by omega) h1 hCe el (by simpa [o1, k1, Value.cells] using hg 1 f1 rfl)
      obtain rfl : c1 = .slice A x.length q := by simpa using hb
      exact ⟨a0, A, x.length, q, x, rfl, g1, fun a ha => (wz a ha).1, lz, fun a ha => (wz a ha).2.1⟩
end
end Go.Proofs.YtgcedfpjgdeakaaDoor

/- The law FnExactMultiConfigText returns true for every input, and each argument reads afterwards as before. No conditions. -/
namespace Go.Proofs.YtgcedfpjgdeakaaDoor.lawMultiConfigText
open Go.ChangeShapes Go.WideShapes Go.ChangeAt Go.RowKit Go.Deep

set_option maxRecDepth 100000 in
theorem lifted (os : Os) (started : os.Started) (H : Type) (enc : TypeId × Value → H) :
    ReturnsInHanded {} Tryd.checked os 4 .any (fun w args => (Rows.fnExactMultiConfigTextSpec.pre enc Tryd.prog Tryd.f4 Rows.fnExactMultiConfigTextRow.domain false w args ∧ laidMetH Tryd.prog Rows.fnExactMultiConfigTextRow.laid w) ∧ sizedMet enc Tryd.prog Tryd.f4 (OpenSpec.ofChange Rows.fnExactMultiConfigTextSpec) false w args) (Rows.fnExactMultiConfigTextSpec.post enc Tryd.prog Tryd.f4 false true false false) := by
  refine returnsInHanded_of_change_and (C := Tryd.checked) (X := fun w _ => laidMetH Tryd.prog Rows.fnExactMultiConfigTextRow.laid w) (fun _ _ _ hh h => h.of_heap hh) own started (by kernel_rfl) Tryd.func4
    (ChangeSpec.witness_shaped (enc := enc) (C := Tryd.checked) (os := os) (X := fun w _ => laidMetH Tryd.prog Rows.fnExactMultiConfigTextRow.laid w) false (World.laidAll Tryd.prog os Rows.fnExactMultiConfigTextRow.laid) #[.agg #[.int .i64 0, .int .i64 0, .int .i64 0, .slice none 0 0], .agg #[.int .i64 0, .slice none 0 0]] 8 (World.laidAll_os _ _ _)
      (World.shaped_of_ZipB (by kernel_rfl) (by kernel_rfl)) (by kernel_rfl) (by kernel_rfl) (by kernel_rfl)
      (by rw [MakeChecks.laidMetH_plain _ _ _ (by kernel_rfl)]; exact laidMet_laidAll _ (by kernel_rfl) (by kernel_rfl))) ?_
  intro W base args ds gs before hval0 hW hcnd _ hL _
  have hval : ∀ (j : Nat) t v, Tryd.f4.params[j]? = some t → args[j]? = some v → Value.okWide Tryd.prog W .any base t v := hval0
  have hW' := hW
  obtain ⟨p, q, hA0, hV, rfl, hfz, hnd⟩ := hW
  have hA : DataW.TrodAll enc Tryd.prog W 0 (fun _ => true) true Tryd.f4.params.toList args.toList ds p := hA0
  rw [Tryd.params4] at hA hval
  obtain ⟨v0, vs0, d0, ds0, p0, q0, hargs, rfl, rfl, h0, r0⟩ := trodAll_cons hA
  obtain ⟨v1, vs1, d1, ds1, p1, q1, rfl, rfl, rfl, h1, r1⟩ := trodAll_cons r0
  obtain ⟨rfl, rfl, rfl⟩ := trodAll_nil r1
  obtain rfl : args = #[v0, v1] := by cases args; simp_all
  obtain ⟨rfl, rfl⟩ := trodVars_none hV
  have k0 := h0
  have lt0 : ∀ x ∈ p0, x.block < W.heap.size := by obtain ⟨m, hm⟩ := k0; exact DataW.trod_lt m _ _ _ hm
  have k1 := h1
  have lt1 : ∀ x ∈ p1, x.block < W.heap.size := by obtain ⟨m, hm⟩ := k1; exact DataW.trod_lt m _ _ _ hm
  obtain ⟨f0, f1, f2, A, n, c, es, hv0, gA, rA, mA, wA⟩ := oneMulti Tryd.underlying30 (by kernel_rfl) (by kernel_rfl) Tryd.underlying2 Tryd.underlying2 Tryd.underlying2 Tryd.underlying28 (by kernel_rfl) (elemMultiRule (by kernel_rfl) Tryd.underlying84 (by kernel_rfl) Tryd.underlying2 Tryd.underlying82 (by kernel_rfl) (elem_int Tryd.underlying2) Tryd.underlying82 (by kernel_rfl) (elem_int Tryd.underlying2) Tryd.underlying82 (by kernel_rfl) (elem_int Tryd.underlying2) Tryd.underlying2) (hval 0 30 v0 rfl rfl) h0
  subst hv0
  obtain ⟨g0, B, m, ct, ts, hv1, gB, rB, mB, wB⟩ := oneMultiConfig Tryd.underlying33 (by kernel_rfl) (by kernel_rfl) Tryd.underlying2 Tryd.underlying31 (by kernel_rfl) (elemTape (by kernel_rfl) Tryd.underlying87 (by kernel_rfl) Tryd.underlying82 (by kernel_rfl) (elem_int Tryd.underlying2) Tryd.underlying82 (by kernel_rfl) (elem_int Tryd.underlying2)) (hval 1 33 v1 rfl rfl) h1
  subst hv1
  clear hA0 hval0
  refine (walkMultiConfigText f0 f1 f2 A n c es g0 B m ct ts W gA rA mA wA gB rB mB wB).mono fun e W' ⟨he, bel⟩ => ?_
  subst he
  exact ⟨_, rfl, _, _, _, [], _, [], hW', trodAll_mk1 (shut_bool Tryd.underlying4 _), (trodAll_cons_mk (Below.trod laidOut (by kernel_rfl) (of_decide_eq_true (by kernel_rfl)) k0 bel lt0) (trodAll_cons_mk (Below.trod laidOut (by kernel_rfl) (of_decide_eq_true (by kernel_rfl)) k1 bel lt1) trodAll_mk0)), rfl, bel.frame _, fun h => by cases h⟩

theorem factA : Tryd.pinned.checked.prog.funcNamed Rows.fnExactMultiConfigTextRow.func = some 4 := by kernel_rfl
theorem factB0 : (Rows.fnExactMultiConfigTextRow.wf (OpenSpec.ofChange Rows.fnExactMultiConfigTextSpec)) = true := by kernel_rfl
theorem factB3 : (Tryd.f4.params.all (Tryd.pinned.checked.prog.readableRec ·)) = true := by kernel_rfl
theorem factB4 : (namedTie Tryd.pinned.checked.prog Rows.fnExactMultiConfigTextRow.named Rows.fnExactMultiConfigTextSpec.vars) = true := by kernel_rfl
theorem factB5 : (Rows.fnExactMultiConfigTextRow.stops == []) = true := by kernel_rfl
theorem factB7 : (Rows.fnExactMultiConfigTextRow.knobs == []) = true := by kernel_rfl
theorem factB9 : (Rows.fnExactMultiConfigTextRow.inPlace == Tryd.pinned.checked.prog.inPlace 4) = true := by kernel_rfl
theorem factB10 : (Rows.fnExactMultiConfigTextRow.unfollowed == Tryd.pinned.checked.prog.unfollowed 4) = true := by kernel_rfl
theorem factB11 : (Rows.fnExactMultiConfigTextRow.recurses == Tryd.pinned.checked.prog.recurses 4) = true := by kernel_rfl
theorem factB12 : (Rows.fnExactMultiConfigTextRow.named == Tryd.pinned.checked.prog.varsNamed 4) = true := by kernel_rfl
theorem factB13 : (Rows.fnExactMultiConfigTextRow.maps == (Tryd.f4.params.toList ++ Rows.fnExactMultiConfigTextSpec.plain.varTypes Tryd.pinned.checked.prog).any (Tryd.pinned.checked.prog.mapsRec ·)) = true := by kernel_rfl
theorem factB14 : (Rows.fnExactMultiConfigTextRow.ifaces == (Tryd.f4.params.toList ++ Rows.fnExactMultiConfigTextSpec.plain.varTypes Tryd.pinned.checked.prog).any (Tryd.pinned.checked.prog.ifacesRec ·)) = true := by kernel_rfl
theorem factB15 : (Rows.fnExactMultiConfigTextRow.mapsOut == Tryd.pinned.checked.prog.mapsAmong Tryd.f4.resultTypes.toList) = true := by kernel_rfl
theorem factB16 : (Rows.fnExactMultiConfigTextRow.loops == (Tryd.f4.params.toList ++ Rows.fnExactMultiConfigTextSpec.plain.varTypes Tryd.pinned.checked.prog).any (Tryd.pinned.checked.prog.loopsFrom ·)) = true := by kernel_rfl
theorem factB17 : (Rows.fnExactMultiConfigTextRow.wideKeys == (Tryd.f4.params.toList ++ Rows.fnExactMultiConfigTextSpec.plain.varTypes Tryd.pinned.checked.prog ++ Tryd.f4.resultTypes.toList).any (Tryd.pinned.checked.prog.wideKeysFrom ·)) = true := by kernel_rfl
theorem factB18 : (Rows.fnExactMultiConfigTextSpec.vars.all (Tryd.pinned.checked.prog.varReadable ·)) = true := by kernel_rfl
theorem factB19 : (Tryd.f4.resultTypes.all (fun t => Tryd.pinned.checked.prog.readableRec t && decide (t < Tryd.pinned.checked.prog.types.size))) = true := by kernel_rfl
theorem factB20 : (Rows.fnExactMultiConfigTextRow.ifacesOut == Tryd.f4.resultTypes.toList.any (Tryd.pinned.checked.prog.ifacesRec ·)) = true := by kernel_rfl
theorem factB21 : (Rows.fnExactMultiConfigTextRow.loopsOut == Tryd.f4.resultTypes.toList.any (Tryd.pinned.checked.prog.loopsFrom ·)) = true := by kernel_rfl
theorem factB23 : (Rows.fnExactMultiConfigTextRow.shortTexts.isNone) = true := by kernel_rfl
theorem factB28 : (Rows.fnExactMultiConfigTextRow.kinds == (if Rows.fnExactMultiConfigTextRow.domain.isEmpty then [] else Tryd.f4.params.toList.map fun t => match Tryd.pinned.checked.prog.underlying t with | some (.int k) => some k | _ => none)) = true := by kernel_rfl
theorem factB29 : (Rows.fnExactMultiConfigTextRow.pinned == Rows.fnExactMultiConfigTextRow.pinnedBy) = true := by kernel_rfl
theorem factB30 : (Rows.fnExactMultiConfigTextRow.veiled == (Tryd.f4.params.toList ++ Rows.fnExactMultiConfigTextSpec.plain.varTypes Tryd.pinned.checked.prog ++ Tryd.f4.resultTypes.toList).any (Tryd.pinned.checked.prog.veiledRec ·)) = true := by kernel_rfl
theorem factB31 : (Rows.fnExactMultiConfigTextRow.veiledFits Tryd.pinned.checked.prog Tryd.f4.params.toList (Tryd.f4.params.toList ++ Rows.fnExactMultiConfigTextSpec.plain.varTypes Tryd.pinned.checked.prog ++ Tryd.f4.resultTypes.toList)) = true := by kernel_rfl
set_option maxRecDepth 100000 in
theorem factB : joinedFacts Tryd.pinned.checked.prog 4 Tryd.f4 Rows.fnExactMultiConfigTextSpec Rows.fnExactMultiConfigTextRow = true := by
  unfold joinedFacts
  exact (pf.band (pf.band (pf.band (pf.band (pf.band (pf.band (pf.band (pf.band (pf.band (pf.band (pf.band (pf.band (pf.band (pf.band (pf.band (pf.band (pf.band (pf.band (pf.band (pf.band (pf.band (pf.band (pf.band (pf.band (pf.band (pf.band (pf.band (pf.band (pf.band (pf.band (pf.band factB0 pf.laid) pf.mapsRow) factB3) factB4) factB5) pf.stops) factB7) pf.stopKnobs) factB9) factB10) factB11) factB12) factB13) factB14) factB15) factB16) factB17) factB18) factB19) factB20) factB21) (by show (Rows.fnExactMultiConfigTextRow.plainKeys == Tryd.pinned.checked.prog.plainKeys) = true; rw [pf.plainKeys]; kernel_rfl)) factB23) pf.heard) pf.enter) (by show (Rows.fnExactMultiConfigTextRow.lifted == Tryd.pinned.checked.prog.liftsFinal) = true; rw [pf.lifts]; kernel_rfl)) (by show (Tryd.pinned.checked.prog.make == some Rows.fnExactMultiConfigTextRow.make) = true; rw [pf.make]; kernel_rfl)) factB28) factB29) factB30) factB31)
theorem factC : decide (Func.isInstance Tryd.pinned.checked.prog Tryd.f4 Rows.fnExactMultiConfigTextRow.origin Rows.fnExactMultiConfigTextRow.targs) = true := by kernel_rfl
theorem factD : Func.isWrapper Tryd.pinned.checked.prog Tryd.f4 Rows.fnExactMultiConfigTextRow.wrapper Rows.fnExactMultiConfigTextRow.mainSum := by
  unfold Func.isWrapper; first | (rw [if_pos (by decide +kernel)]; kernel_rfl) | (rw [if_neg (by decide +kernel)]; exact ⟨rfl, rfl⟩)

theorem over : Rows.fnExactMultiConfigTextRow.holds Tryd.pinned (OpenSpec.ofChange Rows.fnExactMultiConfigTextSpec) :=
  OpenClaim.holds_of_wide 4 Tryd.f4 rfl rfl rfl rfl rfl rfl rfl ⟨rfl, rfl, rfl, rfl, rfl⟩ rfl rfl rfl rfl rfl factA Tryd.func4 factB (of_decide_eq_true factC) factD
    (fun os started H enc _ => lifted os started H enc)

/-- The statement. -/
theorem proved : Rows.FnExactMultiConfigTextCardSaid :=
  Claim7.holds_tied_plain_at .later [] [.data, .data, .data] true (true, "f60ea794665be1a9574279043f00b7561cd0aceb6730081b193091a94adcda49") true over (fun _ h => by cases h) (by kernel_rfl) (fun _ h => by cases h) fnExactMultiConfigText_row_tie rfl ⟨rfl, rfl⟩ (by kernel_rfl) rfl
    (fun f fn hf hfn => by
      obtain rfl : f = 4 := Option.some.inj (factA.symm.trans hf) |>.symm
      obtain rfl : fn = Tryd.f4 := (Option.some.inj (Tryd.func4.symm.trans hfn)).symm
      exact ⟨by kernel_rfl, fun j t ht => by
        rw [Tryd.params4] at ht
        have hm : t ∈ [30, 33] := by simpa using Array.mem_of_getElem? ht
        have hall : ([30, 33].all fun u => !Tryd.prog.wantsStandIn u) = true := by kernel_rfl
        exact (show Tryd.prog.wantsStandIn t = false by simpa using List.all_eq_true.1 hall t hm)⟩)
    (by kernel_rfl)
#print axioms proved
end Go.Proofs.YtgcedfpjgdeakaaDoor.lawMultiConfigText
