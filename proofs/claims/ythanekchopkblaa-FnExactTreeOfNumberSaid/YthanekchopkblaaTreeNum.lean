/- TreeOfNumber, the reference's and the program's. -/
import Derived.Test.YthanekchopkblaaTreeHeap
namespace Go.Proofs.Ythanekchopkblaa
open Go.RowKit
set_option linter.unusedSimpArgs false
set_option linter.unusedVariables false

def numT : Nat → T
  | 0 => .nil
  | n + 1 => .pair .nil (numT n)
theorem numT_nodes (n : Nat) : (numT n).nodes = 2 * n + 1 := by
  induction n with
  | zero => rfl
  | succ n ih => simp [numT, T.nodes, ih]; omega
theorem numT_enc (n : Nat) : (numT n).enc = (List.replicate n [true, false]).flatten ++ [false] := by
  induction n with
  | zero => rfl
  | succ n ih => simp [numT, T.enc, ih, List.replicate_succ]
/-- So many pairs of nodes. -/
def tf (n : Nat) : List Bool := (List.replicate n [true, false]).flatten
theorem tf_succ (n : Nat) : tf (n + 1) = tf n ++ [true, false] := by
  unfold tf
  rw [List.replicate_succ', List.flatten_append]; simp
theorem length_tf (n : Nat) : (tf n).length = 2 * n := by simp [tf]; omega

def treeOfNumber (n : Int) : List Bool × Int := if inB n 0 100 then ((numT n.toNat).enc, 0) else ([], 2)
theorem bndTreeOfNumber0 (n : Int) : (treeOfNumber n).1.length ≤ 1048576 := by
  unfold treeOfNumber; split
  · rename_i h; rw [inB_iff] at h; rw [T.length_enc, numT_nodes]; omega
  · simp

set_option maxRecDepth 100000 in
theorem l21Number_any (n : Nat) (w : World) (hn : n ≤ 100) :
    Calls Try.prog 59 #[.int .i64 n] w fun e w' => ∃ v, e = .returned v ∧ w'.ownsRow w.heap.size 4 1 v (2 * n + 1) ((numT n).enc.map .bool) ∧ Below w.heap.size w w' := by
  have HE := Lib.hid (numT_enc n)
  go_enter Try.func59, Try.ntmps59
  go_wp2_with fail
  go_loopw [0, 3] (fun i v wr => ∃ k j : Nat, k + j = n ∧ i = .int .i64 k ∧ wr.ownsRow w.heap.size 4 1 v (2 * j) ((tf j).map .bool) ∧ Below w.heap.size w wr) (fun i _ _ => (intOf i).toNat)
  case atStart => exact ⟨n, 0, rfl, rfl, World.ownsRow_made _ #[] 0 (by simp) (by simp [maxLen]) rfl, laid_below _ _⟩
  case round =>
    obtain ⟨k, j, hkj, rfl, hown, hB⟩ := hrel
    have HK := Lib.hid hkj
    have hk : k ≤ 100 := by omega
    have hj : j ≤ 100 := by omega
    clear hkj
    rcases Nat.eq_zero_or_pos k with h0 | h0
    · subst h0
      go_wp2_with (at_builtin; refine wpList_app rfl _ _ _ rfl Try.underlying22 infoBoolS rfl (by omega) w wr hown hB rfl 1 #[.bool false] rfl (laid_below _ _) (heap_alloc_new _ _) rfl (by simp [Value.oneCell']) (by omega) (by unfold maxLen; omega) (by omega) ?_; intro g cap w1 hown1 hB1)
      go_ret
      obtain rfl : j = n := by have := HK.out; omega
      exact ⟨_, rfl, by rw [HE.out, List.map_append]; exact hown1, hB1⟩
    · go_wp2_with (at_builtin; refine wpList_app rfl _ _ _ rfl Try.underlying22 infoBoolS rfl (by omega) w wr hown hB rfl 2 #[.bool true, .bool false] rfl (laid_below _ _) (heap_alloc_new _ _) rfl (by simp [Value.oneCell']) (by omega) (by unfold maxLen; omega) (by omega) ?_; intro g cap w1 hown1 hB1)
      go_roundw
      case rel => exact ⟨k - 1, j + 1, by have := HK.out; omega, by go_num, by rw [tf_succ, List.map_append]; exact hown1, hB1⟩
      case measure => simp [intOf]; omega

set_option maxRecDepth 100000 in
theorem specTreeOfNumber_any (n : Int) (w : World) (hw : Wf64 n) :
    Calls Try.prog 27 #[.int .i64 n] w fun e w' => ∃ v, e = .returned (.tuple #[v, .int .i64 (treeOfNumber n).2]) ∧
      w'.ownsRow w.heap.size 4 1 v (treeOfNumber n).1.length ((treeOfNumber n).1.map .bool) ∧ Below w.heap.size w w' := by
  clear hw
  rcases Bool.eq_false_or_eq_true (inB n 0 100) with h | h
  · obtain ⟨m, rfl⟩ : ∃ m : Nat, n = m := ⟨n.toNat, by rw [inB_iff] at h; omega⟩
    have hm : m ≤ 100 := by rw [inB_iff] at h; omega
    have H := Lib.hid h; clear h
    have HE : Hid (treeOfNumber m = ((numT m).enc, 0)) := by unfold Hid treeOfNumber; rw [H.out]; rfl
    go_enter Try.func27, Try.ntmps27
    go_wp2_with fail
    refine (l00In_is m 0 100 true H.out _).mono ?_
    rintro e w' ⟨rfl, rfl⟩
    go_wp2_with fail
    refine (l21Number_any m w hm).mono ?_
    rintro e w1 ⟨v, rfl, hown, hB⟩
    go_wp2_with fail
    go_ret2
    rw [HE.out]
    exact ⟨v, rfl, by rw [T.length_enc, numT_nodes]; exact hown, hB⟩
  · have H := Lib.hid h; clear h
    have HE : Hid (treeOfNumber n = ([], 2)) := by unfold Hid treeOfNumber; rw [H.out]; rfl
    go_enter Try.func27, Try.ntmps27
    go_wp2_with fail
    refine (l00In_is n 0 100 false H.out _).mono ?_
    rintro e w' ⟨rfl, rfl⟩
    go_wp2_with fail
    go_ret2
    rw [HE.out]
    exact ⟨_, rfl, World.ownsRow_nil _ _ _ _, Below.refl _ _⟩

theorem infoTreeP : (Try.prog.info? 58).map (fun i => (i.zero, i.size, i.bytes)) = some (some (.pointer none), 1, 8) := by kernel_rfl

set_option maxRecDepth 100000 in
theorem treeOfNils_any (g n : Nat) (w : World) (hr : w.rowIs g 58 n (fun _ => .pointer none)) (hn : n ≤ 100) :
    Calls Try.prog 60 #[.slice (some ⟨g, 0, none⟩) n n] w fun e w' => ∃ p, e = .returned (.pointer p) ∧ Tr w'.heap.size w' (numT n) p ∧ Below w.heap.size w w' := by
  go_enter Try.func60, Try.ntmps60
  go_wp2_with fail
  go_loopw [3, 4] (fun v i wr => ∃ (k j : Nat) (p : Option Addr), k + j = n ∧ i = .int .i64 ((k : Int) - 1) ∧ v = .pointer p ∧ Tr wr.heap.size wr (numT j) p ∧ Below w.heap.size w wr) (fun _ i _ => (intOf i + 1).toNat)
  case atStart => exact ⟨n, 0, none, rfl, rfl, rfl, rfl, Below.refl _ _⟩
  case round =>
    obtain ⟨k, j, p, hkj, rfl, rfl, ht, hB⟩ := hrel
    have HK := Lib.hid hkj
    have hk : k ≤ 100 := by omega
    have hj : j ≤ 100 := by omega
    have hkn : k ≤ n := by omega
    clear hkj
    rcases Nat.eq_zero_or_pos k with h0 | h0
    · subst h0
      go_wp2_with fail
      go_ret
      obtain rfl : j = n := by have := HK.out; omega
      exact ⟨p, rfl, ht, hB⟩
    · obtain ⟨m, rfl⟩ : ∃ m, k = m + 1 := ⟨k - 1, by omega⟩
      have hc : wr.cell? ⟨g, m, none⟩ = some (.pointer none) := (hB.cell (p := ⟨g, m, none⟩) hr.lt).trans (hr.cell (by omega))
      have e1 : (((m + 1 : Nat) : Int) - 1) = (m : Int) := by omega
      rw [e1]
      clear e1
      go_wp2_with fail
      refine (pair_any .nil (numT j) none p wr rfl ht (by rw [numT_nodes]; simp [T.nodes]; omega)).mono ?_
      rintro e w1 ⟨p1, rfl, ht1, hB1⟩
      have hB2 := below_step hB hB1
      go_wp2_with fail
      go_roundw
      case rel => exact ⟨m, j + 1, p1, by have := HK.out; omega, rfl, rfl, ht1, hB2⟩
      case measure => simp [intOf]

set_option maxRecDepth 100000 in
theorem implTreeOfNumber_any (n : Int) (w : World) (hw : Wf64 n) :
    Calls Try.prog 28 #[.int .i64 n] w fun e w' => ∃ v, e = .returned (.tuple #[v, .int .i64 (treeOfNumber n).2]) ∧
      w'.ownsRow w.heap.size 4 1 v (treeOfNumber n).1.length ((treeOfNumber n).1.map .bool) ∧ Below w.heap.size w w' := by
  clear hw
  rcases Bool.eq_false_or_eq_true (inB n 0 100) with h | h
  · obtain ⟨m, rfl⟩ : ∃ m : Nat, n = m := ⟨n.toNat, by rw [inB_iff] at h; omega⟩
    have hm : m ≤ 100 := by rw [inB_iff] at h; omega
    have H := Lib.hid h; clear h
    have HE : Hid (treeOfNumber m = ((numT m).enc, 0)) := by unfold Hid treeOfNumber; rw [H.out]; rfl
    have hmk := fun W => run_make_row' (P := Try.prog) 60 58 (.pointer none) 8 Try.underlying60 infoTreeP rfl .i64 .i64 m (by omega) (by omega) W
    go_enter Try.func28, Try.ntmps28
    go_wp2_with fail
    refine (within_is m 0 100 true H.out _).mono ?_
    rintro e w' ⟨rfl, rfl⟩
    go_wp2_with fail
    refine (treeOfNils_any w.heap.size m _ (World.rowIs_made w (.pointer none) m 58) hm).mono ?_
    rintro e w1 ⟨p, rfl, ht, hB⟩
    have hB1 := below_step (laid_below w _) hB
    clear hmk
    go_wp2_with fail
    refine (list_any (numT m) p w1 ht (by rw [numT_nodes]; omega)).mono ?_
    rintro e w2 ⟨v, rfl, hown, hB2⟩
    have hB3 := below_step hB1 hB2
    go_wp2_with fail
    go_ret2
    rw [HE.out]
    exact ⟨v, rfl, by rw [T.length_enc]; exact own_base hown hB1.size, hB3⟩
  · have H := Lib.hid h; clear h
    have HE : Hid (treeOfNumber n = ([], 2)) := by unfold Hid treeOfNumber; rw [H.out]; rfl
    go_enter Try.func28, Try.ntmps28
    go_wp2_with fail
    refine (within_is n 0 100 false H.out _).mono ?_
    rintro e w' ⟨rfl, rfl⟩
    go_wp2_with fail
    go_ret2
    rw [HE.out]
    exact ⟨_, rfl, World.ownsRow_nil _ _ _ _, Below.refl _ _⟩
end Go.Proofs.Ythanekchopkblaa
