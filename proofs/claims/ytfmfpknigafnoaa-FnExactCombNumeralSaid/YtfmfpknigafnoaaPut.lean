/- l00Put puts a number to its place among rising ones. -/
import Derived.Test.YtfmfpknigafnoaaSort
import Derived.Test.YtfmfpknigafnoaaRec
import Derived.Test.YtfmfpknigafnoaaSeq
namespace Go.Proofs.Ytfmfpknigafnoaa
open Go.RowKit
set_option linter.all false

theorem own_cap' {w : World} {base : Nat} {e : TypeId} {size n : Nat} {v : Value} {xs : List Value} (h : w.ownsRow base e size v n xs) : ∀ A c, v = .slice A n c → n ≤ c := by
  intro A c hv
  rcases h.2 with ⟨h0, h1⟩ | ⟨g, cap, cur, h0, _, _, h1, _⟩
  · omega
  · rw [h0] at hv; injection hv with _ _ h3; omega
theorem grown_cell_new {wr w2 : World} {o : Obj} {base : Nat} {e : TypeId} {size n : Nat} {v : Value} {xs : List Value} (hown : wr.ownsRow base e size v n xs) (hg : (wr.alloc o).grownBy w2 v.ownBlock) {j : Nat} {u : Value} (h : (wr.alloc o).cell? ⟨wr.heap.size, j, none⟩ = some u) : w2.cell? ⟨wr.heap.size, j, none⟩ = some u :=
  hg.cell h (by intro e; have := hown.lt _ e.symm; simp at this)

theorem put_lt {n y : Int} {xs : List Int} {k : Nat} (hy : xs[k]? = some y) (h : n < y) : put n (xs.drop k) = n :: y :: xs.drop (k + 1) := by
  rw [drop_at hy, put, if_pos (by omega), if_pos h]
theorem put_eqv {n y : Int} {xs : List Int} {k : Nat} (hy : xs[k]? = some y) (h : n = y) : put n (xs.drop k) = y :: xs.drop (k + 1) := by
  rw [drop_at hy, put, if_pos (by omega), if_neg (by omega)]
theorem put_gt {n y : Int} {xs : List Int} {k : Nat} (hy : xs[k]? = some y) (h : y < n) : put n (xs.drop k) = y :: put n (xs.drop (k + 1)) := by
  rw [drop_at hy, put, if_neg (by omega)]
theorem take_snoc' {xs : List Int} {k : Nat} {y : Int} (hy : xs[k]? = some y) : xs.take (k + 1) = xs.take k ++ [y] := by
  rw [List.take_add_one, hy]; rfl

set_option maxRecDepth 100000 in
set_option maxHeartbeats 2000000 in
theorem l00Put_any (x : Int) (A0 : Option Addr) (n c0 : Nat) (xs : List Int) (w : World) (ha : Arg w A0 n (xs.map (Value.int .i64))) (hn : n ≤ 1048576) :
    Calls Try.prog 217 #[.slice A0 n c0, .int .i64 x] w fun e w' => ∃ v, e = .returned v ∧ w'.ownsRow w.heap.size 2 1 v (put x xs).length ((put x xs).map (Value.int .i64)) ∧ Below w.heap.size w w' := by
  have HL : Hid (xs.length = n) := by have := ha.1; simpa [Hid] using this
  have hb0 := laid_below w (.cells #[] 2)
  have hown0 : (w.alloc (.cells #[] 2)).ownsRow w.heap.size 2 1 (.slice (some ⟨w.heap.size, 0, none⟩) 0 0) 0 [] := own_empty w 2 1
  go_enter Try.func217, Try.ntmps217
  go_wp2
  go_loopw [5, 6, 7] (fun v d i wr => ∃ (k m : Nat) (b : Bool) (pre : List Int), k ≤ n ∧ m ≤ k + 1 ∧ Hid (b = false → m ≤ k) ∧ i = .int .i64 k ∧ d = .bool b ∧ Below w.heap.size w wr ∧ wr.ownsRow w.heap.size 2 1 v m (pre.map (Value.int .i64)) ∧ Hid (pre.length = m) ∧ Hid (put x xs = pre ++ (if b then xs.drop k else put x (xs.drop k)))) (fun _ _ i _ => n - (intOf i).toNat)
  case atStart => exact ⟨0, 0, false, [], Nat.zero_le _, by omega, by intro _; omega, rfl, rfl, hb0, hown0, rfl, by simp [Hid]⟩
  case round =>
    obtain ⟨k, m, b, pre, hk, hm, HMK, rfl, rfl, hB, hown, HP, HE⟩ := hrel
    clear hb0 hown0
    by_cases hlt : k < n
    · obtain ⟨bb, off, rfl, hs⟩ := ha.sl hlt
      obtain ⟨y, HY, hy⟩ := map_at (Value.int .i64) xs (k := k) (by have := HL.out; omega)
      have hcy := (hs.below' hB).at hy
      have HY2 := Lib.hid hy; clear hy
      obtain ⟨Av, cv, rfl⟩ := own_form hown
      cases b with
      | true =>
        have HE2 : Hid (put x xs = (pre ++ [y]) ++ xs.drop (k + 1)) := by have := HE.out; unfold Hid; rw [if_pos rfl, drop_at HY.out] at this; rw [this]; simp
        have HP2 : Hid ((pre ++ [y]).length = m + 1) := by have := HP.out; unfold Hid; simp [this]
        clear HE
        go_wp2_with (at_builtin; refine wpList_app rfl _ _ _ rfl Try.underlying176 infoInt64S rfl (by omega) w wr hown hB rfl 1 #[.int .i64 y] rfl (laid_below _ _) (heap_alloc_new _ _) rfl (by simp [Value.oneCell']) (by omega) (by unfold maxLen; omega) (by omega) ?_; intro g cap w1 hown1 hB1; clear hown hB)
        go_roundw
        case rel => exact ⟨k + 1, m + 1, true, pre ++ [y], by omega, by omega, (by intro h; cases h), by go_num, rfl, hB1, by rw [List.map_append]; exact hown1, HP2, by unfold Hid; rw [if_pos rfl]; exact HE2.out⟩
        case measure => simp [intOf]; omega
      | false =>
        have he := HE.out
        rw [if_neg (by decide)] at he
        have hmk := HMK.out rfl
        clear HMK
        by_cases h1 : x ≤ y
        · by_cases h2 : x < y
          · have HE2 : Hid (put x xs = (pre ++ [x] ++ [y]) ++ xs.drop (k + 1)) := by unfold Hid; rw [he, put_lt HY.out h2]; simp
            have HP2 : Hid ((pre ++ [x] ++ [y]).length = m + 1 + 1) := by have := HP.out; unfold Hid; simp [this]
            clear HE he
            go_wp2_with (first | (at_builtin; refine wpList_app rfl _ _ _ rfl Try.underlying176 infoInt64S rfl (by omega) w wr hown hB rfl 1 #[.int .i64 x] rfl (laid_below _ _) (heap_alloc_new _ _) rfl (by simp [Value.oneCell']) (by omega) (by unfold maxLen; omega) (by omega) ?_; intro g cap w1 hown1 hB1; have hcy1 := (hs.below' hB1).at HY2.out; clear hown hB hcy) | (at_builtin; refine wpList_app rfl _ _ _ rfl Try.underlying176 infoInt64S rfl (by omega) w w1 hown1 hB1 rfl 1 #[.int .i64 y] rfl (laid_below _ _) (heap_alloc_new _ _) rfl (by simp [Value.oneCell']) (by omega) (by unfold maxLen; omega) (by omega) ?_; intro g2 cap2 w2 hown2 hB2; clear hown1 hB1))
            go_roundw
            case rel => exact ⟨k + 1, m + 1 + 1, true, pre ++ [x] ++ [y], by omega, by omega, (by intro h; cases h), by go_num, rfl, hB2, by rw [List.map_append, List.map_append]; exact hown2, HP2, by unfold Hid; rw [if_pos rfl]; exact HE2.out⟩
            case measure => simp [intOf]; omega
          · have hxy : y ≤ x := by omega
            have HE2 : Hid (put x xs = (pre ++ [y]) ++ xs.drop (k + 1)) := by unfold Hid; rw [he, put_eqv HY.out (by omega)]; simp
            have HP2 : Hid ((pre ++ [y]).length = m + 1) := by have := HP.out; unfold Hid; simp [this]
            clear HE he
            go_wp2_with (at_builtin; refine wpList_app rfl _ _ _ rfl Try.underlying176 infoInt64S rfl (by omega) w wr hown hB rfl 1 #[.int .i64 y] rfl (laid_below _ _) (heap_alloc_new _ _) rfl (by simp [Value.oneCell']) (by omega) (by unfold maxLen; omega) (by omega) ?_; intro g cap w1 hown1 hB1; clear hown hB)
            go_roundw
            case rel => exact ⟨k + 1, m + 1, true, pre ++ [y], by omega, by omega, (by intro h; cases h), by go_num, rfl, hB1, by rw [List.map_append]; exact hown1, HP2, by unfold Hid; rw [if_pos rfl]; exact HE2.out⟩
            case measure => simp [intOf]; omega
        · have hxy : y < x := by omega
          have HE2 : Hid (put x xs = (pre ++ [y]) ++ put x (xs.drop (k + 1))) := by unfold Hid; rw [he, put_gt HY.out hxy]; simp
          have HP2 : Hid ((pre ++ [y]).length = m + 1) := by have := HP.out; unfold Hid; simp [this]
          clear HE he
          go_wp2_with (at_builtin; refine wpList_app rfl _ _ _ rfl Try.underlying176 infoInt64S rfl (by omega) w wr hown hB rfl 1 #[.int .i64 y] rfl (laid_below _ _) (heap_alloc_new _ _) rfl (by simp [Value.oneCell']) (by omega) (by unfold maxLen; omega) (by omega) ?_; intro g cap w1 hown1 hB1; clear hown hB)
          go_roundw
          case rel => exact ⟨k + 1, m + 1, false, pre ++ [y], by omega, by omega, (by intro _; omega), by go_num, rfl, hB1, by rw [List.map_append]; exact hown1, HP2, by unfold Hid; rw [if_neg (by decide)]; exact HE2.out⟩
          case measure => simp [intOf]; omega
    · obtain ⟨Av, cv, rfl⟩ := own_form hown
      have hd : xs.drop k = [] := List.drop_of_length_le (by have := HL.out; omega)
      cases b with
      | true =>
        have HE2 : Hid (put x xs = pre) := by have := HE.out; unfold Hid; rw [this, if_pos rfl, hd]; simp
        clear HE hd
        go_wp2
        go_ret
        exact ⟨_, rfl, by rw [HE2.out, HP.out]; exact hown, hB⟩
      | false =>
        have HE2 : Hid (put x xs = pre ++ [x]) := by have := HE.out; unfold Hid; rw [this, if_neg (by decide), hd]; rfl
        have HP2 : Hid ((pre ++ [x]).length = m + 1) := by have := HP.out; unfold Hid; simp [this]
        clear HE hd
        go_wp2_with (at_builtin; refine wpList_app rfl _ _ _ rfl Try.underlying176 infoInt64S rfl (by omega) w wr hown hB rfl 1 #[.int .i64 x] rfl (laid_below _ _) (heap_alloc_new _ _) rfl (by simp [Value.oneCell']) (by omega) (by unfold maxLen; omega) (by omega) ?_; intro g cap w1 hown1 hB1; clear hown hB)
        go_ret
        exact ⟨_, rfl, by rw [HE2.out, HP2.out, List.map_append]; exact hown1, hB1⟩

end Go.Proofs.Ytfmfpknigafnoaa
