/- slices.Repeat of one element: elements int64. -/
import Derived.Test.YtfmfpknigafnoaaHeld
import Derived.Test.YtfmfpknigafnoaaHelpInt
import Derived.Test.YtfmfpknigafnoaaCopy
import Derived.Test.YtfmfpknigafnoaaBitsLay
import Derived.Test.YtfmfpknigafnoaaSeq
import Derived.Deep.RegionLaw
namespace Go.Proofs.Ytfmfpknigafnoaa
open Go.RowKit
set_option linter.all false

theorem oneI_len (x : Int) : (oneI x).length = 1 := rfl
theorem one_rows_Int (xs : List Int) : ∀ u ∈ rows oneI xs, u.oneCell' = true := by rw [rows_oneI]; exact one_ints .i64 xs
theorem made_zero1 (m : Nat) : madeCells (Value.cells (.int .i64 0)) (m * 1) = (rows oneI (List.replicate m (0 : Int))).toArray := by
  apply Array.ext
  · rw [size_madeCells]; simp [rows_len oneI_len]
  · intro i h1 h2
    have hi : i < m := by have hs := h1; rw [size_madeCells] at hs; omega
    have e1 : (madeCells (Value.cells (.int .i64 0)) (m * 1))[i] = .int .i64 0 := by have hm : i % 1 = 0 := Nat.mod_one i; simp [madeCells, Value.cells, hm]
    have e2 : (rows oneI (List.replicate m (0 : Int)))[i]? = some (.int .i64 0) := by
      have hx : (List.replicate m (0 : Int))[i]? = some 0 := by simp [hi]
      have hr := rows_at oneI_len hx (j := 0) (by omega)
      rw [show i * 1 + 0 = i by omega] at hr
      rw [hr]; rfl
    rw [e1]
    simp only [List.getElem_toArray]
    exact (List.getElem?_eq_some_iff.1 e2).2.symm

theorem mulOneInt_any (m : Nat) (w : World) (hm : m ≤ 1048576) : Calls Try.prog 229 #[.int .u64 1, .int .u64 (m : Int)] w fun e w' => e = .returned (.tuple #[.int .u64 0, .int .u64 (m : Int)]) ∧ w = w' := by
  have h := Any.bits_Mul Try.layMul 1 m (by omega) (by omega) w
  refine h.mono ?_
  rintro e w' ⟨rfl, rfl⟩
  have h1 : 1 * m / 18446744073709551616 = 0 := by omega
  have h2 : 1 * m % 18446744073709551616 = m := by omega
  rw [h1, h2]
  exact ⟨rfl, rfl⟩

/-- n times app, the rest zeros. -/
def partInt (app : Int) (n m : Nat) : List Value := rows oneI (List.replicate n app ++ List.replicate (m - n) (0 : Int))
theorem partInt_len (app : Int) (n m : Nat) (h : n ≤ m) : (partInt app n m).length = m * 1 := by
  unfold partInt; rw [rows_len oneI_len]; simp; omega
theorem partInt_copy' (app : Int) (n k m : Nat) (h : n + k ≤ m) : (partInt app n m).take (n * 1) ++ rows oneI (List.replicate k app) ++ (partInt app n m).drop (n * 1 + (rows oneI (List.replicate k app)).length) = partInt app (n + k) m := by
  unfold partInt
  have hl : (rows oneI (List.replicate k app)).length = k * 1 := by rw [rows_len oneI_len]; simp
  rw [hl, show n * 1 + k * 1 = (n + k) * 1 by omega, rows_take oneI_len, rows_drop oneI_len, ← rows_app, ← rows_app]
  congr 1
  rw [List.take_append_of_le_length (by simp), List.take_of_length_le (by simp)]
  rw [List.drop_append, List.drop_of_length_le (by simp)]
  simp only [List.length_replicate, List.nil_append, List.drop_replicate]
  rw [List.replicate_append_replicate]
  congr 2
  omega
theorem partInt_copy (app : Int) (n k m : Nat) (h : n + k ≤ m) : (partInt app n m).take n ++ rows oneI (List.replicate k app) ++ (partInt app n m).drop (n + (rows oneI (List.replicate k app)).length) = partInt app (n + k) m := by
  have := partInt_copy' app n k m h
  rwa [Nat.mul_one] at this
theorem partInt_at (app : Int) (n m : Nat) {w : World} {g : Nat} (h : w.heap[g]? = some (.cells (partInt app n m).toArray 2 (0, 0))) (k : Nat) (hk : k ≤ n) : ∀ j v, (rows oneI (List.replicate k app))[j]? = some v → w.cell? ((⟨g, 0, none⟩ : Addr).add j) = some v := by
  intro j v hv
  rw [addr_add, Nat.zero_add]
  have hj : j < k * 1 := by have := (List.getElem?_eq_some_iff.1 hv).1; rw [rows_len oneI_len] at this; simpa using this
  have h2 : (partInt app n m)[j]? = some v := by
    unfold partInt
    rw [rows_app, List.getElem?_append_left (by rw [rows_len oneI_len]; simp; omega)]
    have : List.replicate n app = List.replicate k app ++ List.replicate (n - k) app := by rw [List.replicate_append_replicate]; congr 1; omega
    rw [this, rows_app, List.getElem?_append_left (by rw [rows_len oneI_len]; simp; omega)]
    exact hv
  rw [cell_of_heap h]
  simpa using h2

set_option maxRecDepth 100000 in
set_option maxHeartbeats 1000000 in
theorem repeatInt_any (b off c m : Nat) (app : Int) (w : World) (hs : Sl w b off (rows oneI [app])) (hm : m ≤ 1048576) :
    Calls Try.prog 227 #[.slice (some ⟨b, off, none⟩) 1 c, .int .i64 m] w fun e w' => ∃ v, e = .returned v ∧ w'.ownsRow w.heap.size 2 1 v m (rows oneI (List.replicate m app)) ∧ Below w.heap.size w w' := by
  have hp0 : rows oneI (List.replicate m (0 : Int)) = partInt app 0 m := by unfold partInt; simp
  have hmk := fun W => run_make_rows (P := Try.prog) 176 2 _ 1 8 Try.underlying176 infoInt64S .i64 .i64 m (by omega) (by omega) W
  simp only [made_zero1, hp0] at hmk
  clear hp0
  have HMU := Lib.hid (mulOneInt_any m)
  have HI : Hid ((Try.prog.info? 2).map (·.size) = some 1) := by unfold Hid; obtain ⟨i, h1, _, h3, _⟩ := info_parts infoInt64S; rw [h1]; simp [h3]
  obtain ⟨k1, HK, hk1, hk2, hk3⟩ : ∃ k1, Hid (Nat.min 1 m = k1) ∧ k1 ≤ 1 ∧ k1 ≤ m ∧ (0 < m → 0 < k1) := ⟨Nat.min 1 m, rfl, Nat.min_le_left _ _, Nat.min_le_right _ _, fun h => by show 0 < min 1 m; omega⟩
  have HLN : Hid (∀ k, (rows oneI (List.replicate k app)).length = k * 1) := by intro k; rw [rows_len oneI_len]; simp
  have HPL : Hid (∀ k, k ≤ m → (partInt app k m).length = m * 1) := fun k h => partInt_len app k m h
  have HONE : Hid (∀ k, ∀ u ∈ rows oneI (List.replicate k app), u.oneCell' = true) := fun k => one_rows_Int _
  have HSRC : Hid (∀ W : World, Below w.heap.size w W → ∀ j v, (rows oneI (List.replicate k1 app))[j]? = some v → W.cell? ((⟨b, off, none⟩ : Addr).add j) = some v) := by
    intro W hW j v hv
    rw [addr_add]
    refine (hs.below' hW).at ?_
    have h01 : k1 = 0 ∨ k1 = 1 := by omega
    rcases h01 with rfl | rfl
    · simp [rows] at hv
    · exact hv
  have hb0 := laid_below w (.cells (partInt app 0 m).toArray 2)
  go_enter Try.func227, Try.ntmps227
  go_wp2_with fail
  refine (HMU.out _ hm).mono ?_
  rintro e w1 ⟨rfl, hw1⟩
  subst hw1
  clear HMU
  go_wp2_with (refine wpList_copy_rows (o := ⟨some 33, _, _, _, _, _⟩) rfl (.tmp 31) (.tmp 32) 176 176 rfl 2 Try.underlying176 HI.out w.heap.size 0 m m ⟨b, off, none⟩ 1 c rfl rfl (partInt app 0 m) 2 (heap_alloc_new _ _) k1 HK.out (rows oneI (List.replicate k1 app)) (HLN.out k1) (HSRC.out _ hb0) (by rw [HLN.out, HPL.out 0 (by omega)]; omega) (HONE.out k1) w.heap.size w hb0 (Nat.le_refl _) ?_; intro w2 HG2 hB2; clear hmk)
  rw [partInt_copy app 0 k1 m (by omega), Nat.zero_add] at HG2
  go_loopw [8] (fun i wr => ∃ n, n ≤ m ∧ (0 < m → 0 < n) ∧ i = .int .i64 (n : Nat) ∧ Below w.heap.size w wr ∧ Hid (wr.heap[w.heap.size]? = some (.cells (partInt app n m).toArray 2 (0, 0)))) (fun i _ => m - (intOf i).toNat)
  case atStart => exact ⟨k1, hk2, hk3, rfl, hB2, HG2⟩
  case round =>
    obtain ⟨n, hn, hn0, rfl, hB, HG⟩ := hrel
    clear HG2 hB2 hk3
    by_cases hlt : n < m
    · have hn1 : 0 < n := hn0 (by omega)
      obtain ⟨o', ho', hsl⟩ := run_slice_tailR (P := Try.prog) 176 2 Try.underlying176 infoInt64S w.heap.size 0 m m n (n : Int) rfl (by omega) (by omega)
      have ho2 : o' = n := by omega
      rw [ho2] at hsl
      clear ho2 ho' hn0
      obtain ⟨k2, HK2, hk4, hk5, hk6⟩ : ∃ k2, Hid (Nat.min n (m - n) = k2) ∧ k2 ≤ n ∧ n + k2 ≤ m ∧ 0 < k2 := ⟨Nat.min n (m - n), rfl, Nat.min_le_left _ _, by have : Nat.min n (m - n) ≤ m - n := Nat.min_le_right _ _; omega, by show 0 < min n (m - n); omega⟩
      have e1 : (n : Int) ≤ (m : Int) := by omega
      have e2 : 0 ≤ (n : Int) := by omega
      have w9 : IntKind.i64.wrap ((n : Int) + (k2 : Int)) = (n : Int) + (k2 : Int) := IntWalk.i64_in _ (by omega)
      go_wp2
      go_region_held3 (fun _ => True) (trivial) ((refine step_copy_rows (by rfl) _ _ _ _ (by rfl) 2 Try.underlying176 HI.out w.heap.size n (m - n) (m - n) ⟨w.heap.size, 0, none⟩ n m (by rfl) (by rfl) (partInt app n m) 2 (by exact HG.out) k2 HK2.out (rows oneI (List.replicate k2 app)) (HLN.out k2) (by exact partInt_at app n m HG.out k2 hk4) (by rw [HLN.out, HPL.out n (by omega)]; omega) (HONE.out k2) w.heap.size w (by exact hB.drew) (Nat.le_refl _) ?_; intro w3 HG3 hB3))
      all_goals
        rw [partInt_copy app n k2 m hk5] at HG3
        clear w9
        go_wp2
        go_roundw
        case rel => exact ⟨n + k2, hk5, by omega, by go_num, hB3, HG3⟩
        case measure => simp [intOf]; omega
    · obtain rfl : m = n := by omega
      have hown := own_of_block (s := 1) (n := m) HG.out (Nat.le_refl w.heap.size) (HPL.out m (Nat.le_refl _)) (Nat.le_refl _) (by unfold maxLen; omega)
      have hpm : partInt app m m = rows oneI (List.replicate m app) := by unfold partInt; simp
      rw [List.take_of_length_le (by rw [HPL.out m (Nat.le_refl _)]; exact Nat.le_refl _), hpm] at hown
      go_wp2
      go_ret
      exact ⟨_, rfl, hown, hB⟩
end Go.Proofs.Ytfmfpknigafnoaa
