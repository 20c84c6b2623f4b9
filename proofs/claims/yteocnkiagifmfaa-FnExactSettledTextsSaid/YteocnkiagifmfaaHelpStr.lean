/- Contracts of the laws' helpers on []string: copy, compare, mark, look at the marks. For slices of at most 1048576 elements. -/
import Derived.Test.YteocnkiagifmfaaBase
namespace Go.Proofs.Yteocnkiagifmfaa
open Go.RowKit

theorem infoStringS : (Try.prog.info? 9).map (fun i => (i.zero, i.size, i.bytes)) = some (some (Value.string ⟨#[]⟩), 1, 16) := by kernel_rfl

theorem ba_ext {x y : ByteArray} (h : x.toList = y.toList) : x = y := by
  rw [ByteArray.toList_eq, ByteArray.toList_eq] at h
  cases x; cases y
  simp at h
  rw [h]

set_option maxHeartbeats 400000 in
theorem toStringS_any (A : Option Addr) (n c : Nat) (xs : List ByteArray) (w : World) (ha : Arg w A n (xs.map (Value.string))) (hn : n ≤ 1048576) :
    Calls Try.prog 16 #[.slice A n c] w fun e w' => e = .returned (.slice (some ⟨w.heap.size, 0, none⟩) n n) ∧
      w'.ownsRow w.heap.size 9 1 (.slice (some ⟨w.heap.size, 0, none⟩) n n) n (xs.map (Value.string)) ∧ Below w.heap.size w w' := by
  have hmk := fun W => run_make_row' (P := Try.prog) 22 9 (Value.string ⟨#[]⟩) 16 Try.underlying22 infoStringS rfl .i64 .i64 n (by omega) (by omega) W
  have hrow0 := World.rowIs_made w (Value.string ⟨#[]⟩) n 9
  have hB0 : Below w.heap.size w (w.alloc (.cells (madeCells #[Value.string ⟨#[]⟩] n) 9)) := (Below.refl _ _).alloc (Nat.le_refl _) _
  go_enter Try.func16, Try.ntmps16
  go_wp2
  clear hmk
  go_loopw [4] (fun i wr => ∃ k : Nat, k ≤ n ∧ i = .int .i64 k ∧ wr.rowIs w.heap.size 9 n (fun j => if j < k then (xs.map (Value.string)).getD j undef else (Value.string ⟨#[]⟩)) ∧ Below w.heap.size w wr) (fun i _ => n - (intOf i).toNat)
  case atStart => exact ⟨0, Nat.zero_le _, rfl, hrow0.congr (fun i _ => by simp), hB0⟩
  case round =>
    obtain ⟨k, hk, rfl, hrow, hB⟩ := hrel
    clear hrow0 hB0
    by_cases hlt : k < n
    · obtain ⟨b, off, rfl, hs⟩ := ha.sl hlt
      obtain ⟨x, HX, hx⟩ := map_at (Value.string) xs (k := k) (by have := ha.1; simp at this; omega)
      have hca := (hs.below' hB).at hx
      have hco : wr.cell? ⟨w.heap.size, k, none⟩ = some (Value.string ⟨#[]⟩) := by simpa using hrow.cell hlt
      have hfo := hrow.frozen k
      have HR := Lib.hid (hrow.set k ((Value.string) x))
      have HB := Lib.hid (hB.setCell (p := ⟨w.heap.size, k, none⟩) (Nat.le_refl _) ((Value.string) x))
      clear hx hrow hB ha hs
      go_wp2
      go_roundw
      case rel =>
        refine ⟨k + 1, by omega, by go_num, HR.out.congr (fun i hi => ?_), HB.out⟩
        exact upd_at ((Value.string)) xs k i x HX.out _
      case measure => simp [intOf]; omega
    · go_wp2
      go_ret
      have hlen := ha.1
      refine ⟨rfl, own_of_rowIs hrow (Nat.le_refl _) (by unfold maxLen; omega) hlen (fun j u hu => ?_), hB⟩
      have hj : j < n := by rw [← hlen]; exact (List.getElem?_eq_some_iff.1 hu).1
      rw [if_pos (by omega), List.getD_eq_getElem?_getD, hu]; rfl

set_option maxHeartbeats 400000 in
theorem eqStringS_any (A B : Option Addr) (n m c d : Nat) (xs ys : List ByteArray) (w : World) (ha : Arg w A n (xs.map (Value.string))) (hb : Arg w B m (ys.map (Value.string))) (hn : n ≤ 4194304) (hm : m ≤ 4194304) :
    Calls Try.prog 18 #[.slice A n c, .slice B m d] w fun e w' => e = .returned (.bool (decide (xs = ys))) ∧ ∃ q, w' = w.drewN q := by
  have HA := Lib.hid ha.1
  have HB := Lib.hid hb.1
  by_cases hnm : n = m
  · subst hnm
    go_enter Try.func18, Try.ntmps18
    go_wp2
    go_loopw [5] (fun i wr => ∃ k q : Nat, k ≤ n ∧ i = .int .i64 k ∧ wr = w.drewN q ∧ Hid (xs.take k = ys.take k)) (fun i _ => n - (intOf i).toNat)
    case atStart => exact ⟨0, 0, Nat.zero_le _, rfl, rfl, rfl⟩
    case round =>
      obtain ⟨k, q, hk, rfl, rfl, HR⟩ := hrel
      by_cases hlt : k < n
      · obtain ⟨b1, o1, rfl, hs1⟩ := ha.sl hlt
        obtain ⟨b2, o2, rfl, hs2⟩ := hb.sl hlt
        obtain ⟨x, HX, hx⟩ := map_at (Value.string) xs (k := k) (by have := HA.out; simp at this; omega)
        obtain ⟨y, HY, hy⟩ := map_at (Value.string) ys (k := k) (by have := HB.out; simp at this; omega)
        have hca := hs1.at hx
        have hcb := hs2.at hy
        clear hx hy hs1 hs2 ha hb
        by_cases e : x = y
        · subst e; have hz : (x.toList == x.toList) = true := by simp
          go_wp2
          go_quiet (fail)
          go_wp2
          go_roundw
          case rel => exact ⟨k + 1, _, by omega, by go_num, rfl, take_succ_eq HR.out HX.out HY.out rfl⟩
          case measure => simp [intOf]; omega
        · have hz : (x.toList == y.toList) = false := by simpa using fun h => e (ba_ext h)
          have HE := Lib.hid e
          clear e
          go_wp2
          go_quiet (fail)
          go_wp2
          go_ret
          exact ⟨ret_bool (by simp [ne_of_at HX.out HY.out HE.out]), by first | exact ⟨_, rfl⟩ | exact ⟨_, World.drewN_drewN _ _ _⟩⟩
      · go_wp2
        go_ret
        refine ⟨ret_bool ?_, _, rfl⟩
        have h1 := HR.out
        have h2 := HA.out
        have h3 := HB.out
        simp only [List.length_map] at h2 h3
        rw [List.take_of_length_le (by omega), List.take_of_length_le (by omega)] at h1
        simp [h1]
  · have hne : ((n : Int) != (m : Int)) = true := by simp; omega
    go_enter Try.func18, Try.ntmps18
    go_wp2
    go_ret
    refine ⟨ret_bool ?_, 0, rfl⟩
    have h2 := HA.out
    have h3 := HB.out
    simp only [List.length_map] at h2 h3
    symm
    apply decide_eq_false
    rintro rfl
    omega

/-- The size of a list of strings, as the laws reckon it. -/
def szStr (xs : List ByteArray) : Nat := xs.length + (xs.map ByteArray.size).sum
theorem szStr_len (xs : List ByteArray) : xs.length ≤ szStr xs := by unfold szStr; omega
theorem szStr_mem {xs : List ByteArray} {x : ByteArray} (h : x ∈ xs) : x.size ≤ szStr xs := by
  unfold szStr
  induction xs with
  | nil => cases h
  | cons y ys ih =>
    rw [List.map_cons, List.sum_cons, List.length_cons]
    rcases List.mem_cons.1 h with rfl | h
    · omega
    · have := ih h; omega
/-- The length and the first 'k' strings. -/
def szTo (xs : List ByteArray) (k : Nat) : Nat := xs.length + ((xs.take k).map ByteArray.size).sum
theorem szTo_succ {xs : List ByteArray} {k : Nat} {x : ByteArray} (h : xs[k]? = some x) : szTo xs (k + 1) = szTo xs k + x.size := by
  unfold szTo; rw [List.take_add_one, h]; simp; omega
theorem szTo_le (xs : List ByteArray) (k : Nat) : szTo xs k ≤ szStr xs := by
  unfold szTo szStr
  have h : xs.map ByteArray.size = (xs.take k).map ByteArray.size ++ (xs.drop k).map ByteArray.size := by rw [← List.map_append, List.take_append_drop]
  rw [h, List.sum_append]; omega
theorem szTo_all {xs : List ByteArray} {k : Nat} (h : xs.length ≤ k) : szTo xs k = szStr xs := by unfold szTo szStr; rw [List.take_of_length_le h]

set_option maxHeartbeats 400000 in
theorem szStringS_yes (A : Option Addr) (n c : Nat) (xs : List ByteArray) (left : Nat) (w : World) (ha : Arg w A n (xs.map Value.string)) (hl : left ≤ 1048576) (hsz : szStr xs ≤ left) :
    Calls Try.prog 14 #[.slice A n c, .int .i64 left] w fun e w' => e = .returned (.int .i64 ((left - szStr xs : Nat) : Int)) ∧ w = w' := by
  have HA : Hid (xs.length = n) := by have := ha.1; rw [List.length_map] at this; exact this
  have hnl : n ≤ left := by have := szStr_len xs; have := HA.out; omega
  have HSZ := Lib.hid hsz
  clear hsz
  go_enter Try.func14, Try.ntmps14
  go_wp2_with fail
  go_loop [1, 5] (fun l i => ∃ k r : Nat, k ≤ n ∧ i = .int .i64 k ∧ l = .int .i64 r ∧ r ≤ left ∧ Hid (r + szTo xs k = left)) (fun _ i => n - (intOf i).toNat)
  case atStart => exact ⟨0, left - n, Nat.zero_le _, rfl, by go_num, by omega, by unfold Hid szTo; have := HA.out; simp; omega⟩
  case round =>
    obtain ⟨k, r, hk, rfl, rfl, hr, HR⟩ := hrel
    by_cases hlt : k < n
    · obtain ⟨b, off, rfl, hs⟩ := ha.sl hlt
      obtain ⟨x, HX, hx⟩ := map_at Value.string xs (k := k) (by have := HA.out; omega)
      have hca := hs.at hx
      have hxr : x.size ≤ r := by have h1 := szTo_succ HX.out; have h2 := szTo_le xs (k + 1); have := HR.out; have := HSZ.out; omega
      clear hx hs ha
      go_wp2_with fail
      go_round
      case rel => exact ⟨k + 1, r - x.size, by omega, by go_num, by go_num, by omega, by unfold Hid; rw [szTo_succ HX.out]; have := HR.out; omega⟩
      case measure => simp [intOf]; omega
    · go_wp2_with fail
      go_ret
      refine ⟨ret_int ?_, rfl⟩
      have h1 := szTo_all (xs := xs) (k := k) (by have := HA.out; omega)
      have := HR.out
      omega

theorem szStringS_is (A : Option Addr) (n c : Nat) (xs : List ByteArray) (left r : Nat) (hr : r + szStr xs = left) (w : World) (ha : Arg w A n (xs.map Value.string)) (hl : left ≤ 1048576) :
    Calls Try.prog 14 #[.slice A n c, .int .i64 left] w fun e w' => e = .returned (.int .i64 (r : Int)) ∧ w = w' := by
  have := szStringS_yes A n c xs left w ha hl (by omega)
  rw [show left - szStr xs = r by omega] at this
  exact this

set_option maxHeartbeats 400000 in
theorem szStringS_no (A : Option Addr) (n c : Nat) (xs : List ByteArray) (left : Nat) (w : World) (ha : Arg w A n (xs.map Value.string)) (hn : n ≤ 9223372036854775807) (hx1 : ∀ x ∈ xs, x.size ≤ 9223372036854775807) (hl : left ≤ 1048576) (hsz : left < szStr xs) :
    Calls Try.prog 14 #[.slice A n c, .int .i64 left] w fun e w' => e = .returned (.int .i64 (-1)) ∧ w = w' := by
  have HA : Hid (xs.length = n) := by have := ha.1; rw [List.length_map] at this; exact this
  have HSZ := Lib.hid hsz
  have HX1 := Lib.hid hx1
  clear hsz hx1
  by_cases hnl : n ≤ left
  rotate_left
  · go_enter Try.func14, Try.ntmps14
    go_wp2_with fail
    go_ret
    exact ⟨rfl, rfl⟩
  go_enter Try.func14, Try.ntmps14
  go_wp2_with fail
  go_loop [1, 5] (fun l i => ∃ k r : Nat, k ≤ n ∧ i = .int .i64 k ∧ l = .int .i64 r ∧ r ≤ left ∧ Hid (r + szTo xs k = left)) (fun _ i => n - (intOf i).toNat)
  case atStart => exact ⟨0, left - n, Nat.zero_le _, rfl, by go_num, by omega, by unfold Hid szTo; have := HA.out; simp; omega⟩
  case round =>
    obtain ⟨k, r, hk, rfl, rfl, hr, HR⟩ := hrel
    by_cases hlt : k < n
    · obtain ⟨b, off, rfl, hs⟩ := ha.sl hlt
      obtain ⟨x, HX, hx⟩ := map_at Value.string xs (k := k) (by have := HA.out; omega)
      have hca := hs.at hx
      have hxs := HX1.out x (List.mem_of_getElem? HX.out)
      clear hx hs ha
      by_cases hxr : x.size ≤ r
      · go_wp2_with fail
        go_round
        case rel => exact ⟨k + 1, r - x.size, by omega, by go_num, by go_num, by omega, by unfold Hid; rw [szTo_succ HX.out]; have := HR.out; omega⟩
        case measure => simp [intOf]; omega
      · go_wp2_with fail
        go_ret
        exact ⟨rfl, rfl⟩
    · exfalso
      have h1 := szTo_all (xs := xs) (k := k) (by have := HA.out; omega)
      have := HR.out
      have := HSZ.out
      omega
end Go.Proofs.Yteocnkiagifmfaa
