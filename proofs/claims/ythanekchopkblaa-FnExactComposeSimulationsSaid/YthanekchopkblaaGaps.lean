/- GapsOf, the reference's and the program's. -/
import Derived.Test.YthanekchopkblaaNums
import Derived.Test.YthanekchopkblaaHelpInt
import Derived.StillTailTactics
namespace Go.Proofs.Ythanekchopkblaa
open Go.RowKit
set_option linter.unusedSimpArgs false
set_option linter.unusedVariables false

/-- Places: not empty, from 0 on, strictly rising. -/
def placesB (xs : List Int) : Bool := decide (0 < xs.length) && (xs.getD 0 0 == 0) && upB xs

theorem up_ge {xs : List Int} (h : upB xs = true) (h0 : xs.getD 0 0 = 0) : ∀ j, j < xs.length → 0 ≤ xs.getD j 0 := by
  intro j
  induction j with
  | zero => intro _; omega
  | succ j ih =>
    intro hj
    have := (upB_iff xs).1 h j hj
    have := ih (by omega)
    omega
theorem rises_up {xs : List Int} (hw : Wf64s xs) (h0 : xs.getD 0 0 = 0) : risesB xs 0 9223372036854775807 = upB xs := by
  unfold risesB
  cases hu : upB xs with
  | false => simp
  | true =>
    rw [Bool.and_true, List.all_eq_true]
    intro x hx
    rw [inB_iff]
    obtain ⟨j, hj⟩ := List.getElem?_of_mem hx
    have h1 := up_ge hu h0 j (List.getElem?_eq_some_iff.1 hj).1
    rw [getD_at hj] at h1
    have h2 := hw x hx
    unfold Wf64 at h2
    omega

theorem l19Places_any (b off n c : Nat) (xs : List Int) (w : World) (hs : Sl w b off (xs.map (.int .i64))) (hl : xs.length = n) (hn : n ≤ 4194304) (hw : Wf64s xs) :
    Calls Try.prog 56 #[.slice (some ⟨b, off, none⟩) n c] w fun e w' => e = .returned (.bool (placesB xs)) ∧ ∃ q, w' = w.drewN q := by
  have HL := Lib.hid hl
  have HW := Lib.hid hw
  clear hw
  rcases Nat.eq_zero_or_pos n with h0 | h0
  · subst h0
    have HN : Hid (placesB xs = false) := by unfold Hid placesB; simp [hl]
    clear hl
    have z : decide ((0 : Int) < ((0 : Nat) : Int)) = false := by simp
    go_enter Try.func56, Try.ntmps56
    go_wp2_with fail
    go_ret
    exact ⟨ret_bool HN.out.symm, 0, rfl⟩
  · obtain ⟨x, HX, hx⟩ := map_at (Value.int .i64) xs (k := 0) (by omega)
    have hc : w.cell? ⟨b, off, none⟩ = some (.int .i64 x) := by simpa using hs.at hx
    have hp : (0 : Int) < (n : Int) := by omega
    clear hl hx
    rcases Bool.eq_false_or_eq_true (x == 0) with e | e
    · have HE : Hid (placesB xs = risesB xs 0 9223372036854775807) := by
        have h1 := getD_at (d := 0) HX.out
        have h2 : x = 0 := by simpa using e
        have h3 := HL.out
        rw [rises_up HW.out (by rw [h1, h2])]
        unfold Hid placesB
        rw [h1, h2]
        simp; omega
      go_enter Try.func56, Try.ntmps56
      go_wp2_with fail
      refine (l00Rises_any b off n c xs 0 9223372036854775807 _ hs HL.out hn).mono ?_
      rintro e w' ⟨rfl, q, rfl⟩
      go_wp2_with fail
      go_ret
      exact ⟨ret_bool HE.out.symm, q, rfl⟩
    · have HE : Hid (placesB xs = false) := by
        have h1 := getD_at (d := 0) HX.out
        unfold Hid placesB
        rw [h1, e]; simp
      go_enter Try.func56, Try.ntmps56
      go_wp2_with fail
      go_ret
      exact ⟨ret_bool HE.out.symm, 0, rfl⟩

theorem fromZero_any (b off n c : Nat) (xs : List Int) (w : World) (hs : Sl w b off (xs.map (.int .i64))) (hl : xs.length = n) (hn : n ≤ 4194304) :
    Calls Try.prog 57 #[.slice (some ⟨b, off, none⟩) n c] w fun e w' => e = .returned (.bool (placesB xs)) ∧ ∃ q, w' = w.drewN q := by
  have HL := Lib.hid hl
  rcases Nat.eq_zero_or_pos n with h0 | h0
  · subst h0
    have HN : Hid (placesB xs = false) := by unfold Hid placesB; simp [hl]
    clear hl
    have z : decide ((0 : Int) < ((0 : Nat) : Int)) = false := by simp
    go_enter Try.func57, Try.ntmps57
    go_wp2_with fail
    go_ret
    exact ⟨ret_bool HN.out.symm, 0, rfl⟩
  · obtain ⟨x, HX, hx⟩ := map_at (Value.int .i64) xs (k := 0) (by omega)
    have hc : w.cell? ⟨b, off, none⟩ = some (.int .i64 x) := by simpa using hs.at hx
    have hp : (0 : Int) < (n : Int) := by omega
    clear hl hx
    rcases Bool.eq_false_or_eq_true (x == 0) with e | e
    · have HE : Hid (placesB xs = upB xs) := by
        have h1 := getD_at (d := 0) HX.out
        have h2 : x = 0 := by simpa using e
        have h3 := HL.out
        unfold Hid placesB
        rw [h1, h2]
        simp; omega
      go_enter Try.func57, Try.ntmps57
      go_wp2_with fail
      refine (rising_any b off n c xs _ hs HL.out hn).mono ?_
      rintro e w' ⟨rfl, q, rfl⟩
      go_wp2_with fail
      go_ret
      exact ⟨ret_bool HE.out.symm, q, rfl⟩
    · have HE : Hid (placesB xs = false) := by
        have h1 := getD_at (d := 0) HX.out
        unfold Hid placesB
        rw [h1, e]; simp
      go_enter Try.func57, Try.ntmps57
      go_wp2_with fail
      go_ret
      exact ⟨ret_bool HE.out.symm, 0, rfl⟩

theorem l19Places_is (b off n c : Nat) (xs : List Int) (v : Bool) (hv : placesB xs = v) (w : World) (hs : Sl w b off (xs.map (.int .i64))) (hl : xs.length = n) (hn : n ≤ 4194304) (hw : Wf64s xs) :
    Calls Try.prog 56 #[.slice (some ⟨b, off, none⟩) n c] w fun e w' => e = .returned (.bool v) ∧ ∃ q, w' = w.drewN q := by
  subst hv; exact l19Places_any b off n c xs w hs hl hn hw
theorem fromZero_is (b off n c : Nat) (xs : List Int) (v : Bool) (hv : placesB xs = v) (w : World) (hs : Sl w b off (xs.map (.int .i64))) (hl : xs.length = n) (hn : n ≤ 4194304) :
    Calls Try.prog 57 #[.slice (some ⟨b, off, none⟩) n c] w fun e w' => e = .returned (.bool v) ∧ ∃ q, w' = w.drewN q := by
  subst hv; exact fromZero_any b off n c xs w hs hl hn

def gapsTo (xs : List Int) (k : Nat) : List Int := (List.range k).map fun j => xs.getD (j + 1) 0 - xs.getD j 0
def gapsOf (xs : List Int) : List Int × Int := if placesB xs then (gapsTo xs (xs.length - 1), 0) else ([], 7)
theorem gapsTo_succ {xs : List Int} {k : Nat} {x y : Int} (hx : xs[k]? = some x) (hy : xs[k + 1]? = some y) : gapsTo xs (k + 1) = gapsTo xs k ++ [y - x] := by
  unfold gapsTo
  rw [List.range_succ, List.map_append, List.map_singleton, getD_at hx, getD_at hy]
theorem length_gapsTo (xs : List Int) (k : Nat) : (gapsTo xs k).length = k := by simp [gapsTo]

theorem places_gap {xs : List Int} {m : Nat} {x y : Int} (h : placesB xs = true) (hx : xs[m]? = some x) (hy : xs[m + 1]? = some y) : 0 ≤ x ∧ x < y := by
  unfold placesB at h
  simp only [Bool.and_eq_true, decide_eq_true_eq, beq_iff_eq] at h
  have h1 := up_ge h.2 h.1.2 m (List.getElem?_eq_some_iff.1 hx).1
  have h2 := (upB_iff xs).1 h.2 m (List.getElem?_eq_some_iff.1 hy).1
  rw [getD_at hx] at h1
  rw [getD_at hx, getD_at hy] at h2
  exact ⟨h1, h2⟩
theorem bndGapsOf0 (xs : List Int) (h : xs.length ≤ 1048576) : (gapsOf xs).1.length ≤ 1048576 := by
  unfold gapsOf; split
  · rw [length_gapsTo]; omega
  · simp

set_option maxHeartbeats 1000000 in
set_option maxRecDepth 100000 in
theorem specGapsOf_any (b off n c : Nat) (xs : List Int) (w : World) (hs : Sl w b off (xs.map (.int .i64))) (hl : xs.length = n) (hn : n ≤ 1048576) (hw : Wf64s xs) :
    Calls Try.prog 21 #[.slice (some ⟨b, off, none⟩) n c] w fun e w' => ∃ v, e = .returned (.tuple #[v, .int .i64 (gapsOf xs).2]) ∧
      w'.ownsRow w.heap.size 2 1 v (gapsOf xs).1.length ((gapsOf xs).1.map (.int .i64)) ∧ Below w.heap.size w w' := by
  have HL := Lib.hid hl; clear hl
  have HW := Lib.hid hw; clear hw
  obtain ⟨i0, hi, hz0, hz1, hz2⟩ := info_parts infoInt64S
  have HI := Lib.hid (And.intro hi (And.intro hz0 (And.intro hz1 hz2)))
  clear hi hz0 hz1 hz2
  rcases Bool.eq_false_or_eq_true (placesB xs) with hp | hp
  rotate_left
  · have HP := Lib.hid hp; clear hp
    go_enter Try.func21, Try.ntmps21
    go_wp2_with (go_at_call 56; refine (l19Places_is b off n c xs false HP.out _ hs HL.out (by omega) HW.out).mono ?_; rintro e w' ⟨rfl, q, rfl⟩)
    go_ret2
    refine ⟨_, by unfold gapsOf; rw [HP.out]; rfl, ?_, quiet_below rfl⟩
    unfold gapsOf; rw [HP.out]
    exact World.ownsRow_nil _ _ _ _
  · have HP := Lib.hid hp; clear hp
    go_enter Try.func21, Try.ntmps21
    go_wp2_with (go_at_call 56; refine (l19Places_is b off n c xs true HP.out _ hs HL.out (by omega) HW.out).mono ?_; rintro e w' ⟨rfl, q, rfl⟩)
    go_loopw [4, 5] (fun v i wr => ∃ k : Nat, k + 1 ≤ n ∧ i = .int .i64 (k + 1 : Nat) ∧ wr.ownsRow w.heap.size 2 1 v k ((gapsTo xs k).map (.int .i64)) ∧ Below w.heap.size w wr) (fun _ i _ => n - (intOf i).toNat)
    case atStart => exact ⟨0, by have := HL.out; have h2 := HP.out; unfold placesB at h2; simp at h2; omega, rfl, World.ownsRow_made _ #[] 0 (by simp) (by simp [maxLen]) rfl, (below_drewN (Below.refl _ _) q).alloc (Nat.le_refl _) _⟩
    case round =>
      obtain ⟨m, hk, rfl, hown, hB⟩ := hrel
      by_cases hlt : m + 1 < n
      · obtain ⟨x, HX, hx⟩ := map_at (Value.int .i64) xs (k := m) (by have := HL.out; omega)
        obtain ⟨y, HY, hy⟩ := map_at (Value.int .i64) xs (k := m + 1) (by have := HL.out; omega)
        have hca := (hs.below' hB).at hx
        have hcb := (hs.below' hB).at hy
        have HX2 := Lib.hid hx; have HY2 := Lib.hid hy
        clear hx hy
        obtain ⟨k, hkm⟩ : ∃ k, k = m + 1 := ⟨_, rfl⟩
        rw [← hkm] at hcb hlt hk HY2 ⊢
        have w8 : (1 : Int) ≤ (k : Int) := by omega
        have w9 : (k : Int) ≤ (n : Int) := by omega
        have w10 : 1 ≤ k := by omega
        have hy2 := (HW.out _ (getD_mem HY.out)).2
        obtain ⟨hx0, hxy⟩ : 0 ≤ x ∧ x < y := places_gap HP.out HX.out HY.out
        have w2 : 0 ≤ (k : Int) - 1 := by omega
        have w3 : (k : Int) - 1 < (n : Int) := by omega
        have w6 : 0 ≤ (k : Int) := by omega
        have w7 : (k : Int) < (n : Int) := by omega
        have w4 : ((k : Int) - 1).toNat = m := by omega
        have HK := Lib.hid hkm; clear hkm
        have w11 : IntKind.i64.wrap ((k : Int) - 1) = (k : Int) - 1 := IntWalk.i64_in _ (by omega)
        have w5 : IntKind.i64.wrap (y - x) = y - x := IntWalk.i64_in _ (by omega)
        go_wp2
        go_region_held3 (fun w' => w'.cell? ⟨b, off + m, none⟩ = some (.int .i64 x) ∧ w'.cell? ⟨b, off + k, none⟩ = some (.int .i64 y)) (first | go_keep | exact ⟨(hs.below' hB1).at HX2.out, (hs.below' hB1).at HY2.out⟩)
          ((refine step_app (by rfl) _ _ _ (by rfl) Try.underlying27 infoInt64S rfl (by omega) w wr hown hB (by rfl) 1 #[.int .i64 (y - x)] (by rfl) (laid_drew _ _) (heap_alloc_new _ _) rfl (by simp [Value.oneCell']) (by omega) (by unfold maxLen; omega) (by omega) ?_; intro g cap w1 hown1 hB1))
        clear w11 w2 w3 w4 w5 w6 w7 w8 w9 w10
        go_wp2
        go_roundw
        case rel => exact ⟨m + 1, by have := HK.out; omega, by have := HK.out; go_num, by rw [gapsTo_succ HX.out HY.out, List.map_append]; exact hown1, hB1⟩
        case measure => have := HK.out; simp [intOf]; omega
      · go_wp2
        go_ret2
        obtain rfl : m + 1 = n := by omega
        refine ⟨_, by unfold gapsOf; rw [HP.out]; rfl, ?_, hB⟩
        have e : (gapsOf xs).1 = gapsTo xs m := by unfold gapsOf; rw [HP.out, HL.out]; rfl
        rw [e, length_gapsTo]
        exact hown

set_option maxHeartbeats 1000000 in
set_option maxRecDepth 100000 in
theorem implGapsOf_any (b off n c : Nat) (xs : List Int) (w : World) (hs : Sl w b off (xs.map (.int .i64))) (hl : xs.length = n) (hn : n ≤ 1048576) (hw : Wf64s xs) :
    Calls Try.prog 23 #[.slice (some ⟨b, off, none⟩) n c] w fun e w' => ∃ v, e = .returned (.tuple #[v, .int .i64 (gapsOf xs).2]) ∧
      w'.ownsRow w.heap.size 2 1 v (gapsOf xs).1.length ((gapsOf xs).1.map (.int .i64)) ∧ Below w.heap.size w w' := by
  have HL := Lib.hid hl; clear hl
  have HW := Lib.hid hw; clear hw
  obtain ⟨i0, hi, hz0, hz1, hz2⟩ := info_parts infoInt64S
  have HI := Lib.hid (And.intro hi (And.intro hz0 (And.intro hz1 hz2)))
  clear hi hz0 hz1 hz2
  rcases Bool.eq_false_or_eq_true (placesB xs) with hp | hp
  rotate_left
  · have HP := Lib.hid hp; clear hp
    go_enter Try.func23, Try.ntmps23
    go_wp2_with (go_at_call 57; refine (fromZero_is b off n c xs false HP.out _ hs HL.out (by omega)).mono ?_; rintro e w' ⟨rfl, q, rfl⟩)
    go_ret2
    refine ⟨_, by unfold gapsOf; rw [HP.out]; rfl, ?_, quiet_below rfl⟩
    unfold gapsOf; rw [HP.out]
    exact World.ownsRow_nil _ _ _ _
  · have HP := Lib.hid hp; clear hp
    go_enter Try.func23, Try.ntmps23
    go_wp2_with (go_at_call 57; refine (fromZero_is b off n c xs true HP.out _ hs HL.out (by omega)).mono ?_; rintro e w' ⟨rfl, q, rfl⟩)
    go_loopw [4, 5] (fun v i wr => ∃ k : Nat, k + 1 ≤ n ∧ i = .int .i64 (k + 1 : Nat) ∧ wr.ownsRow w.heap.size 2 1 v k ((gapsTo xs k).map (.int .i64)) ∧ Below w.heap.size w wr) (fun _ i _ => n - (intOf i).toNat)
    case atStart => exact ⟨0, by have := HL.out; have h2 := HP.out; unfold placesB at h2; simp at h2; omega, rfl, World.ownsRow_made _ #[] 0 (by simp) (by simp [maxLen]) rfl, (below_drewN (Below.refl _ _) q).alloc (Nat.le_refl _) _⟩
    case round =>
      obtain ⟨m, hk, rfl, hown, hB⟩ := hrel
      by_cases hlt : m + 1 < n
      · obtain ⟨x, HX, hx⟩ := map_at (Value.int .i64) xs (k := m) (by have := HL.out; omega)
        obtain ⟨y, HY, hy⟩ := map_at (Value.int .i64) xs (k := m + 1) (by have := HL.out; omega)
        have hca := (hs.below' hB).at hx
        have hcb := (hs.below' hB).at hy
        have HX2 := Lib.hid hx; have HY2 := Lib.hid hy
        clear hx hy
        obtain ⟨k, hkm⟩ : ∃ k, k = m + 1 := ⟨_, rfl⟩
        rw [← hkm] at hcb hlt hk HY2 ⊢
        have w8 : (1 : Int) ≤ (k : Int) := by omega
        have w9 : (k : Int) ≤ (n : Int) := by omega
        have w10 : 1 ≤ k := by omega
        have hy2 := (HW.out _ (getD_mem HY.out)).2
        obtain ⟨hx0, hxy⟩ : 0 ≤ x ∧ x < y := places_gap HP.out HX.out HY.out
        have w2 : 0 ≤ (k : Int) - 1 := by omega
        have w3 : (k : Int) - 1 < (n : Int) := by omega
        have w6 : 0 ≤ (k : Int) := by omega
        have w7 : (k : Int) < (n : Int) := by omega
        have w4 : ((k : Int) - 1).toNat = m := by omega
        have HK := Lib.hid hkm; clear hkm
        have w11 : IntKind.i64.wrap ((k : Int) - 1) = (k : Int) - 1 := IntWalk.i64_in _ (by omega)
        have w5 : IntKind.i64.wrap (y - x) = y - x := IntWalk.i64_in _ (by omega)
        go_wp2
        go_region_held3 (fun w' => w'.cell? ⟨b, off + m, none⟩ = some (.int .i64 x) ∧ w'.cell? ⟨b, off + k, none⟩ = some (.int .i64 y)) (first | go_keep | exact ⟨(hs.below' hB1).at HX2.out, (hs.below' hB1).at HY2.out⟩)
          ((refine step_app (by rfl) _ _ _ (by rfl) Try.underlying27 infoInt64S rfl (by omega) w wr hown hB (by rfl) 1 #[.int .i64 (y - x)] (by rfl) (laid_drew _ _) (heap_alloc_new _ _) rfl (by simp [Value.oneCell']) (by omega) (by unfold maxLen; omega) (by omega) ?_; intro g cap w1 hown1 hB1))
        clear w11 w2 w3 w4 w5 w6 w7 w8 w9 w10
        go_wp2
        go_roundw
        case rel => exact ⟨m + 1, by have := HK.out; omega, by have := HK.out; go_num, by rw [gapsTo_succ HX.out HY.out, List.map_append]; exact hown1, hB1⟩
        case measure => have := HK.out; simp [intOf]; omega
      · go_wp2
        go_ret2
        obtain rfl : m + 1 = n := by omega
        refine ⟨_, by unfold gapsOf; rw [HP.out]; rfl, ?_, hB⟩
        have e : (gapsOf xs).1 = gapsTo xs m := by unfold gapsOf; rw [HP.out, HL.out]; rfl
        rw [e, length_gapsTo]
        exact hown
end Go.Proofs.Ythanekchopkblaa
