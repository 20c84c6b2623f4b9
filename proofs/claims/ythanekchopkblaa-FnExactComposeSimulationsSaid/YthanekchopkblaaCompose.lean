/- ComposeSimulations, the reference's and the program's. -/
import Derived.Test.YthanekchopkblaaGaps
namespace Go.Proofs.Ythanekchopkblaa
open Go.RowKit
set_option linter.unusedSimpArgs false
set_option linter.unusedVariables false

def picks (ss fs : List Int) : List Int := fs.map fun z => ss.getD z.toNat 0
def composeSim (fs ss : List Int) : List Int × Int :=
  if placesB fs && placesB ss then (if fs.all (inB · 0 (ss.length - 1)) then (picks ss fs, 0) else ([], 2)) else ([], 7)
theorem bndComposeSimulations0 (fs ss : List Int) (h : fs.length ≤ 1048576) (h2 : ss.length ≤ 1048576) : (composeSim fs ss).1.length ≤ 1048576 := by
  unfold composeSim; split
  · split
    · simp [picks]; omega
    · simp
  · simp
theorem picks_succ {ss fs : List Int} {k : Nat} {x y : Int} (hx : fs[k]? = some x) (hy : ss[x.toNat]? = some y) : picks ss (fs.take (k + 1)) = picks ss (fs.take k) ++ [y] := by
  unfold picks
  rw [List.take_add_one, hx, List.map_append]
  simp [hy]
theorem length_picks_take (ss fs : List Int) (k : Nat) (h : k ≤ fs.length) : (picks ss (fs.take k)).length = k := by simp [picks]; omega
theorem places_nonneg {xs : List Int} {m : Nat} {x : Int} (h : placesB xs = true) (hx : xs[m]? = some x) : 0 ≤ x := by
  unfold placesB at h
  simp only [Bool.and_eq_true, decide_eq_true_eq, beq_iff_eq] at h
  have h1 := up_ge h.2 h.1.2 m (List.getElem?_eq_some_iff.1 hx).1
  rwa [getD_at hx] at h1

set_option maxRecDepth 100000 in
set_option maxHeartbeats 1000000 in
theorem specComposeSimulations_any (b off n c : Nat) (fs : List Int) (b2 off2 n2 c2 : Nat) (ss : List Int) (w : World) (hs : Sl w b off (fs.map (.int .i64))) (hl : fs.length = n) (hn : n ≤ 1048576) (hw : Wf64s fs)
    (hs2 : Sl w b2 off2 (ss.map (.int .i64))) (hl2 : ss.length = n2) (hn2 : n2 ≤ 1048576) (hw2 : Wf64s ss) :
    Calls Try.prog 31 #[.slice (some ⟨b, off, none⟩) n c, .slice (some ⟨b2, off2, none⟩) n2 c2] w fun e w' => ∃ v, e = .returned (.tuple #[v, .int .i64 (composeSim fs ss).2]) ∧
      w'.ownsRow w.heap.size 2 1 v (composeSim fs ss).1.length ((composeSim fs ss).1.map (.int .i64)) ∧ Below w.heap.size w w' := by
  have HL := Lib.hid hl; have HL2 := Lib.hid hl2; have HW := Lib.hid hw; have HW2 := Lib.hid hw2; clear hl hl2 hw hw2
  rcases Bool.eq_false_or_eq_true (placesB fs) with hp | hp
  rotate_left
  · have HP := Lib.hid hp; clear hp
    go_enter Try.func31, Try.ntmps31
    go_wp2_with (go_at_call 56; refine (l19Places_is b off n c fs false HP.out _ (by exact hs) HL.out (by omega) HW.out).mono ?_; rintro e w' ⟨rfl, q, rfl⟩)
    go_ret2
    refine ⟨_, by unfold composeSim; rw [HP.out]; rfl, ?_, quiet_below rfl⟩
    unfold composeSim; rw [HP.out]
    exact World.ownsRow_nil _ _ _ _
  rcases Bool.eq_false_or_eq_true (placesB ss) with hp2 | hp2
  rotate_left
  · have HP := Lib.hid hp; have HP2 := Lib.hid hp2; clear hp hp2
    go_enter Try.func31, Try.ntmps31
    go_wp2_with fail
    refine (l19Places_is b off n c fs true HP.out _ (by exact hs) HL.out (by omega) HW.out).mono ?_
    rintro e w' ⟨rfl, q, rfl⟩
    go_wp2_with fail
    refine (l19Places_is b2 off2 n2 c2 ss false HP2.out _ (by exact hs2) HL2.out (by omega) HW2.out).mono ?_
    rintro e w' ⟨rfl, q2, rfl⟩
    go_wp2_with fail
    go_ret2
    refine ⟨_, by unfold composeSim; rw [HP.out, HP2.out]; rfl, ?_, quiet_below rfl⟩
    unfold composeSim; rw [HP.out, HP2.out]
    exact World.ownsRow_nil _ _ _ _
  · have HP := Lib.hid hp; have HP2 := Lib.hid hp2; clear hp hp2
    go_enter Try.func31, Try.ntmps31
    go_wp2_with fail
    refine (l19Places_is b off n c fs true HP.out _ (by exact hs) HL.out (by omega) HW.out).mono ?_
    rintro e w' ⟨rfl, q, rfl⟩
    go_wp2_with fail
    refine (l19Places_is b2 off2 n2 c2 ss true HP2.out _ (by exact hs2) HL2.out (by omega) HW2.out).mono ?_
    rintro e w' ⟨rfl, q2, rfl⟩
    go_wp2_with fail
    go_loopw [6, 7] (fun v i wr => ∃ k : Nat, k ≤ n ∧ i = .int .i64 k ∧ wr.ownsRow w.heap.size 2 1 v k ((picks ss (fs.take k)).map (.int .i64)) ∧ Below w.heap.size w wr ∧ Hid (∀ j x, j < k → fs[j]? = some x → inB x 0 (ss.length - 1) = true)) (fun _ i _ => n - (intOf i).toNat)
    case atStart => exact ⟨0, Nat.zero_le _, rfl, World.ownsRow_made _ #[] 0 (by simp) (by simp [maxLen]) rfl, (below_drewN (Below.refl _ _) (q + q2)).alloc (Nat.le_refl _) _, by intro j x hj; omega⟩
    case round =>
      obtain ⟨k, hk, rfl, hown, hB, HA⟩ := hrel
      by_cases hlt : k < n
      · obtain ⟨x, HX, hx⟩ := map_at (Value.int .i64) fs (k := k) (by have := HL.out; omega)
        have hca := (hs.below' hB).at hx
        clear hx
        obtain ⟨z, HZ⟩ : ∃ z : Nat, Hid (x = z) := ⟨x.toNat, by have := places_nonneg HP.out HX.out; unfold Hid; omega⟩
        rw [HZ.out] at hca
        by_cases hz : z < n2
        · obtain ⟨y, HY, hy⟩ := map_at (Value.int .i64) ss (k := z) (by have := HL2.out; omega)
          have hcb := (hs2.below' hB).at hy
          clear hy
          go_wp2_with (at_builtin; refine wpList_app rfl _ _ _ rfl Try.underlying27 infoInt64S rfl (by omega) w wr hown hB rfl 1 #[.int .i64 y] rfl (laid_below _ _) (heap_alloc_new _ _) rfl (by simp [Value.oneCell']) (by omega) (by unfold maxLen; omega) (by omega) ?_; intro g cap w1 hown1 hB1)
          go_roundw
          case rel => exact ⟨k + 1, by omega, by go_num, by rw [picks_succ HX.out (by rw [HZ.out]; exact HY.out), List.map_append]; exact hown1, hB1, by
            intro j x' hj hx'
            by_cases ej : j = k
            · subst ej
              have h2 := HX.out
              rw [hx'] at h2; injection h2 with h2
              rw [h2, HZ.out, inB_iff, HL2.out]; omega
            · exact HA.out j x' (by omega) hx'⟩
          case measure => simp [intOf]; omega
        · go_wp2
          go_ret2
          have e : composeSim fs ss = ([], 2) := by
            unfold composeSim
            rw [HP.out, HP2.out, all_no (p := (inB · 0 (ss.length - 1))) HX.out (by rw [HZ.out, HL2.out]; simp only [inB_false]; omega)]; rfl
          rw [e]
          exact ⟨_, rfl, World.ownsRow_nil _ _ _ _, hB⟩
      · go_wp2
        go_ret2
        obtain rfl : k = n := by omega
        have e : composeSim fs ss = (picks ss fs, 0) := by
          unfold composeSim
          rw [HP.out, HP2.out]
          have : fs.all (inB · 0 (ss.length - 1)) = true := by
            rw [List.all_eq_true]
            intro x hx
            obtain ⟨j, hj⟩ := List.getElem?_of_mem hx
            exact HA.out j x (by have := HL.out; have := (List.getElem?_eq_some_iff.1 hj).1; omega) hj
          rw [this]; rfl
        rw [e]
        rw [List.take_of_length_le (by have := HL.out; omega)] at hown
        exact ⟨_, rfl, by simp only [picks, List.length_map, HL.out]; exact hown, hB⟩

set_option maxRecDepth 100000 in
set_option maxHeartbeats 1000000 in
theorem permuted_any (b off n c : Nat) (fs : List Int) (b2 off2 n2 c2 : Nat) (ss : List Int) (w : World) (hs : Sl w b off (fs.map (.int .i64))) (hl : fs.length = n) (hn : n ≤ 1048576)
    (hs2 : Sl w b2 off2 (ss.map (.int .i64))) (hl2 : ss.length = n2) (hn2 : n2 ≤ 1048576) (hin : fs.all (inB · 0 (ss.length - 1)) = true) :
    Calls Try.prog 64 #[.slice (some ⟨b2, off2, none⟩) n2 c2, .slice (some ⟨b, off, none⟩) n c] w fun e w' => ∃ v, e = .returned v ∧
      w'.ownsRow w.heap.size 2 1 v n ((picks ss fs).map (.int .i64)) ∧ Below w.heap.size w w' := by
  have HL := Lib.hid hl; have HL2 := Lib.hid hl2; have HI := Lib.hid hin; clear hl hl2 hin
  go_enter Try.func64, Try.ntmps64
  go_wp2_with fail
  go_loopw [5, 11] (fun v i wr => ∃ k : Nat, k ≤ n ∧ i = .int .i64 k ∧ wr.ownsRow w.heap.size 2 1 v k ((picks ss (fs.take k)).map (.int .i64)) ∧ Below w.heap.size w wr) (fun _ i _ => n - (intOf i).toNat)
  case atStart => exact ⟨0, Nat.zero_le _, rfl, World.ownsRow_made _ #[] 0 (by simp) (by simp [maxLen]) rfl, laid_below _ _⟩
  case round =>
    obtain ⟨k, hk, rfl, hown, hB⟩ := hrel
    by_cases hlt : k < n
    · obtain ⟨x, HX, hx⟩ := map_at (Value.int .i64) fs (k := k) (by have := HL.out; omega)
      have hca := (hs.below' hB).at hx
      clear hx
      obtain ⟨z, HZ, hz⟩ : ∃ z : Nat, Hid (x = z) ∧ z < n2 := by
        have h1 := List.all_eq_true.1 HI.out x (getD_mem HX.out)
        rw [inB_iff, HL2.out] at h1
        exact ⟨x.toNat, by unfold Hid; omega, by omega⟩
      rw [HZ.out] at hca
      obtain ⟨y, HY, hy⟩ := map_at (Value.int .i64) ss (k := z) (by have := HL2.out; omega)
      have hcb := (hs2.below' hB).at hy
      clear hy
      go_wp2_with (at_builtin; refine wpList_app rfl _ _ _ rfl Try.underlying27 infoInt64S rfl (by omega) w wr hown hB rfl 1 #[.int .i64 y] rfl (laid_below _ _) (heap_alloc_new _ _) rfl (by simp [Value.oneCell']) (by omega) (by unfold maxLen; omega) (by omega) ?_; intro g cap w1 hown1 hB1)
      go_roundw
      case rel => exact ⟨k + 1, by omega, by go_num, by rw [picks_succ HX.out (by rw [HZ.out]; exact HY.out), List.map_append]; exact hown1, hB1⟩
      case measure => simp [intOf]; omega
    · go_wp2
      go_ret
      obtain rfl : k = n := by omega
      rw [List.take_of_length_le (by have := HL.out; omega)] at hown
      exact ⟨_, rfl, hown, hB⟩

theorem allWithin_is (b off n c : Nat) (xs : List Int) (lo hi : Int) (v : Bool) (hv : xs.all (inB · lo hi) = v) (w : World) (hs : Sl w b off (xs.map (.int .i64))) (hl : xs.length = n) (hn : n ≤ 4194304) :
    Calls Try.prog 62 #[.slice (some ⟨b, off, none⟩) n c, .int .i64 lo, .int .i64 hi] w fun e w' => e = .returned (.bool v) ∧ w = w' := by
  subst hv; exact allWithin_any b off n c xs lo hi w hs hl hn

set_option maxRecDepth 100000 in
set_option maxHeartbeats 1000000 in
theorem implComposeSimulations_any (b off n c : Nat) (fs : List Int) (b2 off2 n2 c2 : Nat) (ss : List Int) (w : World) (hs : Sl w b off (fs.map (.int .i64))) (hl : fs.length = n) (hn : n ≤ 1048576) (hw : Wf64s fs)
    (hs2 : Sl w b2 off2 (ss.map (.int .i64))) (hl2 : ss.length = n2) (hn2 : n2 ≤ 1048576) (hw2 : Wf64s ss) :
    Calls Try.prog 32 #[.slice (some ⟨b, off, none⟩) n c, .slice (some ⟨b2, off2, none⟩) n2 c2] w fun e w' => ∃ v, e = .returned (.tuple #[v, .int .i64 (composeSim fs ss).2]) ∧
      w'.ownsRow w.heap.size 2 1 v (composeSim fs ss).1.length ((composeSim fs ss).1.map (.int .i64)) ∧ Below w.heap.size w w' := by
  have HL := Lib.hid hl; have HL2 := Lib.hid hl2; have HW := Lib.hid hw; have HW2 := Lib.hid hw2; clear hl hl2 hw hw2
  rcases Bool.eq_false_or_eq_true (placesB fs) with hp | hp
  rotate_left
  · have HP := Lib.hid hp; clear hp
    go_enter Try.func32, Try.ntmps32
    go_wp2_with fail
    refine (fromZero_is b off n c fs false HP.out _ (by exact hs) HL.out (by omega)).mono ?_
    rintro e w' ⟨rfl, q, rfl⟩
    go_wp2_with fail
    go_ret2
    refine ⟨_, by unfold composeSim; rw [HP.out]; rfl, ?_, quiet_below rfl⟩
    unfold composeSim; rw [HP.out]
    exact World.ownsRow_nil _ _ _ _
  rcases Bool.eq_false_or_eq_true (placesB ss) with hp2 | hp2
  rotate_left
  · have HP := Lib.hid hp; have HP2 := Lib.hid hp2; clear hp hp2
    go_enter Try.func32, Try.ntmps32
    go_wp2_with fail
    refine (fromZero_is b off n c fs true HP.out _ (by exact hs) HL.out (by omega)).mono ?_
    rintro e w' ⟨rfl, q, rfl⟩
    go_wp2_with fail
    refine (fromZero_is b2 off2 n2 c2 ss false HP2.out _ (by exact hs2) HL2.out (by omega)).mono ?_
    rintro e w' ⟨rfl, q2, rfl⟩
    go_wp2_with fail
    go_ret2
    refine ⟨_, by unfold composeSim; rw [HP.out, HP2.out]; rfl, ?_, quiet_below rfl⟩
    unfold composeSim; rw [HP.out, HP2.out]
    exact World.ownsRow_nil _ _ _ _
  · have HP := Lib.hid hp; have HP2 := Lib.hid hp2; clear hp hp2
    rcases Bool.eq_false_or_eq_true (fs.all (inB · 0 (ss.length - 1))) with hi | hi
    · have HI := Lib.hid hi; clear hi
      go_enter Try.func32, Try.ntmps32
      go_wp2_with fail
      refine (fromZero_is b off n c fs true HP.out _ (by exact hs) HL.out (by omega)).mono ?_
      rintro e w' ⟨rfl, q, rfl⟩
      go_wp2_with fail
      refine (fromZero_is b2 off2 n2 c2 ss true HP2.out _ (by exact hs2) HL2.out (by omega)).mono ?_
      rintro e w' ⟨rfl, q2, rfl⟩
      go_wp2_with fail
      refine (size_int64_any _ n2 c2 _).mono ?_
      rintro e w' ⟨rfl, rfl⟩
      go_wp2_with fail
      refine (allWithin_is b off n c fs 0 (n2 - 1) true (by have := HI.out; rw [HL2.out] at this; exact this) _ (by exact hs) HL.out (by omega)).mono ?_
      rintro e w' ⟨rfl, rfl⟩
      go_wp2_with fail
      refine (permuted_any b off n c fs b2 off2 n2 c2 ss _ (by exact hs) HL.out hn (by exact hs2) HL2.out hn2 HI.out).mono ?_
      rintro e w1 ⟨v, rfl, hown, hB⟩
      go_wp2_with fail
      go_ret2
      have e : composeSim fs ss = (picks ss fs, 0) := by unfold composeSim; rw [HP.out, HP2.out, HI.out]; rfl
      rw [e]
      exact ⟨_, rfl, by simp only [picks, List.length_map, HL.out]; exact hown, below_step (quiet_below rfl) hB⟩
    · have HI := Lib.hid hi; clear hi
      go_enter Try.func32, Try.ntmps32
      go_wp2_with fail
      refine (fromZero_is b off n c fs true HP.out _ (by exact hs) HL.out (by omega)).mono ?_
      rintro e w' ⟨rfl, q, rfl⟩
      go_wp2_with fail
      refine (fromZero_is b2 off2 n2 c2 ss true HP2.out _ (by exact hs2) HL2.out (by omega)).mono ?_
      rintro e w' ⟨rfl, q2, rfl⟩
      go_wp2_with fail
      refine (size_int64_any _ n2 c2 _).mono ?_
      rintro e w' ⟨rfl, rfl⟩
      go_wp2_with fail
      refine (allWithin_is b off n c fs 0 (n2 - 1) false (by have := HI.out; rw [HL2.out] at this; exact this) _ (by exact hs) HL.out (by omega)).mono ?_
      rintro e w' ⟨rfl, rfl⟩
      go_wp2_with fail
      go_ret2
      have e : composeSim fs ss = ([], 2) := by unfold composeSim; rw [HP.out, HP2.out, HI.out]; rfl
      rw [e]
      exact ⟨_, rfl, World.ownsRow_nil _ _ _ _, quiet_below rfl⟩
end Go.Proofs.Ythanekchopkblaa
