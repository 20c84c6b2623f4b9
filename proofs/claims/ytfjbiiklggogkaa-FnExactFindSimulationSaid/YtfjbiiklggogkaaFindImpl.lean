/- FindSimulation: the walk of one side. -/
import Derived.Test.YtfjbiiklggogkaaFind
namespace Go.Proofs.Ytfjbiiklggogkaa
open Go.RowKit
set_option linter.all false

set_option maxRecDepth 100000 in
set_option maxHeartbeats 2000000 in
theorem implFindSimulation_any (b1 o1 n1 c1 : Nat) (ss : List ByteArray) (b2 o2 n2 c2 : Nat) (ts : List ByteArray) (w : World) (hs1 : Sl w b1 o1 (ss.map Value.string)) (hl1 : ss.length = n1) (hn1 : n1 ≤ 1048576) (hx1 : ∀ x ∈ ss, x.size ≤ 1048576) (hs2 : Sl w b2 o2 (ts.map Value.string)) (hl2 : ts.length = n2) (hn2 : n2 ≤ 1048576) (hx2 : ∀ x ∈ ts, x.size ≤ 1048576) :
    Calls Try.prog 31 #[.slice (some ⟨b1, o1, none⟩) n1 c1, .slice (some ⟨b2, o2, none⟩) n2 c2] w fun e w' => ∃ v, e = .returned (.tuple #[v, .int .i64 (findSim ss ts).2]) ∧
      w'.ownsRow w.heap.size 2 1 v (findSim ss ts).1.length ((findSim ss ts).1.map (.int .i64)) ∧ Below w.heap.size w w' := by
  clear hx1 hx2
  have HL1 := Lib.hid hl1; have HL2 := Lib.hid hl2
  clear hl1 hl2
  rcases Bool.eq_false_or_eq_true (sourceB ss) with h1 | h1
  rotate_left
  · have H1 := Lib.hid h1; clear h1
    have HE : Hid (findSim ss ts = ([], 2)) := find_no (by rw [H1.out]; rfl)
    go_enter Try.func31, Try.ntmps31
    go_wp2_with fail
    refine (simulable_is b1 o1 n1 c1 ss false H1.out _ hs1 HL1.out (by omega)).mono ?_
    rintro e w' ⟨rfl, rfl⟩
    go_wp2_with fail
    go_ret2
    exact ⟨_, ends2' (by rw [HE.out]), own_nil2 HE.out, Below.refl _ _⟩
  have hn0 : 0 < n1 ∧ n1 ≤ 600 := by have := HL1.out; unfold sourceB at h1; simp at h1; omega
  obtain ⟨hn0, hn6⟩ := hn0
  have H1 := Lib.hid h1; clear h1
  by_cases h6 : n2 ≤ 600
  rotate_left
  · have HE : Hid (findSim ss ts = ([], 2)) := find_no (by have := HL2.out; rw [decide_eq_false (by omega : ¬ ts.length ≤ 600)]; simp)
    go_enter Try.func31, Try.ntmps31
    go_wp2_with fail
    refine (simulable_is b1 o1 n1 c1 ss true H1.out _ hs1 HL1.out (by omega)).mono ?_
    rintro e w' ⟨rfl, rfl⟩
    go_wp2_with fail
    go_ret2
    exact ⟨_, ends2' (by rw [HE.out]), own_nil2 HE.out, Below.refl _ _⟩
  have HOK : Hid ((sourceB ss && decide (ts.length ≤ 600)) = true) := by unfold Hid; have := HL2.out; rw [H1.out, decide_eq_true (by omega : ts.length ≤ 600)]; rfl
  go_enter Try.func31, Try.ntmps31
  go_wp2_with fail
  refine (simulable_is b1 o1 n1 c1 ss true H1.out _ hs1 HL1.out (by omega)).mono ?_
  rintro e w' ⟨rfl, rfl⟩
  go_wp2_with fail
  go_loopw [6, 7] (fun v i wr => ∃ (k m : Nat) (acc : List Int), k ≤ n2 ∧ m ≤ n1 ∧ m ≤ k ∧ i = .int .i64 k ∧ wr.ownsRow w.heap.size 2 1 v m (acc.map (.int .i64)) ∧ Below w.heap.size w wr ∧ Hid (acc.length = m) ∧ Hid (SimRel ss ts m k acc) ∧ (0 < k → 0 < m) ∧ Hid (0 < k → headB ss ts = true)) (fun _ i _ => n2 - (intOf i).toNat)
  case atStart => exact ⟨0, 0, [], Nat.zero_le _, Nat.zero_le _, Nat.le_refl _, rfl, World.ownsRow_made _ #[] 0 (by simp) (by simp [maxLen]) rfl, laid_below _ _, rfl, simRel_start _ _, by omega, by intro h; omega⟩
  case round =>
    obtain ⟨k, m, acc, hk, hm, hmk, rfl, hown, hB, HA, HS, hkm, HH⟩ := hrel
    obtain ⟨A, d, rfl⟩ := own_form hown
    by_cases hlt : k < n2 ∧ m < n1
    · obtain ⟨hk2, hm2⟩ := hlt
      obtain ⟨s, HSs, hsx⟩ := map_at Value.string ss (k := m) (by have := HL1.out; omega)
      have hcb := (hs1.below' hB).at hsx
      obtain ⟨t, HTt, htx⟩ := map_at Value.string ts (k := k) (by have := HL2.out; omega)
      have hcc := (hs2.below' hB).at htx
      clear hsx htx
      rcases Bool.eq_false_or_eq_true (t.toList == s.toList) with hb | hb
      · have HB := Lib.hid hb
        go_wp2_with fail
        go_quiet (fail)
        have hBq : Below w.heap.size w (wr.drewN nq) := below_drewN hB nq
        have hownq : (wr.drewN nq).ownsRow w.heap.size 2 1 (.slice A m d) m (acc.map (.int .i64)) := own_below' hown (quiet_below rfl)
        generalize wr.drewN nq = wq at *
        clear hown hB hcb hcc hb
        go_wp2_with (at_builtin; refine wpList_app rfl _ _ _ rfl Try.underlying22 infoInt64S rfl (by omega) w wq hownq hBq rfl 1 #[.int .i64 (k : Int)] rfl (laid_below _ _) (heap_alloc_new _ _) rfl (by simp [Value.oneCell']) (by omega) (by unfold maxLen; omega) (by omega) ?_; intro g cap w1 hown1 hB1; clear hownq hBq)
        go_roundw
        case rel => exact ⟨k + 1, m + 1, acc ++ [(k : Int)], by omega, by omega, by omega, by go_num, by rw [List.map_append]; exact hown1, hB1, by unfold Hid; rw [List.length_append, HA.out]; rfl, simRel_hit HS.out HSs.out HTt.out HB.out, by omega, by
          intro _
          by_cases hk0 : 0 < k
          · exact HH.out hk0
          · obtain rfl : k = 0 := by omega
            obtain rfl : m = 0 := by omega
            rw [head_is HSs.out HTt.out]; exact HB.out⟩
        case measure => simp [intOf]; omega
      · have HB := Lib.hid hb
        by_cases hm0 : 0 < m
        · go_wp2_with fail
          go_quiet (fail)
          have hBq : Below w.heap.size w (wr.drewN nq) := below_drewN hB nq
          have hownq : (wr.drewN nq).ownsRow w.heap.size 2 1 (.slice A m d) m (acc.map (.int .i64)) := own_below' hown (quiet_below rfl)
          generalize wr.drewN nq = wq at *
          clear hown hB hcb hcc hb
          have hmz : ((m : Int) == 0) = false := by simp; omega
          go_wp2_with fail
          go_roundw
          case rel => exact ⟨k + 1, m, acc, by omega, by omega, by omega, by go_num, hownq, hBq, HA.out, simRel_miss HS.out HSs.out HTt.out HB.out, by omega, by
            intro _; exact HH.out (by omega)⟩
          case measure => simp [intOf]; omega
        · obtain rfl : m = 0 := by omega
          obtain rfl : k = 0 := by omega
          have HE : Hid (findSim ss ts = ([], 3)) := find_head HOK.out (by rw [head_is HSs.out HTt.out]; exact HB.out)
          rw [Nat.add_zero] at hcb hcc
          go_wp2_with fail
          go_quiet (fail)
          have hBq : Below w.heap.size w (wr.drewN nq) := below_drewN hB nq
          go_wp2_with fail
          go_ret2
          exact ⟨_, ends2' (by rw [HE.out]), own_nil2 HE.out, hBq⟩
    · by_cases hmn : m < n1
      · have hkn : ¬ k < n2 := fun h => hlt ⟨h, hmn⟩
        clear hlt
        have HE : Hid (findSim ss ts = ([], 3)) := find_none HOK.out (simRel_none HS.out (by have := HL1.out; omega) (by have := HL2.out; omega))
        go_wp2_with fail
        go_ret2
        exact ⟨_, ends2' (by rw [HE.out]), own_nil2 HE.out, hB⟩
      · clear hlt
        have HE : Hid (findSim ss ts = (acc, 0)) := find_some HOK.out (HH.out (by omega)) (simRel_done HS.out (by have := HL1.out; omega))
        by_cases hkn : k < n2
        · go_wp2_with fail
          go_ret2
          exact ⟨_, ends2' (by rw [HE.out]), own_fit2 HE.out HA.out hown, hB⟩
        · go_wp2_with fail
          go_ret2
          exact ⟨_, ends2' (by rw [HE.out]), own_fit2 HE.out HA.out hown, hB⟩
end Go.Proofs.Ytfjbiiklggogkaa
