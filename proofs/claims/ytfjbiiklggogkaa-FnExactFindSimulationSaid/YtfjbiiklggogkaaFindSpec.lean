/- FindSimulation: the walk of one side. -/
import Derived.Test.YtfjbiiklggogkaaFind
namespace Go.Proofs.Ytfjbiiklggogkaa
open Go.RowKit
set_option linter.all false

set_option maxRecDepth 100000 in
set_option maxHeartbeats 2000000 in
theorem specFindSimulation_any (b1 o1 n1 c1 : Nat) (ss : List ByteArray) (b2 o2 n2 c2 : Nat) (ts : List ByteArray) (w : World) (hs1 : Sl w b1 o1 (ss.map Value.string)) (hl1 : ss.length = n1) (hn1 : n1 ≤ 1048576) (hx1 : ∀ x ∈ ss, x.size ≤ 1048576) (hs2 : Sl w b2 o2 (ts.map Value.string)) (hl2 : ts.length = n2) (hn2 : n2 ≤ 1048576) (hx2 : ∀ x ∈ ts, x.size ≤ 1048576) :
    Calls Try.prog 30 #[.slice (some ⟨b1, o1, none⟩) n1 c1, .slice (some ⟨b2, o2, none⟩) n2 c2] w fun e w' => ∃ v, e = .returned (.tuple #[v, .int .i64 (findSim ss ts).2]) ∧
      w'.ownsRow w.heap.size 2 1 v (findSim ss ts).1.length ((findSim ss ts).1.map (.int .i64)) ∧ Below w.heap.size w w' := by
  clear hx1 hx2
  have HL1 := Lib.hid hl1; have HL2 := Lib.hid hl2
  clear hl1 hl2
  rcases Bool.eq_false_or_eq_true (sourceB ss) with h1 | h1
  rotate_left
  · have H1 := Lib.hid h1; clear h1
    have HE : Hid (findSim ss ts = ([], 2)) := find_no (by rw [H1.out]; rfl)
    go_enter Try.func30, Try.ntmps30
    go_wp2_with fail
    refine (l19Source_is b1 o1 n1 c1 ss false H1.out _ hs1 HL1.out (by omega)).mono ?_
    rintro e w' ⟨rfl, rfl⟩
    go_wp2_with fail
    go_ret2
    exact ⟨_, ends2' (by rw [HE.out]), own_nil2 HE.out, Below.refl _ _⟩
  have hn0 : 0 < n1 ∧ n1 ≤ 600 := by have := HL1.out; unfold sourceB at h1; simp at h1; omega
  obtain ⟨hn0, hn6⟩ := hn0
  have H1 := Lib.hid h1; clear h1
  by_cases h6 : n2 ≤ 600
  rotate_left
  · have HE : Hid (findSim ss ts = ([], 2)) := find_no (by have := HL2.out; rw [decide_eq_false (by omega : ¬ ts.length ≤ 600)]; simp)
    go_enter Try.func30, Try.ntmps30
    go_wp2_with fail
    refine (l19Source_is b1 o1 n1 c1 ss true H1.out _ hs1 HL1.out (by omega)).mono ?_
    rintro e w' ⟨rfl, rfl⟩
    go_wp2_with fail
    go_ret2
    exact ⟨_, ends2' (by rw [HE.out]), own_nil2 HE.out, Below.refl _ _⟩
  have HOK : Hid ((sourceB ss && decide (ts.length ≤ 600)) = true) := by unfold Hid; have := HL2.out; rw [H1.out, decide_eq_true (by omega : ts.length ≤ 600)]; rfl
  go_enter Try.func30, Try.ntmps30
  go_wp2_with fail
  refine (l19Source_is b1 o1 n1 c1 ss true H1.out _ hs1 HL1.out (by omega)).mono ?_
  rintro e w' ⟨rfl, rfl⟩
  go_wp2_with fail
  go_loopw [6, 7, 8] (fun v kv iv wr => ∃ (k i : Nat) (acc : List Int), k ≤ n2 ∧ i ≤ n1 ∧ kv = .int .i64 k ∧ iv = .int .i64 i ∧ wr.ownsRow w.heap.size 2 1 v i (acc.map (.int .i64)) ∧ Below w.heap.size w wr ∧ Hid (acc.length = i) ∧ Hid (SimRel ss ts i k acc) ∧ (i = 0 → k = 0) ∧ Hid (0 < i → headB ss ts = true)) (fun _ _ iv _ => n1 - (intOf iv).toNat)
  case atStart => exact ⟨0, 0, [], Nat.zero_le _, Nat.zero_le _, rfl, rfl, World.ownsRow_made _ #[] 0 (by simp) (by simp [maxLen]) rfl, laid_below _ _, rfl, simRel_start _ _, by omega, by intro h; omega⟩
  case round =>
    obtain ⟨k0, i, acc, hk0, hi, rfl, rfl, hown0, hB0, HA, HS0, hik, HH⟩ := hrel
    obtain ⟨A, d, rfl⟩ := own_form hown0
    by_cases hin : i < n1
    · obtain ⟨s, HSs, hsx⟩ := map_at Value.string ss (k := i) (by have := HL1.out; omega)
      go_wp2_with fail
      go_loopw [7] (fun kv wv => ∃ k : Nat, k ≤ n2 ∧ k0 ≤ k ∧ kv = .int .i64 k ∧ wv.ownsRow w.heap.size 2 1 (.slice A i d) i (acc.map (.int .i64)) ∧ Below w.heap.size w wv ∧ Hid (SimRel ss ts i k acc) ∧ Hid (i = 0 → 0 < k → headB ss ts = false)) (fun kv _ => n2 - (intOf kv).toNat)
      case atStart => exact ⟨k0, hk0, Nat.le_refl _, rfl, hown0, hB0, HS0, by intro h1 h2; have := hik h1; omega⟩
      case round =>
        obtain ⟨k, hk, hkk, rfl, hown, hB, HS, HN⟩ := hrel
        have hcb := (hs1.below' hB).at hsx
        by_cases hlt : k < n2
        · obtain ⟨t, HTt, htx⟩ := map_at Value.string ts (k := k) (by have := HL2.out; omega)
          have hcc := (hs2.below' hB).at htx
          clear htx
          rcases Bool.eq_false_or_eq_true (t.toList == s.toList) with hb | hb
          · have HB := Lib.hid hb
            by_cases hbad : i = 0 ∧ 0 < k
            · obtain ⟨hi0, hk1⟩ := hbad
              have HE : Hid (findSim ss ts = ([], 3)) := find_head HOK.out (HN.out hi0 hk1)
              subst hi0
              rw [Nat.add_zero] at hcb
              go_wp2_with fail
              go_quiet (fail)
              have hBq : Below w.heap.size w (wr.drewN nq) := below_drewN hB nq
              clear hcb hcc hb hsx
              generalize wr.drewN nq = wq at *
              have hz1 : ((k : Int) == (n2 : Int)) = false := by simp; omega
              go_wp2_with fail
              go_ret2
              exact ⟨_, ends2' (by rw [HE.out]), own_nil2 HE.out, hBq⟩
            · go_wp2_with fail
              go_quiet (fail)
              have hBq : Below w.heap.size w (wr.drewN nq) := below_drewN hB nq
              have hownq : (wr.drewN nq).ownsRow w.heap.size 2 1 (.slice A i d) i (acc.map (.int .i64)) := own_below' hown (quiet_below rfl)
              generalize wr.drewN nq = wq at *
              clear hown hB hcb hcc hb hsx hown0 hB0
              have hz1 : ((k : Int) == (n2 : Int)) = false := by simp; omega
              rcases Nat.eq_zero_or_pos i with hi0 | hi0
              · obtain rfl : i = 0 := hi0
                obtain rfl : k = 0 := by omega
                go_wp2_with (at_builtin; refine wpList_app rfl _ _ _ rfl Try.underlying22 infoInt64S rfl (by omega) w wq hownq hBq rfl 1 #[.int .i64 ((0 : Nat) : Int)] rfl (laid_below _ _) (heap_alloc_new _ _) rfl (by simp [Value.oneCell']) (by omega) (by unfold maxLen; omega) (by omega) ?_; intro g cap w1 hown1 hB1; clear hownq hBq)
                go_roundw
                case rel => exact ⟨0 + 1, 0 + 1, acc ++ [((0 : Nat) : Int)], by omega, by omega, by go_num, by go_num, by rw [List.map_append]; exact hown1, hB1, by unfold Hid; rw [List.length_append, HA.out]; rfl, simRel_hit HS.out HSs.out HTt.out HB.out, by omega, by
                  intro _; rw [head_is HSs.out HTt.out]; exact HB.out⟩
                case measure => simp [intOf]; omega
              · have hz2 : ((i : Int) == 0) = false := by simp; omega
                go_wp2_with (at_builtin; refine wpList_app rfl _ _ _ rfl Try.underlying22 infoInt64S rfl (by omega) w wq hownq hBq rfl 1 #[.int .i64 (k : Int)] rfl (laid_below _ _) (heap_alloc_new _ _) rfl (by simp [Value.oneCell']) (by omega) (by unfold maxLen; omega) (by omega) ?_; intro g cap w1 hown1 hB1; clear hownq hBq)
                go_roundw
                case rel => exact ⟨k + 1, i + 1, acc ++ [(k : Int)], by omega, by omega, by go_num, by go_num, by rw [List.map_append]; exact hown1, hB1, by unfold Hid; rw [List.length_append, HA.out]; rfl, simRel_hit HS.out HSs.out HTt.out HB.out, by omega, by
                  intro _; exact HH.out hi0⟩
                case measure => simp [intOf]; omega
          · have HB := Lib.hid hb
            go_wp2_with fail
            go_quiet (fail)
            have hBq : Below w.heap.size w (wr.drewN nq) := below_drewN hB nq
            have hownq : (wr.drewN nq).ownsRow w.heap.size 2 1 (.slice A i d) i (acc.map (.int .i64)) := own_below' hown (quiet_below rfl)
            generalize wr.drewN nq = wq at *
            clear hown hB hcb hcc hb
            go_wp2_with fail
            go_roundw
            case rel => exact ⟨k + 1, by omega, by omega, by go_num, hownq, hBq, simRel_miss HS.out HSs.out HTt.out HB.out, by
              intro h1 _
              by_cases hk1 : 0 < k
              · exact HN.out h1 hk1
              · obtain rfl : k = 0 := by omega
                subst h1
                rw [head_is HSs.out HTt.out]; exact HB.out⟩
            case measure => simp [intOf]; omega
        · obtain rfl : k = n2 := by omega
          have HE : Hid (findSim ss ts = ([], 3)) := find_none HOK.out (simRel_none HS.out (by have := HL1.out; omega) (by have := HL2.out; omega))
          go_wp2_with fail
          go_quiet (fail)
          have hBq : Below w.heap.size w (wr.drewN nq) := below_drewN hB nq
          clear hcb hsx
          generalize wr.drewN nq = wq at *
          go_wp2_with fail
          go_ret2
          exact ⟨_, ends2' (by rw [HE.out]), own_nil2 HE.out, hBq⟩
    · obtain rfl : i = n1 := by omega
      have HE : Hid (findSim ss ts = (acc, 0)) := find_some HOK.out (HH.out (by omega)) (simRel_done HS0.out (by have := HL1.out; omega))
      go_wp2_with fail
      go_ret2
      exact ⟨_, ends2' (by rw [HE.out]), own_fit2 HE.out HA.out hown0, hB0⟩
end Go.Proofs.Ytfjbiiklggogkaa
