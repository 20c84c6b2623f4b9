/- IsSimulation: the walk of one side. -/
import Derived.Test.YtfjbiiklggogkaaSim
namespace Go.Proofs.Ytfjbiiklggogkaa
open Go.RowKit
set_option linter.all false

set_option maxRecDepth 100000 in
set_option maxHeartbeats 2000000 in
theorem specIsSimulation_any (b1 o1 n1 c1 : Nat) (ss : List ByteArray) (b2 o2 n2 c2 : Nat) (ts : List ByteArray) (b3 o3 n3 c3 : Nat) (xs : List Int) (w : World) (hs1 : Sl w b1 o1 (ss.map Value.string)) (hl1 : ss.length = n1) (hn1 : n1 ≤ 1048576) (hx1 : ∀ x ∈ ss, x.size ≤ 1048576) (hs2 : Sl w b2 o2 (ts.map Value.string)) (hl2 : ts.length = n2) (hn2 : n2 ≤ 1048576) (hx2 : ∀ x ∈ ts, x.size ≤ 1048576) (hs3 : Sl w b3 o3 (xs.map (.int .i64))) (hl3 : xs.length = n3) (hn3 : n3 ≤ 1048576) (wf3 : Wf64s xs) :
    Calls Try.prog 22 #[.slice (some ⟨b1, o1, none⟩) n1 c1, .slice (some ⟨b2, o2, none⟩) n2 c2, .slice (some ⟨b3, o3, none⟩) n3 c3] w fun e w' => e = .returned (.bool (isSimB ss ts xs)) ∧ Below w.heap.size w w' := by
  clear hx1 hx2 wf3
  have HL1 := Lib.hid hl1; have HL2 := Lib.hid hl2; have HL3 := Lib.hid hl3
  clear hl1 hl2 hl3
  rcases Bool.eq_false_or_eq_true (sourceB ss) with h1 | h1
  rotate_left
  · have H1 := Lib.hid h1; clear h1
    have HE : Hid (isSimB ss ts xs = false) := by unfold Hid isSimB; rw [H1.out]; rfl
    go_enter Try.func22, Try.ntmps22
    go_wp2_with fail
    refine (l19Source_is b1 o1 n1 c1 ss false H1.out _ hs1 HL1.out (by omega)).mono ?_
    rintro e w' ⟨rfl, rfl⟩
    go_wp2_with fail
    go_ret
    exact ⟨ret_bool HE.out.symm, Below.refl _ _⟩
  have hn0 : 0 < n1 := by have := HL1.out; unfold sourceB at h1; simp at h1; omega
  have H1 := Lib.hid h1; clear h1
  by_cases h6 : n2 ≤ 600
  rotate_left
  · have HE : Hid (isSimB ss ts xs = false) := by unfold Hid isSimB; have := HL2.out; rw [decide_eq_false (by omega : ¬ ts.length ≤ 600)]; simp
    go_enter Try.func22, Try.ntmps22
    go_wp2_with fail
    refine (l19Source_is b1 o1 n1 c1 ss true H1.out _ hs1 HL1.out (by omega)).mono ?_
    rintro e w' ⟨rfl, rfl⟩
    go_wp2_with fail
    go_ret
    exact ⟨ret_bool HE.out.symm, Below.refl _ _⟩
  by_cases h31 : n3 = n1
  rotate_left
  · have HE : Hid (isSimB ss ts xs = false) := by unfold Hid isSimB; have := HL3.out; have := HL1.out; rw [decide_eq_false (by omega : ¬ xs.length = ss.length)]; simp
    have hne : ((n3 : Int) != (n1 : Int)) = true := by simp; omega
    go_enter Try.func22, Try.ntmps22
    go_wp2_with fail
    refine (l19Source_is b1 o1 n1 c1 ss true H1.out _ hs1 HL1.out (by omega)).mono ?_
    rintro e w' ⟨rfl, rfl⟩
    go_wp2_with fail
    go_ret
    exact ⟨ret_bool HE.out.symm, Below.refl _ _⟩
  subst h31
  have HM : Hid (isSimB ss ts xs = ((xs.getD 0 0 == 0) && risesB xs 0 ((n2 : Int) - 1) && (List.range n3).all (simAt ss ts xs))) := by
    unfold Hid isSimB; have e1 := HL1.out; have e2 := HL2.out; have e3 := HL3.out; rw [H1.out, decide_eq_true (by omega : ts.length ≤ 600), decide_eq_true (by omega : xs.length = ss.length), e2, e3]; simp
  obtain ⟨x0, HX0, hx0⟩ := map_at (Value.int .i64) xs (k := 0) (by have := HL3.out; omega)
  have hc0 := hs3.at hx0
  rw [Nat.add_zero] at hc0
  clear hx0
  by_cases hz : x0 = 0
  rotate_left
  · have HE : Hid (isSimB ss ts xs = false) := by unfold Hid; rw [HM.out, getD_at HX0.out]; simp [hz]
    have hzz : (x0 != 0) = true := by simpa using hz
    go_enter Try.func22, Try.ntmps22
    go_wp2_with fail
    refine (l19Source_is b1 o1 n3 c1 ss true H1.out _ hs1 HL1.out (by omega)).mono ?_
    rintro e w' ⟨rfl, rfl⟩
    go_wp2_with fail
    go_ret
    exact ⟨ret_bool HE.out.symm, Below.refl _ _⟩
  subst hz
  rcases Bool.eq_false_or_eq_true (risesB xs 0 ((n2 : Int) - 1)) with h2 | h2
  rotate_left
  · have H2 := Lib.hid h2; clear h2
    have HE : Hid (isSimB ss ts xs = false) := by unfold Hid; rw [HM.out, H2.out]; simp
    go_enter Try.func22, Try.ntmps22
    go_wp2_with fail
    refine (l19Source_is b1 o1 n3 c1 ss true H1.out _ hs1 HL1.out (by omega)).mono ?_
    rintro e w' ⟨rfl, rfl⟩
    go_wp2_with fail
    refine (l00Rises_is b3 o3 n3 c3 xs 0 ((n2 : Int) - 1) false H2.out _ hs3 HL3.out (by omega)).mono ?_
    rintro e w' ⟨rfl, q, rfl⟩
    go_wp2_with fail
    go_ret
    exact ⟨ret_bool HE.out.symm, below_drewN (Below.refl _ _) _⟩
  have HRI : Hid (∀ k x, xs[k]? = some x → 0 ≤ x ∧ x ≤ (n2 : Int) - 1) := fun k x hx => rises_in h2 hx
  have H2 := Lib.hid h2; clear h2
  have HE : Hid (isSimB ss ts xs = (List.range n3).all (simAt ss ts xs)) := by unfold Hid; rw [HM.out, getD_at HX0.out, H2.out]; simp
  go_enter Try.func22, Try.ntmps22
  go_wp2_with fail
  refine (l19Source_is b1 o1 n3 c1 ss true H1.out _ hs1 HL1.out (by omega)).mono ?_
  rintro e w' ⟨rfl, rfl⟩
  go_wp2_with fail
  refine (l00Rises_is b3 o3 n3 c3 xs 0 ((n2 : Int) - 1) true H2.out _ hs3 HL3.out (by omega)).mono ?_
  rintro e w' ⟨rfl, q0, rfl⟩
  clear hc0
  go_wp2_with fail
  go_loopw [7] (fun i wr => ∃ k q : Nat, k ≤ n3 ∧ i = .int .i64 k ∧ wr = w.drewN q ∧ Hid (∀ j, j < k → simAt ss ts xs j = true)) (fun i _ => n3 - (intOf i).toNat)
  case atStart => exact ⟨0, q0, Nat.zero_le _, rfl, rfl, by intro j hj; omega⟩
  case round =>
    obtain ⟨k, q, hk, rfl, rfl, HJ⟩ := hrel
    by_cases hlt : k < n3
    · obtain ⟨x, HX, hx⟩ := map_at (Value.int .i64) xs (k := k) (by have := HL3.out; omega)
      have hca := hs3.at hx
      obtain ⟨z, HZ⟩ : ∃ z : Nat, Hid (x = z) := ⟨x.toNat, by have := HRI.out k x HX.out; unfold Hid; omega⟩
      have hz2 : z < n2 := by have := HRI.out k x HX.out; have := HZ.out; omega
      rw [HZ.out] at hca
      obtain ⟨s, HS, hsx⟩ := map_at Value.string ss (k := k) (by have := HL1.out; omega)
      have hcb := hs1.at hsx
      obtain ⟨t, HT, htx⟩ := map_at Value.string ts (k := z) (by have := HL2.out; omega)
      have hcc := hs2.at htx
      clear hx hsx htx
      have HQ : Hid (simAt ss ts xs k = (t.toList == s.toList)) := by unfold Hid simAt; rw [getD_at HX.out, HZ.out, Int.toNat_natCast, getD_at HT.out, getD_at HS.out]
      rcases Bool.eq_false_or_eq_true (t.toList == s.toList) with hb | hb
      · have HB := Lib.hid hb
        go_wp2_with fail
        go_quiet (fail)
        go_wp2_with fail
        go_roundw
        case rel => exact ⟨k + 1, _, by omega, by go_num, (by first | rfl | exact World.drewN_drewN _ _ _), by
          intro j hj
          by_cases ej : j = k
          · subst ej; rw [HQ.out, HB.out]
          · exact HJ.out j (by omega)⟩
        case measure => simp [intOf]; omega
      · have HB := Lib.hid hb
        go_wp2_with fail
        go_quiet (fail)
        go_wp2_with fail
        go_ret
        exact ⟨ret_bool (by rw [HE.out, range_all_no hlt (by rw [HQ.out, HB.out])]), (by first | exact below_drewN (Below.refl _ _) _ | exact below_drewN (below_drewN (Below.refl _ _) _) _)⟩
    · go_wp2_with fail
      go_ret
      refine ⟨ret_bool ?_, below_drewN (Below.refl _ _) _⟩
      rw [HE.out]
      symm
      rw [List.all_eq_true]
      intro j hj
      exact HJ.out j (by simp at hj; omega)
end Go.Proofs.Ytfjbiiklggogkaa
