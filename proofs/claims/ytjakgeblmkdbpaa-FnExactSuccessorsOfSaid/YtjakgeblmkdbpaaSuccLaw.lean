/- SuccessorsOf: how long the result is; lists of words compared, each of any bound. -/
import Derived.Test.YtjakgeblmkdbpaaSuccImpl2
namespace Go.Proofs.Ytjakgeblmkdbpaa
open Go.RowKit
set_option linter.all false

theorem sumLen_each {ts : List (List Int)} {m : Nat} (h : ∀ t ∈ ts, t.length ≤ m) : sumLen ts ≤ ts.length * m := by
  induction ts with
  | nil => simp [sumLen]
  | cons t l ih =>
    have h1 := ih fun u hu => h u (List.mem_cons_of_mem _ hu)
    have h2 := h t (by simp)
    unfold sumLen at *
    rw [List.map_cons, List.sum_cons, List.length_cons, Nat.succ_mul]
    omega
theorem bndSuccessorsOf0 (xs : List DRewrite) (w : List Int) (h0 : xs.length ≤ 1048576) (h1 : sumRewrite xs ≤ 1048576) (h2 : w.length ≤ 1048576) : (succsOf xs w).1.length ≤ 1048576 ∧ sumLen (succsOf xs w).1 ≤ 16777216 := by
  have h := succsOf_len xs w
  have h3 := sumLen_each h.2
  have h4 : (succsOf xs w).1.length * 400 ≤ 24060 * 400 := Nat.mul_le_mul_right _ h.1
  exact ⟨by omega, by omega⟩
theorem its_each {ts : List (List Int)} {m : Nat} (h : ∀ t ∈ ts, t.length ≤ m) : ∀ it ∈ itsOf oneI ts, it.1 ≤ m := by
  intro it hit
  unfold itsOf at hit
  obtain ⟨t, ht, rfl⟩ := List.mem_map.1 hit
  exact h t ht
theorem succs_each (xs : List DRewrite) (w : List Int) : ∀ t ∈ (succsOf xs w).1, t.length ≤ 4194304 := fun t ht => by have := (succsOf_len xs w).2 t ht; omega

set_option maxRecDepth 100000 in
set_option maxHeartbeats 800000 in
theorem eqInt64SSB_any (A B : Option Addr) (n m c d : Nat) (us vs : List Value) (xs ys : List (List Int)) (w : World) (ha : Arg w A n us) (hu : Ins 1 oneI w us xs) (hb : Arg w B m vs) (hv : Ins 1 oneI w vs ys) (hn : n ≤ 4194304) (hm : m ≤ 4194304) (hx : ∀ t ∈ xs, t.length ≤ 4194304) (hy : ∀ t ∈ ys, t.length ≤ 4194304) :
    Calls Try.prog 20 #[.slice A n c, .slice B m d] w fun e w' => e = .returned (.bool (decide (xs = ys))) ∧ Below w.heap.size w w' := by
  have HA : Hid (xs.length = n) := by have := ha.1; have := hu.1; unfold Hid; omega
  have HB : Hid (ys.length = m) := by have := hb.1; have := hv.1; unfold Hid; omega
  have HX := Lib.hid hx; have HY := Lib.hid hy; clear hx hy
  by_cases hnm : n = m
  · subst hnm
    go_enter Try.func20, Try.ntmps20
    go_wp2
    go_loopw [5] (fun i wr => ∃ k : Nat, k ≤ n ∧ i = .int .i64 k ∧ Below w.heap.size w wr ∧ Hid (xs.take k = ys.take k)) (fun i _ => n - (intOf i).toNat)
    case atStart => exact ⟨0, Nat.zero_le _, rfl, Below.refl _ _, rfl⟩
    case round =>
      obtain ⟨k, hk, rfl, hB, HR⟩ := hrel
      by_cases hlt : k < n
      · obtain ⟨b1, o1, rfl, hs1⟩ := ha.sl hlt
        obtain ⟨b2, o2, rfl, hs2⟩ := hb.sl hlt
        obtain ⟨x, HXX⟩ := hget HA hlt
        obtain ⟨y, HYY⟩ := hget HB hlt
        obtain ⟨A1, c1, hv1, ha1⟩ := (hu.below hB).get HXX.out
        obtain ⟨A2, c2, hv2, ha2⟩ := (hv.below hB).get HYY.out
        have p0 := (hs1.below' hB).at hv1
        have q0 := (hs2.below' hB).at hv2
        have l1 : x.length ≤ 4194304 := HX.out _ (List.mem_of_getElem? HXX.out)
        have l2 : y.length ≤ 4194304 := HY.out _ (List.mem_of_getElem? HYY.out)
        obtain ⟨n1, hn1⟩ : ∃ n1, n1 = x.length := ⟨_, rfl⟩
        obtain ⟨n2, hn2⟩ : ∃ n2, n2 = y.length := ⟨_, rfl⟩
        rw [← hn1] at p0 ha1 l1
        rw [← hn2] at q0 ha2 l2
        clear hs1 hs2 ha hb hu hv hv1 hv2 hn1 hn2
        by_cases e : x = y
        · have E := Lib.hid (decide_eq_true e)
          have E2 := Lib.hid e
          clear e
          go_wp2
          go_still_tail 8, (by kernel_rfl)
          change wpList _ _ _ _ _ wr.drew
          have hB2 := hB.drew
          have ha1' : Args 1 wr.drew A1 n1 (rows oneI x) := ha1.below (Below.refl _ _).drew
          have ha2' : Args 1 wr.drew A2 n2 (rows oneI y) := ha2.below (Below.refl _ _).drew
          clear p0 q0 hB ha1 ha2
          generalize wr.drew = w2 at hB2 ha1' ha2' ⊢
          go_wp2_with fail
          refine (inEqInt64S A1 A2 n1 n2 c1 c2 x y true E.out _ ha1' ha2' l1 l2).mono ?_
          rintro e w3 ⟨rfl, hb3⟩
          clear ha1' ha2'
          go_wp2
          go_roundw
          case rel => exact ⟨k + 1, by omega, by go_num, below_step hB2 hb3, take_succ_eq HR.out HXX.out HYY.out E2.out⟩
          case measure => simp [intOf]; omega
        · have E := Lib.hid (decide_eq_false e)
          have HE := Lib.hid e
          clear e
          go_wp2
          go_still_tail 8, (by kernel_rfl)
          change wpList _ _ _ _ _ wr.drew
          have hB2 := hB.drew
          have ha1' : Args 1 wr.drew A1 n1 (rows oneI x) := ha1.below (Below.refl _ _).drew
          have ha2' : Args 1 wr.drew A2 n2 (rows oneI y) := ha2.below (Below.refl _ _).drew
          clear p0 q0 hB ha1 ha2
          generalize wr.drew = w2 at hB2 ha1' ha2' ⊢
          go_wp2_with fail
          refine (inEqInt64S A1 A2 n1 n2 c1 c2 x y false E.out _ ha1' ha2' l1 l2).mono ?_
          rintro e w3 ⟨rfl, hb3⟩
          clear ha1' ha2'
          go_wp2
          go_ret
          exact ⟨ret_bool (by simp [ne_of_at HXX.out HYY.out HE.out]), below_step hB2 hb3⟩
      · go_wp2
        go_ret
        refine ⟨ret_bool ?_, hB⟩
        have h1 := HR.out
        have h2 := HA.out
        have h3 := HB.out
        rw [List.take_of_length_le (by omega), List.take_of_length_le (by omega)] at h1
        simp [h1]
  · have hne : ((n : Int) != (m : Int)) = true := by simp; omega
    go_enter Try.func20, Try.ntmps20
    go_wp2
    go_ret
    refine ⟨ret_bool ?_, Below.refl _ _⟩
    have h2 := HA.out
    have h3 := HB.out
    symm
    apply decide_eq_false
    rintro rfl
    omega
end Go.Proofs.Ytjakgeblmkdbpaa
