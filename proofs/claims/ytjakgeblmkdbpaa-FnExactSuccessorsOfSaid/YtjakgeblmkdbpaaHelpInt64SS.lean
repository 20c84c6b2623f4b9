/- Contracts of the laws' helpers on [][]int64: copy, compare, size, mark, look at the marks. -/
import Derived.Test.YtjakgeblmkdbpaaInInt64S
namespace Go.Proofs.Ytjakgeblmkdbpaa
open Go.RowKit
set_option linter.all false

theorem infoInt64SS : (Try.prog.info? 25).map (fun i => (i.zero, i.size, i.bytes)) = some (some (Value.slice none 0 0), 1, 24) := by kernel_rfl

/-- Each of some slices has an address. -/
def AdrW (us : List Value) : Prop := ∀ u ∈ us, ∃ g m : Nat, u = .slice (some ⟨g, 0, none⟩) m m
theorem adrW_nil : AdrW [] := fun u h => by cases h
theorem adrW_snoc {us : List Value} (h : AdrW us) (g m : Nat) : AdrW (us ++ [.slice (some ⟨g, 0, none⟩) m m]) := by
  intro u hu
  rcases List.mem_append.1 hu with h1 | h1
  · exact h u h1
  · exact ⟨g, m, List.mem_singleton.1 h1⟩

set_option maxRecDepth 100000 in
set_option maxHeartbeats 800000 in
theorem eqInt64SS_any (A B : Option Addr) (n m c d : Nat) (us vs : List Value) (xs ys : List (List Int)) (w : World) (ha : Arg w A n us) (hu : Ins 1 oneI w us xs) (hb : Arg w B m vs) (hv : Ins 1 oneI w vs ys) (hn : n ≤ 4194304) (hm : m ≤ 4194304) (hx : sumLen xs ≤ 4194304) (hy : sumLen ys ≤ 4194304) :
    Calls Try.prog 20 #[.slice A n c, .slice B m d] w fun e w' => e = .returned (.bool (decide (xs = ys))) ∧ Below w.heap.size w w' := by
  have HA : Hid (xs.length = n) := by have := ha.1; have := hu.1; unfold Hid; omega
  have HB : Hid (ys.length = m) := by have := hb.1; have := hv.1; unfold Hid; omega
  have HX := Lib.hid hx; have HY := Lib.hid hy; clear hx hy
  by_cases hnm : n = m
  · subst hnm
    go_enter Try.func20, Try.ntmps20
    go_wp2
    go_loopw [5] (fun i wr => ∃ k : Nat, k ≤ n ∧ i = .int .i64 k ∧ Below w.heap.size w wr ∧ Hid (xs.take k = ys.take k)) (fun i _ => n - (intOf i).toNat)
    case atStart => exact ⟨0, Nat.zero_le _, rfl, Below.refl _ _, rfl⟩
    case round =>
      obtain ⟨k, hk, rfl, hB, HR⟩ := hrel
      by_cases hlt : k < n
      · obtain ⟨b1, o1, rfl, hs1⟩ := ha.sl hlt
        obtain ⟨b2, o2, rfl, hs2⟩ := hb.sl hlt
        obtain ⟨x, HXX⟩ := hget HA hlt
        obtain ⟨y, HYY⟩ := hget HB hlt
        obtain ⟨A1, c1, hv1, ha1⟩ := (hu.below hB).get HXX.out
        obtain ⟨A2, c2, hv2, ha2⟩ := (hv.below hB).get HYY.out
        have p0 := (hs1.below' hB).at hv1
        have q0 := (hs2.below' hB).at hv2
        have l1 : x.length ≤ 4194304 := by have := sumLen_at HXX.out; have := HX.out; omega
        have l2 : y.length ≤ 4194304 := by have := sumLen_at HYY.out; have := HY.out; omega
        obtain ⟨n1, hn1⟩ : ∃ n1, n1 = x.length := ⟨_, rfl⟩
        obtain ⟨n2, hn2⟩ : ∃ n2, n2 = y.length := ⟨_, rfl⟩
        rw [← hn1] at p0 ha1 l1
        rw [← hn2] at q0 ha2 l2
        clear hs1 hs2 ha hb hu hv hv1 hv2 hn1 hn2
        by_cases e : x = y
        · have E := Lib.hid (decide_eq_true e)
          have E2 := Lib.hid e
          clear e
          go_wp2
          go_still_tail 8, (by kernel_rfl)
          change wpList _ _ _ _ _ wr.drew
          have hB2 := hB.drew
          have ha1' : Args 1 wr.drew A1 n1 (rows oneI x) := ha1.below (Below.refl _ _).drew
          have ha2' : Args 1 wr.drew A2 n2 (rows oneI y) := ha2.below (Below.refl _ _).drew
          clear p0 q0 hB ha1 ha2
          generalize wr.drew = w2 at hB2 ha1' ha2' ⊢
          go_wp2_with fail
          refine (inEqInt64S A1 A2 n1 n2 c1 c2 x y true E.out _ ha1' ha2' l1 l2).mono ?_
          rintro e w3 ⟨rfl, hb3⟩
          clear ha1' ha2'
          go_wp2
          go_roundw
          case rel => exact ⟨k + 1, by omega, by go_num, below_step hB2 hb3, take_succ_eq HR.out HXX.out HYY.out E2.out⟩
          case measure => simp [intOf]; omega
        · have E := Lib.hid (decide_eq_false e)
          have HE := Lib.hid e
          clear e
          go_wp2
          go_still_tail 8, (by kernel_rfl)
          change wpList _ _ _ _ _ wr.drew
          have hB2 := hB.drew
          have ha1' : Args 1 wr.drew A1 n1 (rows oneI x) := ha1.below (Below.refl _ _).drew
          have ha2' : Args 1 wr.drew A2 n2 (rows oneI y) := ha2.below (Below.refl _ _).drew
          clear p0 q0 hB ha1 ha2
          generalize wr.drew = w2 at hB2 ha1' ha2' ⊢
          go_wp2_with fail
          refine (inEqInt64S A1 A2 n1 n2 c1 c2 x y false E.out _ ha1' ha2' l1 l2).mono ?_
          rintro e w3 ⟨rfl, hb3⟩
          clear ha1' ha2'
          go_wp2
          go_ret
          exact ⟨ret_bool (by simp [ne_of_at HXX.out HYY.out HE.out]), below_step hB2 hb3⟩
      · go_wp2
        go_ret
        refine ⟨ret_bool ?_, hB⟩
        have h1 := HR.out
        have h2 := HA.out
        have h3 := HB.out
        rw [List.take_of_length_le (by omega), List.take_of_length_le (by omega)] at h1
        simp [h1]
  · have hne : ((n : Int) != (m : Int)) = true := by simp; omega
    go_enter Try.func20, Try.ntmps20
    go_wp2
    go_ret
    refine ⟨ret_bool ?_, Below.refl _ _⟩
    have h2 := HA.out
    have h3 := HB.out
    symm
    apply decide_eq_false
    rintro rfl
    omega

set_option maxRecDepth 100000 in
set_option maxHeartbeats 800000 in
theorem markInt64SS_any (base hi : Nat) (V : Value) (n : Nat) (us : List Value) (its : List (Nat × List Value)) (k0 : Int) (w : World) (hg : Grid base hi 25 1 V n us 2 1 us its w) (hk0 : 0 ≤ k0) (hk1 : k0 + (cellsIn 1 its : Nat) ≤ 1099511627776) (hn : n ≤ 4194304) (hit : ∀ it ∈ its, it.1 ≤ 4194304) :
    Calls Try.prog 25 #[V, .int .i64 k0] w fun e w' => e = .returned (.int .i64 (k0 + (cellsIn 1 its : Nat))) ∧ Grid base hi 25 1 V n us 2 1 us (mks mkInt64S 1 k0 its) w' ∧ Touch base hi w w' := by
  have HT : Hid (its.length = n) := by have := hg.own.1; have := hg.inn.len; unfold Hid; omega
  have HTL := Lib.hid hit; clear hit
  obtain ⟨A, cap, rfl⟩ := own_form hg.own
  obtain ⟨hown0, hinn0, htop⟩ := hg
  have HTOP := Lib.hid htop; clear htop
  go_enter Try.func25, Try.ntmps25
  go_wp2
  go_loopw [1, 5] (fun kk i wr => ∃ k : Nat, k ≤ n ∧ i = .int .i64 k ∧ kk = .int .i64 (k0 + (cellsIn 1 (its.take k) : Nat)) ∧ wr.ownsRow base 25 1 (.slice A n cap) n us ∧ Inn 1 2 base hi us (mks mkInt64S 1 k0 (its.take k) ++ its.drop k) wr ∧ Touch base hi w wr) (fun _ i _ => n - (intOf i).toNat)
  case atStart => exact ⟨0, Nat.zero_le _, rfl, by simp [cellsIn], hown0, by simpa [mks] using hinn0, Touch.refl _ _ _⟩
  case round =>
    obtain ⟨k, hk, rfl, rfl, hown, hinn, hto⟩ := hrel
    clear hown0 hinn0
    by_cases hlt : k < n
    · obtain ⟨it, HIT⟩ := hget HT hlt
      obtain ⟨u, hu⟩ : ∃ u, us[k]? = some u := ⟨_, List.getElem?_eq_getElem (by have := hown.1; omega)⟩
      obtain ⟨g, rfl, _, _⟩ := own_addr0 hown (by omega)
      have hrow := inn_row hinn hu HIT.out
      have hca : wr.cell? ⟨g, k, none⟩ = some u := by rw [hown.cellAt k (by omega)]; exact hu
      have htl := HTL.out it (List.mem_of_getElem? HIT.out)
      have hc1 := cellsIn_take (s := 1) HIT.out
      have hc2 := cellsIn_le 1 its (k + 1)
      obtain ⟨m, hm⟩ : ∃ m, m = it.1 := ⟨_, rfl⟩
      rw [← hm] at htl hc1
      obtain ⟨p, hp⟩ : ∃ p, p = cellsIn 1 (its.take k) := ⟨_, rfl⟩
      rw [← hp] at hc1 ⊢
      have HP := Lib.hid hp; have HM := Lib.hid hm; have HC1 := Lib.hid hc1
      have hrow2 : wr.ownsRow base 2 1 u m it.2 := by rw [HM.out]; exact hrow
      have HU := Lib.hid hu
      have HIN := Lib.hid hinn
      clear hu hrow hp hm hinn
      have w2 : IntKind.i64.wrap (k0 + (p : Int)) = k0 + (p : Int) := IntWalk.i64_in _ (by omega)
      go_wp2_with fail
      refine (inMarkInt64S base _ m (k0 + (p : Int)) it.2 _ hrow2 (by omega) (by omega) htl).mono ?_
      rintro e w1 ⟨rfl, hrow3, hgr⟩
      have hown3 := hown.kept hgr (own_apart_ty hown hrow2 (by decide))
      have hto3 := hto.trans (HIN.out.touch HU.out hgr)
      have hin3 := HIN.out.mark HU.out HIT.out hgr (by rw [← HP.out, ← HM.out]; exact hrow3)
      clear hown hrow2 hrow3 hgr hto HIN hca
      go_wp2_with fail
      go_roundw
      case rel => exact ⟨k + 1, by omega, by go_num, by rw [HC1.out]; congr 1; omega, hown3, hin3, hto3⟩
      case measure => simp [intOf]; omega
    · go_wp2
      go_ret
      obtain rfl : n = k := by omega
      rw [List.take_of_length_le (by have := HT.out; omega)] at hinn ⊢
      rw [List.drop_of_length_le (by have := HT.out; omega), List.append_nil] at hinn
      exact ⟨rfl, ⟨hown, hinn, HTOP.out⟩, hto⟩

set_option maxRecDepth 100000 in
set_option maxHeartbeats 800000 in
theorem heldInt64SS_any (base hi : Nat) (V : Value) (n : Nat) (us : List Value) (its : List (Nat × List Value)) (k0 : Int) (w : World) (hg : Grid base hi 25 1 V n us 2 1 us (mks mkInt64S 1 k0 its) w) (hk0 : 0 ≤ k0) (hk1 : k0 + (cellsIn 1 its : Nat) ≤ 1099511627776) (hn : n ≤ 4194304) (hit : ∀ it ∈ its, it.1 ≤ 4194304) :
    Calls Try.prog 26 #[V, .int .i64 k0] w fun e w' => e = .returned (.int .i64 (k0 + (cellsIn 1 its : Nat))) ∧ w = w' := by
  have HT : Hid (its.length = n) := by have := hg.own.1; have := hg.inn.len; rw [length_mks] at this; unfold Hid; omega
  have HTL := Lib.hid hit; clear hit
  obtain ⟨A, cap, rfl⟩ := own_form hg.own
  obtain ⟨hown, hinn, _⟩ := hg
  go_enter Try.func26, Try.ntmps26
  go_wp2
  go_loop [1, 5] (fun kk i => ∃ k : Nat, k ≤ n ∧ i = .int .i64 k ∧ kk = .int .i64 (k0 + (cellsIn 1 (its.take k) : Nat))) (fun _ i => n - (intOf i).toNat)
  case atStart => exact ⟨0, Nat.zero_le _, rfl, by simp [cellsIn]⟩
  case round =>
    obtain ⟨k, hk, rfl, rfl⟩ := hrel
    by_cases hlt : k < n
    · obtain ⟨it, HIT⟩ := hget HT hlt
      obtain ⟨u, hu⟩ : ∃ u, us[k]? = some u := ⟨_, List.getElem?_eq_getElem (by have := hown.1; omega)⟩
      obtain ⟨g, rfl, _, _⟩ := own_addr0 hown (by omega)
      have hrow := hinn.own k u _ hu (mks_at mkInt64S 1 HIT.out k0)
      have hca : w.cell? ⟨g, k, none⟩ = some u := by rw [hown.cellAt k (by omega)]; exact hu
      have htl := HTL.out it (List.mem_of_getElem? HIT.out)
      obtain ⟨A1, c1, rfl⟩ := own_form hrow
      have hc1 := cellsIn_take (s := 1) HIT.out
      have hc2 := cellsIn_le 1 its (k + 1)
      have har := args_of_own hrow
      simp only at har hca
      obtain ⟨m, hm⟩ : ∃ m, m = it.1 := ⟨_, rfl⟩
      rw [← hm] at htl hc1 har hca
      obtain ⟨p, hp⟩ : ∃ p, p = cellsIn 1 (its.take k) := ⟨_, rfl⟩
      rw [← hp] at hc1 har ⊢
      have HC1 := Lib.hid hc1
      have z1 : 0 ≤ k0 + (p : Int) := by omega
      have z2 : k0 + (p : Int) ≤ 1099511627776 := by omega
      have z3 : ¬ k0 + (p : Int) + ((m * 1 : Nat) : Int) < 0 := by omega
      clear hu hrow hp hm hown hinn
      go_wp2_with fail
      refine (inHeldInt64S A1 m c1 (k0 + (p : Int)) _ har z1 z2 htl).mono ?_
      rintro e w1 ⟨rfl, rfl⟩
      clear hca har
      go_wp2_with fail
      go_round
      case rel => exact ⟨k + 1, by omega, by go_num, by rw [HC1.out]; congr 1; omega⟩
      case measure => simp [intOf]; omega
    · go_wp2
      go_ret
      obtain rfl : n = k := by omega
      rw [List.take_of_length_le (by have := HT.out; omega)]
      exact ⟨rfl, rfl⟩

theorem markInt64SS_is (base hi : Nat) (V : Value) (n : Nat) (us : List Value) (its : List (Nat × List Value)) (k0 : Int) (K : Nat) (w : World) (hg : Grid base hi 25 1 V n us 2 1 us its w) (hK : cellsIn 1 its = K) (hk0 : 0 ≤ k0) (hk1 : k0 + (K : Int) ≤ 1099511627776) (hn : n ≤ 4194304) (hit : ∀ it ∈ its, it.1 ≤ 4194304) :
    Calls Try.prog 25 #[V, .int .i64 k0] w fun e w' => e = .returned (.int .i64 (k0 + (K : Int))) ∧ Grid base hi 25 1 V n us 2 1 us (mks mkInt64S 1 k0 its) w' ∧ Touch base hi w w' := by
  subst hK
  exact markInt64SS_any base hi V n us its k0 w hg hk0 hk1 hn hit

theorem heldInt64SS_is (base hi : Nat) (V : Value) (n : Nat) (us : List Value) (its : List (Nat × List Value)) (k0 : Int) (K : Nat) (w : World) (hg : Grid base hi 25 1 V n us 2 1 us (mks mkInt64S 1 k0 its) w) (hK : cellsIn 1 its = K) (hk0 : 0 ≤ k0) (hk1 : k0 + (K : Int) ≤ 1099511627776) (hn : n ≤ 4194304) (hit : ∀ it ∈ its, it.1 ≤ 4194304) :
    Calls Try.prog 26 #[V, .int .i64 k0] w fun e w' => e = .returned (.int .i64 (k0 + (K : Int))) ∧ w = w' := by
  subst hK
  exact heldInt64SS_any base hi V n us its k0 w hg hk0 hk1 hn hit

end Go.Proofs.Ytjakgeblmkdbpaa
