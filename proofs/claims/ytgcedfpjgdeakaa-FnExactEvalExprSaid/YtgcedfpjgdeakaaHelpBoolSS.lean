/- Contracts of the laws' helpers on [][]bool: copy, compare, size, mark, look at the marks. -/
import Derived.Test.YtgcedfpjgdeakaaInBoolS
namespace Go.Proofs.Ytgcedfpjgdeakaa
open Go.RowKit
set_option linter.all false

theorem infoBoolSS : (Try.prog.info? 26).map (fun i => (i.zero, i.size, i.bytes)) = some (some (Value.slice none 0 0), 1, 24) := by kernel_rfl

set_option maxRecDepth 100000 in
set_option maxHeartbeats 800000 in
theorem toBoolSS_any (A : Option Addr) (n c : Nat) (vs : List Value) (ts : List (List Bool)) (w : World) (ha : Arg w A n vs) (hv : Ins 1 oneB w vs ts) (hn : n ≤ 1048576) (hts : sumLen ts ≤ 1048576) :
    Calls Try.prog 9 #[.slice A n c] w fun e w' => e = .returned (.slice (some ⟨w.heap.size, 0, none⟩) n n) ∧
      (∃ us, Grid w.heap.size w'.heap.size 26 1 (.slice (some ⟨w.heap.size, 0, none⟩) n n) n us 4 1 us (itsOf oneB ts) w') ∧ Below w.heap.size w w' := by
  have HT : Hid (ts.length = n) := by have := ha.1; have := hv.1; unfold Hid; omega
  have HS := Lib.hid hts; clear hts
  have hmk := fun W => run_make_row' (P := Try.prog) 23 26 (Value.slice none 0 0) 24 Try.underlying23 infoBoolSS rfl .i64 .i64 n (by omega) (by omega) W
  have hrow0 := World.rowIs_made w (Value.slice none 0 0) n 26
  have hB0 : Below w.heap.size w (w.alloc (.cells (madeCells #[Value.slice none 0 0] n) 26)) := laid_below _ _
  have hown0 : (w.alloc (.cells (madeCells #[Value.slice none 0 0] n) 26)).ownsRow w.heap.size 26 1 (.slice (some ⟨w.heap.size, 0, none⟩) n n) n (List.replicate n (.slice none 0 0)) := own_of_rowIs hrow0 (Nat.le_refl _) (by unfold maxLen; omega) (by simp) (fun j u hu => by rw [List.getElem?_replicate] at hu; split at hu; (injection hu); cases hu)
  clear hrow0
  go_enter Try.func9, Try.ntmps9
  go_wp2
  clear hmk
  go_loopw [4] (fun i wr => ∃ (k : Nat) (us : List Value), k ≤ n ∧ us.length = k ∧ i = .int .i64 k ∧ wr.ownsRow w.heap.size 26 1 (.slice (some ⟨w.heap.size, 0, none⟩) n n) n (us ++ List.replicate (n - k) (.slice none 0 0)) ∧ Inn 1 4 w.heap.size wr.heap.size us ((itsOf oneB ts).take k) wr ∧ Below w.heap.size w wr) (fun i _ => n - (intOf i).toNat)
  case atStart => exact ⟨0, [], Nat.zero_le _, rfl, rfl, hown0, Inn.nil _ _ _ _ _, hB0⟩
  case round =>
    obtain ⟨k, us, hk, hul, rfl, hown, hinn, hB⟩ := hrel
    clear hown0 hB0
    have HU := Lib.hid hul; clear hul
    by_cases hlt : k < n
    · obtain ⟨b, off, rfl, hs⟩ := ha.sl hlt
      obtain ⟨t, HTT⟩ := hget HT hlt
      obtain ⟨A1, c1, hvk, ha1⟩ := (hv.below hB).get HTT.out
      have hca := (hs.below' hB).at hvk
      have htl : t.length ≤ 1048576 := by have := sumLen_at HTT.out; have := HS.out; omega
      obtain ⟨m, hm⟩ : ∃ m, m = t.length := ⟨_, rfl⟩
      rw [← hm] at hca ha1 htl
      have HM := Lib.hid hm; clear hm hvk hs ha hv
      go_wp2_with fail
      refine (inToBoolS A1 m c1 t _ ha1 htl).mono ?_
      rintro e w1 ⟨rfl, hown1, hb1⟩
      have hown2 := own_below' hown hb1
      have hinn1 := (hinn.below hb1).snoc (it := (m, rows oneB t)) hown1 (Nat.le_refl _) hB.size (Nat.le_refl _) hb1.size
      rw [HM.out] at hinn1
      rw [← itsOf_snoc oneB HTT.out, ← HM.out] at hinn1
      have hB1 := below_step hB hb1
      have hc2 : ∃ u, w1.cell? ⟨w.heap.size, k, none⟩ = some u := own_some hown2 (by omega)
      obtain ⟨u2, hc2⟩ := hc2
      have hf2 := hown2.frozenAt k
      have hst := hown2.stored k (.slice (some ⟨wr.heap.size, 0, none⟩) m m)
      rw [fill_set HU.out hlt] at hst
      have HI := Lib.hid (hinn1.kept hown2 hst.2 (by decide))
      have HST := Lib.hid hst.1
      have HB := Lib.hid (hB1.setCell (p := ⟨w.heap.size, k, none⟩) (Nat.le_refl _) (.slice (some ⟨wr.heap.size, 0, none⟩) m m))
      clear hst hown hown1 hown2 hinn hinn1 hb1 hB1 hB ha1 hca
      go_wp2_with fail
      go_roundw
      case rel => exact ⟨k + 1, _, by omega, by simp [HU.out], by go_num, HST.out, HI.out.wide (Nat.le_of_eq (size_set _ _ _)), HB.out⟩
      case measure => simp [intOf]; omega
    · go_wp2
      go_ret
      obtain rfl : n = k := by omega
      rw [Nat.sub_self, List.replicate_zero, List.append_nil] at hown
      rw [List.take_of_length_le (by simp [itsOf, HT.out])] at hinn
      exact ⟨rfl, ⟨us, hown, hinn, fun k hk => (hown.lt k hk).2⟩, hB⟩

set_option maxRecDepth 100000 in
set_option maxHeartbeats 800000 in
theorem eqBoolSS_any (A B : Option Addr) (n m c d : Nat) (us vs : List Value) (xs ys : List (List Bool)) (w : World) (ha : Arg w A n us) (hu : Ins 1 oneB w us xs) (hb : Arg w B m vs) (hv : Ins 1 oneB w vs ys) (hn : n ≤ 4194304) (hm : m ≤ 4194304) (hx : sumLen xs ≤ 4194304) (hy : sumLen ys ≤ 4194304) :
    Calls Try.prog 13 #[.slice A n c, .slice B m d] w fun e w' => e = .returned (.bool (decide (xs = ys))) ∧ Below w.heap.size w w' := by
  have HA : Hid (xs.length = n) := by have := ha.1; have := hu.1; unfold Hid; omega
  have HB : Hid (ys.length = m) := by have := hb.1; have := hv.1; unfold Hid; omega
  have HX := Lib.hid hx; have HY := Lib.hid hy; clear hx hy
  by_cases hnm : n = m
  · subst hnm
    go_enter Try.func13, Try.ntmps13
    go_wp2
    go_loopw [5] (fun i wr => ∃ k : Nat, k ≤ n ∧ i = .int .i64 k ∧ Below w.heap.size w wr ∧ Hid (xs.take k = ys.take k)) (fun i _ => n - (intOf i).toNat)
    case atStart => exact ⟨0, Nat.zero_le _, rfl, Below.refl _ _, rfl⟩
    case round =>
      obtain ⟨k, hk, rfl, hB, HR⟩ := hrel
      by_cases hlt : k < n
      · obtain ⟨b1, o1, rfl, hs1⟩ := ha.sl hlt
        obtain ⟨b2, o2, rfl, hs2⟩ := hb.sl hlt
        obtain ⟨x, HXX⟩ := hget HA hlt
        obtain ⟨y, HYY⟩ := hget HB hlt
        obtain ⟨A1, c1, hv1, ha1⟩ := (hu.below hB).get HXX.out
        obtain ⟨A2, c2, hv2, ha2⟩ := (hv.below hB).get HYY.out
        have p0 := (hs1.below' hB).at hv1
        have q0 := (hs2.below' hB).at hv2
        have l1 : x.length ≤ 4194304 := by have := sumLen_at HXX.out; have := HX.out; omega
        have l2 : y.length ≤ 4194304 := by have := sumLen_at HYY.out; have := HY.out; omega
        obtain ⟨n1, hn1⟩ : ∃ n1, n1 = x.length := ⟨_, rfl⟩
        obtain ⟨n2, hn2⟩ : ∃ n2, n2 = y.length := ⟨_, rfl⟩
        rw [← hn1] at p0 ha1 l1
        rw [← hn2] at q0 ha2 l2
        clear hs1 hs2 ha hb hu hv hv1 hv2 hn1 hn2
        by_cases e : x = y
        · have E := Lib.hid (decide_eq_true e)
          have E2 := Lib.hid e
          clear e
          go_wp2
          go_still_tail 8, (by kernel_rfl)
          change wpList _ _ _ _ _ wr.drew
          have hB2 := hB.drew
          have ha1' : Args 1 wr.drew A1 n1 (rows oneB x) := ha1.below (Below.refl _ _).drew
          have ha2' : Args 1 wr.drew A2 n2 (rows oneB y) := ha2.below (Below.refl _ _).drew
          clear p0 q0 hB ha1 ha2
          generalize wr.drew = w2 at hB2 ha1' ha2' ⊢
          go_wp2_with fail
          refine (inEqBoolS A1 A2 n1 n2 c1 c2 x y true E.out _ ha1' ha2' l1 l2).mono ?_
          rintro e w3 ⟨rfl, hb3⟩
          clear ha1' ha2'
          go_wp2
          go_roundw
          case rel => exact ⟨k + 1, by omega, by go_num, below_step hB2 hb3, take_succ_eq HR.out HXX.out HYY.out E2.out⟩
          case measure => simp [intOf]; omega
        · have E := Lib.hid (decide_eq_false e)
          have HE := Lib.hid e
          clear e
          go_wp2
          go_still_tail 8, (by kernel_rfl)
          change wpList _ _ _ _ _ wr.drew
          have hB2 := hB.drew
          have ha1' : Args 1 wr.drew A1 n1 (rows oneB x) := ha1.below (Below.refl _ _).drew
          have ha2' : Args 1 wr.drew A2 n2 (rows oneB y) := ha2.below (Below.refl _ _).drew
          clear p0 q0 hB ha1 ha2
          generalize wr.drew = w2 at hB2 ha1' ha2' ⊢
          go_wp2_with fail
          refine (inEqBoolS A1 A2 n1 n2 c1 c2 x y false E.out _ ha1' ha2' l1 l2).mono ?_
          rintro e w3 ⟨rfl, hb3⟩
          clear ha1' ha2'
          go_wp2
          go_ret
          exact ⟨ret_bool (by simp [ne_of_at HXX.out HYY.out HE.out]), below_step hB2 hb3⟩
      · go_wp2
        go_ret
        refine ⟨ret_bool ?_, hB⟩
        have h1 := HR.out
        have h2 := HA.out
        have h3 := HB.out
        rw [List.take_of_length_le (by omega), List.take_of_length_le (by omega)] at h1
        simp [h1]
  · have hne : ((n : Int) != (m : Int)) = true := by simp; omega
    go_enter Try.func13, Try.ntmps13
    go_wp2
    go_ret
    refine ⟨ret_bool ?_, Below.refl _ _⟩
    have h2 := HA.out
    have h3 := HB.out
    symm
    apply decide_eq_false
    rintro rfl
    omega

set_option maxRecDepth 100000 in
set_option maxHeartbeats 800000 in
theorem szBoolSS_any (A : Option Addr) (n c : Nat) (vs : List Value) (ts : List (List Bool)) (left : Int) (w : World) (ha : Arg w A n vs) (hv : Ins 1 oneB w vs ts) (h0 : 0 ≤ left) (h1 : left ≤ 1048576) (hn : n ≤ 9223372036854775807) (ht : ∀ t ∈ ts, t.length ≤ 9223372036854775807) :
    Calls Try.prog 6 #[.slice A n c, .int .i64 left] w fun e w' => (∃ z : Int, e = .returned (.int .i64 z) ∧ SzOut (n + sumLen ts) left z) ∧ w = w' := by
  have HT : Hid (ts.length = n) := by have := ha.1; have := hv.1; unfold Hid; omega
  have HTL := Lib.hid ht; clear ht
  by_cases h : (n : Int) ≤ left
  rotate_left
  · have h' : left - (n : Int) < 0 := by omega
    go_enter Try.func6, Try.ntmps6
    go_wp2
    go_ret
    exact ⟨⟨_, rfl, .inr ⟨by omega, rfl⟩⟩, rfl⟩
  have h' : ¬ left - (n : Int) < 0 := by omega
  go_enter Try.func6, Try.ntmps6
  go_wp2
  go_loop [1, 5] (fun l i => ∃ k : Nat, k ≤ n ∧ i = .int .i64 k ∧ l = .int .i64 (left - (n : Int) - (sumLen (ts.take k) : Int)) ∧ (n : Int) + (sumLen (ts.take k) : Int) ≤ left) (fun _ i => n - (intOf i).toNat)
  case atStart => exact ⟨0, Nat.zero_le _, rfl, by simp [sumLen], by simpa [sumLen] using h⟩
  case round =>
    obtain ⟨k, hk, rfl, rfl, hle⟩ := hrel
    by_cases hlt : k < n
    · obtain ⟨b, off, rfl, hs⟩ := ha.sl hlt
      obtain ⟨t, HTT⟩ := hget HT hlt
      obtain ⟨A1, c1, hvk, _⟩ := hv.get HTT.out
      have hca := hs.at hvk
      have htl := HTL.out t (List.mem_of_getElem? HTT.out)
      obtain ⟨m, hm⟩ : ∃ m, m = t.length := ⟨_, rfl⟩
      have hst := sumLen_take HTT.out
      have hsl := sumLen_le ts (k + 1)
      rw [← hm] at hca htl hst
      obtain ⟨p, hp⟩ : ∃ p, p = sumLen (ts.take k) := ⟨_, rfl⟩
      rw [← hp] at hle hst ⊢
      have HP := Lib.hid hp
      have HST := Lib.hid hst; have HSL := Lib.hid hsl
      have HM := Lib.hid hm; clear hm hvk hs ha hv hp hst hsl h h'
      have w1 : IntKind.i64.wrap (left - (n : Int) - (p : Int)) = left - (n : Int) - (p : Int) := IntWalk.i64_in _ (by omega)
      go_wp2_with fail
      refine (inSzBoolS A1 m c1 (left - (n : Int) - (p : Int)) _ (by omega) (by omega) htl).mono ?_
      rintro e w1 ⟨⟨z, rfl, hz⟩, rfl⟩
      unfold SzOut at hz
      rcases hz with ⟨z1, rfl⟩ | ⟨z1, rfl⟩
      · have z2 : ¬ left - (n : Int) - (p : Int) - (m : Int) < 0 := by omega
        go_wp2_with fail
        go_round
        case rel => exact ⟨k + 1, by omega, by go_num, by rw [HST.out]; congr 1; omega, by rw [HST.out]; omega⟩
        case measure => simp [intOf]; omega
      · go_wp2_with fail
        go_ret
        exact ⟨⟨_, rfl, .inr ⟨by have := HST.out; have := HSL.out; omega, rfl⟩⟩, rfl⟩
    · go_wp2
      go_ret
      obtain rfl : n = k := by omega
      rw [List.take_of_length_le (by have := HT.out; omega)] at hle ⊢
      exact ⟨⟨_, rfl, .inl ⟨by omega, by omega⟩⟩, rfl⟩

theorem szBoolSS_is (A : Option Addr) (n c left r : Nat) (vs : List Value) (ts : List (List Bool)) (w : World) (ha : Arg w A n vs) (hv : Ins 1 oneB w vs ts) (h : r + (n + sumLen ts) = left) (h1 : left ≤ 1048576) :
    Calls Try.prog 6 #[.slice A n c, .int .i64 left] w fun e w' => e = .returned (.int .i64 r) ∧ w = w' := by
  refine (szBoolSS_any A n c vs ts left w ha hv (by omega) (by omega) (by omega) (fun t ht => by have := sumLen_mem ht; omega)).mono ?_
  rintro e w' ⟨⟨z, rfl, hz⟩, rfl⟩
  unfold SzOut at hz
  exact ⟨ret_int (by omega), rfl⟩

theorem szBoolSS_not (A : Option Addr) (n c left : Nat) (vs : List Value) (ts : List (List Bool)) (w : World) (ha : Arg w A n vs) (hv : Ins 1 oneB w vs ts) (h : left < n + sumLen ts) (h1 : left ≤ 1048576) (hn : n ≤ 9223372036854775807) (ht : ∀ t ∈ ts, t.length ≤ 9223372036854775807) :
    Calls Try.prog 6 #[.slice A n c, .int .i64 left] w fun e w' => e = .returned (.int .i64 (-1)) ∧ w = w' := by
  refine (szBoolSS_any A n c vs ts left w ha hv (by omega) (by omega) hn ht).mono ?_
  rintro e w' ⟨⟨z, rfl, hz⟩, rfl⟩
  unfold SzOut at hz
  exact ⟨ret_int (by omega), rfl⟩

set_option maxRecDepth 100000 in
set_option maxHeartbeats 800000 in
theorem markBoolSS_any (base hi : Nat) (V : Value) (n : Nat) (us : List Value) (its : List (Nat × List Value)) (k0 : Int) (w : World) (hg : Grid base hi 26 1 V n us 4 1 us its w) (hk0 : 0 ≤ k0) (hk1 : k0 + (cellsIn 1 its : Nat) ≤ 1099511627776) (hn : n ≤ 4194304) (hit : ∀ it ∈ its, it.1 ≤ 4194304) :
    Calls Try.prog 15 #[V, .int .i64 k0] w fun e w' => e = .returned (.int .i64 (k0 + (cellsIn 1 its : Nat))) ∧ Grid base hi 26 1 V n us 4 1 us (mks mkBoolS 1 k0 its) w' ∧ Touch base hi w w' := by
  have HT : Hid (its.length = n) := by have := hg.own.1; have := hg.inn.len; unfold Hid; omega
  have HTL := Lib.hid hit; clear hit
  obtain ⟨A, cap, rfl⟩ := own_form hg.own
  obtain ⟨hown0, hinn0, htop⟩ := hg
  have HTOP := Lib.hid htop; clear htop
  go_enter Try.func15, Try.ntmps15
  go_wp2
  go_loopw [1, 5] (fun kk i wr => ∃ k : Nat, k ≤ n ∧ i = .int .i64 k ∧ kk = .int .i64 (k0 + (cellsIn 1 (its.take k) : Nat)) ∧ wr.ownsRow base 26 1 (.slice A n cap) n us ∧ Inn 1 4 base hi us (mks mkBoolS 1 k0 (its.take k) ++ its.drop k) wr ∧ Touch base hi w wr) (fun _ i _ => n - (intOf i).toNat)
  case atStart => exact ⟨0, Nat.zero_le _, rfl, by simp [cellsIn], hown0, by simpa [mks] using hinn0, Touch.refl _ _ _⟩
  case round =>
    obtain ⟨k, hk, rfl, rfl, hown, hinn, hto⟩ := hrel
    clear hown0 hinn0
    by_cases hlt : k < n
    · obtain ⟨it, HIT⟩ := hget HT hlt
      obtain ⟨u, hu⟩ : ∃ u, us[k]? = some u := ⟨_, List.getElem?_eq_getElem (by have := hown.1; omega)⟩
      obtain ⟨g, rfl, _, _⟩ := own_addr0 hown (by omega)
      have hrow := inn_row hinn hu HIT.out
      have hca : wr.cell? ⟨g, k, none⟩ = some u := by rw [hown.cellAt k (by omega)]; exact hu
      have htl := HTL.out it (List.mem_of_getElem? HIT.out)
      have hc1 := cellsIn_take (s := 1) HIT.out
      have hc2 := cellsIn_le 1 its (k + 1)
      obtain ⟨m, hm⟩ : ∃ m, m = it.1 := ⟨_, rfl⟩
      rw [← hm] at htl hc1
      obtain ⟨p, hp⟩ : ∃ p, p = cellsIn 1 (its.take k) := ⟨_, rfl⟩
      rw [← hp] at hc1 ⊢
      have HP := Lib.hid hp; have HM := Lib.hid hm; have HC1 := Lib.hid hc1
      have hrow2 : wr.ownsRow base 4 1 u m it.2 := by rw [HM.out]; exact hrow
      have HU := Lib.hid hu
      have HIN := Lib.hid hinn
      clear hu hrow hp hm hinn
      have w2 : IntKind.i64.wrap (k0 + (p : Int)) = k0 + (p : Int) := IntWalk.i64_in _ (by omega)
      go_wp2_with fail
      refine (inMarkBoolS base _ m (k0 + (p : Int)) it.2 _ hrow2 (by omega) (by omega) htl).mono ?_
      rintro e w1 ⟨rfl, hrow3, hgr⟩
      have hown3 := hown.kept hgr (own_apart_ty hown hrow2 (by decide))
      have hto3 := hto.trans (HIN.out.touch HU.out hgr)
      have hin3 := HIN.out.mark HU.out HIT.out hgr (by rw [← HP.out, ← HM.out]; exact hrow3)
      clear hown hrow2 hrow3 hgr hto HIN hca
      go_wp2_with fail
      go_roundw
      case rel => exact ⟨k + 1, by omega, by go_num, by rw [HC1.out]; congr 1; omega, hown3, hin3, hto3⟩
      case measure => simp [intOf]; omega
    · go_wp2
      go_ret
      obtain rfl : n = k := by omega
      rw [List.take_of_length_le (by have := HT.out; omega)] at hinn ⊢
      rw [List.drop_of_length_le (by have := HT.out; omega), List.append_nil] at hinn
      exact ⟨rfl, ⟨hown, hinn, HTOP.out⟩, hto⟩

theorem markBoolSS_is (base hi : Nat) (V : Value) (n : Nat) (us : List Value) (its : List (Nat × List Value)) (k0 : Int) (K : Nat) (w : World) (hg : Grid base hi 26 1 V n us 4 1 us its w) (hK : cellsIn 1 its = K) (hk0 : 0 ≤ k0) (hk1 : k0 + (K : Int) ≤ 1099511627776) (hn : n ≤ 4194304) (hit : ∀ it ∈ its, it.1 ≤ 4194304) :
    Calls Try.prog 15 #[V, .int .i64 k0] w fun e w' => e = .returned (.int .i64 (k0 + (K : Int))) ∧ Grid base hi 26 1 V n us 4 1 us (mks mkBoolS 1 k0 its) w' ∧ Touch base hi w w' := by
  subst hK
  exact markBoolSS_any base hi V n us its k0 w hg hk0 hk1 hn hit

end Go.Proofs.Ytgcedfpjgdeakaa
