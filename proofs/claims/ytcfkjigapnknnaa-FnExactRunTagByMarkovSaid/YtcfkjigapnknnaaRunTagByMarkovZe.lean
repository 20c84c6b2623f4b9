/- The law FnExactRunTagByMarkov returns true for every input, and each argument reads afterwards as before: the proof, part 5. No conditions. -/
import Derived.Test.YtcfkjigapnknnaaRunTagByMarkovZd
/- Contracts of the laws' helpers on [][]int64: copy, compare, size, mark, look at the marks. -/
namespace Go.Proofs.Ytcfkjigapnknnaa
open Go.RowKit
set_option linter.all false

theorem infoInt64SS : (Try.prog.info? 25).map (fun i => (i.zero, i.size, i.bytes)) = some (some (Value.slice none 0 0), 1, 24) := by kernel_rfl

/-- Each of some slices has an address. -/
def AdrW (us : List Value) : Prop := ∀ u ∈ us, ∃ g m : Nat, u = .slice (some ⟨g, 0, none⟩) m m
theorem adrW_nil : AdrW [] := fun u h => by cases h
theorem adrW_snoc {us : List Value} (h : AdrW us) (g m : Nat) : AdrW (us ++ [.slice (some ⟨g, 0, none⟩) m m]) := by
  intro u hu
  rcases List.mem_append.1 hu with h1 | h1
  · exact h u h1
  · exact ⟨g, m, List.mem_singleton.1 h1⟩

set_option maxRecDepth 100000 in
set_option maxHeartbeats 800000 in
theorem toInt64SSA_any (A : Option Addr) (n c : Nat) (vs : List Value) (ts : List (List Int)) (w : World) (ha : Arg w A n vs) (hv : Ins 1 oneI w vs ts) (hn : n ≤ 1048576) (hts : sumLen ts ≤ 1048576) :
    Calls Try.prog 70 #[.slice A n c] w fun e w' => e = .returned (.slice (some ⟨w.heap.size, 0, none⟩) n n) ∧
      (∃ us, Grid w.heap.size w'.heap.size 25 1 (.slice (some ⟨w.heap.size, 0, none⟩) n n) n us 2 1 us (itsOf oneI ts) w' ∧ AdrW us) ∧ Below w.heap.size w w' := by
  have HT : Hid (ts.length = n) := by have := ha.1; have := hv.1; unfold Hid; omega
  have HS := Lib.hid hts; clear hts
  have hmk := fun W => run_make_row' (P := Try.prog) 45 25 (Value.slice none 0 0) 24 Try.underlying45 infoInt64SS rfl .i64 .i64 n (by omega) (by omega) W
  have hrow0 := World.rowIs_made w (Value.slice none 0 0) n 25
  have hB0 : Below w.heap.size w (w.alloc (.cells (madeCells #[Value.slice none 0 0] n) 25)) := laid_below _ _
  have hown0 : (w.alloc (.cells (madeCells #[Value.slice none 0 0] n) 25)).ownsRow w.heap.size 25 1 (.slice (some ⟨w.heap.size, 0, none⟩) n n) n (List.replicate n (.slice none 0 0)) := own_of_rowIs hrow0 (Nat.le_refl _) (by unfold maxLen; omega) (by simp) (fun j u hu => by rw [List.getElem?_replicate] at hu; split at hu; (injection hu); cases hu)
  clear hrow0
  go_enter Try.func70, Try.ntmps70
  go_wp2
  clear hmk
  go_loopw [4] (fun i wr => ∃ (k : Nat) (us : List Value), k ≤ n ∧ us.length = k ∧ i = .int .i64 k ∧ wr.ownsRow w.heap.size 25 1 (.slice (some ⟨w.heap.size, 0, none⟩) n n) n (us ++ List.replicate (n - k) (.slice none 0 0)) ∧ Inn 1 2 w.heap.size wr.heap.size us ((itsOf oneI ts).take k) wr ∧ Below w.heap.size w wr ∧ Hid (AdrW us)) (fun i _ => n - (intOf i).toNat)
  case atStart => exact ⟨0, [], Nat.zero_le _, rfl, rfl, hown0, Inn.nil _ _ _ _ _, hB0, adrW_nil⟩
  case round =>
    obtain ⟨k, us, hk, hul, rfl, hown, hinn, hB, HAD⟩ := hrel
    clear hown0 hB0
    have HU := Lib.hid hul; clear hul
    by_cases hlt : k < n
    · obtain ⟨b, off, rfl, hs⟩ := ha.sl hlt
      obtain ⟨t, HTT⟩ := hget HT hlt
      obtain ⟨A1, c1, hvk, ha1⟩ := (hv.below hB).get HTT.out
      have hca := (hs.below' hB).at hvk
      have htl : t.length ≤ 1048576 := by have := sumLen_at HTT.out; have := HS.out; omega
      obtain ⟨m, hm⟩ : ∃ m, m = t.length := ⟨_, rfl⟩
      rw [← hm] at hca ha1 htl
      have HM := Lib.hid hm; clear hm hvk hs ha hv
      go_wp2_with fail
      refine (inToInt64S A1 m c1 t _ ha1 htl).mono ?_
      rintro e w1 ⟨rfl, hown1, hb1⟩
      have hown2 := own_below' hown hb1
      have hinn1 := (hinn.below hb1).snoc (it := (m, rows oneI t)) hown1 (Nat.le_refl _) hB.size (Nat.le_refl _) hb1.size
      rw [HM.out] at hinn1
      rw [← itsOf_snoc oneI HTT.out, ← HM.out] at hinn1
      have hB1 := below_step hB hb1
      have hc2 : ∃ u, w1.cell? ⟨w.heap.size, k, none⟩ = some u := own_some hown2 (by omega)
      obtain ⟨u2, hc2⟩ := hc2
      have hf2 := hown2.frozenAt k
      have hst := hown2.stored k (.slice (some ⟨wr.heap.size, 0, none⟩) m m)
      rw [fill_set HU.out hlt] at hst
      have HI := Lib.hid (hinn1.kept hown2 hst.2 (by decide))
      have HST := Lib.hid hst.1
      have HB := Lib.hid (hB1.setCell (p := ⟨w.heap.size, k, none⟩) (Nat.le_refl _) (.slice (some ⟨wr.heap.size, 0, none⟩) m m))
      clear hst hown hown1 hown2 hinn hinn1 hb1 hB1 hB ha1 hca
      go_wp2_with fail
      go_roundw
      case rel => exact ⟨k + 1, _, by omega, by simp [HU.out], by go_num, HST.out, HI.out.wide (Nat.le_of_eq (size_set _ _ _)), HB.out, adrW_snoc HAD.out _ _⟩
      case measure => simp [intOf]; omega
    · go_wp2
      go_ret
      obtain rfl : n = k := by omega
      rw [Nat.sub_self, List.replicate_zero, List.append_nil] at hown
      rw [List.take_of_length_le (by simp [itsOf, HT.out])] at hinn
      exact ⟨rfl, ⟨us, ⟨hown, hinn, fun k hk => (hown.lt k hk).2⟩, HAD.out⟩, hB⟩

theorem toInt64SS_any (A : Option Addr) (n c : Nat) (vs : List Value) (ts : List (List Int)) (w : World) (ha : Arg w A n vs) (hv : Ins 1 oneI w vs ts) (hn : n ≤ 1048576) (hts : sumLen ts ≤ 1048576) :
    Calls Try.prog 70 #[.slice A n c] w fun e w' => e = .returned (.slice (some ⟨w.heap.size, 0, none⟩) n n) ∧
      (∃ us, Grid w.heap.size w'.heap.size 25 1 (.slice (some ⟨w.heap.size, 0, none⟩) n n) n us 2 1 us (itsOf oneI ts) w') ∧ Below w.heap.size w w' := by
  refine (toInt64SSA_any A n c vs ts w ha hv hn hts).mono ?_
  rintro e w1 ⟨rfl, ⟨us, hg, -⟩, hb⟩
  exact ⟨rfl, ⟨us, hg⟩, hb⟩

set_option maxRecDepth 100000 in
set_option maxHeartbeats 800000 in
theorem eqInt64SS_any (A B : Option Addr) (n m c d : Nat) (us vs : List Value) (xs ys : List (List Int)) (w : World) (ha : Arg w A n us) (hu : Ins 1 oneI w us xs) (hb : Arg w B m vs) (hv : Ins 1 oneI w vs ys) (hn : n ≤ 4194304) (hm : m ≤ 4194304) (hx : sumLen xs ≤ 4194304) (hy : sumLen ys ≤ 4194304) :
    Calls Try.prog 24 #[.slice A n c, .slice B m d] w fun e w' => e = .returned (.bool (decide (xs = ys))) ∧ Below w.heap.size w w' := by
  have HA : Hid (xs.length = n) := by have := ha.1; have := hu.1; unfold Hid; omega
  have HB : Hid (ys.length = m) := by have := hb.1; have := hv.1; unfold Hid; omega
  have HX := Lib.hid hx; have HY := Lib.hid hy; clear hx hy
  by_cases hnm : n = m
  · subst hnm
    go_enter Try.func24, Try.ntmps24
    go_wp2
    go_loopw [5] (fun i wr => ∃ k : Nat, k ≤ n ∧ i = .int .i64 k ∧ Below w.heap.size w wr ∧ Hid (xs.take k = ys.take k)) (fun i _ => n - (intOf i).toNat)
    case atStart => exact ⟨0, Nat.zero_le _, rfl, Below.refl _ _, rfl⟩
    case round =>
      obtain ⟨k, hk, rfl, hB, HR⟩ := hrel
      by_cases hlt : k < n
      · obtain ⟨b1, o1, rfl, hs1⟩ := ha.sl hlt
        obtain ⟨b2, o2, rfl, hs2⟩ := hb.sl hlt
        obtain ⟨x, HXX⟩ := hget HA hlt
        obtain ⟨y, HYY⟩ := hget HB hlt
        obtain ⟨A1, c1, hv1, ha1⟩ := (hu.below hB).get HXX.out
        obtain ⟨A2, c2, hv2, ha2⟩ := (hv.below hB).get HYY.out
        have p0 := (hs1.below' hB).at hv1
        have q0 := (hs2.below' hB).at hv2
        have l1 : x.length ≤ 4194304 := by have := sumLen_at HXX.out; have := HX.out; omega
        have l2 : y.length ≤ 4194304 := by have := sumLen_at HYY.out; have := HY.out; omega
        obtain ⟨n1, hn1⟩ : ∃ n1, n1 = x.length := ⟨_, rfl⟩
        obtain ⟨n2, hn2⟩ : ∃ n2, n2 = y.length := ⟨_, rfl⟩
        rw [← hn1] at p0 ha1 l1
        rw [← hn2] at q0 ha2 l2
        clear hs1 hs2 ha hb hu hv hv1 hv2 hn1 hn2
        by_cases e : x = y
        · have E := Lib.hid (decide_eq_true e)
          have E2 := Lib.hid e
          clear e
          go_wp2
          go_still_tail 8, (by kernel_rfl)
          change wpList _ _ _ _ _ wr.drew
          have hB2 := hB.drew
          have ha1' : Args 1 wr.drew A1 n1 (rows oneI x) := ha1.below (Below.refl _ _).drew
          have ha2' : Args 1 wr.drew A2 n2 (rows oneI y) := ha2.below (Below.refl _ _).drew
          clear p0 q0 hB ha1 ha2
          generalize wr.drew = w2 at hB2 ha1' ha2' ⊢
          go_wp2_with fail
          refine (inEqInt64S A1 A2 n1 n2 c1 c2 x y true E.out _ ha1' ha2' l1 l2).mono ?_
          rintro e w3 ⟨rfl, hb3⟩
          clear ha1' ha2'
          go_wp2
          go_roundw
          case rel => exact ⟨k + 1, by omega, by go_num, below_step hB2 hb3, take_succ_eq HR.out HXX.out HYY.out E2.out⟩
          case measure => simp [intOf]; omega
        · have E := Lib.hid (decide_eq_false e)
          have HE := Lib.hid e
          clear e
          go_wp2
          go_still_tail 8, (by kernel_rfl)
          change wpList _ _ _ _ _ wr.drew
          have hB2 := hB.drew
          have ha1' : Args 1 wr.drew A1 n1 (rows oneI x) := ha1.below (Below.refl _ _).drew
          have ha2' : Args 1 wr.drew A2 n2 (rows oneI y) := ha2.below (Below.refl _ _).drew
          clear p0 q0 hB ha1 ha2
          generalize wr.drew = w2 at hB2 ha1' ha2' ⊢
          go_wp2_with fail
          refine (inEqInt64S A1 A2 n1 n2 c1 c2 x y false E.out _ ha1' ha2' l1 l2).mono ?_
          rintro e w3 ⟨rfl, hb3⟩
          clear ha1' ha2'
          go_wp2
          go_ret
          exact ⟨ret_bool (by simp [ne_of_at HXX.out HYY.out HE.out]), below_step hB2 hb3⟩
      · go_wp2
        go_ret
        refine ⟨ret_bool ?_, hB⟩
        have h1 := HR.out
        have h2 := HA.out
        have h3 := HB.out
        rw [List.take_of_length_le (by omega), List.take_of_length_le (by omega)] at h1
        simp [h1]
  · have hne : ((n : Int) != (m : Int)) = true := by simp; omega
    go_enter Try.func24, Try.ntmps24
    go_wp2
    go_ret
    refine ⟨ret_bool ?_, Below.refl _ _⟩
    have h2 := HA.out
    have h3 := HB.out
    symm
    apply decide_eq_false
    rintro rfl
    omega

set_option maxRecDepth 100000 in
set_option maxHeartbeats 800000 in
theorem szInt64SS_any (A : Option Addr) (n c : Nat) (vs : List Value) (ts : List (List Int)) (left : Int) (w : World) (ha : Arg w A n vs) (hv : Ins 1 oneI w vs ts) (h0 : 0 ≤ left) (h1 : left ≤ 1048576) (hn : n ≤ 9223372036854775807) (ht : ∀ t ∈ ts, t.length ≤ 9223372036854775807) :
    Calls Try.prog 66 #[.slice A n c, .int .i64 left] w fun e w' => (∃ z : Int, e = .returned (.int .i64 z) ∧ SzOut (n + sumLen ts) left z) ∧ w = w' := by
  have HT : Hid (ts.length = n) := by have := ha.1; have := hv.1; unfold Hid; omega
  have HTL := Lib.hid ht; clear ht
  by_cases h : (n : Int) ≤ left
  rotate_left
  · have h' : left - (n : Int) < 0 := by omega
    go_enter Try.func66, Try.ntmps66
    go_wp2
    go_ret
    exact ⟨⟨_, rfl, .inr ⟨by omega, rfl⟩⟩, rfl⟩
  have h' : ¬ left - (n : Int) < 0 := by omega
  go_enter Try.func66, Try.ntmps66
  go_wp2
  go_loop [1, 5] (fun l i => ∃ k : Nat, k ≤ n ∧ i = .int .i64 k ∧ l = .int .i64 (left - (n : Int) - (sumLen (ts.take k) : Int)) ∧ (n : Int) + (sumLen (ts.take k) : Int) ≤ left) (fun _ i => n - (intOf i).toNat)
  case atStart => exact ⟨0, Nat.zero_le _, rfl, by simp [sumLen], by simpa [sumLen] using h⟩
  case round =>
    obtain ⟨k, hk, rfl, rfl, hle⟩ := hrel
    by_cases hlt : k < n
    · obtain ⟨b, off, rfl, hs⟩ := ha.sl hlt
      obtain ⟨t, HTT⟩ := hget HT hlt
      obtain ⟨A1, c1, hvk, _⟩ := hv.get HTT.out
      have hca := hs.at hvk
      have htl := HTL.out t (List.mem_of_getElem? HTT.out)
      obtain ⟨m, hm⟩ : ∃ m, m = t.length := ⟨_, rfl⟩
      have hst := sumLen_take HTT.out
      have hsl := sumLen_le ts (k + 1)
      rw [← hm] at hca htl hst
      obtain ⟨p, hp⟩ : ∃ p, p = sumLen (ts.take k) := ⟨_, rfl⟩
      rw [← hp] at hle hst ⊢
      have HP := Lib.hid hp
      have HST := Lib.hid hst; have HSL := Lib.hid hsl
      have HM := Lib.hid hm; clear hm hvk hs ha hv hp hst hsl h h'
      have w1 : IntKind.i64.wrap (left - (n : Int) - (p : Int)) = left - (n : Int) - (p : Int) := IntWalk.i64_in _ (by omega)
      go_wp2_with fail
      refine (inSzInt64S A1 m c1 (left - (n : Int) - (p : Int)) _ (by omega) (by omega) htl).mono ?_
      rintro e w1 ⟨⟨z, rfl, hz⟩, rfl⟩
      unfold SzOut at hz
      rcases hz with ⟨z1, rfl⟩ | ⟨z1, rfl⟩
      · have z2 : ¬ left - (n : Int) - (p : Int) - (m : Int) < 0 := by omega
        go_wp2_with fail
        go_round
        case rel => exact ⟨k + 1, by omega, by go_num, by rw [HST.out]; congr 1; omega, by rw [HST.out]; omega⟩
        case measure => simp [intOf]; omega
      · go_wp2_with fail
        go_ret
        exact ⟨⟨_, rfl, .inr ⟨by have := HST.out; have := HSL.out; omega, rfl⟩⟩, rfl⟩
    · go_wp2
      go_ret
      obtain rfl : n = k := by omega
      rw [List.take_of_length_le (by have := HT.out; omega)] at hle ⊢
      exact ⟨⟨_, rfl, .inl ⟨by omega, by omega⟩⟩, rfl⟩

theorem szInt64SS_is (A : Option Addr) (n c left r : Nat) (vs : List Value) (ts : List (List Int)) (w : World) (ha : Arg w A n vs) (hv : Ins 1 oneI w vs ts) (h : r + (n + sumLen ts) = left) (h1 : left ≤ 1048576) :
    Calls Try.prog 66 #[.slice A n c, .int .i64 left] w fun e w' => e = .returned (.int .i64 r) ∧ w = w' := by
  refine (szInt64SS_any A n c vs ts left w ha hv (by omega) (by omega) (by omega) (fun t ht => by have := sumLen_mem ht; omega)).mono ?_
  rintro e w' ⟨⟨z, rfl, hz⟩, rfl⟩
  unfold SzOut at hz
  exact ⟨ret_int (by omega), rfl⟩

theorem szInt64SS_not (A : Option Addr) (n c left : Nat) (vs : List Value) (ts : List (List Int)) (w : World) (ha : Arg w A n vs) (hv : Ins 1 oneI w vs ts) (h : left < n + sumLen ts) (h1 : left ≤ 1048576) (hn : n ≤ 9223372036854775807) (ht : ∀ t ∈ ts, t.length ≤ 9223372036854775807) :
    Calls Try.prog 66 #[.slice A n c, .int .i64 left] w fun e w' => e = .returned (.int .i64 (-1)) ∧ w = w' := by
  refine (szInt64SS_any A n c vs ts left w ha hv (by omega) (by omega) hn ht).mono ?_
  rintro e w' ⟨⟨z, rfl, hz⟩, rfl⟩
  unfold SzOut at hz
  exact ⟨ret_int (by omega), rfl⟩

set_option maxRecDepth 100000 in
set_option maxHeartbeats 800000 in
theorem markInt64SS_any (base hi : Nat) (V : Value) (n : Nat) (us : List Value) (its : List (Nat × List Value)) (k0 : Int) (w : World) (hg : Grid base hi 25 1 V n us 2 1 us its w) (hk0 : 0 ≤ k0) (hk1 : k0 + (cellsIn 1 its : Nat) ≤ 1099511627776) (hn : n ≤ 4194304) (hit : ∀ it ∈ its, it.1 ≤ 4194304) :
    Calls Try.prog 27 #[V, .int .i64 k0] w fun e w' => e = .returned (.int .i64 (k0 + (cellsIn 1 its : Nat))) ∧ Grid base hi 25 1 V n us 2 1 us (mks mkInt64S 1 k0 its) w' ∧ Touch base hi w w' := by
  have HT : Hid (its.length = n) := by have := hg.own.1; have := hg.inn.len; unfold Hid; omega
  have HTL := Lib.hid hit; clear hit
  obtain ⟨A, cap, rfl⟩ := own_form hg.own
  obtain ⟨hown0, hinn0, htop⟩ := hg
  have HTOP := Lib.hid htop; clear htop
  go_enter Try.func27, Try.ntmps27
  go_wp2
  go_loopw [1, 5] (fun kk i wr => ∃ k : Nat, k ≤ n ∧ i = .int .i64 k ∧ kk = .int .i64 (k0 + (cellsIn 1 (its.take k) : Nat)) ∧ wr.ownsRow base 25 1 (.slice A n cap) n us ∧ Inn 1 2 base hi us (mks mkInt64S 1 k0 (its.take k) ++ its.drop k) wr ∧ Touch base hi w wr) (fun _ i _ => n - (intOf i).toNat)
  case atStart => exact ⟨0, Nat.zero_le _, rfl, by simp [cellsIn], hown0, by simpa [mks] using hinn0, Touch.refl _ _ _⟩
  case round =>
    obtain ⟨k, hk, rfl, rfl, hown, hinn, hto⟩ := hrel
    clear hown0 hinn0
    by_cases hlt : k < n
    · obtain ⟨it, HIT⟩ := hget HT hlt
      obtain ⟨u, hu⟩ : ∃ u, us[k]? = some u := ⟨_, List.getElem?_eq_getElem (by have := hown.1; omega)⟩
      obtain ⟨g, rfl, _, _⟩ := own_addr0 hown (by omega)
      have hrow := inn_row hinn hu HIT.out
      have hca : wr.cell? ⟨g, k, none⟩ = some u := by rw [hown.cellAt k (by omega)]; exact hu
      have htl := HTL.out it (List.mem_of_getElem? HIT.out)
      have hc1 := cellsIn_take (s := 1) HIT.out
      have hc2 := cellsIn_le 1 its (k + 1)
      obtain ⟨m, hm⟩ : ∃ m, m = it.1 := ⟨_, rfl⟩
      rw [← hm] at htl hc1
      obtain ⟨p, hp⟩ : ∃ p, p = cellsIn 1 (its.take k) := ⟨_, rfl⟩
      rw [← hp] at hc1 ⊢
      have HP := Lib.hid hp; have HM := Lib.hid hm; have HC1 := Lib.hid hc1
      have hrow2 : wr.ownsRow base 2 1 u m it.2 := by rw [HM.out]; exact hrow
      have HU := Lib.hid hu
      have HIN := Lib.hid hinn
      clear hu hrow hp hm hinn
      have w2 : IntKind.i64.wrap (k0 + (p : Int)) = k0 + (p : Int) := IntWalk.i64_in _ (by omega)
      go_wp2_with fail
      refine (inMarkInt64S base _ m (k0 + (p : Int)) it.2 _ hrow2 (by omega) (by omega) htl).mono ?_
      rintro e w1 ⟨rfl, hrow3, hgr⟩
      have hown3 := hown.kept hgr (own_apart_ty hown hrow2 (by decide))
      have hto3 := hto.trans (HIN.out.touch HU.out hgr)
      have hin3 := HIN.out.mark HU.out HIT.out hgr (by rw [← HP.out, ← HM.out]; exact hrow3)
      clear hown hrow2 hrow3 hgr hto HIN hca
      go_wp2_with fail
      go_roundw
      case rel => exact ⟨k + 1, by omega, by go_num, by rw [HC1.out]; congr 1; omega, hown3, hin3, hto3⟩
      case measure => simp [intOf]; omega
    · go_wp2
      go_ret
      obtain rfl : n = k := by omega
      rw [List.take_of_length_le (by have := HT.out; omega)] at hinn ⊢
      rw [List.drop_of_length_le (by have := HT.out; omega), List.append_nil] at hinn
      exact ⟨rfl, ⟨hown, hinn, HTOP.out⟩, hto⟩

set_option maxRecDepth 100000 in
set_option maxHeartbeats 800000 in
theorem heldInt64SS_any (base hi : Nat) (V : Value) (n : Nat) (us : List Value) (its : List (Nat × List Value)) (k0 : Int) (w : World) (hg : Grid base hi 25 1 V n us 2 1 us (mks mkInt64S 1 k0 its) w) (hk0 : 0 ≤ k0) (hk1 : k0 + (cellsIn 1 its : Nat) ≤ 1099511627776) (hn : n ≤ 4194304) (hit : ∀ it ∈ its, it.1 ≤ 4194304) :
    Calls Try.prog 28 #[V, .int .i64 k0] w fun e w' => e = .returned (.int .i64 (k0 + (cellsIn 1 its : Nat))) ∧ w = w' := by
  have HT : Hid (its.length = n) := by have := hg.own.1; have := hg.inn.len; rw [length_mks] at this; unfold Hid; omega
  have HTL := Lib.hid hit; clear hit
  obtain ⟨A, cap, rfl⟩ := own_form hg.own
  obtain ⟨hown, hinn, _⟩ := hg
  go_enter Try.func28, Try.ntmps28
  go_wp2
  go_loop [1, 5] (fun kk i => ∃ k : Nat, k ≤ n ∧ i = .int .i64 k ∧ kk = .int .i64 (k0 + (cellsIn 1 (its.take k) : Nat))) (fun _ i => n - (intOf i).toNat)
  case atStart => exact ⟨0, Nat.zero_le _, rfl, by simp [cellsIn]⟩
  case round =>
    obtain ⟨k, hk, rfl, rfl⟩ := hrel
    by_cases hlt : k < n
    · obtain ⟨it, HIT⟩ := hget HT hlt
      obtain ⟨u, hu⟩ : ∃ u, us[k]? = some u := ⟨_, List.getElem?_eq_getElem (by have := hown.1; omega)⟩
      obtain ⟨g, rfl, _, _⟩ := own_addr0 hown (by omega)
      have hrow := hinn.own k u _ hu (mks_at mkInt64S 1 HIT.out k0)
      have hca : w.cell? ⟨g, k, none⟩ = some u := by rw [hown.cellAt k (by omega)]; exact hu
      have htl := HTL.out it (List.mem_of_getElem? HIT.out)
      obtain ⟨A1, c1, rfl⟩ := own_form hrow
      have hc1 := cellsIn_take (s := 1) HIT.out
      have hc2 := cellsIn_le 1 its (k + 1)
      have har := args_of_own hrow
      simp only at har hca
      obtain ⟨m, hm⟩ : ∃ m, m = it.1 := ⟨_, rfl⟩
      rw [← hm] at htl hc1 har hca
      obtain ⟨p, hp⟩ : ∃ p, p = cellsIn 1 (its.take k) := ⟨_, rfl⟩
      rw [← hp] at hc1 har ⊢
      have HC1 := Lib.hid hc1
      have z1 : 0 ≤ k0 + (p : Int) := by omega
      have z2 : k0 + (p : Int) ≤ 1099511627776 := by omega
      have z3 : ¬ k0 + (p : Int) + ((m * 1 : Nat) : Int) < 0 := by omega
      clear hu hrow hp hm hown hinn
      go_wp2_with fail
      refine (inHeldInt64S A1 m c1 (k0 + (p : Int)) _ har z1 z2 htl).mono ?_
      rintro e w1 ⟨rfl, rfl⟩
      clear hca har
      go_wp2_with fail
      go_round
      case rel => exact ⟨k + 1, by omega, by go_num, by rw [HC1.out]; congr 1; omega⟩
      case measure => simp [intOf]; omega
    · go_wp2
      go_ret
      obtain rfl : n = k := by omega
      rw [List.take_of_length_le (by have := HT.out; omega)]
      exact ⟨rfl, rfl⟩

theorem markInt64SS_is (base hi : Nat) (V : Value) (n : Nat) (us : List Value) (its : List (Nat × List Value)) (k0 : Int) (K : Nat) (w : World) (hg : Grid base hi 25 1 V n us 2 1 us its w) (hK : cellsIn 1 its = K) (hk0 : 0 ≤ k0) (hk1 : k0 + (K : Int) ≤ 1099511627776) (hn : n ≤ 4194304) (hit : ∀ it ∈ its, it.1 ≤ 4194304) :
    Calls Try.prog 27 #[V, .int .i64 k0] w fun e w' => e = .returned (.int .i64 (k0 + (K : Int))) ∧ Grid base hi 25 1 V n us 2 1 us (mks mkInt64S 1 k0 its) w' ∧ Touch base hi w w' := by
  subst hK
  exact markInt64SS_any base hi V n us its k0 w hg hk0 hk1 hn hit

theorem heldInt64SS_is (base hi : Nat) (V : Value) (n : Nat) (us : List Value) (its : List (Nat × List Value)) (k0 : Int) (K : Nat) (w : World) (hg : Grid base hi 25 1 V n us 2 1 us (mks mkInt64S 1 k0 its) w) (hK : cellsIn 1 its = K) (hk0 : 0 ≤ k0) (hk1 : k0 + (K : Int) ≤ 1099511627776) (hn : n ≤ 4194304) (hit : ∀ it ∈ its, it.1 ≤ 4194304) :
    Calls Try.prog 28 #[V, .int .i64 k0] w fun e w' => e = .returned (.int .i64 (k0 + (K : Int))) ∧ w = w' := by
  subst hK
  exact heldInt64SS_any base hi V n us its k0 w hg hk0 hk1 hn hit

end Go.Proofs.Ytcfkjigapnknnaa

/- Growing rows of Markov rules and of words: plain lemmas. -/
namespace Go.Proofs.Ytcfkjigapnknnaa
open Go.RowKit
set_option linter.all false

/-- A word of the call's own, which has an address. -/
def Wd (b : Nat) (u : Value) (f : List Int) (W : World) : Prop := W.ownsRow b 2 1 u f.length (f.map (Value.int .i64)) ∧ ∃ g c, u = .slice (some ⟨g, 0, none⟩) f.length c ∧ f.length ≤ c ∧ g < W.heap.size
theorem Wd.below {b : Nat} {u : Value} {f : List Int} {W W' : World} (h : Wd b u f W) (hb : Below W.heap.size W W') : Wd b u f W' := by
  obtain ⟨o, g, c, e, hl, hg⟩ := h
  exact ⟨own_below' o hb, g, c, e, hl, Nat.lt_of_lt_of_le hg hb.size⟩
theorem Wd.of_own {b n : Nat} {u : Value} {f : List Int} {W : World} (h : W.ownsRow b 2 1 u n (f.map (Value.int .i64))) (hne : u ≠ .slice none 0 0) : Wd b u f W := by
  have hn : f.length = n := by have := h.1; simpa using this
  subst hn
  obtain ⟨g, d, e, hd⟩ := own_adr h hne
  refine ⟨h, g, d, e, hd, ?_⟩
  have := h.lt g (by rw [e]; rfl)
  exact this.2
theorem Wd.laid (w : World) (f : List Int) (cs : Array Value) (hc : cs.toList = f.map (Value.int .i64)) (hf : f.length ≤ 1048576) : Wd w.heap.size (.slice (some ⟨w.heap.size, 0, none⟩) f.length f.length) f (w.alloc (.cells cs 2)) := by
  have h := own_laid w 2 1 f.length cs (by rw [← Array.length_toList, hc]; simp) (by unfold maxLen; omega)
  rw [hc] at h
  exact ⟨h, _, _, rfl, Nat.le_refl _, by simp⟩

/-- The rules so far. -/
structure MkRow (lo : Nat) (V : Value) (es : List EMarkovRule) (xs : List DMarkovRule) (W : World) : Prop where
  acc : MkAcc lo V es W
  adr : ∀ e ∈ es, adrMarkovRule W.heap.size e
  map : es.map (·.d) = xs
theorem MkRow.below {lo : Nat} {V : Value} {es : List EMarkovRule} {xs : List DMarkovRule} {W W' : World} (h : MkRow lo V es xs W) (hb : Below W.heap.size W W') : MkRow lo V es xs W' :=
  ⟨h.acc.below hb, fun e he => (h.adr e he).mono hb.size, h.map⟩
theorem MkRow.len {lo : Nat} {V : Value} {es : List EMarkovRule} {xs : List DMarkovRule} {W : World} (h : MkRow lo V es xs W) : es.length = xs.length := by rw [← h.map, List.length_map]
theorem MkRow.push {lo : Nat} {V V' u0 u1 : Value} {es : List EMarkovRule} {xs : List DMarkovRule} {f0 f1 : List Int} {f2 : Bool} {W Wa Wb Wc W' : World} (h : MkRow lo V es xs W) (hlo : lo ≤ W.heap.size)
    (ha : Below W.heap.size W Wa) (q0 : Wd W.heap.size u0 f0 Wa) (hb : Below Wa.heap.size Wa Wb) (q1 : Wd Wa.heap.size u1 f1 Wb) (hc : Below Wb.heap.size Wb Wc) (hg : Wc.grownBy W' V.ownBlock)
    (own' : W'.ownsRow lo 117 3 V' (es.length + 1) (rows EMarkovRule.vs es ++ [u0, u1, .bool f2])) : MkRow lo V' (es ++ [⟨⟨f0, f1, f2⟩, u0, u1⟩]) (xs ++ [⟨f0, f1, f2⟩]) W' := by
  refine ⟨h.acc.push hlo ha (e := ⟨⟨f0, f1, f2⟩, u0, u1⟩) q0.1 hb q1.1 hc hg own', ?_, by rw [List.map_append, h.map]; rfl⟩
  obtain ⟨_, g0, c0, e0, l0, t0⟩ := q0
  obtain ⟨_, g1, c1, e1, l1, t1⟩ := q1
  have s1 := ha.size; have s2 := hb.size; have s3 := hc.size; have s4 := hg.size
  refine adrsMarkovRule_snoc (m := W.heap.size) h.adr (by omega) ?_
  exact ⟨⟨g0, c0, by omega, e0, l0⟩, ⟨g1, c1, by omega, e1, l1⟩, trivial⟩
theorem MkRow.rcs {lo : Nat} {V : Value} {es : List EMarkovRule} {xs : List DMarkovRule} {W : World} (h : MkRow lo V es xs W) : RcsMarkovRule W es := rcsMarkovRule_of h.acc.grid h.adr (Nat.le_refl _)
theorem Inn.setvar {s lo hi : Nat} {e t : TypeId} {vs : List Value} {its : List (Nat × List Value)} {w : World} {g i : Nat} {cs : Array Value} {fr : Nat × Nat} (h : Inn s e lo hi vs its w) (hg : w.heap[g]? = some (.cells cs t fr)) (hne : e ≠ t) (u : Value) : Inn s e lo hi vs its (w.setCell ⟨g, i, none⟩ u) :=
  ⟨h.len, fun j v it h1 h2 => own_setCell (h.own j v it h1 h2) (fun e1 => own_ne_block (h.own j v it h1 h2) hg hne e1) u, h.top, h.apart⟩
theorem MkRow.setvar {lo : Nat} {V : Value} {es : List EMarkovRule} {xs : List DMarkovRule} {W : World} {g i : Nat} {cs : Array Value} {fr : Nat × Nat} {t : TypeId} (h : MkRow lo V es xs W) (hg : W.heap[g]? = some (.cells cs t fr)) (h1 : 2 ≠ t) (h2 : 117 ≠ t) (u : Value) : MkRow lo V es xs (W.setCell ⟨g, i, none⟩ u) := by
  have hs : (W.setCell ⟨g, i, none⟩ u).heap.size = W.heap.size := by simp [World.setCell]
  refine ⟨⟨own_setCell h.acc.own (fun e1 => own_ne_block h.acc.own hg h2 e1) u, ?_⟩, ?_, h.map⟩
  · rw [hs]; exact h.acc.inn.setvar hg h1 u
  · rw [hs]; exact h.adr
theorem MkRow.nil (w : World) : MkRow w.heap.size (.slice (some ⟨w.heap.size, 0, none⟩) 0 0) [] [] (w.alloc (.cells #[] 117)) :=
  ⟨⟨own_empty w _ 3, Inn.nil _ _ _ _ _⟩, (fun e h => by cases h), rfl⟩

/-- The words so far. -/
structure WdRow (lo : Nat) (V : Value) (us : List Value) (ts : List (List Int)) (W : World) : Prop where
  own : W.ownsRow lo 25 1 V us.length us
  inn : Inn 1 2 lo W.heap.size us (itsOf oneI ts) W
theorem WdRow.below {lo : Nat} {V : Value} {us : List Value} {ts : List (List Int)} {W W' : World} (h : WdRow lo V us ts W) (hb : Below W.heap.size W W') : WdRow lo V us ts W' :=
  ⟨own_below' h.own hb, (h.inn.below hb).wide hb.size⟩
theorem WdRow.len {lo : Nat} {V : Value} {us : List Value} {ts : List (List Int)} {W : World} (h : WdRow lo V us ts W) : us.length = ts.length := by rw [h.inn.len]; simp [itsOf]
theorem WdRow.push {lo : Nat} {V V' u : Value} {us : List Value} {ts : List (List Int)} {t : List Int} {W Wa W' : World} (h : WdRow lo V us ts W) (hlo : lo ≤ W.heap.size)
    (ha : Below W.heap.size W Wa) (o : Wa.ownsRow W.heap.size 2 1 u t.length (t.map (Value.int .i64))) (hg : Wa.grownBy W' V.ownBlock) (own' : W'.ownsRow lo 25 1 V' (us.length + 1) (us ++ [u])) : WdRow lo V' (us ++ [u]) (ts ++ [t]) W' := by
  refine ⟨by rw [List.length_append]; exact own', ?_⟩
  have i1 := (h.inn.below ha).snoc (it := (t.length, rows oneI t)) (hi' := Wa.heap.size) (by rw [rows_oneI]; exact o) (Nat.le_refl _) hlo (Nat.le_refl _) ha.size
  have i2 := (i1.kept (own_below' h.own ha) hg (by decide)).wide (hi' := W'.heap.size) hg.size
  have e1 : itsOf oneI (ts ++ [t]) = itsOf oneI ts ++ [(t.length, rows oneI t)] := by simp [itsOf]
  rw [e1]
  exact i2
theorem WdRow.nil (w : World) : WdRow w.heap.size (.slice (some ⟨w.heap.size, 0, none⟩) 0 0) [] [] (w.alloc (.cells #[] 25)) :=
  ⟨own_empty w _ 1, Inn.nil _ _ _ _ _⟩
/-- What other rows and variables turn into, the words stay. -/
theorem WdRow.kept {lo : Nat} {V : Value} {us : List Value} {ts : List (List Int)} {W W' : World} {b s0 n : Nat} {t : TypeId} {V2 : Value} {cs : List Value} (h : WdRow lo V us ts W) (ho : W.ownsRow b t s0 V2 n cs) (hg : W.grownBy W' V2.ownBlock) (h1 : 2 ≠ t) (h2 : 25 ≠ t) : WdRow lo V us ts W' :=
  ⟨h.own.kept hg (own_apart_ty h.own ho h2), (h.inn.kept ho hg h1).wide hg.size⟩
theorem WdRow.setvar {lo : Nat} {V : Value} {us : List Value} {ts : List (List Int)} {W : World} {g i : Nat} {cs : Array Value} {fr : Nat × Nat} {t : TypeId} (h : WdRow lo V us ts W) (hg : W.heap[g]? = some (.cells cs t fr)) (h1 : 2 ≠ t) (h2 : 25 ≠ t) (u : Value) : WdRow lo V us ts (W.setCell ⟨g, i, none⟩ u) := by
  have hs : (W.setCell ⟨g, i, none⟩ u).heap.size = W.heap.size := by simp [World.setCell]
  refine ⟨own_setCell h.own (fun e1 => own_ne_block h.own hg h2 e1) u, ?_⟩
  rw [hs]; exact h.inn.setvar hg h1 u
theorem WdRow.src {lo : Nat} {V : Value} {us : List Value} {ts : List (List Int)} {W : World} (h : WdRow lo V us ts W) {k : Nat} {t : List Int} (ht : ts[k]? = some t) : ∃ u, us[k]? = some u ∧ Src 1 W u t.length (t.map (Value.int .i64)) := by
  have hk := (List.getElem?_eq_some_iff.1 ht).1
  have hu : us[k]? = some (us[k]'(by rw [h.len]; exact hk)) := List.getElem?_eq_getElem _
  have := h.inn.srcs.2 k _ _ hu ht
  rw [rows_oneI] at this
  exact ⟨_, hu, this⟩
end Go.Proofs.Ytcfkjigapnknnaa

/- Tag systems: all words of a length, as the program makes them. -/
namespace Go.Proofs.Ytcfkjigapnknnaa
open Go.RowKit
set_option linter.all false

theorem one_all {xs : List Value} (h : xs.all (fun u => u.oneCell' = true) = true) : ∀ u ∈ xs, u.oneCell' = true := fun u hu => by
  have := List.all_eq_true.1 h u hu; simpa using this

theorem WdRow.first (w : World) : WdRow w.heap.size (.slice (some ⟨w.heap.size + 1, 0, none⟩) 1 1) [.slice (some ⟨w.heap.size, 0, none⟩) 0 0] [[]] ((w.alloc (.cells #[] 2)).alloc (.cells #[.slice (some ⟨w.heap.size, 0, none⟩) 0 0] 25)) := by
  have hsz : (w.alloc (.cells #[] 2)).heap.size = w.heap.size + 1 := by simp
  have i0 : Inn 1 2 w.heap.size (w.alloc (.cells #[] 2)).heap.size [.slice (some ⟨w.heap.size, 0, none⟩) 0 0] (itsOf oneI [[]]) (w.alloc (.cells #[] 2)) :=
    (Inn.nil 1 w.heap.size w.heap.size 2 _).snoc (b := w.heap.size) (it := (0, [])) (own_empty w _ 1) (Nat.le_refl _) (Nat.le_refl _) (Nat.le_refl _) (by simp)
  have B := laid_below (w.alloc (.cells #[] 2)) (.cells #[.slice (some ⟨w.heap.size, 0, none⟩) 0 0] 25)
  have o0 := own_laid (w.alloc (.cells #[] 2)) 25 1 1 #[.slice (some ⟨w.heap.size, 0, none⟩) 0 0] rfl (by unfold maxLen; omega)
  rw [hsz] at o0
  exact ⟨own_base o0 (by omega), (i0.below B).wide B.size⟩

set_option maxRecDepth 100000 in
theorem joined2_any (g : Nat) (u1 u2 : Value) (n1 n2 : Nat) (x y : List Int) (w : World) (hs : Sl w g 0 [u1, u2]) (s1 : Src 1 w u1 n1 (x.map (Value.int .i64))) (s2 : Src 1 w u2 n2 (y.map (Value.int .i64))) (h1 : n1 ≤ 1048576) (h2 : n2 ≤ 1048576) :
    Calls Try.prog 133 #[.slice (some ⟨g, 0, none⟩) 2 2] w fun e w' => ∃ v, e = .returned v ∧ w'.ownsRow w.heap.size 2 1 v (n1 + n2) ((x ++ y).map (Value.int .i64)) ∧ Below w.heap.size w w' := by
  refine (joined3_any g 0 [u1, u2] [n1, n2] [x.map (Value.int .i64), y.map (Value.int .i64)] w hs ?_ (by simp; omega) (by simp)).mono ?_
  · refine ⟨rfl, rfl, fun j v n xs h1 h2 h3 => ?_⟩
    match j, h1, h2, h3 with
    | 0, h1, h2, h3 => simp only [List.getElem?_cons_zero, List.getElem?_cons_succ, Option.some.injEq] at h1 h2 h3; subst h1; subst h2; subst h3; exact ⟨s1, one_ints _ _⟩
    | 1, h1, h2, h3 => simp only [List.getElem?_cons_zero, List.getElem?_cons_succ, Option.some.injEq] at h1 h2 h3; subst h1; subst h2; subst h3; exact ⟨s2, one_ints _ _⟩
  · rintro e w' ⟨v, rfl, ho, hb⟩
    refine ⟨v, rfl, ?_, hb⟩
    have e1 : [n1, n2].sum = n1 + n2 := by simp
    have e2 : [x.map (Value.int .i64), y.map (Value.int .i64)].flatten = (x ++ y).map (Value.int .i64) := by simp
    rw [e1, e2] at ho
    exact ho

theorem WdRow.base {lo lo' : Nat} {V : Value} {us : List Value} {ts : List (List Int)} {W : World} (h : WdRow lo V us ts W) (hl : lo' ≤ lo) : WdRow lo' V us ts W :=
  ⟨own_base h.own hl, h.inn.len, fun j v it h1 h2 => own_base (h.inn.own j v it h1 h2) hl, h.inn.top, h.inn.apart⟩

def wordsAt (n : Nat) (ts : List (List Int)) (j : Nat) : List (List Int) := (ts.take j).flatMap fun w => (ltrs n).map fun a => w ++ [a]
theorem wordsAt_zero (n : Nat) (ts : List (List Int)) : wordsAt n ts 0 = [] := rfl
theorem wordsAt_succ {n : Nat} {ts : List (List Int)} {j : Nat} {t : List Int} (h : ts[j]? = some t) : wordsAt n ts (j + 1) = wordsAt n ts j ++ (ltrs n).map fun a => t ++ [a] := by
  rw [wordsAt, List.take_add_one, h]; simp [wordsAt]
theorem wordsAt_all (n l : Nat) {m : Nat} (h : (wordsN n l).length ≤ m) : wordsAt n (wordsN n l) m = wordsN n (l + 1) := by rw [wordsAt, List.take_of_length_le h]; rfl
theorem wordsAt_len (n : Nat) (ts : List (List Int)) (j : Nat) (hj : j ≤ ts.length) : (wordsAt n ts j).length = j * n := by
  rw [wordsAt, List.length_flatMap]
  simp only [List.length_map, ltrs_len]
  rw [List.map_const', List.sum_replicate_nat, List.length_take, Nat.min_eq_left hj]

set_option maxRecDepth 100000 in
set_option maxHeartbeats 1000000 in
theorem wordsOver_any (n l : Nat) (w : World) (hn : n ≤ 4) (hl : l ≤ 3) :
    Calls Try.prog 132 #[.int .i64 n, .int .i64 l] w fun e w' => ∃ V us, e = .returned V ∧ WdRow w.heap.size V us (wordsN n l) w' ∧ Below w.heap.size w w' := by
  obtain ⟨w0, HW0, R0, B0⟩ : ∃ w0, Hid (w0 = (w.alloc (.cells #[] 2)).alloc (.cells #[.slice (some ⟨w.heap.size, 0, none⟩) 0 0] 25)) ∧ WdRow w.heap.size (.slice (some ⟨w.heap.size + 1, 0, none⟩) 1 1) [.slice (some ⟨w.heap.size, 0, none⟩) 0 0] [[]] w0 ∧ Below w.heap.size w w0 :=
    ⟨_, rfl, WdRow.first w, below_step (laid_below _ _) (laid_below _ _)⟩
  go_enter Try.func132, Try.ntmps132
  go_wp2_with fail
  rw [← HW0.out]
  go_loopw [5, 13] (fun V i wr => ∃ (k : Nat) (us : List Value), k ≤ l ∧ i = .int .i64 k ∧ WdRow w.heap.size V us (wordsN n k) wr ∧ Below w.heap.size w wr) (fun _ i _ => l - (intOf i).toNat)
  case atStart => exact ⟨0, _, Nat.zero_le _, rfl, R0, B0⟩
  case round =>
    obtain ⟨k, us, hk, rfl, hrow, hB⟩ := hrel
    clear HW0 R0 B0
    obtain ⟨wo, rfl⟩ : ∃ wo, wo = wr := ⟨_, rfl⟩
    obtain ⟨A, c, rfl⟩ := own_form hrow.own
    have HU := Lib.hid hrow.len
    by_cases hlt : k < l
    rotate_left
    · obtain rfl : k = l := by omega
      go_wp2_with fail
      go_ret
      exact ⟨_, _, rfl, hrow, hB⟩
    obtain ⟨m, hm⟩ : ∃ m, us.length = m := ⟨_, rfl⟩
    have hm64 : m ≤ 64 := by rw [← hm, hrow.len, wordsN_len]; exact pow_small hn (by omega)
    rw [hm]
    have HMU := Lib.hid hm
    have HM : Hid ((wordsN n k).length = m) := by unfold Hid; rw [← hm, hrow.len]
    clear hm
    obtain ⟨w1, HW1, B1, R1⟩ : ∃ w1, Hid (w1 = wo.alloc (.cells #[] 25)) ∧ Below wo.heap.size wo w1 ∧ WdRow wo.heap.size (.slice (some ⟨wo.heap.size, 0, none⟩) 0 0) [] [] w1 := ⟨_, rfl, laid_below _ _, WdRow.nil wo⟩
    go_wp2_with fail
    rw [← HW1.out]
    go_loopw [6, 18] (fun V2 i wr => ∃ (j : Nat) (us2 : List Value), j ≤ m ∧ i = .int .i64 j ∧ WdRow wo.heap.size V2 us2 (wordsAt n (wordsN n k) j) wr ∧ Below wo.heap.size wo wr) (fun _ i _ => m - (intOf i).toNat)
    case atStart => exact ⟨0, [], Nat.zero_le _, rfl, R1, B1⟩
    case round =>
      obtain ⟨j, us2, hj, rfl, hrow2, hB2⟩ := hrel
      clear HW1 B1 R1
      obtain ⟨wo2, rfl⟩ : ∃ wo2, wo2 = wr := ⟨_, rfl⟩
      obtain ⟨A2, c2, rfl⟩ := own_form hrow2.own
      by_cases hjlt : j < m
      rotate_left
      · have e1 : wordsAt n (wordsN n k) j = wordsN n (k + 1) := wordsAt_all n k (by have := HM.out; omega)
        rw [e1] at hrow2
        have hrow3 : WdRow w.heap.size (.slice A2 us2.length c2) us2 (wordsN n (k + 1)) wo2 := hrow2.base hB.size
        have hB3 := below_step hB hB2
        clear e1 hrow2
        obtain ⟨m2, hm2⟩ : ∃ m2, us2.length = m2 := ⟨_, rfl⟩
        rw [hm2] at hrow3 ⊢
        go_wp2_with fail
        go_roundw
        case rel => exact ⟨k + 1, us2, by omega, by go_num, hrow3, hB3⟩
        case measure => simp [intOf]; omega
      obtain ⟨x, HX⟩ := hget HM hjlt
      have hrowj := hrow.below hB2
      obtain ⟨u, hu, hsrc⟩ := hrowj.src HX.out
      obtain ⟨Au, cu, rfl⟩ := hsrc.form
      have hxl : x.length = k := wordsN_mem (List.mem_of_getElem? HX.out)
      rw [hxl] at hsrc hu
      obtain ⟨bA, oA, hA, hsl⟩ := (arg_of_own hrowj.own).sl (k := j) (by have := HMU.out; omega)
      have hcu := hsl.at hu
      have hlen2 : us2.length = j * n := by rw [hrow2.len, wordsAt_len _ _ _ (by have := HM.out; omega)]
      have HL2 := Lib.hid hlen2
      have HXL := Lib.hid hxl
      subst hA
      have HUJ := Lib.hid hu
      clear hu hsl hlen2 hxl hrowj hsrc
      go_wp2_with fail
      go_loopw [6, 23] (fun V3 i wr => ∃ (a : Nat) (us3 : List Value), a ≤ n ∧ i = .int .i64 a ∧ WdRow wo.heap.size V3 us3 (wordsAt n (wordsN n k) j ++ (ltrs a).map fun a => x ++ [a]) wr ∧ Below wo.heap.size wo wr) (fun _ i _ => n - (intOf i).toNat)
      case atStart => exact ⟨0, us2, Nat.zero_le _, rfl, by simpa [ltrs] using hrow2, hB2⟩
      case round =>
        obtain ⟨a, us3, ha, rfl, hrow3, hB3⟩ := hrel
        clear hrow2
        obtain ⟨A3, c3, rfl⟩ := own_form hrow3.own
        by_cases halt : a < n
        rotate_left
        · obtain rfl : a = n := by omega
          have e1 : wordsAt a (wordsN a k) j ++ (ltrs a).map (fun b => x ++ [b]) = wordsAt a (wordsN a k) (j + 1) := (wordsAt_succ HX.out).symm
          rw [e1] at hrow3
          clear e1
          go_wp2_with fail
          go_roundw
          case rel => exact ⟨j + 1, us3, by omega, by go_num, hrow3, hB3⟩
          case measure => simp [intOf]; omega
        have hlen3 : us3.length = j * n + a := by rw [hrow3.len, List.length_append, wordsAt_len _ _ _ (by have := HM.out; omega), List.length_map, ltrs_len]
        have hb3 : us3.length ≤ 1000 := by
          have : j * n ≤ 64 * 4 := Nat.mul_le_mul (by omega) hn
          omega
        obtain ⟨m3, hm3⟩ : ∃ m3, us3.length = m3 := ⟨_, rfl⟩
        have own3 := hrow3.own
        rw [hm3] at own3 hb3 ⊢
        have HM3 := Lib.hid hm3
        clear hlen3 hm3
        obtain ⟨wa, HWA, BA, xa, ya⟩ := al2 wr (.cells #[.int .i64 a] 2) (.cells #[.slice Au k cu, .slice (some ⟨wr.heap.size, 0, none⟩) 1 1] 25)
        have sla : Sl wa (wr.heap.size + 1) 0 [.slice Au k cu, .slice (some ⟨wr.heap.size, 0, none⟩) 1 1] := ⟨heap_lt ya, fun q v hq => by rw [cell_of_heap ya]; simpa using hq⟩
        have sb : Src 1 wa (.slice (some ⟨wr.heap.size, 0, none⟩) 1 1) 1 ([(a : Int)].map (Value.int .i64)) := Src.of_sl ⟨heap_lt xa, fun q v hq => by rw [cell_of_heap xa]; simpa using hq⟩ rfl
        have sa : Src 1 wa (.slice Au k cu) k (x.map (Value.int .i64)) := by
          obtain ⟨u', hu', h'⟩ := ((hrow.below hB3).below BA).src HX.out
          rw [HUJ.out] at hu'
          injection hu' with hu'
          rw [HXL.out] at h'
          rw [hu']; exact h'
        have own3a := own_below' own3 BA
        clear xa ya
        go_wp2_with fail
        rw [← HWA.out]
        refine (joined2_any (wr.heap.size + 1) _ _ k 1 x [(a : Int)] wa sla sa sb (by omega) (by omega)).mono ?_
        rintro e wb ⟨v, rfl, ownv, bb⟩
        obtain ⟨Av, cv, rfl⟩ := own_form ownv
        obtain ⟨wc, HWC, BC, yc⟩ := al1 wb (.cells #[.slice Av (k + 1) cv] 25)
        have own3c := own_below' (own_below' own3a bb) BC
        have slc : Src 1 wc (.slice (some ⟨wb.heap.size, 0, none⟩) 1 1) 1 [.slice Av (k + 1) cv] := Src.of_sl ⟨heap_lt yc, fun q v hq => by rw [cell_of_heap yc]; simpa using hq⟩ rfl
        have ownvc := own_base (own_below' ownv BC) BA.size
        have Bac := below_step (below_step BA bb) BC
        have hsz : wo.heap.size ≤ wc.heap.size := Nat.le_trans hB3.size Bac.size
        have BW := below_step hB3 Bac
        clear own3a bb BC yc ownv sla sb sa own3 BA
        go_wp2_with (at_builtin; rw [← HWC.out]; refine wpList_appx rfl _ _ _ rfl Try.underlying45 infoInt64SS rfl (by omega) wo.heap.size own3c hsz rfl slc rfl (one_all rfl) (by unfold maxLen; omega) (by omega) ?_; intro V4 w4 own4 hg4 hnil4; clear hnil4; have BG := grown_below BW own3c (Nat.le_refl _) hg4; obtain ⟨A4, c4, rfl⟩ := own_form own4)
        have hrow4 : WdRow wo.heap.size (.slice A4 (m3 + 1) c4) (us3 ++ [.slice Av (k + 1) cv]) (wordsAt n (wordsN n k) j ++ (ltrs (a + 1)).map fun b => x ++ [b]) w4 := by
          have h1 := hrow3.push (V' := .slice A4 (m3 + 1) c4) (u := .slice Av (k + 1) cv) (t := x ++ [(a : Int)]) hB3.size Bac (by rw [List.length_append, HXL.out]; exact ownvc) (by rw [HM3.out]; exact hg4) (by rw [HM3.out]; exact own4)
          rw [ltrs_succ, List.map_append, ← List.append_assoc]
          exact h1
        clear own3c slc ownvc Bac hsz BW own4 hg4
        go_roundw
        case rel => exact ⟨a + 1, _, by omega, by go_num, hrow4, BG⟩
        case measure => simp [intOf]; omega
end Go.Proofs.Ytcfkjigapnknnaa

/- Tag systems: the closure that adds a rule, and what a walk with it carries. -/
namespace Go.Proofs.Ytcfkjigapnknnaa
open Go.RowKit
set_option linter.all false

/-- The list of rules in its variable gl, the record t in its box bx. -/
structure TSt (bx : Nat) (cs : Array Value) (lo gl : Nat) (V : Value) (es : List EMarkovRule) (xs : List DMarkovRule) (w0 W : World) : Prop where
  row : MkRow lo V es xs W
  var : W.heap[gl]? = some (.cells #[V] 58 (0, 0))
  box : W.heap[bx]? = some (.cells cs 61 (0, 0))
  frame : Below w0.heap.size w0 W
  lo0 : w0.heap.size ≤ lo
  lo1 : lo ≤ W.heap.size
  gl0 : w0.heap.size ≤ gl
theorem TSt.below {bx : Nat} {cs : Array Value} {lo gl : Nat} {V : Value} {es : List EMarkovRule} {xs : List DMarkovRule} {w0 W W' : World} (h : TSt bx cs lo gl V es xs w0 W) (hb : Below W.heap.size W W') : TSt bx cs lo gl V es xs w0 W' :=
  ⟨h.row.below hb, (hb.block _ (heap_lt h.var)).trans h.var, (hb.block _ (heap_lt h.box)).trans h.box, below_step h.frame hb, h.lo0, Nat.le_trans h.lo1 hb.size, h.gl0⟩
/-- A rule was added: of the old blocks the list's own and the variable's may have turned. -/
def AddTo (lo gl : Nat) (w w' : World) : Prop := ∃ (V V' : Value) (n : Nat) (cs : List Value) (w1 : World), w.ownsRow lo 117 3 V n cs ∧ w.grownBy w1 V.ownBlock ∧ w1.heap[gl]? = some (.cells #[V] 58 (0, 0)) ∧ w' = w1.setCell ⟨gl, 0, none⟩ V'
theorem AddTo.words {lo gl l2 : Nat} {w w' : World} {V : Value} {us : List Value} {ts : List (List Int)} (h : AddTo lo gl w w') (hw : WdRow l2 V us ts w) : WdRow l2 V us ts w' := by
  obtain ⟨V0, V', n, cs, w1, ho, hg, hv, rfl⟩ := h
  exact (hw.kept ho hg (by decide) (by decide)).setvar hv (by decide) (by decide) V'

set_option maxRecDepth 100000 in
set_option maxHeartbeats 1000000 in
theorem tagAdd_any (bx : Nat) (cs : Array Value) (lo gl : Nat) (V u0 u1 : Value) (es : List EMarkovRule) (xs : List DMarkovRule) (f0 f1 : List Int) (w0 Wp Wa w : World) (h : TSt bx cs lo gl V es xs w0 Wp) (ha : Below Wp.heap.size Wp Wa) (q0 : Wd Wp.heap.size u0 f0 Wa) (hb : Below Wa.heap.size Wa w) (q1 : Wd Wa.heap.size u1 f1 w) (hn : xs.length ≤ 1000) :
    Calls Try.prog 130 #[u0, u1, .pointer (some ⟨gl, 0, none⟩)] w fun e w' => e = .returned (.tuple #[]) ∧ (∃ V' es', TSt bx cs lo gl V' es' (xs ++ [⟨f0, f1, false⟩]) w0 w') ∧ AddTo lo gl w w' := by
  have hab := below_step ha hb
  have hw := h.below hab
  have hlen := hw.row.len
  obtain ⟨m, hm⟩ : ∃ m, xs.length = m := ⟨_, rfl⟩
  rw [hm] at hn hlen
  have hown := hw.row.acc.own
  rw [hlen] at hown
  have HLEN := Lib.hid hlen
  obtain ⟨A, c, rfl⟩ := own_form hown
  have hq0 := q0
  have hq1 := q1
  obtain ⟨-, g0, c0, rfl, -, -⟩ := q0
  obtain ⟨-, g1, c1, rfl, -, -⟩ := q1
  obtain ⟨n0, hn0⟩ : ∃ n, f0.length = n := ⟨_, rfl⟩
  obtain ⟨n1, hn1⟩ : ∃ n, f1.length = n := ⟨_, rfl⟩
  have H := Lib.hid h; have HQ0 := Lib.hid hq0; have HQ1 := Lib.hid hq1; have HN0 := Lib.hid hn0; have HN1 := Lib.hid hn1
  rw [hn0, hn1]
  have v0 : w.cell? ⟨gl, 0, none⟩ = some (.slice A m c) := by rw [cell_of_heap hw.var]; rfl
  have f0' : w.frozen? ⟨gl, 0, none⟩ = false := frozen_of_heap hw.var
  have HV := Lib.hid hw.var; have HB := Lib.hid hw.box; have HF := Lib.hid hw.frame
  have lo1 := hw.lo1
  have lo0 := h.lo0
  have gl0 := h.gl0
  obtain ⟨wc, HWC, BC, yc⟩ := al1 w (.cells #[.slice (some ⟨g0, 0, none⟩) n0 c0, .slice (some ⟨g1, 0, none⟩) n1 c1, .bool false] 117)
  have slc : Src 3 wc (.slice (some ⟨w.heap.size, 0, none⟩) 1 1) 1 [.slice (some ⟨g0, 0, none⟩) n0 c0, .slice (some ⟨g1, 0, none⟩) n1 c1, .bool false] := Src.of_sl ⟨heap_lt yc, fun q v hq => by rw [cell_of_heap yc]; simpa using hq⟩ rfl
  have ownc := own_below' hown BC
  have hloc : lo ≤ wc.heap.size := Nat.le_trans lo1 BC.size
  have hvc : wc.heap[gl]? = some (.cells #[.slice A m c] 58 (0, 0)) := (BC.block _ (heap_lt HV.out)).trans HV.out
  have HOWN := Lib.hid hown
  clear yc hw h hq0 hq1 hn0 hn1 hm hlen hown
  go_enter Try.func130, Try.ntmps130
  go_wp2_with (at_builtin; rw [← HWC.out]; refine wpList_appx rfl _ _ _ rfl Try.underlying58 infoMarkovRule rfl (by omega) lo ownc hloc rfl slc rfl (one_all rfl) (by unfold maxLen; omega) (by omega) ?_; intro V4 w4 own4 hg4 hnil4; clear hnil4; have hv4 := grown_keep hg4 hvc (own_ne_block ownc hvc (by decide)); have cv4 : w4.cell? ⟨gl, 0, none⟩ = some (.slice A m c) := (by rw [cell_of_heap hv4]; rfl); have fv4 : w4.frozen? ⟨gl, 0, none⟩ = false := frozen_of_heap hv4; have HV4 := Lib.hid hv4; clear hv4; obtain ⟨A4, c4, rfl⟩ := own_form own4)
  go_end0
  have hbox4 := grown_keep hg4 ((BC.block _ (heap_lt HB.out)).trans HB.out) (own_ne_block ownc ((BC.block _ (heap_lt HB.out)).trans HB.out) (by decide))
  have hne : bx ≠ gl := heap_ne HB.out HV.out (by decide)
  have hsz : (w4.setCell ⟨gl, 0, none⟩ (.slice A4 (m + 1) c4)).heap.size = w4.heap.size := by simp [World.setCell]
  refine ⟨rfl, ⟨.slice A4 (m + 1) c4, es ++ [⟨⟨f0, f1, false⟩, .slice (some ⟨g0, 0, none⟩) n0 c0, .slice (some ⟨g1, 0, none⟩) n1 c1⟩], ?_, heap_set HV4.out _, heap_set_other hbox4 ⟨gl, 0, none⟩ hne _, ?_, lo0, ?_, gl0⟩, ?_⟩
  · refine MkRow.setvar ?_ HV4.out (by decide) (by decide) _
    exact H.out.row.push (V' := .slice A4 (m + 1) c4) (u0 := .slice (some ⟨g0, 0, none⟩) n0 c0) (u1 := .slice (some ⟨g1, 0, none⟩) n1 c1) H.out.lo1 ha (by have := HQ0.out; rwa [HN0.out] at this) hb (by have := HQ1.out; rwa [HN1.out] at this) BC hg4 (by rw [HLEN.out]; exact own4)
  · exact (grown_below (below_step HF.out BC) ownc lo0 hg4).setCell (p := ⟨gl, 0, none⟩) gl0 _
  · rw [hsz]; exact Nat.le_trans hloc hg4.size
  · refine ⟨.slice A m c, .slice A4 (m + 1) c4, m, rows EMarkovRule.vs es, w4, HOWN.out, ⟨hg4.os.trans BC.os, hg4.tape.trans BC.tape, hg4.output.trans BC.output, Nat.le_trans BC.size hg4.size, fun k hk hn => ?_⟩, HV4.out, rfl⟩
    exact (hg4.block k (Nat.lt_of_lt_of_le hk BC.size) hn).trans (BC.block k hk)
end Go.Proofs.Ytcfkjigapnknnaa

/- TagToMarkov of the program. -/
namespace Go.Proofs.Ytcfkjigapnknnaa
open Go.RowKit
set_option linter.all false

/-- TagToMarkov's answer at a valid tag system. -/
def tmk (d : Int) (ws : List (List Int)) (hs : List Int) : List DMarkovRule × Int := if tagOk d ws hs then (tagRules d ws hs, 0) else ([], 5)
theorem tmk_yes {d : Int} {ws : List (List Int)} {hs : List Int} (h : tagOk d ws hs = true) : tmk d ws hs = (tagRules d ws hs, 0) := by unfold tmk; rw [if_pos h]
theorem tmk_no {d : Int} {ws : List (List Int)} {hs : List Int} (h : tagOk d ws hs = false) : tmk d ws hs = ([], 5) := by unfold tmk; rw [h]; rfl
theorem MkRow.nilv (lo : Nat) (w : World) : MkRow lo (.slice none 0 0) [] [] w := ⟨⟨World.ownsRow_nil _ _ _ _, Inn.nil _ _ _ _ _⟩, (fun e h => by cases h), rfl⟩
theorem MkRow.base {lo lo' : Nat} {V : Value} {es : List EMarkovRule} {xs : List DMarkovRule} {W : World} (h : MkRow lo V es xs W) (hl : lo' ≤ lo) : MkRow lo' V es xs W :=
  ⟨⟨own_base h.acc.own hl, h.acc.inn.len, fun j v it h1 h2 => own_base (h.acc.inn.own j v it h1 h2) hl, h.acc.inn.top, h.acc.inn.apart⟩, h.adr, h.map⟩
theorem MkRow.addr {lo : Nat} {V : Value} {es : List EMarkovRule} {xs : List DMarkovRule} {W : World} (h : MkRow lo V es xs W) (hx : 0 < xs.length) : ∃ g c, V = .slice (some ⟨g, 0, none⟩) xs.length c ∧ xs.length ≤ c ∧ Sl W g 0 (rows EMarkovRule.vs es) := by
  have ho := h.acc.own
  rw [h.len] at ho
  rcases own_cases ho with ⟨h0, h1⟩ | ⟨g, c, e, hc⟩
  · omega
  · subst e; exact ⟨g, c, rfl, hc, sl_of_own ho⟩
theorem word_adr {w : World} {us : List Value} {ws : List (List Int)} (sr : Srcs 1 oneI w us ws) (au : AdrW us) {k : Nat} {x : List Int} (hx : ws[k]? = some x) : ∃ g, us[k]? = some (.slice (some ⟨g, 0, none⟩) x.length x.length) ∧ Sl w g 0 (x.map (Value.int .i64)) := by
  have hk := (List.getElem?_eq_some_iff.1 hx).1
  have hu : us[k]? = some (us[k]'(by rw [sr.1]; exact hk)) := List.getElem?_eq_getElem _
  obtain ⟨g, m, e⟩ := au _ (List.mem_of_getElem? hu)
  have h1 := sr.2 k _ x hu hx
  rw [e] at h1 hu
  rw [rows_oneI] at h1
  rcases h1.2 with ⟨h2, _⟩ | ⟨b, off, c, h2, h3⟩
  · cases h2
  · injection h2 with a1 a2 a3
    injection a1 with a1
    injection a1 with a4 a5
    subst a4; subst a5; subst a2
    obtain ⟨A, c', h4⟩ := Src.form h1
    exact ⟨g, hu, h3⟩

set_option maxRecDepth 100000 in
set_option maxHeartbeats 4000000 in
theorem implTagMk_any (d : Int) (bw ow nw cw : Nat) (us : List Value) (ws : List (List Int)) (bh oh nh ch : Nat) (hs : List Int) (w : World) (hv : validTag d ws hs = true)
    (sw : Sl w bw ow us) (sr : Srcs 1 oneI w us ws) (lw : ws.length = nw) (hnw : nw ≤ 1048576) (hsum : sumLen ws ≤ 1048576) (au : AdrW us) (sh : Sl w bh oh (hs.map (.int .i64))) (lh : hs.length = nh) (hnh : nh ≤ 1048576) :
    Calls Try.prog 72 #[.agg #[.int .i64 d, .slice (some ⟨bw, ow, none⟩) nw cw, .slice (some ⟨bh, oh, none⟩) nh ch]] w fun e w' => ∃ V es, e = .returned (.tuple #[V, .int .i64 (tmk d ws hs).2]) ∧ MkRow w.heap.size V es (tmk d ws hs).1 w' ∧ Below w.heap.size w w' := by
  obtain ⟨hd1, hd4, hn1, -, -, hws⟩ := validTag_parts hv
  rw [lw] at hn1
  have HWS : Hid (∀ x ∈ ws, x.length ≤ 1000) := fun x hx => (hws x hx).1
  have HLW := Lib.hid lw
  have HLH := Lib.hid lh
  have HAU := Lib.hid au
  clear hv hws hsum lh au
  obtain ⟨w1, HW1, B1, x1⟩ := al1 w (.cells #[.int .i64 d, .slice (some ⟨bw, ow, none⟩) nw cw, .slice (some ⟨bh, oh, none⟩) nh ch] 61)
  obtain ⟨box, HBX⟩ : ∃ box : Array Value, Hid (box = #[.int .i64 d, .slice (some ⟨bw, ow, none⟩) nw cw, .slice (some ⟨bh, oh, none⟩) nh ch]) := ⟨_, rfl⟩
  have l0 : w1.cell? ⟨w.heap.size, 0, none⟩ = some (.int .i64 d) := by rw [cell_of_heap x1]; rfl
  have l1 : w1.cell? ⟨w.heap.size, 1, none⟩ = some (.slice (some ⟨bw, ow, none⟩) nw cw) := by rw [cell_of_heap x1]; rfl
  have l2 : w1.cell? ⟨w.heap.size, 2, none⟩ = some (.slice (some ⟨bh, oh, none⟩) nh ch) := by rw [cell_of_heap x1]; rfl
  have HX1 := Lib.hid x1; clear x1
  by_cases hf : 2 * nw ≤ 9
  rotate_left
  · have HF : Hid (tmk d ws hs = ([], 5)) := tmk_no (by unfold tagOk; rw [lw, decide_eq_false (by omega)]; rfl)
    clear lw
    go_enter Try.func72, Try.ntmps72
    go_wp2_with fail
    rw [← HW1.out]
    refine (tagFront_no d _ nw cw _ _ (by omega) hnw).mono ?_
    rintro e w2 ⟨rfl, b2⟩
    go_wp2_with fail
    go_ret2
    exact ⟨_, [], ends2 (by rw [HF.out]), by rw [HF.out]; exact MkRow.nilv _ _, below_step B1 b2⟩
  have HEQ : Hid (tagRules d ws hs = rA nw nw ++ rB nw ws nw ++ rC nw (d - 1).toNat hs nw) := by unfold Hid; rw [tagRules_eq, lw]
  have HOK : Hid (tagOk d ws hs = validMks (tagRules d ws hs)) := by unfold Hid tagOk; rw [lw, decide_eq_true hf, Bool.true_and]
  obtain ⟨l, hl⟩ : ∃ l : Nat, d - 1 = (l : Int) := ⟨(d - 1).toNat, by omega⟩
  have wd : IntKind.i64.wrap (d - 1) = (l : Int) := by rw [IntWalk.i64_in _ (by omega)]; exact hl
  have hl3 : l ≤ 3 := by omega
  have HDL : Hid ((d - 1).toNat = l) := by unfold Hid; omega
  rw [HDL.out] at HEQ
  clear lw hl
  have hE := fun args W => enters_of' Try.func130 rfl rfl args W
  go_enter Try.func72, Try.ntmps72
  go_wp2_with fail
  rw [← HW1.out]
  refine (tagFront_yes d _ nw cw _ _ hf).mono ?_
  rintro e w2 ⟨rfl, b2⟩
  have B2 := below_step B1 b2
  obtain ⟨w3, HW3, BB, xa, xb⟩ := al2 w2 (.cells #[] 117) (.cells #[.slice (some ⟨w2.heap.size, 0, none⟩) 0 0] 58)
  have hsz2 := B2.size
  have T3 : TSt w.heap.size box w2.heap.size (w2.heap.size + 1) (.slice (some ⟨w2.heap.size, 0, none⟩) 0 0) [] [] w w3 := by
    refine ⟨?_, xb, ?_, below_step B2 BB, hsz2, BB.size, by omega⟩
    · have := (MkRow.nil w2).below (laid_below _ (.cells #[.slice (some ⟨w2.heap.size, 0, none⟩) 0 0] 58))
      rw [HW3.out]; exact this
    · rw [HBX.out]
      exact ((below_step b2 BB).block _ (heap_lt HX1.out)).trans HX1.out
  clear b2 xa xb l0 l1 l2
  go_wp2_with fail
  rw [← HW3.out]
  go_loopw [27] (fun i wr => ∃ (k : Nat) (V : Value) (es : List EMarkovRule), k ≤ nw ∧ i = .int .i64 k ∧ TSt w.heap.size box w2.heap.size (w2.heap.size + 1) V es (rA nw k) w wr) (fun i _ => nw - (intOf i).toNat)
  case atStart => exact ⟨0, _, _, Nat.zero_le _, rfl, T3⟩
  case round =>
    obtain ⟨k, V, es, hk, rfl, T⟩ := hrel
    clear T3 HW3 BB
    obtain ⟨wo, rfl⟩ : ∃ wo, wo = wr := ⟨_, rfl⟩
    by_cases hlt : k < nw
    · go_wp2_with fail
      go_loopw [31] (fun i wr => ∃ (j : Nat) (V : Value) (es : List EMarkovRule), j ≤ nw ∧ i = .int .i64 j ∧ TSt w.heap.size box w2.heap.size (w2.heap.size + 1) V es (rA2 nw k j) w wr) (fun i _ => nw - (intOf i).toNat)
      case atStart => exact ⟨0, V, es, Nat.zero_le _, rfl, by rw [rA2_zero]; exact T⟩
      case round =>
        obtain ⟨j, V2, es2, hj, rfl, T2⟩ := hrel
        clear T
        by_cases hjlt : j < nw
        rotate_left
        · obtain rfl : j = nw := by omega
          rw [← rA_succ] at T2
          go_wp2_with fail
          go_roundw
          case rel => exact ⟨k + 1, V2, es2, by omega, by go_num, T2⟩
          case measure => simp [intOf]; omega
        have w1' : IntKind.i64.wrap ((nw : Int) + (k : Int)) = (nw : Int) + (k : Int) := IntWalk.i64_in _ (by omega)
        obtain ⟨wa, HWA, BA, xa⟩ := al1 wr (.cells #[.int .i64 ((nw : Int) + (k : Int)), .int .i64 j] 2)
        obtain ⟨wb, HWB, BB, xb⟩ := al1 wa (.cells #[.int .i64 j, .int .i64 ((nw : Int) + (k : Int))] 2)
        have sza : wa.heap.size = wr.heap.size + 1 := by rw [HWA.out]; simp
        have q0 : Wd wr.heap.size (.slice (some ⟨wr.heap.size, 0, none⟩) 2 2) [(nw : Int) + (k : Int), (j : Int)] wa := by rw [HWA.out]; exact Wd.laid wr [(nw : Int) + (k : Int), (j : Int)] _ rfl (by simp)
        have q1 : Wd wa.heap.size (.slice (some ⟨wr.heap.size + 1, 0, none⟩) 2 2) [(j : Int), (nw : Int) + (k : Int)] wb := by rw [HWB.out, ← sza]; exact Wd.laid wa [(j : Int), (nw : Int) + (k : Int)] _ rfl (by simp)
        have hlen : (rA2 nw k j).length ≤ 1000 := by rw [rA2_len]; have : k * nw ≤ 4 * 4 := Nat.mul_le_mul (by omega) (by omega); omega
        have HLEN := Lib.hid hlen
        clear xa xb sza hlen
        go_wp2_with fail
        rw [← HWA.out, ← HWB.out]
        refine (tagAdd_any _ _ _ _ _ _ _ _ _ _ _ _ _ _ _ T2 BA q0 BB q1 HLEN.out).mono ?_
        rintro e w5 ⟨rfl, ⟨V5, es5, T5⟩, -⟩
        have T6 : TSt w.heap.size box w2.heap.size (w2.heap.size + 1) V5 es5 (rA2 nw k (j + 1)) w w5 := by rw [rA2_succ]; exact T5
        clear T2 q0 q1 BA BB T5
        go_wp2_with fail
        go_roundw
        case rel => exact ⟨j + 1, V5, es5, by omega, by go_num, T6⟩
        case measure => simp [intOf]; omega
    · obtain rfl : k = nw := by omega
      go_wp2_with fail
      go_loopw [49] (fun i wr => ∃ (j : Nat) (V : Value) (es : List EMarkovRule), j ≤ k ∧ i = .int .i64 j ∧ TSt w.heap.size box w2.heap.size (w2.heap.size + 1) V es (rA k k ++ rB k ws j) w wr) (fun i _ => k - (intOf i).toNat)
      case atStart => exact ⟨0, V, es, Nat.zero_le _, rfl, by rw [rB_zero, List.append_nil]; exact T⟩
      case round =>
        obtain ⟨j, V2, es2, hj, rfl, T2⟩ := hrel
        clear T
        obtain ⟨wo2, rfl⟩ : ∃ wo2, wo2 = wr := ⟨_, rfl⟩
        by_cases hjlt : j < k
        · obtain ⟨x, HX⟩ := hget HLW hjlt
          have w1' : IntKind.i64.wrap ((k : Int) + (j : Int)) = (k : Int) + (j : Int) := IntWalk.i64_in _ (by omega)
          obtain ⟨wa, HWA, BA, xa⟩ := al1 wo2 (.cells #[.int .i64 ((k : Int) + (j : Int))] 2)
          have q0 : Wd wo2.heap.size (.slice (some ⟨wo2.heap.size, 0, none⟩) 1 1) [(k : Int) + (j : Int)] wa := by rw [HWA.out]; exact Wd.laid wo2 [(k : Int) + (j : Int)] _ rfl (by simp)
          have Ta := T2.below BA
          obtain ⟨g, hu, hsx⟩ := word_adr (sr.below Ta.frame) HAU.out HX.out
          have hxl : x.length ≤ 1000 := HWS.out x (List.mem_of_getElem? HX.out)
          obtain ⟨m, hm⟩ : ∃ m, x.length = m := ⟨_, rfl⟩
          rw [hm] at hu hxl
          have HM := Lib.hid hm
          have l1 : wa.cell? ⟨w.heap.size, 1, none⟩ = some (.slice (some ⟨bw, ow, none⟩) k cw) := by rw [cell_of_heap Ta.box, HBX.out]; rfl
          have lu := (sw.below' Ta.frame).at hu
          have hlen : (rA k k ++ rB k ws j).length ≤ 1000 := by rw [List.length_append, rA_len, rB_len _ _ _ (by have := HLW.out; omega)]; have : k * k ≤ 4 * 4 := Nat.mul_le_mul (by omega) (by omega); omega
          have HLEN := Lib.hid hlen
          rw [HWA.out] at l1 lu
          clear xa hlen hm hu Ta
          go_wp2_with fail
          rw [← HWA.out]
          refine (cloneA_any g 0 m m x _ hsx HM.out (by omega)).mono ?_
          rintro e wb ⟨g2, d2, rfl, own2, BB, hd2⟩
          have q1 := Wd.of_own own2 (by intro h; cases h)
          clear own2 l1 lu hsx hd2
          go_wp2_with fail
          refine (tagAdd_any _ _ _ _ _ _ _ _ _ _ _ _ _ _ _ T2 BA q0 BB q1 HLEN.out).mono ?_
          rintro e w5 ⟨rfl, ⟨V5, es5, T5⟩, -⟩
          have T6 : TSt w.heap.size box w2.heap.size (w2.heap.size + 1) V5 es5 (rA k k ++ rB k ws (j + 1)) w w5 := by rw [rB_succ HX.out, ← List.append_assoc]; exact T5
          clear T2 q0 q1 BA BB T5
          go_wp2_with fail
          go_roundw
          case rel => exact ⟨j + 1, V5, es5, by omega, by go_num, T6⟩
          case measure => simp [intOf]; omega
        · obtain rfl : j = k := by omega
          obtain ⟨xs0, HXS0⟩ : ∃ xs0, Hid (xs0 = rA j j ++ rB j ws j) := ⟨_, rfl⟩
          have HL0 : Hid (xs0.length ≤ 20) := by
            unfold Hid; rw [HXS0.out, List.length_append, rA_len, rB_len _ _ _ (by have := HLW.out; omega)]
            have : j * j ≤ 4 * 4 := Nat.mul_le_mul (by omega) (by omega)
            omega
          rw [← HXS0.out] at T2
          go_wp2_with fail
          go_loopw [66] (fun i wr => ∃ (k : Nat) (V : Value) (es : List EMarkovRule), k ≤ j ∧ i = .int .i64 k ∧ TSt w.heap.size box w2.heap.size (w2.heap.size + 1) V es (xs0 ++ rC j l hs k) w wr) (fun i _ => j - (intOf i).toNat)
          case atStart => exact ⟨0, V2, es2, Nat.zero_le _, rfl, by rw [rC_zero, List.append_nil]; exact T2⟩
          case round =>
            obtain ⟨k, V3, es3, hk3, rfl, T3⟩ := hrel
            clear T2
            obtain ⟨wo3, rfl⟩ : ∃ wo3, wo3 = wr := ⟨_, rfl⟩
            have HLC : Hid ((rC j l hs k).length ≤ 256) := by
              have h1 := rC_len j l hs k
              have h2 := pow_small (n := j) (l := l) (by omega) hl3
              have h3 : k * j ^ l ≤ 4 * 64 := Nat.mul_le_mul (by omega) h2
              unfold Hid; omega
            by_cases hlt3 : k < j
            rotate_left
            · obtain rfl : k = j := by omega
              have hv : Hid (tagRules d ws hs = xs0 ++ rC k l hs k) := by unfold Hid; rw [HEQ.out, HXS0.out]
              have HSH : Hid (sumMarkovRule (xs0 ++ rC k l hs k) ≤ 1048576) := by
                have h1 := short_rC k l hs k (by omega)
                have h2 : Short xs0 := by rw [HXS0.out]; exact (short_rA k k).app (short_rB k ws HWS.out k (by have := HLW.out; omega))
                have h3 := (h2.app h1).sum
                have h4 := HL0.out; have h5 := HLC.out
                rw [List.length_append] at h3
                unfold Hid; omega
              have hx0 : 0 < (xs0 ++ rC k l hs k).length := by
                rw [List.length_append, HXS0.out, List.length_append, rB_len _ _ _ (by have := HLW.out; omega)]; omega
              have HLN : Hid ((xs0 ++ rC k l hs k).length ≤ 300) := by
                have h4 := HL0.out; have h5 := HLC.out
                unfold Hid; rw [List.length_append]; omega
              obtain ⟨gV, cV, rfl, hcV, slV⟩ := T3.row.addr hx0
              obtain ⟨m, hm⟩ : ∃ m, (xs0 ++ rC k l hs k).length = m := ⟨_, rfl⟩
              have HM := Lib.hid hm
              have lv : wo3.cell? ⟨w2.heap.size + 1, 0, none⟩ = some (.slice (some ⟨gV, 0, none⟩) m cV) := by rw [← hm, cell_of_heap T3.var]; rfl
              have hm3 : m ≤ 300 := by rw [← hm]; exact HLN.out
              clear hm hx0
              obtain ⟨v, hvd⟩ : ∃ v, validMks (xs0 ++ rC k l hs k) = v := ⟨_, rfl⟩
              have HVD := Lib.hid hvd; clear hvd
              have HOK2 : Hid (tagOk d ws hs = v) := by unfold Hid; rw [HOK.out, hv.out, HVD.out]
              cases v
              · have HF : Hid (tmk d ws hs = ([], 5)) := tmk_no HOK2.out
                go_wp2_with fail
                refine (implValidMarkov_is gV 0 m cV es3 _ false HVD.out _ slV T3.row.rcs T3.row.map HM.out (by omega) HSH.out).mono ?_
                rintro e w6 ⟨rfl, b6⟩
                have B6 := below_step T3.frame b6
                go_wp2_with fail
                go_ret2
                exact ⟨_, [], ends2 (by rw [HF.out]), by rw [HF.out]; exact MkRow.nilv _ _, B6⟩
              · have HF : Hid (tmk d ws hs = (xs0 ++ rC k l hs k, 0)) := by have := tmk_yes HOK2.out; rw [hv.out] at this; exact this
                go_wp2_with fail
                refine (implValidMarkov_is gV 0 m cV es3 _ true HVD.out _ slV T3.row.rcs T3.row.map HM.out (by omega) HSH.out).mono ?_
                rintro e w6 ⟨rfl, b6⟩
                have B6 := below_step T3.frame b6
                have R6 := (T3.row.below b6).base hsz2
                have lv6 := cell_step (by exact lv) b6
                clear lv slV T3
                rw [HM.out] at R6
                go_wp2_with fail
                go_ret2
                exact ⟨_, es3, ends2 (by rw [HF.out]), by rw [HF.out]; exact R6, B6⟩
            have l2 : wo3.cell? ⟨w.heap.size, 2, none⟩ = some (.slice (some ⟨bh, oh, none⟩) nh ch) := by rw [cell_of_heap T3.box, HBX.out]; rfl
            have l0 : wo3.cell? ⟨w.heap.size, 0, none⟩ = some (.int .i64 d) := by rw [cell_of_heap T3.box, HBX.out]; rfl
            have hah : Arg wo3 (some ⟨bh, oh, none⟩) nh (hs.map (.int .i64)) := Arg.of_sl (sh.below' T3.frame) (by have := HLH.out; simpa using this)
            rcases Bool.eq_false_or_eq_true (decide ((k : Int) ∈ hs)) with hm | hm
            · have HM := Lib.hid hm
              have T4 : TSt w.heap.size box w2.heap.size (w2.heap.size + 1) V3 es3 (xs0 ++ rC j l hs (k + 1)) w wo3 := by
                have e1 : rulesCi j l hs (k : Int) = [] := by unfold rulesCi; rw [if_pos (by simpa using hm)]
                rw [rC_succ, e1, List.append_nil]; exact T3
              clear hm T3
              go_wp2_with fail
              refine (containsI_is _ nh ch hs (k : Int) true HM.out _ hah hnh).mono ?_
              rintro e w' ⟨rfl, rfl⟩
              go_wp2_with fail
              go_roundw
              case rel => exact ⟨k + 1, V3, es3, by omega, by go_num, T4⟩
              case measure => simp [intOf]; omega
            have HM := Lib.hid hm
            have HCI : Hid (rulesCi j l hs (k : Int) = (wordsN j l).map (ruleC j k)) := by unfold Hid rulesCi; rw [if_neg (by simpa using hm)]
            clear hm
            go_wp2_with fail
            refine (containsI_is _ nh ch hs (k : Int) false HM.out _ hah hnh).mono ?_
            rintro e w' ⟨rfl, rfl⟩
            go_wp2_with fail
            refine (wordsOver_any j l _ (by omega) hl3).mono ?_
            rintro e w4 ⟨V4, us4, rfl, R4, B4⟩
            have T4 := T3.below B4
            clear T3 l0 l2 hah
            have HW := Lib.hid R4.len
            obtain ⟨AV, cV, rfl⟩ := own_form R4.own
            obtain ⟨m, hm⟩ : ∃ m, us4.length = m := ⟨_, rfl⟩
            have hm64 : m ≤ 64 := by rw [← hm, R4.len, wordsN_len]; exact pow_small (by omega) hl3
            rw [hm]
            have HMU := Lib.hid hm
            have HMW : Hid ((wordsN j l).length = m) := by unfold Hid; rw [← hm, R4.len]
            clear hm
            go_wp2_with fail
            go_loopw [79] (fun i wr => ∃ (q : Nat) (V : Value) (es : List EMarkovRule), q ≤ m ∧ i = .int .i64 q ∧ TSt w.heap.size box w2.heap.size (w2.heap.size + 1) V es (xs0 ++ rC j l hs k ++ ((wordsN j l).take q).map (ruleC j k)) w wr ∧ WdRow wo3.heap.size (.slice AV us4.length cV) us4 (wordsN j l) wr) (fun i _ => m - (intOf i).toNat)
            case atStart => exact ⟨0, V3, es3, Nat.zero_le _, rfl, by simpa using T4, R4⟩
            case round =>
              obtain ⟨q, V5, es5, hq, rfl, T5, R5⟩ := hrel
              clear T4 R4
              by_cases hqlt : q < m
              rotate_left
              · have T6 : TSt w.heap.size box w2.heap.size (w2.heap.size + 1) V5 es5 (xs0 ++ rC j l hs (k + 1)) w wr := by
                  rw [rC_succ, HCI.out, ← List.append_assoc]
                  rwa [List.take_of_length_le (by have := HMW.out; omega)] at T5
                clear T5 R5
                go_wp2_with fail
                go_roundw
                case rel => exact ⟨k + 1, V5, es5, by omega, by go_num, T6⟩
                case measure => simp [intOf]; omega
              obtain ⟨x, HX⟩ := hget HMW hqlt
              obtain ⟨u, hu, hsrc⟩ := R5.src HX.out
              obtain ⟨Au, cu, rfl⟩ := hsrc.form
              have hxl : x.length = l := wordsN_mem (List.mem_of_getElem? HX.out)
              rw [hxl] at hsrc hu
              obtain ⟨bA, oA, hA, hsl⟩ := (arg_of_own R5.own).sl (k := q) (by have := HMU.out; omega)
              have hcu := hsl.at hu
              subst hA
              have w1' : IntKind.i64.wrap ((j : Int) + (k : Int)) = (j : Int) + (k : Int) := IntWalk.i64_in _ (by omega)
              obtain ⟨wa, HWA, BA, xa, ya⟩ := al2 wr (.cells #[.int .i64 (2 * (j : Int)), .int .i64 k] 2) (.cells #[.slice (some ⟨wr.heap.size, 0, none⟩) 2 2, .slice Au l cu] 25)
              have sla : Sl wa (wr.heap.size + 1) 0 [.slice (some ⟨wr.heap.size, 0, none⟩) 2 2, .slice Au l cu] := ⟨heap_lt ya, fun q v hq => by rw [cell_of_heap ya]; simpa using hq⟩
              have sb : Src 1 wa (.slice (some ⟨wr.heap.size, 0, none⟩) 2 2) 2 ([2 * (j : Int), (k : Int)].map (Value.int .i64)) := Src.of_sl ⟨heap_lt xa, fun q v hq => by rw [cell_of_heap xa]; simpa using hq⟩ rfl
              have sa := hsrc.below BA
              have HXL := Lib.hid hxl
              clear xa ya hu hsl hxl hsrc
              go_wp2_with fail
              rw [← HWA.out]
              refine (joined2_any (wr.heap.size + 1) _ _ 2 l [2 * (j : Int), (k : Int)] x wa sla sb sa (by omega) (by omega)).mono ?_
              rintro e wb ⟨v, rfl, ownv, bb⟩
              obtain ⟨Av, cv, rfl⟩ := own_form ownv
              have hne : (.slice Av (2 + l) cv : Value) ≠ .slice none 0 0 := by
                intro h; injection h with _ h2 _; omega
              have q0 := Wd.of_own (own_base ownv BA.size) hne
              have BAB := below_step BA bb
              obtain ⟨wc, HWC, BC, xc⟩ := al1 wb (.cells #[.int .i64 (2 * (j : Int)), .int .i64 ((j : Int) + (k : Int))] 2)
              have q1 : Wd wb.heap.size (.slice (some ⟨wb.heap.size, 0, none⟩) 2 2) [2 * (j : Int), (j : Int) + (k : Int)] wc := by rw [HWC.out]; exact Wd.laid wb [2 * (j : Int), (j : Int) + (k : Int)] _ rfl (by simp)
              have HLEN : Hid ((xs0 ++ rC j l hs k ++ ((wordsN j l).take q).map (ruleC j k)).length ≤ 1000) := by
                unfold Hid
                have h1 := HL0.out; have h2 := HLC.out; have h3 := HMW.out
                rw [List.length_append, List.length_append, List.length_map, List.length_take]; omega
              have R6 := (R5.below BAB).below BC
              clear xc ownv sla sb sa bb BA R5 hcu
              go_wp2_with fail
              rw [← HWC.out]
              refine (tagAdd_any _ _ _ _ _ _ _ _ _ _ _ _ _ _ _ T5 BAB q0 BC q1 HLEN.out).mono ?_
              rintro e w7 ⟨rfl, ⟨V7, es7, T7⟩, A7⟩
              have R7 := A7.words R6
              have T8 : TSt w.heap.size box w2.heap.size (w2.heap.size + 1) V7 es7 (xs0 ++ rC j l hs k ++ ((wordsN j l).take (q + 1)).map (ruleC j k)) w w7 := by
                rw [List.take_add_one, HX.out, List.map_append, ← List.append_assoc]; exact T7
              clear T5 T7 R6 A7 q0 q1 BAB BC
              go_wp2_with fail
              go_roundw
              case rel => exact ⟨q + 1, V7, es7, by omega, by go_num, T8, R7⟩
              case measure => simp [intOf]; omega
end Go.Proofs.Ytcfkjigapnknnaa

/- Tag systems: what the reference's walk carries. Plain lemmas. -/
namespace Go.Proofs.Ytcfkjigapnknnaa
open Go.RowKit
set_option linter.all false

/-- No word of the rules lies in block g. -/
def ApartMk (g : Nat) (es : List EMarkovRule) : Prop := ∀ v ∈ es.flatMap kndMarkovRule.us, v.ownBlock ≠ some g
theorem ApartMk.of_row {lo : Nat} {V : Value} {es : List EMarkovRule} {xs : List DMarkovRule} {W : World} (h : MkRow lo V es xs W) {g : Nat} (hg : W.heap.size ≤ g) : ApartMk g es := by
  intro v hv e
  obtain ⟨j, hj⟩ := List.getElem?_of_mem hv
  have := h.acc.inn.top j v g hj e
  omega
theorem ApartMk.push {g : Nat} {es : List EMarkovRule} {e : EMarkovRule} {f0 f1 : List Int} {b0 b1 : Nat} {W0 W1 : World} (h : ApartMk g es) (q0 : Wd b0 e.u0 f0 W0) (q1 : Wd b1 e.u1 f1 W1) (h0 : g < b0) (h1 : g < b1) : ApartMk g (es ++ [e]) := by
  intro v hv
  rw [List.flatMap_append, List.mem_append] at hv
  rcases hv with hv | hv
  · exact h v hv
  · have hv2 : v = e.u0 ∨ v = e.u1 := by
      have : v ∈ [e.u0, e.u1] := by simpa [kndMarkovRule, EMarkovRule.us] using hv
      simpa using this
    rcases hv2 with rfl | rfl
    · intro e1; have := (q0.1.lt g e1).1; omega
    · intro e1; have := (q1.1.lt g e1).1; omega
theorem MkRow.setword {lo : Nat} {V : Value} {es : List EMarkovRule} {xs : List DMarkovRule} {W : World} {g i : Nat} {cs : Array Value} {fr : Nat × Nat} (h : MkRow lo V es xs W) (hg : W.heap[g]? = some (.cells cs 2 fr)) (ha : ApartMk g es) (u : Value) : MkRow lo V es xs (W.setCell ⟨g, i, none⟩ u) := by
  have hs : (W.setCell ⟨g, i, none⟩ u).heap.size = W.heap.size := by simp [World.setCell]
  refine ⟨⟨own_setCell h.acc.own (fun e1 => own_ne_block h.acc.own hg (by decide) e1) u, ?_⟩, ?_, h.map⟩
  · rw [hs]
    exact ⟨h.acc.inn.len, fun j v it h1 h2 => own_setCell (h.acc.inn.own j v it h1 h2) (fun e1 => ha v (List.mem_of_getElem? h1) e1.symm) u, h.acc.inn.top, h.acc.inn.apart⟩
  · rw [hs]; exact h.adr
theorem own_heap {w : World} {base : Nat} {e : TypeId} {s g n c : Nat} {xs : List Value} (h : w.ownsRow base e s (.slice (some ⟨g, 0, none⟩) n c) n xs) : ∃ cs, w.heap[g]? = some (.cells cs e (0, 0)) := by
  rcases h.2 with ⟨h1, _⟩ | ⟨g', cap, cur, h1, _, h2, _⟩
  · cases h1
  · injection h1 with h1
    injection h1 with h1
    injection h1 with h1
    subst h1
    exact ⟨cur, h2⟩
def lenV : Value → Nat
  | .slice _ n _ => n
  | _ => 0

theorem wordsN_in {n : Nat} : ∀ {l : Nat} {x : List Int}, x ∈ wordsN n l → ∀ a ∈ x, 0 ≤ a ∧ a < (n : Int) := by
  intro l
  induction l with
  | zero => intro x h a ha; simp [wordsN] at h; subst h; cases ha
  | succ l ih =>
    intro x h a ha
    simp only [wordsN, List.mem_flatMap, List.mem_map] at h
    obtain ⟨y, hy, b, hb, rfl⟩ := h
    rcases List.mem_append.1 ha with h1 | h1
    · exact ih hy a h1
    · have e := List.mem_singleton.1 h1
      subst e
      simp only [ltrs, List.mem_map, List.mem_range] at hb
      obtain ⟨c, hc, rfl⟩ := hb
      omega

/-- A word whose last letters were turned to 0. -/
def zeroed (x : List Int) (k : Nat) : List Int := x.take k ++ List.replicate (x.length - k) 0
theorem zeroed_all (x : List Int) : zeroed x x.length = x := by simp [zeroed]
theorem zeroed_len (x : List Int) (k : Nat) (h : k ≤ x.length) : (zeroed x k).length = x.length := by simp [zeroed]; omega
theorem zeroed_at {x : List Int} {k j : Nat} (h : j < k) : (zeroed x k)[j]? = x[j]? := by
  by_cases hj : j < x.length
  · rw [zeroed, List.getElem?_append_left (by rw [List.length_take]; omega), List.getElem?_take, if_pos h]
  · have h1 : x[j]? = none := List.getElem?_eq_none (by omega)
    have h2 : (zeroed x k)[j]? = none := List.getElem?_eq_none (by simp [zeroed]; omega)
    rw [h1, h2]
theorem zeroed_set {x : List Int} {k : Nat} (h : k < x.length) : (zeroed x (k + 1)).set k 0 = zeroed x k := by
  apply List.ext_getElem?
  intro j
  rw [List.getElem?_set]
  have hl := zeroed_len x (k + 1) (by omega)
  have hl2 := zeroed_len x k (by omega)
  by_cases hj : k = j
  · subst hj
    rw [if_pos rfl, if_pos (by omega), zeroed, List.getElem?_append_right (by rw [List.length_take]; omega), List.length_take, Nat.min_eq_left (by omega), Nat.sub_self, List.getElem?_replicate, if_pos (by omega)]
  · rw [if_neg hj]
    by_cases hjk : j < k
    · rw [zeroed_at (by omega), zeroed_at hjk]
    · by_cases hjl : j < x.length
      · rw [zeroed, zeroed, List.getElem?_append_right (by rw [List.length_take]; omega), List.getElem?_append_right (by rw [List.length_take]; omega), List.getElem?_replicate, List.getElem?_replicate, List.length_take, List.length_take, if_pos (by omega), if_pos (by omega)]
      · rw [List.getElem?_eq_none (by omega), List.getElem?_eq_none (by omega)]
theorem zeroed_next {n : Nat} {x : List Int} {k : Nat} {a : Int} (hk : x[k]? = some a) (ha : a ≠ (n : Int) - 1) (hq : ∀ b ∈ x.drop (k + 1), b = (n : Int) - 1) : nextW n x = some ((zeroed x (k + 1)).set k (a + 1)) := by
  obtain ⟨hlt, he⟩ := List.getElem?_eq_some_iff.1 hk
  have e1 : x = x.take k ++ a :: x.drop (k + 1) := by
    conv => lhs; rw [← List.take_append_drop k x, List.drop_eq_getElem_cons hlt, he]
  have h1 := nextW_turn ha hq (x.take k)
  rw [← e1] at h1
  rw [h1]
  congr 1
  have e2 : zeroed x (k + 1) = x.take k ++ a :: List.replicate (x.length - (k + 1)) 0 := by
    rw [zeroed, List.take_add_one, hk]; simp
  rw [e2, List.set_append_right _ _ (by rw [List.length_take]; omega), List.length_take, Nat.min_eq_left (by omega), Nat.sub_self, List.set_cons_zero, List.length_drop]
end Go.Proofs.Ytcfkjigapnknnaa

/- TagToMarkov of the reference. -/
namespace Go.Proofs.Ytcfkjigapnknnaa
open Go.RowKit
set_option linter.all false

theorem endsB {v : Value} {a b : Bool} (h : a = b) : Ending.returned (.tuple #[v, .bool a]) = .returned (.tuple #[v, .bool b]) := by rw [h]

set_option maxRecDepth 100000 in
set_option maxHeartbeats 4000000 in
theorem l16TagRules_any (gt : Nat) (d : Int) (bw ow nw cw : Nat) (us : List Value) (ws : List (List Int)) (bh oh nh ch : Nat) (hs : List Int) (w : World) (hv : validTag d ws hs = true)
    (t0 : w.cell? ⟨gt, 0, none⟩ = some (.int .i64 d)) (t1 : w.cell? ⟨gt, 1, none⟩ = some (.slice (some ⟨bw, ow, none⟩) nw cw)) (t2 : w.cell? ⟨gt, 2, none⟩ = some (.slice (some ⟨bh, oh, none⟩) nh ch))
    (sw : Sl w bw ow us) (sr : Srcs 1 oneI w us ws) (lw : ws.length = nw) (hnw : nw ≤ 1048576) (hsum : sumLen ws ≤ 1048576) (au : AdrW us) (sh : Sl w bh oh (hs.map (.int .i64))) (lh : hs.length = nh) (hnh : nh ≤ 1048576) :
    Calls Try.prog 69 #[.pointer (some ⟨gt, 0, none⟩)] w fun e w' => ∃ V es xs, e = .returned (.tuple #[V, .bool (tagOk d ws hs)]) ∧ MkRow w.heap.size V es xs w' ∧ (tagOk d ws hs = true → xs = tagRules d ws hs) ∧ Below w.heap.size w w' := by
  obtain ⟨hd1, hd4, hn1, -, -, hws⟩ := validTag_parts hv
  rw [lw] at hn1
  have HWS : Hid (∀ x ∈ ws, x.length ≤ 1000) := fun x hx => (hws x hx).1
  have HLW := Lib.hid lw
  have HLH := Lib.hid lh
  have HAU := Lib.hid au
  clear hv hws hsum lh au
  obtain ⟨w1, HW1, B1, R1⟩ : ∃ w1, Hid (w1 = w.alloc (.cells #[] 117)) ∧ Below w.heap.size w w1 ∧ MkRow w.heap.size (.slice (some ⟨w.heap.size, 0, none⟩) 0 0) [] [] w1 := ⟨_, rfl, laid_below _ _, MkRow.nil w⟩
  have T0 := Lib.hid t0; have T1 := Lib.hid t1; have T2 := Lib.hid t2
  have t1a := cell_step (by exact t1) (laid_below w (.cells #[] 117))
  have t1b := cell_step (by exact t1) B1
  by_cases hf : 2 * nw ≤ 9
  rotate_left
  · have HF : Hid (tagOk d ws hs = false) := by unfold Hid tagOk; rw [lw, decide_eq_false (by omega)]; rfl
    clear lw t0 t1 t2
    go_enter Try.func69, Try.ntmps69
    go_wp2_with fail
    rw [← HW1.out]
    refine (l16Front_is gt _ nw cw _ t1b hnw).mono ?_
    rintro e w' ⟨rfl, rfl⟩
    go_wp2_with fail
    go_ret2
    exact ⟨_, [], [], endsB (by rw [HF.out]), MkRow.nilv _ _, (fun h => by rw [HF.out] at h; cases h), B1⟩
  have HEQ : Hid (tagRules d ws hs = rA nw nw ++ rB nw ws nw ++ rC nw (d - 1).toNat hs nw) := by unfold Hid; rw [tagRules_eq, lw]
  have HOK : Hid (tagOk d ws hs = validMks (tagRules d ws hs)) := by unfold Hid tagOk; rw [lw, decide_eq_true hf, Bool.true_and]
  obtain ⟨l, hl⟩ : ∃ l : Nat, d - 1 = (l : Int) := ⟨(d - 1).toNat, by omega⟩
  have wd : IntKind.i64.wrap (d - 1) = (l : Int) := by rw [IntWalk.i64_in _ (by omega)]; exact hl
  have hl3 : l ≤ 3 := by omega
  have HDL : Hid ((d - 1).toNat = l) := by unfold Hid; omega
  rw [HDL.out] at HEQ
  clear lw hl t0 t1 t2
  go_enter Try.func69, Try.ntmps69
  go_wp2_with fail
  rw [← HW1.out]
  refine (l16Front_is gt _ nw cw _ t1b hnw).mono ?_
  rintro e w' ⟨rfl, rfl⟩
  go_wp2_with fail
  clear t1a t1b
  go_loopw [4, 7] (fun V i wr => ∃ (k : Nat) (es : List EMarkovRule), k ≤ nw ∧ i = .int .i64 k ∧ MkRow w.heap.size V es (rA nw k) wr ∧ Below w.heap.size w wr) (fun _ i _ => nw - (intOf i).toNat)
  case atStart => exact ⟨0, _, Nat.zero_le _, rfl, R1, B1⟩
  case round =>
    obtain ⟨k, es, hk, rfl, R, B⟩ := hrel
    clear R1 B1 HW1
    obtain ⟨wo, rfl⟩ : ∃ wo, wo = wr := ⟨_, rfl⟩
    by_cases hlt : k < nw
    · go_wp2_with fail
      go_loopw [4, 8] (fun V i wr => ∃ (j : Nat) (es : List EMarkovRule), j ≤ nw ∧ i = .int .i64 j ∧ MkRow w.heap.size V es (rA2 nw k j) wr ∧ Below w.heap.size w wr) (fun _ i _ => nw - (intOf i).toNat)
      case atStart => exact ⟨0, es, Nat.zero_le _, rfl, by rw [rA2_zero]; exact R, B⟩
      case round =>
        obtain ⟨j, es2, hj, rfl, R2, B2⟩ := hrel
        clear R B
        by_cases hjlt : j < nw
        rotate_left
        · obtain rfl : j = nw := by omega
          rw [← rA_succ] at R2
          go_wp2_with fail
          go_roundw
          case rel => exact ⟨k + 1, es2, by omega, by go_num, R2, B2⟩
          case measure => simp [intOf]; omega
        have w1' : IntKind.i64.wrap ((nw : Int) + (k : Int)) = (nw : Int) + (k : Int) := IntWalk.i64_in _ (by omega)
        obtain ⟨A, c, rfl⟩ := own_form R2.acc.own
        obtain ⟨m, hm⟩ : ∃ m, es2.length = m := ⟨_, rfl⟩
        have hm20 : m ≤ 20 := by rw [← hm, R2.len, rA2_len]; have : k * nw ≤ 4 * 4 := Nat.mul_le_mul (by omega) (by omega); omega
        rw [hm]
        have HM := Lib.hid hm
        have own0 := R2.acc.own
        rw [hm] at own0
        clear hm
        obtain ⟨wa, HWA, BA, xa⟩ := al1 wr (.cells #[.int .i64 ((nw : Int) + (k : Int)), .int .i64 j] 2)
        obtain ⟨wb, HWB, BB, xb⟩ := al1 wa (.cells #[.int .i64 j, .int .i64 ((nw : Int) + (k : Int))] 2)
        have sza : wa.heap.size = wr.heap.size + 1 := by rw [HWA.out]; simp
        have szb : wb.heap.size = wr.heap.size + 1 + 1 := by rw [HWB.out, ← sza]; simp
        have q0 : Wd wr.heap.size (.slice (some ⟨wr.heap.size, 0, none⟩) 2 2) [(nw : Int) + (k : Int), (j : Int)] wa := by rw [HWA.out]; exact Wd.laid wr [(nw : Int) + (k : Int), (j : Int)] _ rfl (by simp)
        have q1 : Wd wa.heap.size (.slice (some ⟨wr.heap.size + 1, 0, none⟩) 2 2) [(j : Int), (nw : Int) + (k : Int)] wb := by rw [HWB.out, ← sza]; exact Wd.laid wa [(j : Int), (nw : Int) + (k : Int)] _ rfl (by simp)
        obtain ⟨wc, HWC, BC, xc⟩ := al1 wb (.cells #[.slice (some ⟨wr.heap.size, 0, none⟩) 2 2, .slice (some ⟨wr.heap.size + 1, 0, none⟩) 2 2, .bool false] 117)
        have slc : Src 3 wc (.slice (some ⟨wr.heap.size + 1 + 1, 0, none⟩) 1 1) 1 [.slice (some ⟨wr.heap.size, 0, none⟩) 2 2, .slice (some ⟨wr.heap.size + 1, 0, none⟩) 2 2, .bool false] := by rw [← szb]; exact Src.of_sl ⟨heap_lt xc, fun q v hq => by rw [cell_of_heap xc]; simpa using hq⟩ rfl
        have Bac := below_step (below_step BA BB) BC
        have ownc := own_below' own0 Bac
        have hsz := Nat.le_trans B2.size Bac.size
        have BW := below_step B2 Bac
        clear xa xb xc sza szb own0
        go_wp2_with (at_builtin; rw [← HWA.out, ← HWB.out, ← HWC.out]; refine wpList_appx rfl _ _ _ rfl Try.underlying58 infoMarkovRule rfl (by omega) w.heap.size ownc hsz rfl slc rfl (one_all rfl) (by unfold maxLen; omega) (by omega) ?_; intro V4 w4 own4 hg4 hnil4; clear hnil4; have BG := grown_below BW ownc (Nat.le_refl _) hg4; obtain ⟨A4, c4, rfl⟩ := own_form own4)
        have R5 : MkRow w.heap.size (.slice A4 (m + 1) c4) (es2 ++ [⟨⟨[(nw : Int) + (k : Int), (j : Int)], [(j : Int), (nw : Int) + (k : Int)], false⟩, .slice (some ⟨wr.heap.size, 0, none⟩) 2 2, .slice (some ⟨wr.heap.size + 1, 0, none⟩) 2 2⟩]) (rA2 nw k (j + 1)) w4 := by
          have h1 := R2.push B2.size BA q0 BB q1 BC (by rw [HM.out]; exact hg4) (f2 := false) (by rw [HM.out]; exact own4)
          rw [rA2_succ]; exact h1
        clear R2 q0 q1 BA BB BC slc Bac ownc hsz BW own4 hg4
        go_roundw
        case rel => exact ⟨j + 1, _, by omega, by go_num, R5, BG⟩
        case measure => simp [intOf]; omega
    · obtain rfl : k = nw := by omega
      go_wp2_with fail
      go_loopw [4, 9] (fun V i wr => ∃ (j : Nat) (es : List EMarkovRule), j ≤ k ∧ i = .int .i64 j ∧ MkRow w.heap.size V es (rA k k ++ rB k ws j) wr ∧ Below w.heap.size w wr) (fun _ i _ => k - (intOf i).toNat)
      case atStart => exact ⟨0, es, Nat.zero_le _, rfl, by rw [rB_zero, List.append_nil]; exact R, B⟩
      case round =>
        obtain ⟨j, es2, hj, rfl, R2, B2⟩ := hrel
        clear R B
        obtain ⟨wo2, rfl⟩ : ∃ wo2, wo2 = wr := ⟨_, rfl⟩
        by_cases hjlt : j < k
        · obtain ⟨x, HX⟩ := hget HLW hjlt
          have w1' : IntKind.i64.wrap ((k : Int) + (j : Int)) = (k : Int) + (j : Int) := IntWalk.i64_in _ (by omega)
          obtain ⟨A, c, rfl⟩ := own_form R2.acc.own
          obtain ⟨m, hm⟩ : ∃ m, es2.length = m := ⟨_, rfl⟩
          have hm20 : m ≤ 20 := by rw [← hm, R2.len, List.length_append, rA_len, rB_len _ _ _ (by have := HLW.out; omega)]; have : k * k ≤ 4 * 4 := Nat.mul_le_mul (by omega) (by omega); omega
          rw [hm]
          have HM := Lib.hid hm
          have own0 := R2.acc.own
          rw [hm] at own0
          clear hm
          obtain ⟨wa, HWA, BA, xa⟩ := al1 wo2 (.cells #[.int .i64 ((k : Int) + (j : Int))] 2)
          have q0 : Wd wo2.heap.size (.slice (some ⟨wo2.heap.size, 0, none⟩) 1 1) [(k : Int) + (j : Int)] wa := by rw [HWA.out]; exact Wd.laid wo2 [(k : Int) + (j : Int)] _ rfl (by simp)
          have Ba := below_step B2 BA
          obtain ⟨g, hu, hsx⟩ := word_adr (sr.below Ba) HAU.out HX.out
          have hxl : x.length ≤ 1000 := HWS.out x (List.mem_of_getElem? HX.out)
          obtain ⟨mx, hmx⟩ : ∃ m, x.length = m := ⟨_, rfl⟩
          rw [hmx] at hu hxl
          have HMX := Lib.hid hmx
          have l1 := cell_step (by exact T1.out) Ba
          have lu := (sw.below' Ba).at hu
          rw [HWA.out] at l1 lu
          clear xa hmx hu
          go_wp2_with fail
          rw [← HWA.out]
          refine (l00OwnA_any g 0 mx mx x _ hsx HMX.out (by omega)).mono ?_
          rintro e wb ⟨g2, d2, rfl, own2, BB, hd2⟩
          have q1 := Wd.of_own own2 (by intro h; cases h)
          obtain ⟨wc, HWC, BC, xc⟩ := al1 wb (.cells #[.slice (some ⟨wo2.heap.size, 0, none⟩) 1 1, .slice (some ⟨g2, 0, none⟩) mx d2, .bool false] 117)
          have slc : Src 3 wc (.slice (some ⟨wb.heap.size, 0, none⟩) 1 1) 1 [.slice (some ⟨wo2.heap.size, 0, none⟩) 1 1, .slice (some ⟨g2, 0, none⟩) mx d2, .bool false] := Src.of_sl ⟨heap_lt xc, fun q v hq => by rw [cell_of_heap xc]; simpa using hq⟩ rfl
          have Bac := below_step (below_step BA BB) BC
          have ownc := own_below' own0 Bac
          have hsz := Nat.le_trans B2.size Bac.size
          have BW := below_step B2 Bac
          clear own2 l1 lu hsx hd2 xc own0
          go_wp2_with (at_builtin; rw [← HWC.out]; refine wpList_appx rfl _ _ _ rfl Try.underlying58 infoMarkovRule rfl (by omega) w.heap.size ownc hsz rfl slc rfl (one_all rfl) (by unfold maxLen; omega) (by omega) ?_; intro V4 w4 own4 hg4 hnil4; clear hnil4; have BG := grown_below BW ownc (Nat.le_refl _) hg4; obtain ⟨A4, c4, rfl⟩ := own_form own4)
          have R5 : MkRow w.heap.size (.slice A4 (m + 1) c4) (es2 ++ [⟨⟨[(k : Int) + (j : Int)], x, false⟩, .slice (some ⟨wo2.heap.size, 0, none⟩) 1 1, .slice (some ⟨g2, 0, none⟩) mx d2⟩]) (rA k k ++ rB k ws (j + 1)) w4 := by
            have h1 := R2.push B2.size BA q0 BB q1 BC (by rw [HM.out]; exact hg4) (f2 := false) (by rw [HM.out]; exact own4)
            rw [rB_succ HX.out, ← List.append_assoc]; exact h1
          clear R2 q0 q1 BA BB BC slc Bac ownc hsz BW own4 hg4
          go_roundw
          case rel => exact ⟨j + 1, _, by omega, by go_num, R5, BG⟩
          case measure => simp [intOf]; omega
        · obtain rfl : j = k := by omega
          obtain ⟨xs0, HXS0⟩ : ∃ xs0, Hid (xs0 = rA j j ++ rB j ws j) := ⟨_, rfl⟩
          have HL0 : Hid (xs0.length ≤ 20) := by
            unfold Hid; rw [HXS0.out, List.length_append, rA_len, rB_len _ _ _ (by have := HLW.out; omega)]
            have : j * j ≤ 4 * 4 := Nat.mul_le_mul (by omega) (by omega)
            omega
          have HSH0 : Hid (Short xs0) := by unfold Hid; rw [HXS0.out]; exact (short_rA j j).app (short_rB j ws HWS.out j (by have := HLW.out; omega))
          rw [← HXS0.out] at R2
          have hpos : 0 < xs0.length := by rw [HXS0.out, List.length_append, rB_len _ _ _ (by have := HLW.out; omega)]; omega
          have HPOS := Lib.hid hpos; clear hpos
          go_wp2_with fail
          go_loopw [4, 10] (fun V i wr => ∃ (q : Nat) (es : List EMarkovRule) (acc : List DMarkovRule), q ≤ j ∧ i = .int .i64 q ∧ MkRow w.heap.size V es acc wr ∧ Below w.heap.size w wr ∧ Hid (MkRel acc (xs0 ++ rC j l hs q)) ∧ Hid (acc.length ≤ 60 + q) ∧ Hid (Short acc) ∧ Hid (0 < acc.length)) (fun _ i _ => j - (intOf i).toNat)
          case atStart => exact ⟨0, es2, xs0, Nat.zero_le _, rfl, R2, B2, .inl (by rw [rC_zero, List.append_nil]), by have := HL0.out; unfold Hid; omega, HSH0, HPOS⟩
          case round =>
            obtain ⟨q, es3, acc, hq, rfl, R3, B3, HREL, HLEN, HSH, HP⟩ := hrel
            clear R2 B2
            obtain ⟨wo3, rfl⟩ : ∃ wo3, wo3 = wr := ⟨_, rfl⟩
            by_cases hqlt : q < j
            rotate_left
            · obtain rfl : q = j := by omega
              have hvq : Hid (tagRules d ws hs = xs0 ++ rC q l hs q) := by unfold Hid; rw [HEQ.out, HXS0.out]
              have HSUM : Hid (sumMarkovRule acc ≤ 1048576) := by have h1 := HSH.out.sum; have h2 := HLEN.out; unfold Hid; omega
              obtain ⟨gV, cV, rfl, hcV, slV⟩ := R3.addr HP.out
              obtain ⟨m, hm⟩ : ∃ m, acc.length = m := ⟨_, rfl⟩
              have hm3 : m ≤ 300 := by have := HLEN.out; omega
              rw [hm] at hcV ⊢
              have HM := Lib.hid hm; clear hm
              obtain ⟨v, hvd⟩ : ∃ v, validMks acc = v := ⟨_, rfl⟩
              have HVD := Lib.hid hvd; clear hvd
              have HOK2 : Hid (tagOk d ws hs = v) := by
                unfold Hid; rw [HOK.out, hvq.out]
                cases v with
                | true => rw [← HREL.out.yes HVD.out]; exact HVD.out
                | false => exact HREL.out.no HVD.out
              have HXE : Hid (tagOk d ws hs = true → acc = tagRules d ws hs) := by
                intro h; rw [hvq.out]; exact HREL.out.yes (by rw [HVD.out, ← HOK2.out]; exact h)
              go_wp2_with fail
              refine (l10Markov_is gV 0 m cV es3 acc v HVD.out _ slV R3.rcs R3.map HM.out (by omega) HSUM.out).mono ?_
              rintro e w6 ⟨rfl, rfl⟩
              rw [HM.out] at R3
              go_wp2_with fail
              go_ret2
              exact ⟨_, es3, acc, endsB (by rw [HOK2.out]), R3, HXE.out, B3⟩
            have hmk := fun W => run_make_row' (P := Try.prog) 25 2 (Value.int .i64 0) 8 Try.underlying25 infoInt64S rfl .i64 .i64 l (by omega) (by omega) W
            obtain ⟨wx, HWX, BX, OX⟩ : ∃ wx, Hid (wx = wo3.alloc (.cells (madeCells #[Value.int .i64 0] l) 2)) ∧ Below wo3.heap.size wo3 wx ∧ wx.ownsRow wo3.heap.size 2 1 (.slice (some ⟨wo3.heap.size, 0, none⟩) l l) l ((List.replicate l (0 : Int)).map (Value.int .i64)) :=
              ⟨_, rfl, laid_below _ _, own_of_rowIs (World.rowIs_made wo3 (Value.int .i64 0) l 2) (Nat.le_refl _) (by unfold maxLen; omega) (by simp) (fun j u hu => by rw [List.map_replicate, List.getElem?_replicate] at hu; split at hu; (injection hu); cases hu)⟩
            have sx : wx.heap.size = wo3.heap.size + 1 := by rw [HWX.out]; simp
            have RX := R3.below BX
            have BWX := below_step B3 BX
            obtain ⟨A, c, rfl⟩ := own_form R3.acc.own
            obtain ⟨m0, hm0⟩ : ∃ m, es3.length = m := ⟨_, rfl⟩
            have hm60 : m0 ≤ 64 := by rw [← hm0, R3.len]; have := HLEN.out; omega
            rw [hm0]
            have HM0 := Lib.hid hm0
            clear hm0
            have ld := cell_step (by exact T0.out) B3
            rcases Bool.eq_false_or_eq_true (decide ((q : Int) ∈ hs)) with hmem | hmem
            · have HM := Lib.hid hmem
              have HREL2 : Hid (MkRel acc (xs0 ++ rC j l hs (q + 1))) := by
                have e1 : rulesCi j l hs (q : Int) = [] := by unfold rulesCi; rw [if_pos (by simpa using hmem)]
                unfold Hid; rw [rC_succ, e1, List.append_nil]; exact HREL.out
              clear hmem
              go_wp2_with fail
              rw [← HWX.out]
              clear hmk
              go_loopw [4] (fun V wr => V = .slice A m0 c ∧ wr = wx) (fun _ _ => 0)
              case atStart => exact ⟨rfl, rfl⟩
              case round =>
                obtain ⟨rfl, rfl⟩ := hrel
                have lh := cell_step (by exact T2.out) BWX
                have hah : Arg wr (some ⟨bh, oh, none⟩) nh (hs.map (.int .i64)) := Arg.of_sl (sh.below' BWX) (by have := HLH.out; simpa using this)
                go_wp2_with fail
                refine (l00Has_is _ nh ch hs (q : Int) true HM.out _ hah hnh).mono ?_
                rintro e w' ⟨rfl, rfl⟩
                rw [HM0.out] at RX
                go_wp2_with fail
                go_roundw
                case rel => exact ⟨q + 1, es3, acc, by omega, by go_num, RX, BWX, HREL2, by have := HLEN.out; unfold Hid; omega, HSH, HP⟩
                case measure => simp [intOf]; omega
            have HM := Lib.hid hmem
            have HCI : Hid (rulesCi j l hs (q : Int) = (wordsN j l).map (ruleC j q)) := by unfold Hid rulesCi; rw [if_neg (by simpa using hmem)]
            clear hmem
            have hch := chain_words j (by omega) l
            rw [wordsC_eq] at hch
            have HCH := Lib.hid hch; clear hch
            have wl : IntKind.i64.wrap ((l : Int) - 1) = (l : Int) - 1 := IntWalk.i64_in _ (by omega)
            have wj : IntKind.i64.wrap ((j : Int) - 1) = (j : Int) - 1 := IntWalk.i64_in _ (by omega)
            have wjq : IntKind.i64.wrap ((j : Int) + (q : Int)) = (j : Int) + (q : Int) := IntWalk.i64_in _ (by omega)
            have AP := ApartMk.of_row R3 (Nat.le_refl _)
            rw [HM0.out] at RX
            go_wp2_with fail
            rw [← HWX.out]
            clear hmk
            obtain ⟨gx, hgx⟩ : ∃ gx, wo3.heap.size = gx := ⟨_, rfl⟩
            rw [hgx] at OX AP sx ⊢
            have hgw : w.heap.size ≤ gx := by rw [← hgx]; exact B3.size
            clear hgx ld
            go_loopw [4] (fun V wr => ∃ (es : List EMarkovRule) (done rest : List (List Int)) (cur : List Int), MkRow w.heap.size V es (acc ++ done.map (ruleC j q)) wr ∧ Below w.heap.size w wr ∧ wr.ownsRow gx 2 1 (.slice (some ⟨gx, 0, none⟩) l l) l (cur.map (Value.int .i64)) ∧ gx < wr.heap.size ∧ ApartMk gx es ∧ Hid (done ++ rest = wordsN j l) ∧ Hid (ChainW j cur rest) ∧ Hid (acc.length + done.length ≤ 60 + q)) (fun V _ => 100 - lenV V)
            case atStart => exact ⟨es3, [], wordsN j l, List.replicate l 0, by simpa using RX, BWX, OX, by omega, AP, rfl, HCH.out, by have := HLEN.out; simpa [Hid] using this⟩
            case round =>
              obtain ⟨es5, done, rest, cur, R5, B5, O5, hgx5, AP5, HDN, HCC, HL5⟩ := hrel
              clear RX BWX OX AP R3 B3 HWX BX sx
              obtain ⟨wo5, rfl⟩ : ∃ wo5, wo5 = wr := ⟨_, rfl⟩
              have lh := cell_step (by exact T2.out) B5
              have hah : Arg wo5 (some ⟨bh, oh, none⟩) nh (hs.map (.int .i64)) := Arg.of_sl (sh.below' B5) (by have := HLH.out; simpa using this)
              obtain ⟨A5, c5, rfl⟩ := own_form R5.acc.own
              obtain ⟨m, hm⟩ : ∃ m, es5.length = m := ⟨_, rfl⟩
              have hml : m = acc.length + done.length := by rw [← hm, R5.len, List.length_append, List.length_map]
              have hm64 : m ≤ 64 := by have := HL5.out; omega
              rw [hm]
              have HMM := Lib.hid hm
              have HML := Lib.hid hml
              have own0 := R5.acc.own
              rw [hm] at own0
              clear hm hml
              have hcl : cur.length = l := by have := O5.1; simpa using this
              have HCL := Lib.hid hcl; clear hcl
              obtain ⟨wa, HWA, BA, xa⟩ := al1 wo5 (.cells #[.int .i64 (2 * (j : Int)), .int .i64 q] 2)
              have owna : wa.ownsRow wo5.heap.size 2 1 (.slice (some ⟨wo5.heap.size, 0, none⟩) 2 2) 2 ([2 * (j : Int), (q : Int)].map (Value.int .i64)) := by
                rw [HWA.out]; exact own_laid wo5 2 1 2 #[.int .i64 (2 * (j : Int)), .int .i64 q] rfl (by unfold maxLen; omega)
              have O5a := own_below' O5 BA
              have srca := Src.of_own O5a
              have B5a := below_step B5 BA
              clear xa
              go_wp2_with fail
              refine (l00Has_is _ nh ch hs (q : Int) false HM.out _ hah hnh).mono ?_
              rintro e w' ⟨rfl, hw'⟩
              subst hw'
              clear lh hah
              go_wp2_with (first
                | (at_builtin; rw [← HWA.out]; refine wpList_appx rfl _ _ _ rfl Try.underlying25 infoInt64S rfl (by omega) wo5.heap.size owna BA.size rfl srca rfl (one_ints _ _) (by unfold maxLen; omega) (by omega) ?_; intro vb wb ownb hgb hnilb; obtain ⟨Ab, cb, rfl⟩ := own_form ownb; have Bb := grown_below BA owna (Nat.le_refl _) hgb; have q0 : Wd wo5.heap.size (.slice Ab (2 + l) cb) ([2 * (j : Int), (q : Int)] ++ cur) wb := (Wd.of_own (n := 2 + l) (by rw [List.map_append]; exact ownb) (by intro h; injection h with _ h2 _; omega)); clear owna srca hgb hnilb ownb BA; obtain ⟨wc, HWC, BC, xc⟩ := al1 wb (.cells #[.int .i64 (2 * (j : Int)), .int .i64 ((j : Int) + (q : Int))] 2); have szc : wc.heap.size = wb.heap.size + 1 := (by rw [HWC.out]; simp); have q1 : Wd wb.heap.size (.slice (some ⟨wb.heap.size, 0, none⟩) 2 2) [2 * (j : Int), (j : Int) + (q : Int)] wc := (by rw [HWC.out]; exact Wd.laid wb [2 * (j : Int), (j : Int) + (q : Int)] _ rfl (by simp)); obtain ⟨wd', HWD, BD, xd⟩ := al1 wc (.cells #[.slice Ab (2 + l) cb, .slice (some ⟨wb.heap.size, 0, none⟩) 2 2, .bool false] 117); have slc : Src 3 wd' (.slice (some ⟨wb.heap.size + 1, 0, none⟩) 1 1) 1 [.slice Ab (2 + l) cb, .slice (some ⟨wb.heap.size, 0, none⟩) 2 2, .bool false] := (by rw [← szc]; exact Src.of_sl ⟨heap_lt xd, fun q v hq => by rw [cell_of_heap xd]; simpa using hq⟩ rfl); have Bad := below_step (below_step Bb BC) BD; have ownd := own_below' own0 Bad; have O5d := own_below' O5 Bad; have hszd := Nat.le_trans B5.size Bad.size; have BWD := below_step B5 Bad; clear xc xd)
                | (at_builtin; rw [← HWC.out, ← HWD.out]; refine wpList_appx rfl _ _ _ rfl Try.underlying58 infoMarkovRule rfl (by omega) w.heap.size ownd hszd rfl slc rfl (one_all rfl) (by unfold maxLen; omega) (by omega) ?_; intro V4 w4 own4 hg4 hnil4; clear hnil4; have BG := grown_below BWD ownd (Nat.le_refl _) hg4; have O54 := O5d.kept hg4 (own_apart_ty O5d ownd (by decide)); obtain ⟨A4, c4, rfl⟩ := own_form own4))
              have R6 : MkRow w.heap.size (.slice A4 (m + 1) c4) (es5 ++ [⟨⟨[2 * (j : Int), (q : Int)] ++ cur, [2 * (j : Int), (j : Int) + (q : Int)], false⟩, .slice Ab (2 + l) cb, .slice (some ⟨wb.heap.size, 0, none⟩) 2 2⟩]) (acc ++ (done ++ [cur]).map (ruleC j q)) w4 := by
                have h1 := R5.push B5.size Bb q0 BC q1 BD (by rw [HMM.out]; exact hg4) (f2 := false) (by rw [HMM.out]; exact own4)
                rw [List.map_append, ← List.append_assoc]; exact h1
              have AP6 := ApartMk.push (e := ⟨⟨[2 * (j : Int), (q : Int)] ++ cur, [2 * (j : Int), (j : Int) + (q : Int)], false⟩, .slice Ab (2 + l) cb, .slice (some ⟨wb.heap.size, 0, none⟩) 2 2⟩) AP5 q0 q1 hgx5 (Nat.lt_of_lt_of_le hgx5 Bb.size)
              have hgx6 : gx < w4.heap.size := Nat.lt_of_lt_of_le hgx5 (Nat.le_trans Bad.size hg4.size)
              obtain ⟨es6, HES6⟩ : ∃ es6 : List EMarkovRule, Hid (es6 = es5 ++ [(⟨⟨[2 * (j : Int), (q : Int)] ++ cur, [2 * (j : Int), (j : Int) + (q : Int)], false⟩, .slice Ab (2 + l) cb, .slice (some ⟨wb.heap.size, 0, none⟩) 2 2⟩ : EMarkovRule)]) := ⟨_, rfl⟩
              rw [← HES6.out] at R6 AP6
              clear R5 AP5 O5 q0 q1 Bb BC BD slc Bad ownd O5d hszd BWD own4 hg4 own0 O5a B5a
              have HCUR : Hid (∀ a ∈ cur, 0 ≤ a ∧ a < (j : Int)) := by
                obtain ⟨t, ht⟩ := HCC.out.head
                have hmem : cur ∈ wordsN j l := by rw [← HDN.out, ht]; simp
                exact wordsN_in hmem
              go_loopw [13] (fun v wr => ∃ kk : Nat, kk ≤ l ∧ v = .int .i64 ((kk : Int) - 1) ∧ MkRow w.heap.size (.slice A4 (m + 1) c4) es6 (acc ++ (done ++ [cur]).map (ruleC j q)) wr ∧ Below w.heap.size w wr ∧ wr.ownsRow gx 2 1 (.slice (some ⟨gx, 0, none⟩) l l) l ((zeroed cur kk).map (Value.int .i64)) ∧ gx < wr.heap.size ∧ Hid (∀ b ∈ cur.drop kk, b = (j : Int) - 1)) (fun v _ => (intOf v + 1).toNat)
              case atStart => exact ⟨l, Nat.le_refl _, rfl, R6, BG, by rw [← HCL.out, zeroed_all, HCL.out]; exact O54, hgx6, by unfold Hid; rw [← HCL.out, List.drop_length]; intro b hb; cases hb⟩
              case round =>
                obtain ⟨kk, hkk, rfl, R7, B7, O7, hgx7, HALL⟩ := hrel
                clear R6 BG O54 hgx6
                obtain ⟨wo7, rfl⟩ : ∃ wo7, wo7 = wr := ⟨_, rfl⟩
                rcases Nat.eq_zero_or_pos kk with h0 | h0
                · subst h0
                  have e0 : ((0 : Nat) : Int) - 1 = -1 := rfl
                  rw [e0]
                  have HNX : Hid (nextW j cur = none) := nextW_all (by have := HALL.out; rwa [List.drop_zero] at this)
                  have hrest := HCC.out.none HNX.out
                  have HW : Hid (done ++ [cur] = wordsN j l) := by rw [← hrest]; exact HDN.out
                  rw [HW.out] at R7
                  have HREL2 : Hid (MkRel (acc ++ (wordsN j l).map (ruleC j q)) (xs0 ++ rC j l hs (q + 1))) := by
                    unfold Hid; rw [rC_succ, HCI.out, ← List.append_assoc]; exact HREL.out.app _
                  have HLEN2 : Hid ((acc ++ (wordsN j l).map (ruleC j q)).length ≤ 60 + (q + 1)) := by
                    have h1 := HL5.out
                    unfold Hid; rw [← HW.out, List.length_append, List.length_map, List.length_append, List.length_singleton]; omega
                  have HSH2 : Hid (Short (acc ++ (wordsN j l).map (ruleC j q))) := HSH.out.app (short_map fun x hx => short_C j q x (by rw [wordsN_mem hx]; omega))
                  have HP2 : Hid (0 < (acc ++ (wordsN j l).map (ruleC j q)).length) := by have := HP.out; unfold Hid; rw [List.length_append]; omega
                  clear hrest e0
                  go_wp2_with fail
                  go_roundw
                  case rel => exact ⟨q + 1, es6, _, by omega, by go_num, R7, B7, HREL2, HLEN2, HSH2, HP2⟩
                  case measure => simp [intOf]; omega
                obtain ⟨p, rfl⟩ : ∃ p, kk = p + 1 := ⟨kk - 1, by omega⟩
                have e0 : ((p + 1 : Nat) : Int) - 1 = (p : Int) := by omega
                rw [e0]
                clear h0 e0
                have hplt : p < cur.length := by have := HCL.out; omega
                obtain ⟨a, ha⟩ : ∃ a, cur[p]? = some a := ⟨_, List.getElem?_eq_getElem hplt⟩
                have HAT := Lib.hid ha; clear ha
                have hca : wo7.cell? ⟨gx, p, none⟩ = some (.int .i64 a) := by
                  rw [O7.cellAt p (by omega), List.getElem?_map, zeroed_at (by omega), HAT.out]; rfl
                have hfa := O7.frozenAt p
                have hp0 : (0 : Int) ≤ (p : Int) := by omega
                have hp1 : (p : Int) < (l : Int) := by omega
                have haj := HCUR.out a (List.mem_of_getElem? HAT.out)
                have HAJ := Lib.hid haj; clear haj
                have wp1 : IntKind.i64.wrap ((p : Int) - 1) = (p : Int) - 1 := IntWalk.i64_in _ (by omega)
                by_cases hea : a = (j : Int) - 1
                · have e1 : (a == (j : Int) - 1) = true := by simpa using hea
                  have HE := Lib.hid hea; clear hea
                  have hst := O7.stored p (.int .i64 0)
                  have O8 : (wo7.setCell ⟨gx, p, none⟩ (.int .i64 0)).ownsRow gx 2 1 (.slice (some ⟨gx, 0, none⟩) l l) l ((zeroed cur p).map (Value.int .i64)) := by
                    have := hst.1
                    rw [← zeroed_set hplt, List.map_set]; exact this
                  obtain ⟨xcs, hxcs⟩ := own_heap O7
                  have R8 := R7.setword (i := p) hxcs AP6 (.int .i64 0)
                  have B8 := B7.setCell (p := ⟨gx, p, none⟩) hgw (.int .i64 0)
                  have hgx8 : gx < (wo7.setCell ⟨gx, p, none⟩ (.int .i64 0)).heap.size := by simpa [World.setCell] using hgx7
                  have HALL8 : Hid (∀ b ∈ cur.drop p, b = (j : Int) - 1) := by
                    intro b hb
                    rw [drop_at HAT.out] at hb
                    rcases List.mem_cons.1 hb with rfl | hb
                    · exact HE.out
                    · exact HALL.out b hb
                  clear hst hxcs R7 B7 O7
                  go_wp2_with fail
                  go_roundw
                  case rel => exact ⟨p, by omega, by go_num, R8, B8, O8, hgx8, HALL8⟩
                  case measure => first | (simp [intOf]; done) | (simp [intOf]; omega)
                · have e1 : (a == (j : Int) - 1) = false := by simpa using hea
                  have hnext := zeroed_next (n := j) HAT.out hea HALL.out
                  obtain ⟨t, ht, hct⟩ := HCC.out.some hnext
                  have HT := Lib.hid ht; have HCT := Lib.hid hct
                  clear hea hnext ht hct
                  have HW : Hid ((done ++ [cur]) ++ t = wordsN j l) := by unfold Hid; rw [List.append_assoc, ← HDN.out, HT.out]; rfl
                  by_cases h60 : 60 < m + 1
                  · have hlen : (acc ++ (done ++ [cur]).map (ruleC j q)).length = m + 1 := by
                      have := HML.out; rw [List.length_append, List.length_map, List.length_append, List.length_singleton]; omega
                    have HREL2 : Hid (MkRel (acc ++ (done ++ [cur]).map (ruleC j q)) (xs0 ++ rC j l hs (q + 1))) := by
                      have em : (wordsN j l).map (ruleC j q) = (done ++ [cur]).map (ruleC j q) ++ t.map (ruleC j q) := by rw [← HW.out, List.map_append]
                      unfold Hid
                      rw [rC_succ, HCI.out, em, ← List.append_assoc xs0, ← List.append_assoc (xs0 ++ rC j l hs q)]
                      exact (HREL.out.app _).cut (by rw [hlen]; exact h60) _
                    have HLEN2 : Hid ((acc ++ (done ++ [cur]).map (ruleC j q)).length ≤ 60 + (q + 1)) := by
                      have h1 := HL5.out; have h2 := HML.out
                      unfold Hid; rw [hlen]; omega
                    have HSH2 : Hid (Short (acc ++ (done ++ [cur]).map (ruleC j q))) := HSH.out.app (short_map fun x hx => short_C j q x (by
                      have : x ∈ wordsN j l := by rw [← HW.out]; exact List.mem_append_left _ hx
                      rw [wordsN_mem this]; omega))
                    have HP2 : Hid (0 < (acc ++ (done ++ [cur]).map (ruleC j q)).length) := by unfold Hid; rw [hlen]; omega
                    have h60i : (60 : Int) < ((m + 1 : Nat) : Int) := by omega
                    clear hlen
                    go_wp2_with fail
                    go_roundw
                    case rel => exact ⟨q + 1, es6, _, by omega, by go_num, R7, B7, HREL2, HLEN2, HSH2, HP2⟩
                    case measure => simp [intOf]; omega
                  · have hst := O7.stored p (.int .i64 (a + 1))
                    have wa1 : IntKind.i64.wrap (a + 1) = a + 1 := IntWalk.i64_in _ (by have := HAJ.out; omega)
                    have O8 : (wo7.setCell ⟨gx, p, none⟩ (.int .i64 (a + 1))).ownsRow gx 2 1 (.slice (some ⟨gx, 0, none⟩) l l) l (((zeroed cur (p + 1)).set p (a + 1)).map (Value.int .i64)) := by
                      have := hst.1
                      rw [List.map_set]; exact this
                    obtain ⟨xcs, hxcs⟩ := own_heap O7
                    have R8 := R7.setword (i := p) hxcs AP6 (.int .i64 (a + 1))
                    have B8 := B7.setCell (p := ⟨gx, p, none⟩) hgw (.int .i64 (a + 1))
                    have hgx8 : gx < (wo7.setCell ⟨gx, p, none⟩ (.int .i64 (a + 1))).heap.size := by simpa [World.setCell] using hgx7
                    have HL8 : Hid (acc.length + (done ++ [cur]).length ≤ 60 + q) := by
                      have h2 := HML.out; unfold Hid; rw [List.length_append, List.length_singleton]; omega
                    have h60i : ¬ (60 : Int) < ((m + 1 : Nat) : Int) := by omega
                    clear hst hxcs R7 B7 O7
                    go_wp2_with fail
                    go_roundw
                    case rel => exact ⟨es6, done ++ [cur], t, _, R8, B8, O8, hgx8, AP6, HW, HCT, HL8⟩
                    case measure => simp [lenV]; omega
end Go.Proofs.Ytcfkjigapnknnaa
