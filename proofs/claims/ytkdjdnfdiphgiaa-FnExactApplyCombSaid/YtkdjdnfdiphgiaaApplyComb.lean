/- ApplyComb on both sides. -/
import Derived.Test.YtkdjdnfdiphgiaaCombAbs1
import Derived.Test.YtkdjdnfdiphgiaaAreCombs
import Derived.Test.YtkdjdnfdiphgiaaHeld
import Derived.Test.YtkdjdnfdiphgiaaCombSub
namespace Go.Proofs.Ytkdjdnfdiphgiaa
open Go.RowKit
set_option linter.all false

/-- What ApplyComb gives. -/
def applyC (xs : List R2) (ts : List (List R2)) : List R2 := List.replicate ts.length ⟨0, 0⟩ ++ (xs ++ ts.flatten)
def applyComb (xs : List R2) (ts : List (List R2)) : List R2 × Int := if validC xs && ts.all validC then fitC (applyC xs ts) else ([], 1)
theorem bndApplyComb0 (xs : List R2) (ts : List (List R2)) (h : xs.length ≤ 1048576) (h1 : ts.length ≤ 1048576) (h2 : sumLen ts ≤ 1048576) : (applyComb xs ts).1.length ≤ 1048576 := by
  unfold applyComb
  split
  · have := fitC_len (applyC xs ts); omega
  · simp
theorem rws_of_srcs {w : World} {vs : List Value} {ts : List (List R2)} (h : Srcs 2 R2.vs w vs ts) (hs : sumLen ts ≤ 1048576) : Rws w vs ts :=
  ⟨h.1, fun j v t h1 h2 => ⟨h.2 j v t h1 h2, by have := sumLen_at h2; omega⟩⟩
theorem flatten_len {α : Type} (ts : List (List α)) : ts.flatten.length = sumLen ts := by simp [List.length_flatten, sumLen]
theorem applyC_len (xs : List R2) (ts : List (List R2)) : (applyC xs ts).length = ts.length + xs.length + ts.flatten.length := by simp [applyC]; omega

set_option maxRecDepth 100000 in
set_option maxHeartbeats 1000000 in
theorem l18Apply_any (A : Option Addr) (n c b off m c2 : Nat) (xs : List R2) (vs : List Value) (ts : List (List R2)) (w : World) (hx : Src 2 w (.slice A n c) n (rows R2.vs xs)) (hs : Sl w b off vs) (hv : Rws w vs ts) (hm : ts.length = m) (hm1 : m ≤ 1048576) (hn : n ≤ 1048576) (hsum : sumLen ts ≤ 1048576) :
    Calls Try.prog 69 #[.slice A n c, .slice (some ⟨b, off, none⟩) m c2] w fun e w' => ∃ v, e = .returned v ∧ w'.ownsRow w.heap.size 98 2 v (m + n + ts.flatten.length) (rows R2.vs (applyC xs ts)) ∧ Below w.heap.size w w' := by
  have HM := Lib.hid hm
  have HS := Lib.hid hsum; clear hsum
  have HO := Lib.hid (one_rows_Comb xs)
  have hmk := fun W => run_make_rows (P := Try.prog) 45 98 _ 2 16 Try.underlying45 infoComb .i64 .i64 m (by omega) (by omega) W
  simp only [Value.cells] at hmk
  have hz : madeCells #[Value.int .i64 0, .int .i64 0] (m * 2) = (rows R2.vs (List.replicate m (⟨0, 0⟩ : R2))).toArray := made_zero2 m
  rw [hz] at hmk
  have hown0 : (w.alloc (.cells (rows R2.vs (List.replicate m (⟨0, 0⟩ : R2))).toArray 98)).ownsRow w.heap.size 98 2 (.slice (some ⟨w.heap.size, 0, none⟩) m m) m (rows R2.vs (List.replicate m (⟨0, 0⟩ : R2))) := by
    have := own_laid w 98 2 m (rows R2.vs (List.replicate m (⟨0, 0⟩ : R2))).toArray (by simp [rows_len R2.vs_len]) (by unfold maxLen; omega)
    simpa using this
  have hb0 := laid_below w (.cells (rows R2.vs (List.replicate m (⟨0, 0⟩ : R2))).toArray 98)
  have hx0 := hx.below hb0
  clear hz
  go_enter Try.func69, Try.ntmps69
  go_wp2_with (at_builtin; refine wpList_appx rfl _ _ _ rfl Try.underlying45 infoComb rfl (by omega) w.heap.size hown0 hb0.size rfl hx0 rfl HO.out (by unfold maxLen; omega) (by omega) ?_; intro v1 w1 hown1 hg1 hnil1; have hb1 := grown_below hb0 hown0 (Nat.le_refl _) hg1; clear hmk hnil1 hown0 hx0 hg1 hb0)
  go_loopw [5, 6] (fun v i wr => ∃ k : Nat, k ≤ m ∧ i = .int .i64 k ∧ wr.ownsRow w.heap.size 98 2 v (m + n + (ts.take k).flatten.length) (rows R2.vs (List.replicate m (⟨0, 0⟩ : R2)) ++ rows R2.vs xs ++ rows R2.vs (ts.take k).flatten) ∧ Below w.heap.size w wr) (fun _ i _ => m - (intOf i).toNat)
  case atStart => exact ⟨0, Nat.zero_le _, rfl, by simpa [rows] using hown1, hb1⟩
  case round =>
    obtain ⟨k, hk, rfl, hown, hB⟩ := hrel
    clear hown1 hb1
    by_cases hlt : k < m
    · obtain ⟨t, HT⟩ := hget HM hlt
      obtain ⟨u, hu⟩ : ∃ u, vs[k]? = some u := ⟨_, List.getElem?_eq_getElem (by have := hv.1; omega)⟩
      obtain ⟨hsrc, hl⟩ := (hv.below hB).2 k u t hu HT.out
      have hca := (hs.below' hB).at hu
      have HO2 := Lib.hid (one_rows_Comb t)
      have hst := sumLen_take HT.out
      have hsl := sumLen_le ts (k + 1)
      have HF2 : Hid (rows R2.vs (ts.take (k + 1)).flatten = rows R2.vs (ts.take k).flatten ++ rows R2.vs t) := by unfold Hid; rw [List.take_add_one, HT.out]; simp [rows_app]
      have HL2 : Hid ((ts.take (k + 1)).flatten.length = (ts.take k).flatten.length + t.length) := by unfold Hid; rw [flatten_len, flatten_len, hst]
      have hpb : (ts.take k).flatten.length + t.length ≤ 1048576 := by rw [flatten_len]; have := HS.out; omega
      obtain ⟨p, hp⟩ : ∃ p, p = (ts.take k).flatten.length := ⟨_, rfl⟩
      obtain ⟨q, hq⟩ : ∃ q, q = t.length := ⟨_, rfl⟩
      rw [← hp] at hown hpb
      rw [← hq] at hsrc hpb
      rw [← hp, ← hq] at HL2
      clear hp hq hst hsl hu hs hv hx hm
      go_wp2_with (at_builtin; refine wpList_appx rfl _ _ _ rfl Try.underlying45 infoComb rfl (by omega) w.heap.size hown hB.size rfl hsrc rfl HO2.out (by unfold maxLen; omega) (by omega) ?_; intro v2 w2 hown2 hg2 hnil2; have hb2 := grown_below hB hown (Nat.le_refl _) hg2; clear hnil2 hown hsrc hg2 hB)
      go_roundw
      case rel => exact ⟨k + 1, by omega, by go_num, by rw [HL2.out, HF2.out, ← List.append_assoc, ← Nat.add_assoc]; exact hown2, hb2⟩
      case measure => simp [intOf]; omega
    · obtain rfl : m = k := by omega
      rw [List.take_of_length_le (by have := HM.out; omega)] at hown
      go_wp2
      go_ret
      exact ⟨_, rfl, by unfold applyC; rw [HM.out, rows_app, rows_app, ← List.append_assoc]; exact hown, hB⟩

set_option maxRecDepth 100000 in
theorem implApplyComb_any (b1 o1 n1 c1 : Nat) (xs : List R2) (b2 o2 n2 c2 : Nat) (vs : List Value) (ts : List (List R2)) (w : World) (hs1 : Sl w b1 o1 (rows R2.vs xs)) (hl1 : xs.length = n1) (hn1 : n1 ≤ 1048576) (hc1 : n1 ≤ c1) (hf1 : ∀ x ∈ xs, x.wf) (hs2 : Sl w b2 o2 vs) (hv0 : Srcs 2 R2.vs w vs ts) (hl2 : ts.length = n2) (hn2 : n2 ≤ 1048576) (hsum : sumLen ts ≤ 1048576) (hf2 : ∀ t ∈ ts, ∀ x ∈ t, x.wf) :
    Calls Try.prog 40 #[.slice (some ⟨b1, o1, none⟩) n1 c1, .slice (some ⟨b2, o2, none⟩) n2 c2] w fun e w' => ∃ v, e = .returned (.tuple #[v, .int .i64 (applyComb xs ts).2]) ∧
      w'.ownsRow w.heap.size 98 2 v (applyComb xs ts).1.length (rows R2.vs (applyComb xs ts).1) ∧ Below w.heap.size w w' := by
  have hv := rws_of_srcs hv0 hsum
  have HL1 := Lib.hid hl1; have HL2 := Lib.hid hl2; have HSM := Lib.hid hsum
  clear hl1 hf1 hf2 hv0 hl2 hsum
  have HA := Lib.hid (Args.of_sl (n := n1) (s := 2) hs1 (by rw [rows_len R2.vs_len, HL1.out]))
  have HAR := Lib.hid (Arg.of_sl (n := n2) hs2 (by rw [hv.1, HL2.out]))
  have HV := Lib.hid hv; clear hv
  rcases Bool.eq_false_or_eq_true (validC xs) with hx | hx
  rotate_left
  · have HMM : Hid (applyComb xs ts = ([], 1)) := by unfold Hid applyComb; rw [hx]; rfl
    have HX := Lib.hid hx; clear hx
    rw [HMM.out]
    go_enter Try.func40, Try.ntmps40
    go_wp2_with fail
    refine (validComb_is _ n1 c1 xs false HX.out _ HA.out hn1).mono ?_
    rintro e w1 ⟨rfl, hb1⟩
    go_wp2_with fail
    go_ret2
    exact ⟨_, rfl, World.ownsRow_nil _ _ _ _, hb1⟩
  rcases Bool.eq_false_or_eq_true (ts.all validC) with ht | ht
  rotate_left
  · have HMM : Hid (applyComb xs ts = ([], 1)) := by unfold Hid applyComb; rw [hx, ht]; rfl
    have HX := Lib.hid hx; have HT := Lib.hid ht; clear hx ht
    rw [HMM.out]
    go_enter Try.func40, Try.ntmps40
    go_wp2_with fail
    refine (validComb_is _ n1 c1 xs true HX.out _ HA.out hn1).mono ?_
    rintro e w1 ⟨rfl, hb1⟩
    go_wp2_with fail
    refine (areCombs_is _ n2 c2 vs ts false HT.out _ (HAR.out.below hb1) (HV.out.below hb1) HL2.out hn2).mono ?_
    rintro e w2 ⟨rfl, hb2⟩
    go_wp2_with fail
    go_ret2
    exact ⟨_, rfl, World.ownsRow_nil _ _ _ _, below_step hb1 hb2⟩
  have h4 := validC_len' hx
  rw [HL1.out] at h4
  have HMM : Hid (applyComb xs ts = fitC (applyC xs ts)) := by unfold Hid applyComb; rw [hx, ht]; rfl
  have HX := Lib.hid hx; have HT := Lib.hid ht; clear hx ht
  have HS := Lib.hid (Src.of_sl (n := n1) (size := 2) (c := c1) hs1 (by rw [rows_len R2.vs_len, HL1.out]))
  rw [HMM.out]
  obtain ⟨m, hm⟩ : ∃ m, m = n2 + n1 + ts.flatten.length := ⟨_, rfl⟩
  have hm2 : m ≤ 4194304 := by rw [hm, flatten_len]; have := HSM.out; omega
  have HMN : Hid (n2 + n1 + ts.flatten.length = m) := hm.symm
  clear hm
  have HSF : Hid (ts.flatten.length ≤ 4194304) := by unfold Hid; rw [flatten_len]; have := HSM.out; omega
  go_enter Try.func40, Try.ntmps40
  go_wp2_with fail
  refine (validComb_is _ n1 c1 xs true HX.out _ HA.out hn1).mono ?_
  rintro e w1 ⟨rfl, hb1⟩
  go_wp2_with fail
  refine (areCombs_is _ n2 c2 vs ts true HT.out _ (HAR.out.below hb1) (HV.out.below hb1) HL2.out hn2).mono ?_
  rintro e w2 ⟨rfl, hb2⟩
  have hB2 := below_step hb1 hb2
  go_wp2_with fail
  refine (applyComb_any _ n1 c1 xs b2 o2 n2 c2 vs ts _ (HS.out.below hB2) (hs2.below' hB2) (HV.out.below hB2) HL2.out hn2 hn1 HSF.out).mono ?_
  rintro e w3 ⟨v3, rfl, hown3, hb3⟩
  rw [HMN.out] at hown3
  have hB3 := below_step hB2 hb3
  obtain ⟨A3, c3, rfl⟩ := own_form hown3
  have HCL : Hid (List.replicate n2 (⟨0, 0⟩ : R2) ++ xs ++ ts.flatten = applyC xs ts) := by unfold Hid applyC; rw [HL2.out, List.append_assoc]
  go_wp2_with fail
  refine (shortComb_any w.heap.size m c3 A3 (applyC xs ts) _ (by first | exact own_base hown3 hB2.size | (rw [← HCL.out]; exact own_base hown3 hB2.size)) (by omega)).mono ?_
  rintro e w4 ⟨⟨v4, rfl, hown4⟩, rfl⟩
  go_wp2_with fail
  go_ret2
  exact ⟨_, rfl, hown4, hB3⟩

set_option maxRecDepth 100000 in
set_option maxHeartbeats 1000000 in
theorem specApplyComb_any (b1 o1 n1 c1 : Nat) (xs : List R2) (b2 o2 n2 c2 : Nat) (vs : List Value) (ts : List (List R2)) (w : World) (hs1 : Sl w b1 o1 (rows R2.vs xs)) (hl1 : xs.length = n1) (hn1 : n1 ≤ 1048576) (hc1 : n1 ≤ c1) (hf1 : ∀ x ∈ xs, x.wf) (hs2 : Sl w b2 o2 vs) (hv0 : Srcs 2 R2.vs w vs ts) (hl2 : ts.length = n2) (hn2 : n2 ≤ 1048576) (hsum : sumLen ts ≤ 1048576) (hf2 : ∀ t ∈ ts, ∀ x ∈ t, x.wf) :
    Calls Try.prog 37 #[.slice (some ⟨b1, o1, none⟩) n1 c1, .slice (some ⟨b2, o2, none⟩) n2 c2] w fun e w' => ∃ v, e = .returned (.tuple #[v, .int .i64 (applyComb xs ts).2]) ∧
      w'.ownsRow w.heap.size 98 2 v (applyComb xs ts).1.length (rows R2.vs (applyComb xs ts).1) ∧ Below w.heap.size w w' := by
  have hv := rws_of_srcs hv0 hsum
  have HL1 := Lib.hid hl1; have HL2 := Lib.hid hl2; have HSM := Lib.hid hsum
  clear hl1 hf1 hf2 hv0 hl2 hsum
  have HA := Lib.hid (Args.of_sl (n := n1) (s := 2) hs1 (by rw [rows_len R2.vs_len, HL1.out]))
  rcases Bool.eq_false_or_eq_true (validC xs) with hx | hx
  rotate_left
  · have HMM : Hid (applyComb xs ts = ([], 1)) := by unfold Hid applyComb; rw [hx]; rfl
    have HX := Lib.hid hx; clear hx
    rw [HMM.out]
    go_enter Try.func37, Try.ntmps37
    go_wp2_with fail
    refine (l12Comb_is _ n1 c1 xs false HX.out _ HA.out hn1).mono ?_
    rintro e w1 ⟨rfl, rfl⟩
    go_wp2_with fail
    go_ret2
    exact ⟨_, rfl, World.ownsRow_nil _ _ _ _, Below.refl _ _⟩
  have h4 := validC_len' hx
  rw [HL1.out] at h4
  have HX := Lib.hid hx; clear hx
  have HS := Lib.hid (Src.of_sl (n := n1) (size := 2) (c := c1) hs1 (by rw [rows_len R2.vs_len, HL1.out]))
  have HSF : Hid (ts.flatten.length ≤ 4194304) := by unfold Hid; rw [flatten_len]; have := HSM.out; omega
  go_enter Try.func37, Try.ntmps37
  go_wp2_with fail
  refine (l12Comb_is _ n1 c1 xs true HX.out _ HA.out hn1).mono ?_
  rintro e w1 ⟨rfl, rfl⟩
  go_wp2_with fail
  go_loop [6] (fun i => ∃ k : Nat, k ≤ n2 ∧ i = .int .i64 k ∧ Hid (∀ j t, j < k → ts[j]? = some t → validC t = true)) (fun i => n2 - (intOf i).toNat)
  case atStart => exact ⟨0, Nat.zero_le _, rfl, by intro j t hj; omega⟩
  case round =>
    obtain ⟨k, hk, rfl, HR⟩ := hrel
    by_cases hlt : k < n2
    · obtain ⟨t, HT⟩ := hget HL2 hlt
      obtain ⟨u, hu⟩ : ∃ u, vs[k]? = some u := ⟨_, List.getElem?_eq_getElem (by have := hv.1; have := HL2.out; omega)⟩
      obtain ⟨hsrc, hl⟩ := hv.2 k u t hu HT.out
      obtain ⟨A2, c3, rfl⟩ := hsrc.form
      have hca := hs2.at hu
      have har := hsrc.args
      clear hu hsrc
      rcases Bool.eq_false_or_eq_true (validC t) with hb | hb
      · have HB := Lib.hid hb; clear hb
        go_wp2_with fail
        refine (l12Comb_is A2 t.length c3 t true HB.out _ har hl).mono ?_
        rintro e w1 ⟨rfl, rfl⟩
        clear hca har
        go_wp2_with fail
        go_round
        case rel => exact ⟨k + 1, by omega, by go_num, by
          intro j t' hj ht'
          by_cases ej : j = k
          · subst ej
            have h2 := HT.out
            rw [ht'] at h2; injection h2 with h2; subst h2; exact HB.out
          · exact HR.out j t' (by omega) ht'⟩
        case measure => simp [intOf]; omega
      · have HB := Lib.hid hb; clear hb
        have HMM : Hid (applyComb xs ts = ([], 1)) := by
          unfold Hid applyComb
          have hf : ts.all validC = false := by
            rw [Bool.eq_false_iff]; intro hall
            have := List.all_eq_true.1 hall t (List.mem_of_getElem? HT.out)
            rw [HB.out] at this; cases this
          rw [hf, Bool.and_false]; rfl
        go_wp2_with fail
        refine (l12Comb_is A2 t.length c3 t false HB.out _ har hl).mono ?_
        rintro e w1 ⟨rfl, rfl⟩
        clear hca har
        go_wp2_with fail
        go_ret2
        rw [HMM.out]
        exact ⟨_, rfl, World.ownsRow_nil _ _ _ _, Below.refl _ _⟩
    · have HMM : Hid (applyComb xs ts = fitC (applyC xs ts)) := by
        unfold Hid applyComb
        have hf : ts.all validC = true := by
          rw [List.all_eq_true]
          intro t ht
          obtain ⟨j, hj⟩ := List.getElem?_of_mem ht
          exact HR.out j t (by have := HL2.out; have := (List.getElem?_eq_some_iff.1 hj).1; omega) hj
        rw [HX.out, hf]; rfl
      obtain ⟨m, hm⟩ : ∃ m, m = n2 + n1 + ts.flatten.length := ⟨_, rfl⟩
      have hm2 : m ≤ 4194304 := by rw [hm, flatten_len]; have := HSM.out; omega
      have HMN : Hid (n2 + n1 + ts.flatten.length = m) := hm.symm
      clear hm
      go_wp2_with fail
      refine (l18Apply_any _ n1 c1 b2 o2 n2 c2 xs vs ts _ HS.out hs2 hv HL2.out hn2 hn1 HSM.out).mono ?_
      rintro e w3 ⟨v3, rfl, hown3, hb3⟩
      rw [HMN.out] at hown3
      obtain ⟨A3, c3, rfl⟩ := own_form hown3
      go_wp2_with fail
      refine (l18Fit_any w.heap.size m c3 A3 (applyC xs ts) _ hown3 (by omega)).mono ?_
      rintro e w4 ⟨⟨v4, rfl, hown4⟩, rfl⟩
      go_wp2_with fail
      go_ret2
      rw [HMM.out]
      exact ⟨_, rfl, hown4, hb3⟩
end Go.Proofs.Ytkdjdnfdiphgiaa
