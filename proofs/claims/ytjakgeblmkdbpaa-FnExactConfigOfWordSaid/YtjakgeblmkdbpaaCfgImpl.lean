/- ConfigOfWord of the program. -/
import Derived.Test.YtjakgeblmkdbpaaCfgShown
namespace Go.Proofs.Ytjakgeblmkdbpaa
open Go.RowKit
set_option linter.all false

theorem validMach_parts {S Q : Int} {rs : List R3} (h : validMach S Q rs = true) : (2 ≤ S ∧ S ≤ 6) ∧ (1 ≤ Q ∧ Q ≤ 1000) := by
  unfold validMach at h
  rw [Bool.and_eq_true, Bool.and_eq_true] at h
  exact ⟨(inB_iff _ _ _).1 h.1, (inB_iff _ _ _).1 h.2.1⟩
theorem word_parts {xs : List Int} (h : isWordB xs = true) : xs.length ≤ 400 ∧ ∀ x ∈ xs, 0 ≤ x ∧ x ≤ 9 := by
  unfold isWordB at h
  rw [Bool.and_eq_true] at h
  exact ⟨of_decide_eq_true h.1, fun x hx => (inB_iff _ _ _).1 (List.all_eq_true.1 h.2 x hx)⟩
theorem cow_bad {S Q : Int} {rs : List R3} {xs : List Int} (h : (validMach S Q rs && isWordB xs) = false) : configOfWord S Q rs xs = (⟨0, [], []⟩, 1) := by unfold configOfWord; rw [h]; rfl
theorem cow_full {S Q : Int} {rs : List R3} {xs : List Int} (h : (validMach S Q rs && isWordB xs) = true) (h2 : ¬ S + Q ≤ 9) : configOfWord S Q rs xs = (⟨0, [], []⟩, 5) := by unfold configOfWord; rw [if_pos h, if_neg h2]
theorem cow_good {S Q : Int} {rs : List R3} {xs : List Int} (h : (validMach S Q rs && isWordB xs) = true) (h2 : S + Q ≤ 9) : configOfWord S Q rs xs = cfgW S (S + Q) xs := by unfold configOfWord; rw [if_pos h, if_pos h2]
/-- A result of ConfigOfWord. -/
def CfgRes (B : Nat) (R : DConfig × Int) (e : Ending) (W : World) : Prop := ∃ v1 v2, e = .returned (.tuple #[.agg #[.int .i64 R.1.f0, v1, v2], .int .i64 R.2]) ∧ W.ownsRow B 2 1 v1 R.1.f1.length (R.1.f1.map (Value.int .i64)) ∧ W.ownsRow B 2 1 v2 R.1.f2.length (R.1.f2.map (Value.int .i64)) ∧ (v1.ownBlock = none ∨ v1.ownBlock ≠ v2.ownBlock)
theorem CfgRes.none {B : Nat} {R : DConfig × Int} {c : Int} (h : R = (⟨0, [], []⟩, c)) (W : World) : CfgRes B R (.returned (.tuple #[.agg #[.int .i64 0, .slice Option.none 0 0, .slice Option.none 0 0], .int .i64 c])) W := by
  subst h; exact ⟨_, _, rfl, World.ownsRow_nil _ _ _ _, World.ownsRow_nil _ _ _ _, .inl rfl⟩

set_option maxRecDepth 100000 in
set_option maxHeartbeats 4000000 in
theorem implConfigOfWord_any (S Q : Int) (br nr cr : Nat) (rs : List R3) (b o n c : Nat) (xs : List Int) (w : World) (wfS : Wf64 S) (wfQ : Wf64 Q) (hr : Sl w br 0 (rows R3.vs rs)) (lr : rs.length = nr) (hnr : nr ≤ 1048576) (hcr : nr ≤ cr)
    (hs : Sl w b o (xs.map (Value.int .i64))) (hl : xs.length = n) (hn : n ≤ 1048576) (hc : n ≤ c) (wfx : Wf64s xs) :
    Calls Try.prog 28 #[.agg #[.int .i64 S, .int .i64 Q, .slice (some ⟨br, 0, none⟩) nr cr], .slice (some ⟨b, o, none⟩) n c] w fun e w' => CfgRes w.heap.size (configOfWord S Q rs xs) e w' ∧ Below w.heap.size w w' := by
  obtain ⟨w1, HW1, B1, xb, yb⟩ := al2 w (.cells #[.int .i64 S, .int .i64 Q, .slice (some ⟨br, 0, none⟩) nr cr] 34) (.cells #[.int .i64 0, .slice none 0 0, .slice none 0 0] 36)
  have l0 : w1.cell? ⟨w.heap.size, 0, none⟩ = some (.int .i64 S) := by rw [cell_of_heap xb]; rfl
  have l1 : w1.cell? ⟨w.heap.size, 1, none⟩ = some (.int .i64 Q) := by rw [cell_of_heap xb]; rfl
  have l2 : w1.cell? ⟨w.heap.size, 2, none⟩ = some (.slice (some ⟨br, 0, none⟩) nr cr) := by rw [cell_of_heap xb]; rfl
  have L0 := Lib.hid l0; have L1 := Lib.hid l1; have L2 := Lib.hid l2
  have HL := Lib.hid hl; have HLR := Lib.hid lr
  have hr1 := hr.below' B1; have hs1 := hs.below' B1
  have hy : ∀ W, Below w1.heap.size w1 W → W.heap[w.heap.size + 1]? = some (.cells #[.int .i64 0, .slice none 0 0, .slice none 0 0] 36 (0, 0)) := fun W hW => (hW.block _ (heap_lt yb)).trans yb
  have HY := Lib.hid hy
  have hfin : ∀ W : World, Below w1.heap.size w1 W → Below w.heap.size w (((W.setCell ⟨w.heap.size + 1, 0, none⟩ (.int .i64 0)).setCell ⟨w.heap.size + 1, 1, none⟩ (.slice none 0 0)).setCell ⟨w.heap.size + 1, 2, none⟩ (.slice none 0 0)) :=
    fun W hW => below_setC3 (below_step B1 hW) (by omega) _ _ _
  have HFIN := Lib.hid hfin
  clear xb hr hs hl lr wfS wfQ wfx hcr hy hfin
  go_enter Try.func28, Try.ntmps28
  go_wp2_with fail
  rw [← HW1.out]
  rcases Bool.eq_false_or_eq_true (validMach S Q rs) with h1 | h1
  rotate_left
  · have HF : Hid (configOfWord S Q rs xs = (⟨0, [], []⟩, 1)) := cow_bad (by rw [h1]; rfl)
    refine (validMachine_is S Q br 0 nr cr rs false h1 w1 hr1 HLR.out hnr).mono ?_
    rintro e w2 ⟨rfl, b2⟩
    have yc := HY.out w2 b2
    have y0 : w2.cell? ⟨w.heap.size + 1, 0, none⟩ = some (.int .i64 0) := by rw [cell_of_heap yc]; rfl
    have y1 : w2.cell? ⟨w.heap.size + 1, 1, none⟩ = some (.slice none 0 0) := by rw [cell_of_heap yc]; rfl
    have y2 : w2.cell? ⟨w.heap.size + 1, 2, none⟩ = some (.slice none 0 0) := by rw [cell_of_heap yc]; rfl
    have z0 : w2.frozen? ⟨w.heap.size + 1, 0, none⟩ = false := frozen_of_heap yc
    have z1 : w2.frozen? ⟨w.heap.size + 1, 1, none⟩ = false := frozen_of_heap yc
    have z2 : w2.frozen? ⟨w.heap.size + 1, 2, none⟩ = false := frozen_of_heap yc
    have BQ := HFIN.out w2 b2
    clear yc h1
    go_wp2_with fail
    refine bodyPost_ret (v := .tuple #[.agg #[.int .i64 0, .slice none 0 0, .slice none 0 0], .int .i64 1]) (by simp [results, Try.results28, go_sem, y0, y1, y2]) rfl ?_
    exact ⟨CfgRes.none HF.out _, BQ⟩
  have hSQ := validMach_parts h1
  refine (validMachine_is S Q br 0 nr cr rs true h1 w1 hr1 HLR.out hnr).mono ?_
  rintro e w2 ⟨rfl, b2⟩
  have hs2 := hs1.below' b2
  rcases Bool.eq_false_or_eq_true (isWordB xs) with h2 | h2
  rotate_left
  · have HF : Hid (configOfWord S Q rs xs = (⟨0, [], []⟩, 1)) := cow_bad (by rw [h2, Bool.and_false])
    have H2 := Lib.hid h2
    have yc := HY.out w2 b2
    have y0 : w2.cell? ⟨w.heap.size + 1, 0, none⟩ = some (.int .i64 0) := by rw [cell_of_heap yc]; rfl
    have y1 : w2.cell? ⟨w.heap.size + 1, 1, none⟩ = some (.slice none 0 0) := by rw [cell_of_heap yc]; rfl
    have y2 : w2.cell? ⟨w.heap.size + 1, 2, none⟩ = some (.slice none 0 0) := by rw [cell_of_heap yc]; rfl
    have z0 : w2.frozen? ⟨w.heap.size + 1, 0, none⟩ = false := frozen_of_heap yc
    have z1 : w2.frozen? ⟨w.heap.size + 1, 1, none⟩ = false := frozen_of_heap yc
    have z2 : w2.frozen? ⟨w.heap.size + 1, 2, none⟩ = false := frozen_of_heap yc
    have BQ := HFIN.out w2 b2
    clear yc h1 h2 l0 l1 l2
    go_wp2_with fail
    refine (isWord_is b o n c xs false H2.out _ hs2 HL.out (by omega)).mono ?_
    rintro e w' ⟨rfl, hw'⟩
    subst hw'
    go_wp2_with fail
    refine bodyPost_ret (v := .tuple #[.agg #[.int .i64 0, .slice none 0 0, .slice none 0 0], .int .i64 1]) (by simp [results, Try.results28, go_sem, y0, y1, y2]) rfl ?_
    exact ⟨CfgRes.none HF.out _, BQ⟩
  have HG : Hid ((validMach S Q rs && isWordB xs) = true) := by unfold Hid; rw [h1, h2]; rfl
  have hwp := word_parts h2
  have HWP := Lib.hid hwp.2
  have hn4 : n ≤ 400 := by rw [← HL.out]; exact hwp.1
  have H2 := Lib.hid h2
  have m0 := cell_step (by exact L0.out) b2
  have m1 := cell_step (by exact L1.out) b2
  have m2 := cell_step (by exact L2.out) b2
  clear h1 h2 hwp l0 l1 l2
  go_wp2_with fail
  refine (isWord_is b o n c xs true H2.out _ hs2 HL.out (by omega)).mono ?_
  rintro e w' ⟨rfl, hw'⟩
  subst hw'
  go_wp2_with fail
  by_cases h9 : S + Q ≤ 9
  rotate_left
  · have HF : Hid (configOfWord S Q rs xs = (⟨0, [], []⟩, 5)) := cow_full HG.out h9
    refine (alphabetOf_no S Q _ rfl _ (by omega) (by omega) (by omega)).mono ?_
    rintro e w3 ⟨rfl, b3⟩
    have b13 := below_step b2 b3
    have ba := laid_below w3 (.cells #[.int .i64 0, .int .i64 0] 110)
    have b1a := below_step b13 ba
    have yc := HY.out _ b1a
    have y0 : (w3.alloc (.cells #[.int .i64 0, .int .i64 0] 110)).cell? ⟨w.heap.size + 1, 0, none⟩ = some (.int .i64 0) := by rw [cell_of_heap yc]; rfl
    have y1 : (w3.alloc (.cells #[.int .i64 0, .int .i64 0] 110)).cell? ⟨w.heap.size + 1, 1, none⟩ = some (.slice none 0 0) := by rw [cell_of_heap yc]; rfl
    have y2 : (w3.alloc (.cells #[.int .i64 0, .int .i64 0] 110)).cell? ⟨w.heap.size + 1, 2, none⟩ = some (.slice none 0 0) := by rw [cell_of_heap yc]; rfl
    have z0 : (w3.alloc (.cells #[.int .i64 0, .int .i64 0] 110)).frozen? ⟨w.heap.size + 1, 0, none⟩ = false := frozen_of_heap yc
    have z1 : (w3.alloc (.cells #[.int .i64 0, .int .i64 0] 110)).frozen? ⟨w.heap.size + 1, 1, none⟩ = false := frozen_of_heap yc
    have z2 : (w3.alloc (.cells #[.int .i64 0, .int .i64 0] 110)).frozen? ⟨w.heap.size + 1, 2, none⟩ = false := frozen_of_heap yc
    have BQ := HFIN.out _ b1a
    clear yc m0 m1 m2
    go_wp2_with fail
    refine bodyPost_ret (v := .tuple #[.agg #[.int .i64 0, .slice none 0 0, .slice none 0 0], .int .i64 5]) (by simp [results, Try.results28, go_sem, y0, y1, y2]) rfl ?_
    exact ⟨CfgRes.none HF.out _, BQ⟩
  have HC : Hid (configOfWord S Q rs xs = cfgW S (S + Q) xs) := cow_good HG.out h9
  refine (alphabetOf_yes S Q _ rfl _ (by omega) (by omega) h9).mono ?_
  rintro e w3 ⟨rfl, b3⟩
  obtain ⟨wa, HWA, ba, xa⟩ := al1 w3 (.cells #[.int .i64 S, .int .i64 (S + Q)] 110)
  have b1a := below_step (below_step b2 b3) ba
  have hsa := hs1.below' b1a
  have HSH := Lib.hid (shown_any S (S + Q) b o n c xs wa hsa HL.out (by omega) hc (by omega) HWP.out)
  have Ba := below_step B1 b1a
  clear xa m0 m1 m2
  go_wp2_with fail
  rw [← HWA.out]
  refine HSH.out.mono ?_
  rintro e w4 ⟨hno, hyes, b4⟩
  have b14 := below_step b1a b4
  have B4 := below_step Ba b4
  rcases hshow : showW S (S + Q) xs with _ | ⟨q, l, r⟩
  · have HF : Hid (configOfWord S Q rs xs = (⟨0, [], []⟩, 3)) := by unfold Hid; rw [HC.out, cfgW_none hshow]
    have he := hno hshow
    subst he
    have bb := laid_below w4 (.cells #[.int .i64 0, .slice none 0 0, .slice none 0 0] 36)
    have b1b := below_step b14 bb
    have yc := HY.out _ b1b
    have y0 : (w4.alloc (.cells #[.int .i64 0, .slice none 0 0, .slice none 0 0] 36)).cell? ⟨w.heap.size + 1, 0, none⟩ = some (.int .i64 0) := by rw [cell_of_heap yc]; rfl
    have y1 : (w4.alloc (.cells #[.int .i64 0, .slice none 0 0, .slice none 0 0] 36)).cell? ⟨w.heap.size + 1, 1, none⟩ = some (.slice none 0 0) := by rw [cell_of_heap yc]; rfl
    have y2 : (w4.alloc (.cells #[.int .i64 0, .slice none 0 0, .slice none 0 0] 36)).cell? ⟨w.heap.size + 1, 2, none⟩ = some (.slice none 0 0) := by rw [cell_of_heap yc]; rfl
    have z0 : (w4.alloc (.cells #[.int .i64 0, .slice none 0 0, .slice none 0 0] 36)).frozen? ⟨w.heap.size + 1, 0, none⟩ = false := frozen_of_heap yc
    have z1 : (w4.alloc (.cells #[.int .i64 0, .slice none 0 0, .slice none 0 0] 36)).frozen? ⟨w.heap.size + 1, 1, none⟩ = false := frozen_of_heap yc
    have z2 : (w4.alloc (.cells #[.int .i64 0, .slice none 0 0, .slice none 0 0] 36)).frozen? ⟨w.heap.size + 1, 2, none⟩ = false := frozen_of_heap yc
    have BQ := HFIN.out _ b1b
    clear yc hno hyes hshow
    go_wp2_with fail
    refine bodyPost_ret (v := .tuple #[.agg #[.int .i64 0, .slice none 0 0, .slice none 0 0], .int .i64 3]) (by simp [results, Try.results28, go_sem, y0, y1, y2]) rfl ?_
    exact ⟨CfgRes.none HF.out _, BQ⟩
  obtain ⟨g1, d1, g2, d2, he, o1, o2, hap⟩ := hyes q l r hshow
  subst he
  have HCW : Hid (cfgW S (S + Q) xs = if roomC l r then (trimC q l r, 0) else (⟨0, [], []⟩, 3)) := cfgW_some hshow
  obtain ⟨n1, hn1⟩ : ∃ n1, (trimL l.reverse).length = n1 := ⟨_, rfl⟩
  obtain ⟨n2, hn2⟩ : ∃ n2, (trimL r).length = n2 := ⟨_, rfl⟩
  have hlen : n1 ≤ 1048576 ∧ n2 ≤ 1048576 := by
    have h1 := trimL_len_le l.reverse
    have h2 := trimL_len_le r
    have h3 : l.length ≤ 400 ∧ r.length ≤ 400 := by
      unfold showW at hshow
      split at hshow
      · rename_i hfr
        cases hsp : splitS S (cellsOf xs) with
        | none => rw [hsp] at hshow; cases hshow
        | some t =>
          obtain ⟨l', a', r'⟩ := t
          rw [hsp] at hshow
          simp only at hshow
          split at hshow
          · injection hshow with h; injection h with _ h; injection h with h4 h5
            have hc1 := (splitS_some hsp).1
            have hc2 := congrArg List.length hc1
            have hl2 := (frontB_len hfr).1
            rw [cellsOf_len (by omega), HL.out, List.length_append, List.length_cons] at hc2
            rw [← h4, ← h5]; omega
          · cases hshow
      · cases hshow
    rw [List.length_reverse] at h1
    omega
  rw [hn1] at o1
  rw [hn2] at o2
  rw [hn1, hn2]
  have HN1 := Lib.hid hn1; have HN2 := Lib.hid hn2
  clear hn1 hn2 hno hyes hshow
  obtain ⟨wb, HWB, bb, xbb⟩ := al1 w4 (.cells #[.int .i64 q, .slice (some ⟨g1, 0, none⟩) n1 d1, .slice (some ⟨g2, 0, none⟩) n2 d2] 36)
  have k0 : wb.cell? ⟨w4.heap.size, 0, none⟩ = some (.int .i64 q) := by rw [cell_of_heap xbb]; rfl
  have k1 : wb.cell? ⟨w4.heap.size, 1, none⟩ = some (.slice (some ⟨g1, 0, none⟩) n1 d1) := by rw [cell_of_heap xbb]; rfl
  have k2 : wb.cell? ⟨w4.heap.size, 2, none⟩ = some (.slice (some ⟨g2, 0, none⟩) n2 d2) := by rw [cell_of_heap xbb]; rfl
  have b1b := below_step b14 bb
  have o1b := own_below' o1 bb
  have o2b := own_below' o2 bb
  have HRM : Hid ((decide (n1 ≤ 200) && decide (n2 ≤ 200)) = roomC l r) := by unfold Hid roomC; rw [HN1.out, HN2.out]
  obtain ⟨vr, hvr⟩ : ∃ vr, roomC l r = vr := ⟨_, rfl⟩
  have HVR := Lib.hid hvr
  clear xbb hvr o1 o2
  go_wp2_with fail
  rw [← HWB.out]
  refine (roomy_is q _ _ n1 d1 n2 d2 vr (by rw [HRM.out, HVR.out]) _ hlen.1 hlen.2).mono ?_
  rintro e w5 ⟨rfl, b5⟩
  have b15 := below_step b1b b5
  have yc := HY.out _ b15
  have y0 : w5.cell? ⟨w.heap.size + 1, 0, none⟩ = some (.int .i64 0) := by rw [cell_of_heap yc]; rfl
  have y1 : w5.cell? ⟨w.heap.size + 1, 1, none⟩ = some (.slice none 0 0) := by rw [cell_of_heap yc]; rfl
  have y2 : w5.cell? ⟨w.heap.size + 1, 2, none⟩ = some (.slice none 0 0) := by rw [cell_of_heap yc]; rfl
  have z0 : w5.frozen? ⟨w.heap.size + 1, 0, none⟩ = false := frozen_of_heap yc
  have z1 : w5.frozen? ⟨w.heap.size + 1, 1, none⟩ = false := frozen_of_heap yc
  have z2 : w5.frozen? ⟨w.heap.size + 1, 2, none⟩ = false := frozen_of_heap yc
  cases vr
  · have HF : Hid (configOfWord S Q rs xs = (⟨0, [], []⟩, 3)) := by unfold Hid; rw [HC.out, HCW.out, HVR.out]; rfl
    have BQ := HFIN.out _ b15
    clear yc k0 k1 k2
    go_wp2_with fail
    refine bodyPost_ret (v := .tuple #[.agg #[.int .i64 0, .slice none 0 0, .slice none 0 0], .int .i64 3]) (by simp [results, Try.results28, go_sem, y0, y1, y2]) rfl ?_
    exact ⟨CfgRes.none HF.out _, BQ⟩
  · have HF : Hid (configOfWord S Q rs xs = (trimC q l r, 0)) := by unfold Hid; rw [HC.out, HCW.out, HVR.out]; rfl
    have hszB := B1.size
    have p0 := cell_step (by exact k0) b5
    have p1 := cell_step (by exact k1) b5
    have p2 := cell_step (by exact k2) b5
    have o15 := own_base (own_below' o1b b5) (Nat.le_trans hszB b1a.size)
    have o25 := own_base (own_below' o2b b5) (Nat.le_trans hszB b1a.size)
    have O1 := Lib.hid (own_setC3 o15 yc (by decide) (.int .i64 q) (.slice (some ⟨g1, 0, none⟩) n1 d1) (.slice (some ⟨g2, 0, none⟩) n2 d2))
    have O2 := Lib.hid (own_setC3 o25 yc (by decide) (.int .i64 q) (.slice (some ⟨g1, 0, none⟩) n1 d1) (.slice (some ⟨g2, 0, none⟩) n2 d2))
    have BF := below_setC3 (g := w.heap.size + 1) (below_step B1 b15) (by omega) (.int .i64 q) (.slice (some ⟨g1, 0, none⟩) n1 d1) (.slice (some ⟨g2, 0, none⟩) n2 d2)
    clear yc k0 k1 k2 o15 o25 o1b o2b
    go_wp2_with fail
    refine bodyPost_ret (v := .tuple #[.agg #[.int .i64 q, .slice (some ⟨g1, 0, none⟩) n1 d1, .slice (some ⟨g2, 0, none⟩) n2 d2], .int .i64 0]) (by simp [results, Try.results28, go_sem, y0, y1, y2]) rfl ?_
    refine ⟨?_, BF⟩
    rw [HF.out]
    exact ⟨_, _, rfl, by show World.ownsRow _ _ _ _ _ (trimL l.reverse).length _; rw [HN1.out]; exact O1.out, by show World.ownsRow _ _ _ _ _ (trimL r).length _; rw [HN2.out]; exact O2.out, .inr (fun h => hap (by injection h))⟩
end Go.Proofs.Ytjakgeblmkdbpaa
