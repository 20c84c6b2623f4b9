/- ConfigOfWord of the reference. -/
import Derived.Test.YtjakgeblmkdbpaaCfgSpec
namespace Go.Proofs.Ytjakgeblmkdbpaa
open Go.RowKit
set_option linter.all false

theorem cfgW_codes (S B : Int) (w : List Int) : (cfgW S B w).2 = 0 ∨ cfgW S B w = (⟨0, [], []⟩, 3) := by
  unfold cfgW; split
  · exact .inr rfl
  · split
    · exact .inl rfl
    · exact .inr rfl

set_option maxRecDepth 100000 in
set_option maxHeartbeats 4000000 in
theorem specConfigOfWord_any (S Q : Int) (br nr cr : Nat) (rs : List R3) (b o n c : Nat) (xs : List Int) (w : World) (wfS : Wf64 S) (wfQ : Wf64 Q) (hr : Sl w br 0 (rows R3.vs rs)) (lr : rs.length = nr) (hnr : nr ≤ 1048576) (hcr : nr ≤ cr)
    (hs : Sl w b o (xs.map (Value.int .i64))) (hl : xs.length = n) (hn : n ≤ 1048576) (hc : n ≤ c) (wfx : Wf64s xs) :
    Calls Try.prog 27 #[.agg #[.int .i64 S, .int .i64 Q, .slice (some ⟨br, 0, none⟩) nr cr], .slice (some ⟨b, o, none⟩) n c] w fun e w' => CfgRes w.heap.size (configOfWord S Q rs xs) e w' ∧ Below w.heap.size w w' := by
  obtain ⟨w1, HW1, B1, xb, yb⟩ := al2 w (.cells #[.int .i64 S, .int .i64 Q, .slice (some ⟨br, 0, none⟩) nr cr] 34) (.cells #[.int .i64 0, .slice none 0 0, .slice none 0 0] 36)
  have l0 : w1.cell? ⟨w.heap.size, 0, none⟩ = some (.int .i64 S) := by rw [cell_of_heap xb]; rfl
  have l1 : w1.cell? ⟨w.heap.size, 1, none⟩ = some (.int .i64 Q) := by rw [cell_of_heap xb]; rfl
  have l2 : w1.cell? ⟨w.heap.size, 2, none⟩ = some (.slice (some ⟨br, 0, none⟩) nr cr) := by rw [cell_of_heap xb]; rfl
  have L0 := Lib.hid l0; have L1 := Lib.hid l1; have L2 := Lib.hid l2
  have HL := Lib.hid hl; have HLR := Lib.hid lr
  have HR1 := Lib.hid (hr.below' B1); have HS1 := Lib.hid (hs.below' B1)
  have hy : ∀ W, Below w1.heap.size w1 W → W.heap[w.heap.size + 1]? = some (.cells #[.int .i64 0, .slice none 0 0, .slice none 0 0] 36 (0, 0)) := fun W hW => (hW.block _ (heap_lt yb)).trans yb
  have HY := Lib.hid hy
  have hfin : ∀ W : World, Below w1.heap.size w1 W → Below w.heap.size w (((W.setCell ⟨w.heap.size + 1, 0, none⟩ (.int .i64 0)).setCell ⟨w.heap.size + 1, 1, none⟩ (.slice none 0 0)).setCell ⟨w.heap.size + 1, 2, none⟩ (.slice none 0 0)) :=
    fun W hW => below_setC3 (below_step B1 hW) (by omega) _ _ _
  have HFIN := Lib.hid hfin
  clear xb yb hr hs hl lr wfS wfQ wfx hcr hy hfin l0 l1 l2
  go_enter Try.func27, Try.ntmps27
  go_wp2_with fail
  rw [← HW1.out]
  rcases Bool.eq_false_or_eq_true (validMach S Q rs) with h1 | h1
  rotate_left
  · have HF : Hid (configOfWord S Q rs xs = (⟨0, [], []⟩, 1)) := cow_bad (by rw [h1]; rfl)
    refine (l05Is_is w.heap.size S Q br 0 nr cr rs false h1 w1 L0.out L1.out L2.out HR1.out HLR.out hnr).mono ?_
    rintro e w2 ⟨rfl, b2⟩
    have yc := HY.out w2 b2
    have y0 : w2.cell? ⟨w.heap.size + 1, 0, none⟩ = some (.int .i64 0) := by rw [cell_of_heap yc]; rfl
    have y1 : w2.cell? ⟨w.heap.size + 1, 1, none⟩ = some (.slice none 0 0) := by rw [cell_of_heap yc]; rfl
    have y2 : w2.cell? ⟨w.heap.size + 1, 2, none⟩ = some (.slice none 0 0) := by rw [cell_of_heap yc]; rfl
    have z0 : w2.frozen? ⟨w.heap.size + 1, 0, none⟩ = false := frozen_of_heap yc
    have z1 : w2.frozen? ⟨w.heap.size + 1, 1, none⟩ = false := frozen_of_heap yc
    have z2 : w2.frozen? ⟨w.heap.size + 1, 2, none⟩ = false := frozen_of_heap yc
    have BQ := HFIN.out w2 b2
    clear yc h1
    go_wp2_with fail
    refine bodyPost_ret (v := .tuple #[.agg #[.int .i64 0, .slice none 0 0, .slice none 0 0], .int .i64 1]) (by simp [results, Try.results27, go_sem, y0, y1, y2]) rfl ?_
    exact ⟨CfgRes.none HF.out _, BQ⟩
  have hSQ := validMach_parts h1
  refine (l05Is_is w.heap.size S Q br 0 nr cr rs true h1 w1 L0.out L1.out L2.out HR1.out HLR.out hnr).mono ?_
  rintro e w2 ⟨rfl, b2⟩
  have HS2 := Lib.hid (HS1.out.below' b2)
  rcases Bool.eq_false_or_eq_true (isWordB xs) with h2 | h2
  rotate_left
  · have HF : Hid (configOfWord S Q rs xs = (⟨0, [], []⟩, 1)) := cow_bad (by rw [h2, Bool.and_false])
    have H2 := Lib.hid h2
    have yc := HY.out w2 b2
    have y0 : w2.cell? ⟨w.heap.size + 1, 0, none⟩ = some (.int .i64 0) := by rw [cell_of_heap yc]; rfl
    have y1 : w2.cell? ⟨w.heap.size + 1, 1, none⟩ = some (.slice none 0 0) := by rw [cell_of_heap yc]; rfl
    have y2 : w2.cell? ⟨w.heap.size + 1, 2, none⟩ = some (.slice none 0 0) := by rw [cell_of_heap yc]; rfl
    have z0 : w2.frozen? ⟨w.heap.size + 1, 0, none⟩ = false := frozen_of_heap yc
    have z1 : w2.frozen? ⟨w.heap.size + 1, 1, none⟩ = false := frozen_of_heap yc
    have z2 : w2.frozen? ⟨w.heap.size + 1, 2, none⟩ = false := frozen_of_heap yc
    have BQ := HFIN.out w2 b2
    clear yc h1 h2
    go_wp2_with fail
    refine (l03Is_is b o n c xs false H2.out _ HS2.out HL.out (by omega)).mono ?_
    rintro e w' ⟨rfl, rfl⟩
    go_wp2_with fail
    refine bodyPost_ret (v := .tuple #[.agg #[.int .i64 0, .slice none 0 0, .slice none 0 0], .int .i64 1]) (by simp [results, Try.results27, go_sem, y0, y1, y2]) rfl ?_
    exact ⟨CfgRes.none HF.out _, BQ⟩
  have H2 := Lib.hid h2
  have hlen := isWord_len h2
  have HXD : Hid (∀ x ∈ xs, 0 ≤ x ∧ x ≤ 9) := by
    have h := h2
    unfold isWordB at h
    rw [Bool.and_eq_true] at h
    exact fun a ha => (inB_iff _ _ _).1 (List.all_eq_true.1 h.2 a ha)
  have l0 := Lib.hid (cell_step (by exact L0.out) b2)
  have l1 := Lib.hid (cell_step (by exact L1.out) b2)
  have hcfg : configOfWord S Q rs xs = if S + Q ≤ 9 then cfgW S (S + Q) xs else (⟨0, [], []⟩, 5) := by unfold configOfWord; rw [h1, h2]; rfl
  have HC := Lib.hid hcfg
  clear h1 h2 hcfg
  go_wp2_with fail
  refine (l03Is_is b o n c xs true H2.out _ HS2.out HL.out (by omega)).mono ?_
  rintro e w' ⟨rfl, rfl⟩
  obtain ⟨vf, hvf⟩ : ∃ v, decide (S + Q ≤ 9) = v := ⟨_, rfl⟩
  have HVF := Lib.hid hvf; clear hvf
  go_wp2_with fail
  refine (l16Fits_is w.heap.size S Q vf HVF.out w2 l0.out l1.out (by omega) (by omega)).mono ?_
  rintro e w' ⟨rfl, q, rfl⟩
  have bq := below_drewN b2 q
  cases vf
  · have HF : Hid (configOfWord S Q rs xs = (⟨0, [], []⟩, 5)) := by unfold Hid; rw [HC.out, if_neg (of_decide_eq_false HVF.out)]
    have yc := HY.out _ bq
    have y0 : (w2.drewN q).cell? ⟨w.heap.size + 1, 0, none⟩ = some (.int .i64 0) := by rw [cell_of_heap yc]; rfl
    have y1 : (w2.drewN q).cell? ⟨w.heap.size + 1, 1, none⟩ = some (.slice none 0 0) := by rw [cell_of_heap yc]; rfl
    have y2 : (w2.drewN q).cell? ⟨w.heap.size + 1, 2, none⟩ = some (.slice none 0 0) := by rw [cell_of_heap yc]; rfl
    have z0 : (w2.drewN q).frozen? ⟨w.heap.size + 1, 0, none⟩ = false := frozen_of_heap yc
    have z1 : (w2.drewN q).frozen? ⟨w.heap.size + 1, 1, none⟩ = false := frozen_of_heap yc
    have z2 : (w2.drewN q).frozen? ⟨w.heap.size + 1, 2, none⟩ = false := frozen_of_heap yc
    have BQ := HFIN.out _ bq
    clear yc
    generalize w2.drewN q = wq at *
    go_wp2_with fail
    refine bodyPost_ret (v := .tuple #[.agg #[.int .i64 0, .slice none 0 0, .slice none 0 0], .int .i64 5]) (by simp [results, Try.results27, go_sem, y0, y1, y2]) rfl ?_
    exact ⟨CfgRes.none HF.out _, BQ⟩
  have HF : Hid (configOfWord S Q rs xs = cfgW S (S + Q) xs) := by unfold Hid; rw [HC.out, if_pos (of_decide_eq_true HVF.out)]
  have l0q : Hid ((w2.drewN q).cell? ⟨w.heap.size, 0, none⟩ = some (.int .i64 S)) := l0.out
  have l1q : Hid ((w2.drewN q).cell? ⟨w.heap.size, 1, none⟩ = some (.int .i64 Q)) := l1.out
  have HSQ : Hid (Sl (w2.drewN q) b o (xs.map (Value.int .i64))) := HS2.out
  have hszq : Hid (w1.heap.size ≤ (w2.drewN q).heap.size) := bq.size
  generalize w2.drewN q = wq at *
  go_wp2_with fail
  refine (l16Config_any w.heap.size S Q b o n c xs wq l0q.out l1q.out HSQ.out HL.out (by have := HL.out; omega) hc (by omega) (by omega) HXD.out).mono ?_
  rintro e w3 ⟨hres, b3⟩
  obtain ⟨x0, A1, n1, c1, A2, n2, c2, rfl, hr⟩ := hres
  have b13 := below_step bq b3
  rcases cfgW_codes S (S + Q) xs with h0 | h3
  · have hr2 := hr h0
    have HR2 := Lib.hid hr2; have H0 := Lib.hid h0
    have hd : decide ((cfgW S (S + Q) xs).2 = 0) = true := decide_eq_true h0
    rw [hd]
    obtain ⟨wb, HWB, bb, xbb⟩ := al1 w3 (.cells #[.int .i64 x0, .slice A1 n1 c1, .slice A2 n2 c2] 36)
    have k0 : wb.cell? ⟨w3.heap.size, 0, none⟩ = some (.int .i64 x0) := by rw [cell_of_heap xbb]; rfl
    have k1 : wb.cell? ⟨w3.heap.size, 1, none⟩ = some (.slice A1 n1 c1) := by rw [cell_of_heap xbb]; rfl
    have k2 : wb.cell? ⟨w3.heap.size, 2, none⟩ = some (.slice A2 n2 c2) := by rw [cell_of_heap xbb]; rfl
    have b1b := below_step b13 bb
    have yc := HY.out _ b1b
    have y0 : wb.cell? ⟨w.heap.size + 1, 0, none⟩ = some (.int .i64 0) := by rw [cell_of_heap yc]; rfl
    have y1 : wb.cell? ⟨w.heap.size + 1, 1, none⟩ = some (.slice none 0 0) := by rw [cell_of_heap yc]; rfl
    have y2 : wb.cell? ⟨w.heap.size + 1, 2, none⟩ = some (.slice none 0 0) := by rw [cell_of_heap yc]; rfl
    have z0 : wb.frozen? ⟨w.heap.size + 1, 0, none⟩ = false := frozen_of_heap yc
    have z1 : wb.frozen? ⟨w.heap.size + 1, 1, none⟩ = false := frozen_of_heap yc
    have z2 : wb.frozen? ⟨w.heap.size + 1, 2, none⟩ = false := frozen_of_heap yc
    have hw1 : w.heap.size ≤ w1.heap.size := B1.size
    have O1 := Lib.hid (own_setC3 (own_base (own_below' hr2.2.1 bb) (Nat.le_trans hw1 hszq.out)) yc (by decide) (.int .i64 x0) (.slice A1 n1 c1) (.slice A2 n2 c2))
    have O2 := Lib.hid (own_setC3 (own_base (own_below' hr2.2.2.1 bb) (Nat.le_trans hw1 hszq.out)) yc (by decide) (.int .i64 x0) (.slice A1 n1 c1) (.slice A2 n2 c2))
    have BF := below_setC3 (g := w.heap.size + 1) (below_step B1 b1b) (by omega) (.int .i64 x0) (.slice A1 n1 c1) (.slice A2 n2 c2)
    clear hr hr2 h0 hd yc xbb bb b1b
    go_upto_region 6 with fail
    rw [← HWB.out]
    go_wp2_with fail
    refine bodyPost_ret (v := .tuple #[.agg #[.int .i64 x0, .slice A1 n1 c1, .slice A2 n2 c2], .int .i64 0]) (by simp [results, Try.results27, go_sem, y0, y1, y2]) rfl ?_
    refine ⟨?_, BF⟩
    rw [HF.out]
    refine ⟨_, _, ?_, O1.out, O2.out, HR2.out.2.2.2⟩
    rw [H0.out, ← HR2.out.1]
  · have HF3 : Hid (configOfWord S Q rs xs = (⟨0, [], []⟩, 3)) := by unfold Hid; rw [HF.out, h3]
    have hd : decide ((cfgW S (S + Q) xs).2 = 0) = false := by rw [h3]; rfl
    rw [hd]
    obtain ⟨wb, HWB, bb, xbb⟩ := al1 w3 (.cells #[.int .i64 x0, .slice A1 n1 c1, .slice A2 n2 c2] 36)
    have b1b := below_step b13 bb
    have yc := HY.out _ b1b
    have y0 : wb.cell? ⟨w.heap.size + 1, 0, none⟩ = some (.int .i64 0) := by rw [cell_of_heap yc]; rfl
    have y1 : wb.cell? ⟨w.heap.size + 1, 1, none⟩ = some (.slice none 0 0) := by rw [cell_of_heap yc]; rfl
    have y2 : wb.cell? ⟨w.heap.size + 1, 2, none⟩ = some (.slice none 0 0) := by rw [cell_of_heap yc]; rfl
    have z0 : wb.frozen? ⟨w.heap.size + 1, 0, none⟩ = false := frozen_of_heap yc
    have z1 : wb.frozen? ⟨w.heap.size + 1, 1, none⟩ = false := frozen_of_heap yc
    have z2 : wb.frozen? ⟨w.heap.size + 1, 2, none⟩ = false := frozen_of_heap yc
    have BF := HFIN.out _ b1b
    clear hr h3 hd yc xbb bb b1b
    go_upto_region 6 with fail
    rw [← HWB.out]
    go_wp2_with fail
    refine bodyPost_ret (v := .tuple #[.agg #[.int .i64 0, .slice none 0 0, .slice none 0 0], .int .i64 3]) (by simp [results, Try.results27, go_sem, y0, y1, y2]) rfl ?_
    exact ⟨CfgRes.none HF3.out _, BF⟩
end Go.Proofs.Ytjakgeblmkdbpaa
