/- The law FnExactRunFuncProgram returns true for every input, and each argument reads afterwards as before: the proof, part 7. No conditions. -/
import Derived.Test.YtjggkgdojhlhpaaGreatRunFuncProgramZf
/- The register program of a loop program: the reference's l17Program, ProgramOfLoop; the program's ProgramOfLoop. -/
namespace Go.Proofs.YtjggkgdojhlhpaaGreat
open Go.RowKit
set_option linter.all false
attribute [local go_sem ↓] Go.wp_at_zero Go.wp_at_succ

theorem joinP_none (a : List R4) : joinP a [] = a := by simp [joinP]
theorem prog_seg {xs : List R3} {k to : Nat} {x : R3} (dd : Int) (acc : List R4) (h : xs[k]? = some x) (hk : k < to) (hm : k + 1 + bodyLen x ≤ to) :
    progAt dd acc (seg xs k to) = progAt dd (joinP acc (cmdP dd x (progAt (dd + 1) [] (seg xs (k + 1) (k + 1 + bodyLen x))))) (seg xs (k + 1 + bodyLen x) to) := by
  rw [seg_at h hk, progAt_cons, seg_take _ _ _ _ hm, seg_drop]
theorem moveP_none (b : Int) : moveP b [] = [⟨1, b, 0, 1⟩] := by simp [moveP]

set_option maxRecDepth 100000 in
set_option maxHeartbeats 16000000 in
theorem l17Program_any (N : Nat) : ∀ (A : Option Addr) (n c fr to d : Nat) (dd : Int) (xs : List R3) (w : World), Args 3 w A n (rows R3.vs xs) → n ≤ 150 → fr ≤ to → to ≤ n → to - fr ≤ N → 0 ≤ dd → dd + (to - fr : Nat) ≤ 200 → vl d (seg xs fr to) = true →
    Calls Tryz.prog 39 #[.slice A n c, .int .i64 fr, .int .i64 to, .int .i64 dd] w fun e w' => ∃ v, e = .returned v ∧ w'.ownsRow w.heap.size 66 4 v (progAt dd [] (seg xs fr to)).length (rows R4.vs (progAt dd [] (seg xs fr to))) ∧ Below w.heap.size w w' := by
  induction N using Nat.strongRecOn with
  | ind N ih =>
  intro A n c fr to d dd xs w ha hn hft hto hN hd0 hd1 hv
  have IH := Lib.hid ih; clear ih
  have HV0 := Lib.hid hv; clear hv
  have HL : Hid (xs.length = n) := by have := ha.1; rw [rows_len R3.vs_len] at this; unfold Hid; omega
  obtain ⟨P, hP⟩ : ∃ P, P = progAt dd [] (seg xs fr to) := ⟨_, rfl⟩
  obtain ⟨pf1, pf2, -⟩ := progAt_facts _ (seg xs fr to) dd [] (Nat.le_refl _)
  rw [seg_len (by have := HL.out; omega), ← hP] at pf2
  simp only [List.length_nil, Nat.zero_add] at pf2
  rw [← hP]
  have HP := Lib.hid hP; clear hP pf1
  have hown0 : (w.alloc (.cells #[] 66)).ownsRow w.heap.size 66 4 (.slice (some ⟨w.heap.size, 0, none⟩) 0 0) 0 [] := own_empty w 66 4
  have hb0 := laid_below w (.cells #[] 66)
  go_enter Tryz.func39, Tryz.ntmps39
  go_wp2
  go_loopw [9, 11] (fun v i wr => ∃ (k : Nat) (acc : List R4), fr ≤ k ∧ k ≤ to ∧ i = .int .i64 k ∧ wr.ownsRow w.heap.size 66 4 v acc.length (rows R4.vs acc) ∧ Hid (progAt dd acc (seg xs k to) = P) ∧ Hid (vl d (seg xs k to) = true) ∧ Below w.heap.size w wr) (fun _ i _ => to - (intOf i).toNat)
  case atStart => exact ⟨fr, [], Nat.le_refl _, hft, rfl, hown0, HP.out.symm, HV0.out, hb0⟩
  case round =>
    obtain ⟨k, acc, hfk, hk, rfl, hown, HPP, HV, hB⟩ := hrel
    clear hown0 hb0
    obtain ⟨qf1, -, -⟩ := progAt_facts _ (seg xs k to) dd acc (Nat.le_refl _)
    rw [HPP.out] at qf1
    obtain ⟨la, hla⟩ : ∃ la, la = acc.length := ⟨_, rfl⟩
    rw [← hla] at hown qf1
    have hla1 : la ≤ 1000 := by omega
    have HLA := Lib.hid hla; clear hla
    by_cases hlt : k < to
    rotate_left
    · obtain rfl : to = k := by omega
      have hPP := HPP.out
      rw [seg_end (Nat.le_refl _), progAt_nil] at hPP
      subst hPP
      go_wp2
      go_ret
      exact ⟨_, rfl, by rw [← HLA.out]; exact hown, hB⟩
    obtain ⟨b, off, rfl, hs⟩ := ha.sl (k := k) (by omega)
    obtain ⟨x, HX⟩ := hget (k := k) HL (by omega)
    have hvv := HV.out
    rw [seg_at HX.out hlt] at hvv
    obtain ⟨s1, s2, s3⟩ := vl_split hvv
    have hkind := vl_kind hvv
    rw [seg_len (by have := HL.out; omega)] at s1
    have hkm : k + 1 + bodyLen x ≤ to := by omega
    rw [seg_drop] at s2
    rw [seg_take _ _ _ _ hkm] at s3
    have HV2 := Lib.hid s2; have S3 := Lib.hid s3
    have HST := Lib.hid (prog_seg dd acc HX.out hlt hkm)
    rw [HPP.out] at HST
    obtain ⟨p0, p1, p2⟩ := (hs.below' hB).rec3 HX.out
    obtain ⟨A1, c1, rfl⟩ := own_form hown
    obtain ⟨w1, HW, hb1, c0, k1, k2⟩ : ∃ w1, Hid (w1 = wr.alloc (.cells #[.int .i64 x.a, .int .i64 x.b, .int .i64 x.c] 86)) ∧ Below wr.heap.size wr w1 ∧ w1.cell? ⟨wr.heap.size, 0, none⟩ = some (.int .i64 x.a) ∧ w1.cell? ⟨wr.heap.size, 1, none⟩ = some (.int .i64 x.b) ∧ w1.cell? ⟨wr.heap.size, 2, none⟩ = some (.int .i64 x.c) := ⟨_, rfl, laid_below _ _, by simp [go_sem], by simp [go_sem], by simp [go_sem]⟩
    have hB1 := below_step hB hb1
    have hsrc1 := (Src.of_own hown).below hb1
    clear hvv s1 s2 s3 hb1
    rcases hkind with ⟨hb0', hb15, hkk⟩
    rcases hkk with e | e | e | e | ⟨e, hc0, hc15⟩
    · -- zero
      have HBL : Hid (bodyLen x = 0) := bodyLen_no (by unfold isLp; simp [e])
      have HC : Hid (cmdP dd x (progAt (dd + 1) [] (seg xs (k + 1) (k + 1 + bodyLen x))) = [⟨1, x.b, 0, 1⟩]) := by unfold Hid cmdP; rw [if_pos e, moveP_none]
      rw [HC.out, HBL.out] at HST
      rw [HBL.out] at HV2
      rw [e] at HW p0 c0
      have hwx : IntKind.i64.wrap ((k : Int) + 1 + x.c) = IntKind.i64.wrap ((k : Int) + 1 + x.c) := rfl
      clear e hown hs S3 HBL HC hwx
      go_wp2_with fail
      rw [← HW.out]
      refine (l07Clear_any x.b _).mono ?_
      rintro e w2 ⟨v2, rfl, hown2, hb2⟩
      obtain ⟨A2, c2, rfl⟩ := own_form hown2
      go_wp2_with fail
      refine (l07Join_any A1 A2 la 1 c1 c2 acc [⟨1, x.b, 0, 1⟩] _ (hsrc1.below hb2) (Src.of_own hown2) (by omega) (by omega) (by rw [← moveP_none]; exact moveP_wf _ _)).mono ?_
      rintro e w3 ⟨v3, rfl, hown3, hb3⟩
      have hB3 := below_step hB1 (below_step hb2 hb3)
      have hlo := Nat.le_trans hB1.size hb2.size
      clear c0 k1 k2 hb2 hb3 hown2 hsrc1 HW p0 p1 p2
      go_wp2
      go_roundw
      case rel => exact ⟨k + 1, joinP acc [⟨1, x.b, 0, 1⟩], by omega, by omega, by go_num, by rw [joinP_len, ← HLA.out]; exact own_base hown3 hlo, HST.symm, HV2, hB3⟩
      case measure => simp [intOf]; omega
    · -- inc
      have HBL : Hid (bodyLen x = 0) := bodyLen_no (by unfold isLp; simp [e])
      have HC : Hid (cmdP dd x (progAt (dd + 1) [] (seg xs (k + 1) (k + 1 + bodyLen x))) = [⟨0, x.b, 1, 0⟩]) := by unfold Hid cmdP; rw [if_neg (by omega), if_pos e]
      rw [HC.out, HBL.out] at HST
      rw [HBL.out] at HV2
      rw [e] at HW p0 c0
      have hown2 : (w1.alloc (.cells #[.int .i64 0, .int .i64 x.b, .int .i64 1, .int .i64 0] 66)).ownsRow w1.heap.size 66 4 (.slice (some ⟨w1.heap.size, 0, none⟩) 1 1) 1 (rows R4.vs [⟨0, x.b, 1, 0⟩]) := own_laid w1 _ 4 1 _ rfl (by simp [maxLen])
      have hb2 := laid_below w1 (.cells #[.int .i64 0, .int .i64 x.b, .int .i64 1, .int .i64 0] 66)
      clear e hown hs S3 HBL HC
      have hlo := Nat.le_trans hB1.size hb2.size
      have hsz : (wr.alloc (.cells #[.int .i64 1, .int .i64 x.b, .int .i64 x.c] 86)).heap.size = w1.heap.size := by rw [HW.out]
      go_wp2_with fail
      rw [← HW.out]
      try rw [hsz]
      refine (l07Join_any A1 _ la 1 c1 1 acc [⟨0, x.b, 1, 0⟩] _ (hsrc1.below hb2) (Src.of_own hown2) (by omega) (by omega) (by intro y hy; simp at hy; subst hy; simp)).mono ?_
      rintro e w3 ⟨v3, rfl, hown3, hb3⟩
      have hB3 := below_step hB1 (below_step hb2 hb3)
      clear c0 k1 k2 hb2 hb3 hown2 hsrc1 HW p0 p1 p2
      go_wp2
      go_roundw
      case rel => exact ⟨k + 1, joinP acc [⟨0, x.b, 1, 0⟩], by omega, by omega, by go_num, by rw [joinP_len, ← HLA.out]; exact own_base hown3 hlo, HST.symm, HV2, hB3⟩
      case measure => simp [intOf]; omega
    · -- times
      have hlp : isLp x = true := by unfold isLp; simp [e]
      obtain ⟨h3v, h3c, h3d⟩ := S3.out hlp
      obtain ⟨m, hm⟩ : ∃ m : Nat, x.c = m := ⟨x.c.toNat, by omega⟩
      have HBL : Hid (bodyLen x = m) := by unfold Hid; rw [bodyLen_lp hlp, hm]; simp
      rw [HBL.out] at HST HV2 hkm h3v
      obtain ⟨B, hBB⟩ : ∃ B, B = progAt (dd + 1) [] (seg xs (k + 1) (k + 1 + m)) := ⟨_, rfl⟩
      obtain ⟨f1, f2, f3⟩ := progAt_facts _ (seg xs (k + 1) (k + 1 + m)) (dd + 1) [] (Nat.le_refl _)
      rw [seg_len (by have := HL.out; omega), ← hBB] at f2
      rw [← hBB] at f3 HST
      simp only [List.length_nil, Nat.zero_add] at f2
      have HWF := Lib.hid (f3 nil_wf)
      obtain ⟨nb, hnb⟩ : ∃ nb, nb = B.length := ⟨_, rfl⟩
      rw [← hnb] at f2
      have HNB := Lib.hid hnb
      have HNR := Lib.hid (HWF.out.near (by rw [← hnb]; omega))
      have HIH : Hid (∀ W, Below w.heap.size w W → Calls Tryz.prog 39 #[.slice (some ⟨b, off, none⟩) n c, .int .i64 ((k : Int) + 1), .int .i64 ((k : Int) + 1 + (m : Int)), .int .i64 (dd + 1)] W fun e w' => ∃ v, e = .returned v ∧ w'.ownsRow W.heap.size 66 4 v nb (rows R4.vs B) ∧ Below W.heap.size W w') := by
        intro W hW
        have := IH.out (k + 1 + m - (k + 1)) (by omega) (some ⟨b, off, none⟩) n c (k + 1) (k + 1 + m) (d - 1) (dd + 1) xs W (ha.below hW) hn (by omega) (by omega) (by omega) (by omega) (by omega) h3v
        rw [← hBB, ← hnb] at this
        exact this
      have HC : Hid (cmdP dd x B = joinP (copyP x.b (16 + dd) 23) (timesP (16 + dd) B)) := by unfold Hid cmdP; rw [if_neg (by omega), if_neg (by omega), if_neg (by omega), if_pos e]
      rw [HC.out] at HST
      have HTW := Lib.hid (timesP_wf (16 + dd) HWF.out)
      have HJW := Lib.hid (joinP_wf (copyP_wf x.b (16 + dd) 23) HTW.out)
      have HO := Lib.hid (one_rows_Instr (B.map (redirF (tgt nb 0 1))))
      have HTL : Hid ((timesP (16 + dd) B).length = 1 + nb) := by unfold Hid timesP; rw [← hnb]; simp; omega
      rw [e] at HW p0 c0
      rw [hm] at HW p2 k2
      have w8 : IntKind.i64.wrap (16 + dd) = 16 + dd := IntWalk.i64_in _ (by omega)
      have w9 : IntKind.i64.wrap (dd + 1) = dd + 1 := IntWalk.i64_in _ (by omega)
      have w7 : IntKind.i64.wrap ((k : Int) + 1 + (m : Int)) = (k : Int) + 1 + (m : Int) := IntWalk.i64_in _ (by omega)
      have w6 : IntKind.i64.wrap ((nb : Int) + 1) = (nb : Int) + 1 := IntWalk.i64_in _ (by omega)
      have hmm : (m : Int) ≤ 150 := by omega
      clear e hown hs S3 HBL HC hBB hnb f1 f3 h3v h3c h3d hlp
      go_wp2_with fail
      rw [← HW.out]
      refine (HIH.out _ hB1).mono ?_
      rintro e w2 ⟨v2, rfl, hown2, hb2⟩
      obtain ⟨A2, c2, rfl⟩ := own_form hown2
      have hB2 := below_step hB1 hb2
      have hsrc2 := hsrc1.below hb2
      have k1' := cell_step k1 hb2
      clear c0 k1 k2 HW p0 p1 p2 hsrc1
      -- the head of the loop
      have HJL : Hid ((joinP (copyP x.b (16 + dd) 23) (timesP (16 + dd) B)).length = 5 + (1 + nb)) := by unfold Hid; rw [joinP_len, copyP_len, HTL.out]
      rcases Nat.eq_zero_or_pos nb with hz | hz
      · subst hz
        obtain ⟨w4, HW4⟩ : ∃ w4, Hid (w4 = w2.alloc (.cells #[.int .i64 1, .int .i64 (16 + dd), .int .i64 0, .int .i64 1] 66)) := ⟨_, rfl⟩
        have ho4 : w4.ownsRow w2.heap.size 66 4 (.slice (some ⟨w2.heap.size, 0, none⟩) 1 1) 1 (rows R4.vs [⟨1, 16 + dd, 0, 1⟩]) := by rw [HW4.out]; exact own_laid w2 66 4 1 #[.int .i64 1, .int .i64 (16 + dd), .int .i64 0, .int .i64 1] rfl (by simp [maxLen])
        have HTP : Hid (rows R4.vs [⟨1, 16 + dd, 0, 1⟩] ++ rows R4.vs (B.map (redirF (tgt 0 0 1))) = rows R4.vs (timesP (16 + dd) B)) := by unfold Hid timesP; rw [← HNB.out, ← rows_app]; rfl
        have hb4 : Below w2.heap.size w2 w4 := by rw [HW4.out]; exact laid_below _ _
        have hB4 := below_step hB2 hb4
        have hsB := (Src.of_own hown2).below hb4
        clear hown2 hb2
        go_wp2_with fail
        rw [← HW4.out]
        refine (l07Shift_any 1 0 A2 0 c2 B _ hsB (by omega) HNR.out HWF.out.kinds (by omega) (by omega)).mono ?_
        rintro e w5 ⟨v5, rfl, hown5, hb5⟩
        have ho5 := own_below' ho4 hb5
        have hb45 := below_step hb4 hb5
        have hB5 := below_step hB4 hb5
        have hs5 := Src.of_own hown5
        clear hsB ho4 hown5 hb5 HW4
        go_wp2_with (first | (at_builtin; refine wpList_appx rfl _ _ _ rfl Tryz.underlying39 infoInstr rfl (by omega) w2.heap.size ho5 hb45.size rfl hs5 rfl HO.out (by unfold maxLen; omega) (by omega) ?_; intro v6 w6 hown6 hg6 hnil6; have hb6 := grown_below hb45 ho5 (Nat.le_refl _) hg6; have k6 := cell_step k1' hb6; have hsa6 := hsrc2.below hb6; clear hnil6 hs5 ho5 hg6 hb45 k1' hsrc2))
        have hB6 := below_step hB2 hb6
        obtain ⟨A6, c6, rfl⟩ := own_form hown6
        rw [HTP.out] at hown6
        have hs6 := Src.of_own hown6
        refine (l07Copy_any x.b (16 + dd) 23 _).mono ?_
        rintro e w7 ⟨v7, rfl, hown7, hb7⟩
        have hB7 := below_step hB6 hb7
        obtain ⟨A7, c7, rfl⟩ := own_form hown7
        have hs7 := Src.of_own hown7
        have hs67 := hs6.below hb7
        have hsa7 := hsa6.below hb7
        clear hown6 hown7 hs6 hsa6 k6 hb6 hb4
        go_wp2_with fail
        refine (l07Join_any A7 A6 5 (1 + 0) c7 c6 _ _ _ hs7 hs67 (by omega) (by omega) HTW.out).mono ?_
        rintro e w9 ⟨v9, rfl, hown9, hb9⟩
        have hB9 := below_step hB7 hb9
        obtain ⟨A9, c9, rfl⟩ := own_form hown9
        have hs9 := Src.of_own hown9
        have hsa9 := hsa7.below hb9
        clear hown9 hb9 hsa7 hs7 hs67 hb7
        go_wp2_with fail
        refine (l07Join_any A1 A9 la (5 + (1 + 0)) c1 c9 acc _ _ hsa9 hs9 (by omega) (by omega) HJW.out).mono ?_
        rintro e w10 ⟨v10, rfl, hown10, hb10⟩
        have hB10 := below_step hB9 hb10
        clear hsa9 hs9 hb10
        go_wp2
        go_roundw
        case rel => exact ⟨k + 1 + m, _, by omega, by omega, by go_num, by rw [joinP_len, HJL.out, ← HLA.out]; exact own_base hown10 hB9.size, HST.symm, HV2, hB10⟩
        case measure => simp [intOf]; omega
      · have e0 : ((nb : Int) == 0) = false := (by simp; omega)
        obtain ⟨w4, HW4⟩ : ∃ w4, Hid (w4 = w2.alloc (.cells #[.int .i64 1, .int .i64 (16 + dd), .int .i64 1, .int .i64 ((nb : Int) + 1)] 66)) := ⟨_, rfl⟩
        have ho4 : w4.ownsRow w2.heap.size 66 4 (.slice (some ⟨w2.heap.size, 0, none⟩) 1 1) 1 (rows R4.vs [⟨1, 16 + dd, 1, ((nb : Int) + 1)⟩]) := by rw [HW4.out]; exact own_laid w2 66 4 1 #[.int .i64 1, .int .i64 (16 + dd), .int .i64 1, .int .i64 ((nb : Int) + 1)] rfl (by simp [maxLen])
        have HTP : Hid (rows R4.vs [⟨1, 16 + dd, 1, ((nb : Int) + 1)⟩] ++ rows R4.vs (B.map (redirF (tgt nb 0 1))) = rows R4.vs (timesP (16 + dd) B)) := by unfold Hid timesP; rw [← HNB.out, ← rows_app]; rw [if_neg (by omega)]; rfl
        have hb4 : Below w2.heap.size w2 w4 := by rw [HW4.out]; exact laid_below _ _
        have hB4 := below_step hB2 hb4
        have hsB := (Src.of_own hown2).below hb4
        clear hown2 hb2
        go_wp2_with fail
        rw [← HW4.out]
        refine (l07Shift_any 1 0 A2 nb c2 B _ hsB (by omega) HNR.out HWF.out.kinds (by omega) (by omega)).mono ?_
        rintro e w5 ⟨v5, rfl, hown5, hb5⟩
        have ho5 := own_below' ho4 hb5
        have hb45 := below_step hb4 hb5
        have hB5 := below_step hB4 hb5
        have hs5 := Src.of_own hown5
        clear hsB ho4 hown5 hb5 HW4
        go_wp2_with (first | (at_builtin; refine wpList_appx rfl _ _ _ rfl Tryz.underlying39 infoInstr rfl (by omega) w2.heap.size ho5 hb45.size rfl hs5 rfl HO.out (by unfold maxLen; omega) (by omega) ?_; intro v6 w6 hown6 hg6 hnil6; have hb6 := grown_below hb45 ho5 (Nat.le_refl _) hg6; have k6 := cell_step k1' hb6; have hsa6 := hsrc2.below hb6; clear hnil6 hs5 ho5 hg6 hb45 k1' hsrc2))
        have hB6 := below_step hB2 hb6
        obtain ⟨A6, c6, rfl⟩ := own_form hown6
        rw [HTP.out] at hown6
        have hs6 := Src.of_own hown6
        refine (l07Copy_any x.b (16 + dd) 23 _).mono ?_
        rintro e w7 ⟨v7, rfl, hown7, hb7⟩
        have hB7 := below_step hB6 hb7
        obtain ⟨A7, c7, rfl⟩ := own_form hown7
        have hs7 := Src.of_own hown7
        have hs67 := hs6.below hb7
        have hsa7 := hsa6.below hb7
        clear hown6 hown7 hs6 hsa6 k6 hb6 hb4
        go_wp2_with fail
        refine (l07Join_any A7 A6 5 (1 + nb) c7 c6 _ _ _ hs7 hs67 (by omega) (by omega) HTW.out).mono ?_
        rintro e w9 ⟨v9, rfl, hown9, hb9⟩
        have hB9 := below_step hB7 hb9
        obtain ⟨A9, c9, rfl⟩ := own_form hown9
        have hs9 := Src.of_own hown9
        have hsa9 := hsa7.below hb9
        clear hown9 hb9 hsa7 hs7 hs67 hb7
        go_wp2_with fail
        refine (l07Join_any A1 A9 la (5 + (1 + nb)) c1 c9 acc _ _ hsa9 hs9 (by omega) (by omega) HJW.out).mono ?_
        rintro e w10 ⟨v10, rfl, hown10, hb10⟩
        have hB10 := below_step hB9 hb10
        clear hsa9 hs9 hb10
        go_wp2
        go_roundw
        case rel => exact ⟨k + 1 + m, _, by omega, by omega, by go_num, by rw [joinP_len, HJL.out, ← HLA.out]; exact own_base hown10 hB9.size, HST.symm, HV2, hB10⟩
        case measure => simp [intOf]; omega
    · -- again
      have hlp : isLp x = true := by unfold isLp; simp [e]
      obtain ⟨h3v, h3c, h3d⟩ := S3.out hlp
      obtain ⟨m, hm⟩ : ∃ m : Nat, x.c = m := ⟨x.c.toNat, by omega⟩
      have HBL : Hid (bodyLen x = m) := by unfold Hid; rw [bodyLen_lp hlp, hm]; simp
      rw [HBL.out] at HST HV2 hkm h3v
      obtain ⟨B, hBB⟩ : ∃ B, B = progAt (dd + 1) [] (seg xs (k + 1) (k + 1 + m)) := ⟨_, rfl⟩
      obtain ⟨f1, f2, f3⟩ := progAt_facts _ (seg xs (k + 1) (k + 1 + m)) (dd + 1) [] (Nat.le_refl _)
      rw [seg_len (by have := HL.out; omega), ← hBB] at f2
      rw [← hBB] at f3 HST
      simp only [List.length_nil, Nat.zero_add] at f2
      have HWF := Lib.hid (f3 nil_wf)
      obtain ⟨nb, hnb⟩ : ∃ nb, nb = B.length := ⟨_, rfl⟩
      rw [← hnb] at f2
      have HNB := Lib.hid hnb
      have HNR := Lib.hid (HWF.out.near (by rw [← hnb]; omega))
      have HIH : Hid (∀ W, Below w.heap.size w W → Calls Tryz.prog 39 #[.slice (some ⟨b, off, none⟩) n c, .int .i64 ((k : Int) + 1), .int .i64 ((k : Int) + 1 + (m : Int)), .int .i64 (dd + 1)] W fun e w' => ∃ v, e = .returned v ∧ w'.ownsRow W.heap.size 66 4 v nb (rows R4.vs B) ∧ Below W.heap.size W w') := by
        intro W hW
        have := IH.out (k + 1 + m - (k + 1)) (by omega) (some ⟨b, off, none⟩) n c (k + 1) (k + 1 + m) (d - 1) (dd + 1) xs W (ha.below hW) hn (by omega) (by omega) (by omega) (by omega) (by omega) h3v
        rw [← hBB, ← hnb] at this
        exact this
      have HC : Hid (cmdP dd x B = loopP x.b B) := by unfold Hid cmdP; rw [if_neg (by omega), if_neg (by omega), if_neg (by omega), if_neg (by omega)]
      rw [HC.out] at HST
      have HLW := Lib.hid (loopP_wf x.b HWF.out)
      have HLL : Hid ((loopP x.b B).length = nb + 2) := by unfold Hid; rw [loopP_len, ← hnb]
      rw [e] at HW p0 c0
      rw [hm] at HW p2 k2
      have w9 : IntKind.i64.wrap (dd + 1) = dd + 1 := IntWalk.i64_in _ (by omega)
      have w7 : IntKind.i64.wrap ((k : Int) + 1 + (m : Int)) = (k : Int) + 1 + (m : Int) := IntWalk.i64_in _ (by omega)
      have w5 : IntKind.i64.wrap ((k : Int) + 1) = (k : Int) + 1 := IntWalk.i64_in _ (by omega)
      have hmm : (m : Int) ≤ 150 := by omega
      clear e hown hs S3 HBL HC hBB hnb f1 f3 h3v h3c h3d hlp
      go_wp2
      rw [← HW.out]
      go_region_held3 (fun w' => w'.cell? ⟨wr.heap.size, 1, none⟩ = some (.int .i64 x.b)) (first | go_keep | exact m1 | exact n1 | exact q1)
        ((first
          | (go_at_call 39; refine (HIH.out _ (hB1.drew)).mono ?_; rintro e w2 ⟨v2, rfl, hown2, hb2⟩; obtain ⟨A2, c2, rfl⟩ := own_form hown2; have hs2 := Src.of_own hown2; have m1 := cell_step (by exact k1) hb2)
          | (go_at_call 59; refine (l07Loop_any x.b A2 nb c2 B _ hs2 (by omega) HNR.out HWF.out.kinds).mono ?_; rintro e w3 ⟨v3, rfl, hown3, hb3⟩; obtain ⟨A3, c3, rfl⟩ := own_form hown3; have hs3 := Src.of_own hown3; have n1 := cell_step m1 hb3; have hsa3 := (hsrc1.below (below_drew_at hb2)).below hb3)
          | (go_at_call 55; refine (l07Join_any A1 A3 la (nb + 2) c1 c3 acc (loopP x.b B) _ hsa3 hs3 (by omega) (by omega) HLW.out).mono ?_; rintro e w4 ⟨v4, rfl, hown4, hb4⟩; have q1 := cell_step n1 hb4)))
      all_goals
        have hB3 := below_step (below_step hB1 (below_drew_at hb2)) hb3
        have hB4 := below_step hB3 hb4
        clear hsrc1 hown2 hown3 hb2 hb3 hb4 hs2 hs3 hsa3 m1 n1 q1 k1 k2 c0 p0 p1 p2
        go_wp2
        go_roundw
        case rel => exact ⟨k + 1 + m, _, by omega, by omega, by go_num, by rw [joinP_len, HLL.out, ← HLA.out]; exact own_base hown4 hB3.size, HST.symm, HV2, hB4⟩
        case measure => simp [intOf]; omega
    · -- copy
      have HBL : Hid (bodyLen x = 0) := bodyLen_no (by unfold isLp; simp [e])
      rw [HBL.out] at HV2 HST
      by_cases hbc : x.b = x.c
      · have HC : Hid (cmdP dd x (progAt (dd + 1) [] (seg xs (k + 1) (k + 1 + 0))) = []) := by unfold Hid cmdP; rw [if_neg (by omega), if_neg (by omega), if_pos e, if_pos hbc]
        rw [HC.out, joinP_none] at HST
        rw [e] at HW p0 c0
        have e0 : (x.b != x.c) = false := by simp [hbc]
        have HBC := Lib.hid hbc
        have hown1 : w1.ownsRow w.heap.size 66 4 (.slice A1 la c1) la (rows R4.vs acc) := by
          rw [HW.out]; exact own_below' hown (laid_below _ _)
        clear e hown hs S3 HBL HC hsrc1 hbc
        go_wp2_with fail
        rw [← HW.out]
        clear c0 k1 k2 p0 p1 p2 HW
        go_roundw
        case rel => exact ⟨k + 1, acc, by omega, by omega, by go_num, by rw [← HLA.out]; exact hown1, HST.symm, HV2, hB1⟩
        case measure => simp [intOf]; omega
      · have HC : Hid (cmdP dd x (progAt (dd + 1) [] (seg xs (k + 1) (k + 1 + 0))) = joinP (moveP x.b []) (copyP x.c x.b 23)) := by unfold Hid cmdP; rw [if_neg (by omega), if_neg (by omega), if_pos e, if_neg hbc]
        rw [HC.out] at HST
        have HJL : Hid ((joinP (moveP x.b []) (copyP x.c x.b 23)).length = 1 + 5) := by unfold Hid; rw [joinP_len, moveP_len, copyP_len]; rfl
        have HJW := Lib.hid (joinP_wf (moveP_wf x.b []) (copyP_wf x.c x.b 23))
        have HMN : Hid (rows R4.vs [⟨1, x.b, 0, 1⟩] = rows R4.vs (moveP x.b [])) := by unfold Hid; rw [moveP_none]
        rw [e] at HW p0 c0
        have e0 : (x.b != x.c) = true := by simpa using hbc
        clear e hown hs S3 HBL HC hbc
        go_wp2_with fail
        rw [← HW.out]
        go_region_held3 (fun w' => w'.cell? ⟨wr.heap.size, 1, none⟩ = some (.int .i64 x.b) ∧ w'.cell? ⟨wr.heap.size, 2, none⟩ = some (.int .i64 x.c)) (first | go_keep | exact ⟨m1, m2⟩ | exact ⟨n1, n2⟩ | exact ⟨q1, q2⟩ | exact ⟨r1, r2⟩)
          ((first
            | (go_at_call 56; refine (l07Clear_any x.b _).mono ?_; rintro e w2 ⟨v2, rfl, hown2, hb2⟩; obtain ⟨A2, c2, rfl⟩ := own_form hown2; rw [HMN.out] at hown2; have hs2 := Src.of_own hown2; have m1 := cell_step (by exact k1) hb2; have m2 := cell_step (by exact k2) hb2)
            | (go_at_call 57; refine (l07Copy_any x.c x.b 23 _).mono ?_; rintro e w3 ⟨v3, rfl, hown3, hb3⟩; obtain ⟨A3, c3, rfl⟩ := own_form hown3; have hs3 := Src.of_own hown3; have hs23 := hs2.below hb3; have n1 := cell_step m1 hb3; have n2 := cell_step m2 hb3; have hsa3 := (hsrc1.below (below_drew_at hb2)).below hb3)
            | (go_at_call_of 55 (Value.slice A2 1 c2); refine (l07Join_any A2 A3 1 5 c2 c3 _ _ _ hs23 hs3 (by omega) (by omega) (copyP_wf _ _ _)).mono ?_; rintro e w4 ⟨v4, rfl, hown4, hb4⟩; obtain ⟨A4, c4, rfl⟩ := own_form hown4; have hs4 := Src.of_own hown4; have hsa4 := hsa3.below hb4; have q1 := cell_step n1 hb4; have q2 := cell_step n2 hb4)
            | (go_at_call_of 55 (Value.slice A1 la c1); refine (l07Join_any A1 A4 la (1 + 5) c1 c4 acc _ _ hsa4 hs4 (by omega) (by omega) HJW.out).mono ?_; rintro e w5 ⟨v5, rfl, hown5, hb5⟩; have r1 := cell_step q1 hb5; have r2 := cell_step q2 hb5)))
        all_goals
          have hB3 := below_step (below_step (below_step hB1 (below_drew_at hb2)) hb3) hb4
          have hB4 := below_step hB3 hb5
          clear hsrc1 hown2 hown3 hown4 hb2 hb3 hb4 hb5 hs2 hs3 hsa3 hs23 hs4 hsa4 m1 n1 q1 m2 n2 q2 r1 r2 k1 k2 c0 p0 p1 p2
          go_wp2
          go_roundw
          case rel => exact ⟨k + 1, _, by omega, by omega, by go_num, by rw [joinP_len, HJL.out, ← HLA.out]; exact own_base hown5 hB3.size, HST.symm, HV2, hB4⟩
          case measure => simp [intOf]; omega
end Go.Proofs.YtjggkgdojhlhpaaGreat

/- ProgramOfLoop on both sides. -/
namespace Go.Proofs.YtjggkgdojhlhpaaGreat
open Go.RowKit
set_option linter.all false

theorem validL_facts {xs : List R3} (h : validL xs = true) : xs.length ≤ 150 ∧ vl 7 xs = true := by
  unfold validL at h
  simpa using h

set_option maxRecDepth 100000 in
theorem implProgramOfLoop_w (b off n c : Nat) (xs : List R3) (w : World) (hs : Sl w b off (rows R3.vs xs)) (hl : xs.length = n) (hn : n ≤ 1048576) (hc : n ≤ c) :
    Calls Tryz.prog 31 #[.slice (some ⟨b, off, none⟩) n c] w fun e w' => ∃ v, e = .returned (.tuple #[v, .int .i64 (programOfLoop xs).2]) ∧
      w'.ownsRow w.heap.size 66 4 v (programOfLoop xs).1.length (rows R4.vs (programOfLoop xs).1) ∧ Below w.heap.size w w' := by
  have HL := Lib.hid hl; clear hl
  have HA := Lib.hid (Args.of_sl (n := n) (s := 3) hs (by rw [rows_len R3.vs_len, HL.out]))
  rcases Bool.eq_false_or_eq_true (validL xs) with hv | hv
  rotate_left
  · have HM : Hid (programOfLoop xs = ([], 1)) := by unfold Hid programOfLoop; rw [hv]; rfl
    have HV := Lib.hid hv; clear hv
    go_enter Tryz.func31, Tryz.ntmps31
    go_wp2_with fail
    refine (implValidLoop_is b off n c xs false HV.out _ HA.out hn hc).mono ?_
    rintro e w1 ⟨rfl, hb1⟩
    go_wp2
    go_ret2
    rw [HM.out]
    exact ⟨_, rfl, World.ownsRow_nil _ _ _ _, hb1⟩
  obtain ⟨h1, h7⟩ := validL_facts hv
  rw [HL.out] at h1
  have HM : Hid (programOfLoop xs = fits (progAt 0 [] xs)) := by unfold Hid programOfLoop; rw [hv]; rfl
  have HV := Lib.hid hv; clear hv
  have H7 := Lib.hid h7
  obtain ⟨-, pf2, -⟩ := progAt_facts _ xs 0 [] (Nat.le_refl _)
  rw [HL.out] at pf2
  simp only [List.length_nil, Nat.zero_add] at pf2
  obtain ⟨m, hm⟩ : ∃ m, m = (progAt 0 [] xs).length := ⟨_, rfl⟩
  rw [← hm] at pf2
  have HMM := Lib.hid hm; clear hm h7
  by_cases h4 : 400 < m
  · have hi : (400 : Int) < (m : Int) := by omega
    have HF : Hid (fits (progAt 0 [] xs) = ([], 5)) := by unfold Hid fits; rw [← HMM.out, if_pos h4, if_pos h4]
    go_enter Tryz.func31, Tryz.ntmps31
    go_wp2_with fail
    refine (implValidLoop_is b off n c xs true HV.out _ HA.out hn hc).mono ?_
    rintro e w1 ⟨rfl, hb1⟩
    go_wp2_with fail
    refine (programOfLoop_any n _ c 7 0 xs _ (HA.out.below hb1) h1 hc (by omega) (by omega) H7.out).mono ?_
    rintro e w2 ⟨v2, rfl, hown2, hb2⟩
    rw [← HMM.out] at hown2
    obtain ⟨A2, c2, rfl⟩ := own_form hown2
    go_wp2
    go_ret2
    rw [HM.out, HF.out]
    exact ⟨_, rfl, World.ownsRow_nil _ _ _ _, below_step hb1 hb2⟩
  · have hi : ¬ (400 : Int) < (m : Int) := by omega
    have HF : Hid (fits (progAt 0 [] xs) = (progAt 0 [] xs, 0)) := by unfold Hid fits; rw [← HMM.out, if_neg h4, if_neg h4]
    go_enter Tryz.func31, Tryz.ntmps31
    go_wp2_with fail
    refine (implValidLoop_is b off n c xs true HV.out _ HA.out hn hc).mono ?_
    rintro e w1 ⟨rfl, hb1⟩
    go_wp2_with fail
    refine (programOfLoop_any n _ c 7 0 xs _ (HA.out.below hb1) h1 hc (by omega) (by omega) H7.out).mono ?_
    rintro e w2 ⟨v2, rfl, hown2, hb2⟩
    rw [← HMM.out] at hown2
    obtain ⟨A2, c2, rfl⟩ := own_form hown2
    go_wp2
    go_ret2
    rw [HM.out, HF.out]
    exact ⟨_, rfl, by show World.ownsRow _ _ _ _ _ (progAt 0 [] xs).length _; rw [← HMM.out]; exact own_base hown2 hb1.size, below_step hb1 hb2⟩
theorem implProgramOfLoop_any (b off n c : Nat) (xs : List R3) (w : World) (hs : Sl w b off (rows R3.vs xs)) (hl : xs.length = n) (hn : n ≤ 1048576) (hc : n ≤ c) (hf : ∀ x ∈ xs, x.wf) :
    Calls Tryz.prog 31 #[.slice (some ⟨b, off, none⟩) n c] w fun e w' => ∃ v, e = .returned (.tuple #[v, .int .i64 (programOfLoop xs).2]) ∧
      w'.ownsRow w.heap.size 66 4 v (programOfLoop xs).1.length (rows R4.vs (programOfLoop xs).1) ∧ Below w.heap.size w w' :=
  implProgramOfLoop_w b off n c xs w hs hl hn hc
end Go.Proofs.YtjggkgdojhlhpaaGreat

/- ProgramOfFunc: the loop program's register program. -/
namespace Go.Proofs.YtjggkgdojhlhpaaGreat
open Go.RowKit
set_option linter.all false

def progOfFunc (f : List R3) : List R4 × Int := if validF f = true ∧ validL (lpOf f) = true then programOfLoop (lpOf f) else ([], (loopF f).2)
theorem bndProgramOfFunc0 (f : List R3) (h : f.length ≤ 1048576) : (progOfFunc f).1.length ≤ 1048576 := by
  unfold progOfFunc
  by_cases hv : validF f = true ∧ validL (lpOf f) = true
  · rw [if_pos hv]
    have := (lpOf_len hv.1).1
    exact bndProgramOfLoop0 _ (by omega)
  · rw [if_neg hv]; simp
theorem progOfFunc_no {f : List R3} (h : ¬ (validF f = true ∧ validL (lpOf f) = true)) : ∃ cd : Int, loopF f = ([], cd) ∧ progOfFunc f = ([], cd) ∧ cd ≠ 0 := by
  have h2 : progOfFunc f = ([], (loopF f).2) := by unfold progOfFunc; rw [if_neg h]
  by_cases hv : validF f = true
  · have hk : validL (lpOf f) = false := by cases k : validL (lpOf f) with | false => rfl | true => exact absurd ⟨hv, k⟩ h
    exact ⟨5, loopF_5 hv hk, by rw [h2, loopF_5 hv hk], by decide⟩
  · have hk : validF f = false := by simpa using hv
    exact ⟨1, loopF_1 hk, by rw [h2, loopF_1 hk], by decide⟩

set_option maxRecDepth 100000 in
set_option maxHeartbeats 1000000 in
theorem specProgramOfFunc_any (b off n c : Nat) (xs : List R3) (w : World) (hs : Sl w b off (rows R3.vs xs)) (hl : xs.length = n) (hn : n ≤ 1048576) (hc : n ≤ c) (hf : ∀ x ∈ xs, x.wf) :
    Calls Tryz.prog 23 #[.slice (some ⟨b, off, none⟩) n c] w fun e w' => ∃ v, e = .returned (.tuple #[v, .int .i64 (progOfFunc xs).2]) ∧
      w'.ownsRow w.heap.size 66 4 v (progOfFunc xs).1.length (rows R4.vs (progOfFunc xs).1) ∧ Below w.heap.size w w' := by
  have HS := Lib.hid (specLoopOfFunc_any b off n c xs w hs hl hn hc hf)
  by_cases hv : validF xs = true ∧ validL (lpOf xs) = true
  · have hm := loopF_0 hv.1 hv.2
    have HM : Hid (progOfFunc xs = fits (progAt 0 [] (lpOf xs))) := by unfold Hid progOfFunc; rw [if_pos hv]; unfold programOfLoop; rw [hv.2]; rfl
    obtain ⟨h1, h7⟩ := validL_facts hv.2
    obtain ⟨_, hp⟩ := lpOf_len hv.1
    obtain ⟨L, hL⟩ : ∃ L, L = lpOf xs := ⟨_, rfl⟩
    rw [← hL] at hm HM h1 h7 hp
    rw [hm] at HS
    obtain ⟨a0, ha0⟩ : ∃ a0, a0 = L.length := ⟨_, rfl⟩
    have HA0 := Lib.hid ha0
    have HSG : Hid (seg L 0 a0 = L) := by unfold Hid; rw [ha0]; exact seg_all L
    have H7 : Hid (vl 7 (seg L 0 a0) = true) := by unfold Hid; rw [HSG.out]; exact h7
    obtain ⟨-, pf2, -⟩ := progAt_facts _ L 0 [] (Nat.le_refl _)
    rw [← ha0] at pf2 h1 hp
    simp only [List.length_nil, Nat.zero_add] at pf2
    obtain ⟨m, hm2⟩ : ∃ m, m = (progAt 0 [] L).length := ⟨_, rfl⟩
    rw [← hm2] at pf2
    have HMM := Lib.hid hm2
    clear hm2 h7 hm hL hv hl hf ha0
    go_enter Tryz.func23, Tryz.ntmps23
    go_wp2_with fail
    refine HS.out.mono ?_
    rintro e w1 ⟨v1, rfl, own1, b1⟩
    try simp only at own1
    rw [← HA0.out] at own1
    obtain ⟨A1, c1, rfl⟩ := own_form own1
    have hA1 : Args 3 w1 A1 a0 (rows R3.vs L) := args_of_own own1
    clear own1
    go_wp2_with fail
    refine (l17Program_any a0 _ a0 c1 0 a0 7 0 L _ hA1 h1 (Nat.zero_le _) (Nat.le_refl _) (by omega) (by omega) (by omega) H7.out).mono ?_
    rintro e w2 ⟨v2, rfl, hown2, hb2⟩
    rw [HSG.out, ← HMM.out] at hown2
    obtain ⟨A2, c2, rfl⟩ := own_form hown2
    have hB2 := below_step b1 hb2
    go_wp2_with fail
    refine (l07Fits_any w.heap.size m c2 A2 (progAt 0 [] L) _ (own_base hown2 b1.size) HMM.out.symm (by omega)).mono ?_
    rintro e w3 ⟨⟨v3, rfl, hown3⟩, rfl⟩
    go_wp2
    go_ret2
    rw [HM.out]
    exact ⟨_, rfl, hown3, hB2⟩
  · obtain ⟨cd, h1, h2, h3⟩ := progOfFunc_no hv
    rw [h1] at HS
    have HM := Lib.hid h2
    have hcd : (cd != 0) = true := by simpa using h3
    clear h1 h2 hv hl hf
    go_enter Tryz.func23, Tryz.ntmps23
    go_wp2_with fail
    refine HS.out.mono ?_
    rintro e w1 ⟨v1, rfl, own1, b1⟩
    obtain ⟨A1, c1, rfl⟩ := own_form own1
    go_wp2
    go_ret2
    rw [HM.out]
    exact ⟨_, rfl, World.ownsRow_nil _ _ _ _, b1⟩

set_option maxRecDepth 100000 in
set_option maxHeartbeats 1000000 in
theorem implProgramOfFunc_any (b off n c : Nat) (xs : List R3) (w : World) (hs : Sl w b off (rows R3.vs xs)) (hl : xs.length = n) (hn : n ≤ 1048576) (hc : n ≤ c) (hf : ∀ x ∈ xs, x.wf) :
    Calls Tryz.prog 15 #[.slice (some ⟨b, off, none⟩) n c] w fun e w' => ∃ v, e = .returned (.tuple #[v, .int .i64 (progOfFunc xs).2]) ∧
      w'.ownsRow w.heap.size 66 4 v (progOfFunc xs).1.length (rows R4.vs (progOfFunc xs).1) ∧ Below w.heap.size w w' := by
  have HS := Lib.hid (implLoopOfFunc_any b off n c xs w hs hl hn hc hf)
  by_cases hv : validF xs = true ∧ validL (lpOf xs) = true
  · have hm := loopF_0 hv.1 hv.2
    have HM : Hid (progOfFunc xs = programOfLoop (lpOf xs)) := by unfold Hid progOfFunc; rw [if_pos hv]
    obtain ⟨_, hp⟩ := lpOf_len hv.1
    obtain ⟨h1, h7⟩ := validL_facts hv.2
    obtain ⟨L, hL⟩ : ∃ L, L = lpOf xs := ⟨_, rfl⟩
    rw [← hL] at hm HM hp h1
    rw [hm] at HS
    obtain ⟨a0, ha0⟩ : ∃ a0, a0 = L.length := ⟨_, rfl⟩
    have HA0 := Lib.hid ha0
    rw [← ha0] at hp h1
    clear hm hL hv hl hf ha0 h7
    go_enter Tryz.func15, Tryz.ntmps15
    go_wp2_with fail
    refine HS.out.mono ?_
    rintro e w1 ⟨v1, rfl, own1, b1⟩
    try simp only at own1
    rw [← HA0.out] at own1
    obtain ⟨A1, c1, rfl⟩ := own_form own1
    have hc1 := own_capL own1 _ _ rfl
    obtain ⟨g1, rfl, _, _⟩ := own_addr0 own1 hp
    have HSL := Lib.hid (sl_of_own own1)
    clear own1
    go_wp2_with fail
    refine (implProgramOfLoop_w g1 0 a0 c1 L _ HSL.out HA0.out.symm (by omega) hc1).mono ?_
    rintro e w2 ⟨v2, rfl, own2, b2⟩
    obtain ⟨A2, c2, hx⟩ := own_form own2
    subst hx
    go_wp2
    go_ret2
    rw [HM.out]
    exact ⟨_, rfl, own_base own2 b1.size, below_step b1 b2⟩
  · obtain ⟨cd, h1, h2, h3⟩ := progOfFunc_no hv
    rw [h1] at HS
    have HM := Lib.hid h2
    have hcd : (cd != 0) = true := by simpa using h3
    clear h1 h2 hv hl hf
    go_enter Tryz.func15, Tryz.ntmps15
    go_wp2_with fail
    refine HS.out.mono ?_
    rintro e w1 ⟨v1, rfl, own1, b1⟩
    obtain ⟨A1, c1, rfl⟩ := own_form own1
    go_wp2
    go_ret2
    rw [HM.out]
    exact ⟨_, rfl, World.ownsRow_nil _ _ _ _, b1⟩
end Go.Proofs.YtjggkgdojhlhpaaGreat

/- The register program of a function is valid, and what its run gives: plain lemmas. -/
namespace Go.Proofs.YtjggkgdojhlhpaaGreat
set_option linter.all false

/-- Each register is one of 0 to 23, and a step that adds names no other target. -/
def RegP (p : List R4) : Prop := ∀ x ∈ p, (0 ≤ x.b ∧ x.b ≤ 23) ∧ (x.a = 0 → x.d = 0)
theorem nil_reg : RegP [] := by intro x hx; cases hx
theorem redir_reg {p : List R4} (f : Int → Int) (h : RegP p) : RegP (p.map (redirF f)) := by
  intro x hx
  obtain ⟨y, hy, rfl⟩ := List.mem_map.1 hx
  obtain ⟨h1, h2⟩ := h y hy
  refine ⟨h1, ?_⟩
  intro ha
  have ha : y.a = 0 := ha
  show (if y.a = 1 then f y.d else y.d) = 0
  rw [if_neg (by omega)]; exact h2 ha
theorem app_reg {a b : List R4} (ha : RegP a) (hb : RegP b) : RegP (a ++ b) := by
  intro x hx
  rcases List.mem_append.1 hx with hx | hx
  · exact ha x hx
  · exact hb x hx
theorem one_reg {x : R4} (h : (0 ≤ x.b ∧ x.b ≤ 23) ∧ (x.a = 0 → x.d = 0)) : RegP [x] := by
  intro y hy; rw [List.mem_singleton] at hy; subst hy; exact h
theorem joinP_reg {a b : List R4} (ha : RegP a) (hb : RegP b) : RegP (joinP a b) := app_reg ha (redir_reg _ hb)
theorem incs_reg (n : Nat) (ts : List Int) (h : ∀ t ∈ ts, 0 ≤ t ∧ t ≤ 23) : RegP (incs n ts) := by
  intro x hx
  unfold incs at hx
  obtain ⟨i, hi, rfl⟩ := List.mem_mapIdx.1 hx
  exact ⟨h _ (List.getElem_mem _), fun _ => rfl⟩
theorem moveP_reg {f : Int} {ts : List Int} (hf : 0 ≤ f ∧ f ≤ 23) (h : ∀ t ∈ ts, 0 ≤ t ∧ t ≤ 23) : RegP (moveP f ts) := by
  unfold moveP
  split
  · exact one_reg ⟨hf, fun h => by cases h⟩
  · exact app_reg (a := [_]) (one_reg ⟨hf, fun h => by cases h⟩) (incs_reg _ _ h)
theorem copyP_reg {f t s : Int} (hf : 0 ≤ f ∧ f ≤ 23) (ht : 0 ≤ t ∧ t ≤ 23) (hs : 0 ≤ s ∧ s ≤ 23) : RegP (copyP f t s) := by
  unfold copyP
  refine joinP_reg (moveP_reg hf ?_) (moveP_reg hs ?_)
  · intro u hu
    rcases List.mem_cons.1 hu with rfl | hu
    · exact ht
    · rw [List.mem_singleton] at hu; subst hu; exact hs
  · intro u hu; rw [List.mem_singleton] at hu; subst hu; exact hf
theorem timesP_reg {c : Int} {body : List R4} (hc : 0 ≤ c ∧ c ≤ 23) (h : RegP body) : RegP (timesP c body) := by
  unfold timesP
  exact app_reg (a := [_]) (one_reg ⟨hc, fun h => by cases h⟩) (redir_reg _ h)
theorem loopP_reg {r : Int} {body : List R4} (hr : 0 ≤ r ∧ r ≤ 23) (h : RegP body) : RegP (loopP r body) := by
  unfold loopP
  exact app_reg (app_reg (a := [_]) (b := [_]) (one_reg ⟨hr, fun h => by cases h⟩) (one_reg ⟨hr, fun _ => rfl⟩)) (redir_reg _ h)
theorem cmdP_reg {d : Int} {x : R3} {body : List R4} (hb : 0 ≤ x.b ∧ x.b ≤ 15) (hc : x.a = 2 → 0 ≤ x.c ∧ x.c ≤ 15) (hd : x.a = 3 → 0 ≤ d ∧ d ≤ 7) (h : RegP body) : RegP (cmdP d x body) := by
  unfold cmdP
  split
  · exact moveP_reg (by omega) (by intro t ht; cases ht)
  split
  · exact one_reg ⟨by simp; omega, fun _ => rfl⟩
  split
  · rename_i h2
    have := hc h2
    split
    · exact nil_reg
    · exact joinP_reg (moveP_reg (by omega) (by intro t ht; cases ht)) (copyP_reg (by omega) (by omega) (by omega))
  split
  · rename_i h3
    have := hd h3
    exact joinP_reg (copyP_reg (by omega) (by omega) (by omega)) (timesP_reg (by omega) h)
  · exact loopP_reg (by omega) h
theorem inB_both {x a b : Int} (h : inB x a b = true) : a ≤ x ∧ x ≤ b := by
  unfold inB at h; simpa using h
theorem progAt_reg (N : Nat) : ∀ (l : List R3) (d : Nat) (acc : List R4), l.length ≤ N → d ≤ 7 → vl (7 - d) l = true → RegP acc → RegP (progAt (d : Int) acc l) := by
  induction N with
  | zero =>
    intro l d acc h _ _ hr
    have : l = [] := List.length_eq_zero_iff.1 (by omega)
    subst this
    rw [progAt_nil]; exact hr
  | succ N ih =>
    intro l d acc h hd hv hr
    cases l with
    | nil => rw [progAt_nil]; exact hr
    | cons x l =>
      rw [progAt_cons]
      simp only [List.length_cons] at h
      rw [vl_cons] at hv
      obtain ⟨hb, hv⟩ := Bool.and_eq_true_iff.1 hv
      have hb := inB_both hb
      by_cases hl : isLp x = true
      · rw [if_pos hl] at hv
        obtain ⟨hv, hv4⟩ := Bool.and_eq_true_iff.1 hv
        obtain ⟨hv, hv3⟩ := Bool.and_eq_true_iff.1 hv
        obtain ⟨hv1, hv2⟩ := Bool.and_eq_true_iff.1 hv
        have hd1 : 0 < 7 - d := by simpa using hv1
        rw [bodyLen_lp hl]
        have e : ((d : Int) + 1) = ((d + 1 : Nat) : Int) := by omega
        have body : RegP (progAt ((d : Int) + 1) [] (l.take x.c.toNat)) := by
          rw [e]
          exact ih _ (d + 1) [] (by rw [List.length_take]; omega) (by omega) (by rw [show 7 - (d + 1) = 7 - d - 1 by omega]; exact hv3) nil_reg
        refine ih _ d _ (by rw [List.length_drop]; omega) hd hv4 (joinP_reg hr (cmdP_reg hb ?_ ?_ body))
        · intro h2; exfalso; simp [isLp, h2] at hl
        · intro _; omega
      · have hl' : isLp x = false := by simpa using hl
        rw [if_neg hl] at hv
        rw [bodyLen_no hl', List.take_zero, List.drop_zero, progAt_nil]
        have h3 : x.a = 3 → 0 ≤ (d : Int) ∧ (d : Int) ≤ 7 := by intro h3; omega
        by_cases h2 : x.a = 2
        · rw [if_pos h2] at hv
          obtain ⟨hv1, hv2⟩ := Bool.and_eq_true_iff.1 hv
          exact ih _ d _ (by omega) hd hv2 (joinP_reg hr (cmdP_reg hb (fun _ => inB_both hv1) h3 nil_reg))
        · rw [if_neg h2] at hv
          obtain ⟨hv1, hv2⟩ := Bool.and_eq_true_iff.1 hv
          exact ih _ d _ (by omega) hd hv2 (joinP_reg hr (cmdP_reg hb (fun h => absurd h h2) h3 nil_reg))
theorem validP_of {p : List R4} (hl : p.length ≤ 400) (hw : WfP p) (hr : RegP p) : validP p = true := by
  unfold validP
  refine Bool.and_eq_true_iff.2 ⟨by simpa using hl, List.all_eq_true.2 fun x hx => ?_⟩
  obtain ⟨h1, h2, h3⟩ := hw x hx
  obtain ⟨h4, h5⟩ := hr x hx
  unfold iOk inB
  rcases h3 with h3 | h3
  · simp [h3, h5 h3, h1, h4]
  · simp [h3, h1, h2, h4]
/-- The program of a function is valid. -/
theorem progOfFunc_ok {f : List R3} (h : (progOfFunc f).2 = 0) : validP (progOfFunc f).1 = true ∧ (progOfFunc f).1.length ≤ 400 ∧ RegP (progOfFunc f).1 ∧ WfP (progOfFunc f).1 := by
  by_cases hv : validF f = true ∧ validL (lpOf f) = true
  · have e : progOfFunc f = fits (progAt 0 [] (lpOf f)) := by unfold progOfFunc; rw [if_pos hv]; unfold programOfLoop; rw [hv.2]; rfl
    rw [e] at h ⊢
    have hl : ¬ 400 < (progAt 0 [] (lpOf f)).length := by
      intro hc
      have h5 : (fits (progAt 0 [] (lpOf f))).2 = 5 := by unfold fits; exact if_pos hc
      omega
    have e2 : (fits (progAt 0 [] (lpOf f))).1 = progAt 0 [] (lpOf f) := by unfold fits; rw [if_neg hl]
    rw [e2]
    have hvl := hv.2
    unfold validL at hvl
    obtain ⟨_, hvl⟩ := Bool.and_eq_true_iff.1 hvl
    have hw := (progAt_facts _ (lpOf f) 0 [] (Nat.le_refl _)).2.2 nil_wf
    have hr := progAt_reg _ (lpOf f) 0 [] (Nat.le_refl _) (by omega) hvl nil_reg
    exact ⟨validP_of (by omega) hw hr, by omega, hr, hw⟩
  · obtain ⟨cd, _, h1, h2⟩ := progOfFunc_no hv
    rw [h1] at h; exact absurd h h2

/-- A step at an instruction: the next place and the contents; nothing where a content would be too great. -/
def stepR (i : R4) (cs : List Int) : Int × List Int :=
  if i.a = 0 then (i.c, cs.set i.b.toNat (cs.getD i.b.toNat 0 + 1)) else if cs.getD i.b.toNat 0 = 0 then (i.d, cs) else (i.c, cs.set i.b.toNat (cs.getD i.b.toNat 0 - 1))
def overR (i : R4) (cs : List Int) : Bool := decide (i.a = 0) && decide (1000000 ≤ cs.getD i.b.toNat 0)
/-- So many steps at most: the steps made, the place and the contents; nothing where a content would be too great. -/
def runR (p : List R4) : Nat → Nat → Nat → List Int → Option (Nat × Nat × List Int)
  | 0, n, i, cs => some (n, i, cs)
  | b + 1, n, i, cs =>
    match p[i]? with
    | none => some (n, i, cs)
    | some x => if overR x cs then none else runR p b (n + 1) (stepR x cs).1.toNat (stepR x cs).2
def startR (args : List Int) : List Int := args ++ List.replicate (24 - args.length) 0
def funcRun (p : List R4) (args : List Int) (budget : Int) : Int × Int × Int :=
  match runR p budget.toNat 0 0 (startR args) with
  | none => (0, 0, 5)
  | some (n, i, cs) => if i = p.length then (cs.getD args.length 0, (n : Int), 0) else (0, 0, 5)
def argsOk (f : List R3) (args : List Int) (budget : Int) : Bool :=
  inB budget 1 20000 && (decide ((args.length : Int) = (ar0 f : Int)) && args.all (fun x => inB x 0 1000000))
end Go.Proofs.YtjggkgdojhlhpaaGreat
