/- The register program of a loop program: the reference's l17Program, ProgramOfLoop; the program's ProgramOfLoop. -/
import Derived.Test.YtkdjdnfdiphgiaaProgLoop
namespace Go.Proofs.Ytkdjdnfdiphgiaa
open Go.RowKit
set_option linter.all false
attribute [local go_sem ↓] Go.wp_at_zero Go.wp_at_succ

theorem joinP_none (a : List R4) : joinP a [] = a := by simp [joinP]
theorem prog_seg {xs : List R3} {k to : Nat} {x : R3} (dd : Int) (acc : List R4) (h : xs[k]? = some x) (hk : k < to) (hm : k + 1 + bodyLen x ≤ to) :
    progAt dd acc (seg xs k to) = progAt dd (joinP acc (cmdP dd x (progAt (dd + 1) [] (seg xs (k + 1) (k + 1 + bodyLen x))))) (seg xs (k + 1 + bodyLen x) to) := by
  rw [seg_at h hk, progAt_cons, seg_take _ _ _ _ hm, seg_drop]
theorem moveP_none (b : Int) : moveP b [] = [⟨1, b, 0, 1⟩] := by simp [moveP]

set_option maxRecDepth 100000 in
set_option maxHeartbeats 16000000 in
theorem l17Program_any (N : Nat) : ∀ (A : Option Addr) (n c fr to d : Nat) (dd : Int) (xs : List R3) (w : World), Args 3 w A n (rows R3.vs xs) → n ≤ 150 → fr ≤ to → to ≤ n → to - fr ≤ N → 0 ≤ dd → dd + (to - fr : Nat) ≤ 200 → vl d (seg xs fr to) = true →
    Calls Try.prog 45 #[.slice A n c, .int .i64 fr, .int .i64 to, .int .i64 dd] w fun e w' => ∃ v, e = .returned v ∧ w'.ownsRow w.heap.size 78 4 v (progAt dd [] (seg xs fr to)).length (rows R4.vs (progAt dd [] (seg xs fr to))) ∧ Below w.heap.size w w' := by
  induction N using Nat.strongRecOn with
  | ind N ih =>
  intro A n c fr to d dd xs w ha hn hft hto hN hd0 hd1 hv
  have IH := Lib.hid ih; clear ih
  have HV0 := Lib.hid hv; clear hv
  have HL : Hid (xs.length = n) := by have := ha.1; rw [rows_len R3.vs_len] at this; unfold Hid; omega
  obtain ⟨P, hP⟩ : ∃ P, P = progAt dd [] (seg xs fr to) := ⟨_, rfl⟩
  obtain ⟨pf1, pf2, -⟩ := progAt_facts _ (seg xs fr to) dd [] (Nat.le_refl _)
  rw [seg_len (by have := HL.out; omega), ← hP] at pf2
  simp only [List.length_nil, Nat.zero_add] at pf2
  rw [← hP]
  have HP := Lib.hid hP; clear hP pf1
  have hown0 : (w.alloc (.cells #[] 78)).ownsRow w.heap.size 78 4 (.slice (some ⟨w.heap.size, 0, none⟩) 0 0) 0 [] := own_empty w 78 4
  have hb0 := laid_below w (.cells #[] 78)
  go_enter Try.func45, Try.ntmps45
  go_wp2
  go_loopw [9, 11] (fun v i wr => ∃ (k : Nat) (acc : List R4), fr ≤ k ∧ k ≤ to ∧ i = .int .i64 k ∧ wr.ownsRow w.heap.size 78 4 v acc.length (rows R4.vs acc) ∧ Hid (progAt dd acc (seg xs k to) = P) ∧ Hid (vl d (seg xs k to) = true) ∧ Below w.heap.size w wr) (fun _ i _ => to - (intOf i).toNat)
  case atStart => exact ⟨fr, [], Nat.le_refl _, hft, rfl, hown0, HP.out.symm, HV0.out, hb0⟩
  case round =>
    obtain ⟨k, acc, hfk, hk, rfl, hown, HPP, HV, hB⟩ := hrel
    clear hown0 hb0
    obtain ⟨qf1, -, -⟩ := progAt_facts _ (seg xs k to) dd acc (Nat.le_refl _)
    rw [HPP.out] at qf1
    obtain ⟨la, hla⟩ : ∃ la, la = acc.length := ⟨_, rfl⟩
    rw [← hla] at hown qf1
    have hla1 : la ≤ 1000 := by omega
    have HLA := Lib.hid hla; clear hla
    by_cases hlt : k < to
    rotate_left
    · obtain rfl : to = k := by omega
      have hPP := HPP.out
      rw [seg_end (Nat.le_refl _), progAt_nil] at hPP
      subst hPP
      go_wp2
      go_ret
      exact ⟨_, rfl, by rw [← HLA.out]; exact hown, hB⟩
    obtain ⟨b, off, rfl, hs⟩ := ha.sl (k := k) (by omega)
    obtain ⟨x, HX⟩ := hget (k := k) HL (by omega)
    have hvv := HV.out
    rw [seg_at HX.out hlt] at hvv
    obtain ⟨s1, s2, s3⟩ := vl_split hvv
    have hkind := vl_kind hvv
    rw [seg_len (by have := HL.out; omega)] at s1
    have hkm : k + 1 + bodyLen x ≤ to := by omega
    rw [seg_drop] at s2
    rw [seg_take _ _ _ _ hkm] at s3
    have HV2 := Lib.hid s2; have S3 := Lib.hid s3
    have HST := Lib.hid (prog_seg dd acc HX.out hlt hkm)
    rw [HPP.out] at HST
    obtain ⟨p0, p1, p2⟩ := (hs.below' hB).rec3 HX.out
    obtain ⟨A1, c1, rfl⟩ := own_form hown
    obtain ⟨w1, HW, hb1, c0, k1, k2⟩ : ∃ w1, Hid (w1 = wr.alloc (.cells #[.int .i64 x.a, .int .i64 x.b, .int .i64 x.c] 72)) ∧ Below wr.heap.size wr w1 ∧ w1.cell? ⟨wr.heap.size, 0, none⟩ = some (.int .i64 x.a) ∧ w1.cell? ⟨wr.heap.size, 1, none⟩ = some (.int .i64 x.b) ∧ w1.cell? ⟨wr.heap.size, 2, none⟩ = some (.int .i64 x.c) := ⟨_, rfl, laid_below _ _, by simp [go_sem], by simp [go_sem], by simp [go_sem]⟩
    have hB1 := below_step hB hb1
    have hsrc1 := (Src.of_own hown).below hb1
    clear hvv s1 s2 s3 hb1
    rcases hkind with ⟨hb0', hb15, hkk⟩
    rcases hkk with e | e | e | e | ⟨e, hc0, hc15⟩
    · -- zero
      have HBL : Hid (bodyLen x = 0) := bodyLen_no (by unfold isLp; simp [e])
      have HC : Hid (cmdP dd x (progAt (dd + 1) [] (seg xs (k + 1) (k + 1 + bodyLen x))) = [⟨1, x.b, 0, 1⟩]) := by unfold Hid cmdP; rw [if_pos e, moveP_none]
      rw [HC.out, HBL.out] at HST
      rw [HBL.out] at HV2
      rw [e] at HW p0 c0
      have hwx : IntKind.i64.wrap ((k : Int) + 1 + x.c) = IntKind.i64.wrap ((k : Int) + 1 + x.c) := rfl
      clear e hown hs S3 HBL HC hwx
      go_wp2_with fail
      rw [← HW.out]
      refine (l07Clear_any x.b _).mono ?_
      rintro e w2 ⟨v2, rfl, hown2, hb2⟩
      obtain ⟨A2, c2, rfl⟩ := own_form hown2
      go_wp2_with fail
      refine (l07Join_any A1 A2 la 1 c1 c2 acc [⟨1, x.b, 0, 1⟩] _ (hsrc1.below hb2) (Src.of_own hown2) (by omega) (by omega) (by rw [← moveP_none]; exact moveP_wf _ _)).mono ?_
      rintro e w3 ⟨v3, rfl, hown3, hb3⟩
      have hB3 := below_step hB1 (below_step hb2 hb3)
      have hlo := Nat.le_trans hB1.size hb2.size
      clear c0 k1 k2 hb2 hb3 hown2 hsrc1 HW p0 p1 p2
      go_wp2
      go_roundw
      case rel => exact ⟨k + 1, joinP acc [⟨1, x.b, 0, 1⟩], by omega, by omega, by go_num, by rw [joinP_len, ← HLA.out]; exact own_base hown3 hlo, HST.symm, HV2, hB3⟩
      case measure => simp [intOf]; omega
    · -- inc
      have HBL : Hid (bodyLen x = 0) := bodyLen_no (by unfold isLp; simp [e])
      have HC : Hid (cmdP dd x (progAt (dd + 1) [] (seg xs (k + 1) (k + 1 + bodyLen x))) = [⟨0, x.b, 1, 0⟩]) := by unfold Hid cmdP; rw [if_neg (by omega), if_pos e]
      rw [HC.out, HBL.out] at HST
      rw [HBL.out] at HV2
      rw [e] at HW p0 c0
      have hown2 : (w1.alloc (.cells #[.int .i64 0, .int .i64 x.b, .int .i64 1, .int .i64 0] 78)).ownsRow w1.heap.size 78 4 (.slice (some ⟨w1.heap.size, 0, none⟩) 1 1) 1 (rows R4.vs [⟨0, x.b, 1, 0⟩]) := own_laid w1 _ 4 1 _ rfl (by simp [maxLen])
      have hb2 := laid_below w1 (.cells #[.int .i64 0, .int .i64 x.b, .int .i64 1, .int .i64 0] 78)
      clear e hown hs S3 HBL HC
      have hlo := Nat.le_trans hB1.size hb2.size
      have hsz : (wr.alloc (.cells #[.int .i64 1, .int .i64 x.b, .int .i64 x.c] 72)).heap.size = w1.heap.size := by rw [HW.out]
      go_wp2_with fail
      rw [← HW.out]
      try rw [hsz]
      refine (l07Join_any A1 _ la 1 c1 1 acc [⟨0, x.b, 1, 0⟩] _ (hsrc1.below hb2) (Src.of_own hown2) (by omega) (by omega) (by intro y hy; simp at hy; subst hy; simp)).mono ?_
      rintro e w3 ⟨v3, rfl, hown3, hb3⟩
      have hB3 := below_step hB1 (below_step hb2 hb3)
      clear c0 k1 k2 hb2 hb3 hown2 hsrc1 HW p0 p1 p2
      go_wp2
      go_roundw
      case rel => exact ⟨k + 1, joinP acc [⟨0, x.b, 1, 0⟩], by omega, by omega, by go_num, by rw [joinP_len, ← HLA.out]; exact own_base hown3 hlo, HST.symm, HV2, hB3⟩
      case measure => simp [intOf]; omega
    · -- times
      have hlp : isLp x = true := by unfold isLp; simp [e]
      obtain ⟨h3v, h3c, h3d⟩ := S3.out hlp
      obtain ⟨m, hm⟩ : ∃ m : Nat, x.c = m := ⟨x.c.toNat, by omega⟩
      have HBL : Hid (bodyLen x = m) := by unfold Hid; rw [bodyLen_lp hlp, hm]; simp
      rw [HBL.out] at HST HV2 hkm h3v
      obtain ⟨B, hBB⟩ : ∃ B, B = progAt (dd + 1) [] (seg xs (k + 1) (k + 1 + m)) := ⟨_, rfl⟩
      obtain ⟨f1, f2, f3⟩ := progAt_facts _ (seg xs (k + 1) (k + 1 + m)) (dd + 1) [] (Nat.le_refl _)
      rw [seg_len (by have := HL.out; omega), ← hBB] at f2
      rw [← hBB] at f3 HST
      simp only [List.length_nil, Nat.zero_add] at f2
      have HWF := Lib.hid (f3 nil_wf)
      obtain ⟨nb, hnb⟩ : ∃ nb, nb = B.length := ⟨_, rfl⟩
      rw [← hnb] at f2
      have HNB := Lib.hid hnb
      have HNR := Lib.hid (HWF.out.near (by rw [← hnb]; omega))
      have HIH : Hid (∀ W, Below w.heap.size w W → Calls Try.prog 45 #[.slice (some ⟨b, off, none⟩) n c, .int .i64 ((k : Int) + 1), .int .i64 ((k : Int) + 1 + (m : Int)), .int .i64 (dd + 1)] W fun e w' => ∃ v, e = .returned v ∧ w'.ownsRow W.heap.size 78 4 v nb (rows R4.vs B) ∧ Below W.heap.size W w') := by
        intro W hW
        have := IH.out (k + 1 + m - (k + 1)) (by omega) (some ⟨b, off, none⟩) n c (k + 1) (k + 1 + m) (d - 1) (dd + 1) xs W (ha.below hW) hn (by omega) (by omega) (by omega) (by omega) (by omega) h3v
        rw [← hBB, ← hnb] at this
        exact this
      have HC : Hid (cmdP dd x B = joinP (copyP x.b (16 + dd) 23) (timesP (16 + dd) B)) := by unfold Hid cmdP; rw [if_neg (by omega), if_neg (by omega), if_neg (by omega), if_pos e]
      rw [HC.out] at HST
      have HTW := Lib.hid (timesP_wf (16 + dd) HWF.out)
      have HJW := Lib.hid (joinP_wf (copyP_wf x.b (16 + dd) 23) HTW.out)
      have HO := Lib.hid (one_rows_Instr (B.map (redirF (tgt nb 0 1))))
      have HTL : Hid ((timesP (16 + dd) B).length = 1 + nb) := by unfold Hid timesP; rw [← hnb]; simp; omega
      rw [e] at HW p0 c0
      rw [hm] at HW p2 k2
      have w8 : IntKind.i64.wrap (16 + dd) = 16 + dd := IntWalk.i64_in _ (by omega)
      have w9 : IntKind.i64.wrap (dd + 1) = dd + 1 := IntWalk.i64_in _ (by omega)
      have w7 : IntKind.i64.wrap ((k : Int) + 1 + (m : Int)) = (k : Int) + 1 + (m : Int) := IntWalk.i64_in _ (by omega)
      have w6 : IntKind.i64.wrap ((nb : Int) + 1) = (nb : Int) + 1 := IntWalk.i64_in _ (by omega)
      have hmm : (m : Int) ≤ 150 := by omega
      clear e hown hs S3 HBL HC hBB hnb f1 f3 h3v h3c h3d hlp
      go_wp2_with fail
      rw [← HW.out]
      refine (HIH.out _ hB1).mono ?_
      rintro e w2 ⟨v2, rfl, hown2, hb2⟩
      obtain ⟨A2, c2, rfl⟩ := own_form hown2
      have hB2 := below_step hB1 hb2
      have hsrc2 := hsrc1.below hb2
      have k1' := cell_step k1 hb2
      clear c0 k1 k2 HW p0 p1 p2 hsrc1
      -- the head of the loop
      have HJL : Hid ((joinP (copyP x.b (16 + dd) 23) (timesP (16 + dd) B)).length = 5 + (1 + nb)) := by unfold Hid; rw [joinP_len, copyP_len, HTL.out]
      rcases Nat.eq_zero_or_pos nb with hz | hz
      · subst hz
        obtain ⟨w4, HW4⟩ : ∃ w4, Hid (w4 = w2.alloc (.cells #[.int .i64 1, .int .i64 (16 + dd), .int .i64 0, .int .i64 1] 78)) := ⟨_, rfl⟩
        have ho4 : w4.ownsRow w2.heap.size 78 4 (.slice (some ⟨w2.heap.size, 0, none⟩) 1 1) 1 (rows R4.vs [⟨1, 16 + dd, 0, 1⟩]) := by rw [HW4.out]; exact own_laid w2 78 4 1 #[.int .i64 1, .int .i64 (16 + dd), .int .i64 0, .int .i64 1] rfl (by simp [maxLen])
        have HTP : Hid (rows R4.vs [⟨1, 16 + dd, 0, 1⟩] ++ rows R4.vs (B.map (redirF (tgt 0 0 1))) = rows R4.vs (timesP (16 + dd) B)) := by unfold Hid timesP; rw [← HNB.out, ← rows_app]; rfl
        have hb4 : Below w2.heap.size w2 w4 := by rw [HW4.out]; exact laid_below _ _
        have hB4 := below_step hB2 hb4
        have hsB := (Src.of_own hown2).below hb4
        clear hown2 hb2
        go_wp2_with fail
        rw [← HW4.out]
        refine (l07Shift_any 1 0 A2 0 c2 B _ hsB (by omega) HNR.out HWF.out.kinds (by omega) (by omega)).mono ?_
        rintro e w5 ⟨v5, rfl, hown5, hb5⟩
        have ho5 := own_below' ho4 hb5
        have hb45 := below_step hb4 hb5
        have hB5 := below_step hB4 hb5
        have hs5 := Src.of_own hown5
        clear hsB ho4 hown5 hb5 HW4
        go_wp2_with (first | (at_builtin; refine wpList_appx rfl _ _ _ rfl Try.underlying24 infoInstr rfl (by omega) w2.heap.size ho5 hb45.size rfl hs5 rfl HO.out (by unfold maxLen; omega) (by omega) ?_; intro v6 w6 hown6 hg6 hnil6; have hb6 := grown_below hb45 ho5 (Nat.le_refl _) hg6; have k6 := cell_step k1' hb6; have hsa6 := hsrc2.below hb6; clear hnil6 hs5 ho5 hg6 hb45 k1' hsrc2))
        have hB6 := below_step hB2 hb6
        obtain ⟨A6, c6, rfl⟩ := own_form hown6
        rw [HTP.out] at hown6
        have hs6 := Src.of_own hown6
        refine (l07Copy_any x.b (16 + dd) 23 _).mono ?_
        rintro e w7 ⟨v7, rfl, hown7, hb7⟩
        have hB7 := below_step hB6 hb7
        obtain ⟨A7, c7, rfl⟩ := own_form hown7
        have hs7 := Src.of_own hown7
        have hs67 := hs6.below hb7
        have hsa7 := hsa6.below hb7
        clear hown6 hown7 hs6 hsa6 k6 hb6 hb4
        go_wp2_with fail
        refine (l07Join_any A7 A6 5 (1 + 0) c7 c6 _ _ _ hs7 hs67 (by omega) (by omega) HTW.out).mono ?_
        rintro e w9 ⟨v9, rfl, hown9, hb9⟩
        have hB9 := below_step hB7 hb9
        obtain ⟨A9, c9, rfl⟩ := own_form hown9
        have hs9 := Src.of_own hown9
        have hsa9 := hsa7.below hb9
        clear hown9 hb9 hsa7 hs7 hs67 hb7
        go_wp2_with fail
        refine (l07Join_any A1 A9 la (5 + (1 + 0)) c1 c9 acc _ _ hsa9 hs9 (by omega) (by omega) HJW.out).mono ?_
        rintro e w10 ⟨v10, rfl, hown10, hb10⟩
        have hB10 := below_step hB9 hb10
        clear hsa9 hs9 hb10
        go_wp2
        go_roundw
        case rel => exact ⟨k + 1 + m, _, by omega, by omega, by go_num, by rw [joinP_len, HJL.out, ← HLA.out]; exact own_base hown10 hB9.size, HST.symm, HV2, hB10⟩
        case measure => simp [intOf]; omega
      · have e0 : ((nb : Int) == 0) = false := (by simp; omega)
        obtain ⟨w4, HW4⟩ : ∃ w4, Hid (w4 = w2.alloc (.cells #[.int .i64 1, .int .i64 (16 + dd), .int .i64 1, .int .i64 ((nb : Int) + 1)] 78)) := ⟨_, rfl⟩
        have ho4 : w4.ownsRow w2.heap.size 78 4 (.slice (some ⟨w2.heap.size, 0, none⟩) 1 1) 1 (rows R4.vs [⟨1, 16 + dd, 1, ((nb : Int) + 1)⟩]) := by rw [HW4.out]; exact own_laid w2 78 4 1 #[.int .i64 1, .int .i64 (16 + dd), .int .i64 1, .int .i64 ((nb : Int) + 1)] rfl (by simp [maxLen])
        have HTP : Hid (rows R4.vs [⟨1, 16 + dd, 1, ((nb : Int) + 1)⟩] ++ rows R4.vs (B.map (redirF (tgt nb 0 1))) = rows R4.vs (timesP (16 + dd) B)) := by unfold Hid timesP; rw [← HNB.out, ← rows_app]; rw [if_neg (by omega)]; rfl
        have hb4 : Below w2.heap.size w2 w4 := by rw [HW4.out]; exact laid_below _ _
        have hB4 := below_step hB2 hb4
        have hsB := (Src.of_own hown2).below hb4
        clear hown2 hb2
        go_wp2_with fail
        rw [← HW4.out]
        refine (l07Shift_any 1 0 A2 nb c2 B _ hsB (by omega) HNR.out HWF.out.kinds (by omega) (by omega)).mono ?_
        rintro e w5 ⟨v5, rfl, hown5, hb5⟩
        have ho5 := own_below' ho4 hb5
        have hb45 := below_step hb4 hb5
        have hB5 := below_step hB4 hb5
        have hs5 := Src.of_own hown5
        clear hsB ho4 hown5 hb5 HW4
        go_wp2_with (first | (at_builtin; refine wpList_appx rfl _ _ _ rfl Try.underlying24 infoInstr rfl (by omega) w2.heap.size ho5 hb45.size rfl hs5 rfl HO.out (by unfold maxLen; omega) (by omega) ?_; intro v6 w6 hown6 hg6 hnil6; have hb6 := grown_below hb45 ho5 (Nat.le_refl _) hg6; have k6 := cell_step k1' hb6; have hsa6 := hsrc2.below hb6; clear hnil6 hs5 ho5 hg6 hb45 k1' hsrc2))
        have hB6 := below_step hB2 hb6
        obtain ⟨A6, c6, rfl⟩ := own_form hown6
        rw [HTP.out] at hown6
        have hs6 := Src.of_own hown6
        refine (l07Copy_any x.b (16 + dd) 23 _).mono ?_
        rintro e w7 ⟨v7, rfl, hown7, hb7⟩
        have hB7 := below_step hB6 hb7
        obtain ⟨A7, c7, rfl⟩ := own_form hown7
        have hs7 := Src.of_own hown7
        have hs67 := hs6.below hb7
        have hsa7 := hsa6.below hb7
        clear hown6 hown7 hs6 hsa6 k6 hb6 hb4
        go_wp2_with fail
        refine (l07Join_any A7 A6 5 (1 + nb) c7 c6 _ _ _ hs7 hs67 (by omega) (by omega) HTW.out).mono ?_
        rintro e w9 ⟨v9, rfl, hown9, hb9⟩
        have hB9 := below_step hB7 hb9
        obtain ⟨A9, c9, rfl⟩ := own_form hown9
        have hs9 := Src.of_own hown9
        have hsa9 := hsa7.below hb9
        clear hown9 hb9 hsa7 hs7 hs67 hb7
        go_wp2_with fail
        refine (l07Join_any A1 A9 la (5 + (1 + nb)) c1 c9 acc _ _ hsa9 hs9 (by omega) (by omega) HJW.out).mono ?_
        rintro e w10 ⟨v10, rfl, hown10, hb10⟩
        have hB10 := below_step hB9 hb10
        clear hsa9 hs9 hb10
        go_wp2
        go_roundw
        case rel => exact ⟨k + 1 + m, _, by omega, by omega, by go_num, by rw [joinP_len, HJL.out, ← HLA.out]; exact own_base hown10 hB9.size, HST.symm, HV2, hB10⟩
        case measure => simp [intOf]; omega
    · -- again
      have hlp : isLp x = true := by unfold isLp; simp [e]
      obtain ⟨h3v, h3c, h3d⟩ := S3.out hlp
      obtain ⟨m, hm⟩ : ∃ m : Nat, x.c = m := ⟨x.c.toNat, by omega⟩
      have HBL : Hid (bodyLen x = m) := by unfold Hid; rw [bodyLen_lp hlp, hm]; simp
      rw [HBL.out] at HST HV2 hkm h3v
      obtain ⟨B, hBB⟩ : ∃ B, B = progAt (dd + 1) [] (seg xs (k + 1) (k + 1 + m)) := ⟨_, rfl⟩
      obtain ⟨f1, f2, f3⟩ := progAt_facts _ (seg xs (k + 1) (k + 1 + m)) (dd + 1) [] (Nat.le_refl _)
      rw [seg_len (by have := HL.out; omega), ← hBB] at f2
      rw [← hBB] at f3 HST
      simp only [List.length_nil, Nat.zero_add] at f2
      have HWF := Lib.hid (f3 nil_wf)
      obtain ⟨nb, hnb⟩ : ∃ nb, nb = B.length := ⟨_, rfl⟩
      rw [← hnb] at f2
      have HNB := Lib.hid hnb
      have HNR := Lib.hid (HWF.out.near (by rw [← hnb]; omega))
      have HIH : Hid (∀ W, Below w.heap.size w W → Calls Try.prog 45 #[.slice (some ⟨b, off, none⟩) n c, .int .i64 ((k : Int) + 1), .int .i64 ((k : Int) + 1 + (m : Int)), .int .i64 (dd + 1)] W fun e w' => ∃ v, e = .returned v ∧ w'.ownsRow W.heap.size 78 4 v nb (rows R4.vs B) ∧ Below W.heap.size W w') := by
        intro W hW
        have := IH.out (k + 1 + m - (k + 1)) (by omega) (some ⟨b, off, none⟩) n c (k + 1) (k + 1 + m) (d - 1) (dd + 1) xs W (ha.below hW) hn (by omega) (by omega) (by omega) (by omega) (by omega) h3v
        rw [← hBB, ← hnb] at this
        exact this
      have HC : Hid (cmdP dd x B = loopP x.b B) := by unfold Hid cmdP; rw [if_neg (by omega), if_neg (by omega), if_neg (by omega), if_neg (by omega)]
      rw [HC.out] at HST
      have HLW := Lib.hid (loopP_wf x.b HWF.out)
      have HLL : Hid ((loopP x.b B).length = nb + 2) := by unfold Hid; rw [loopP_len, ← hnb]
      rw [e] at HW p0 c0
      rw [hm] at HW p2 k2
      have w9 : IntKind.i64.wrap (dd + 1) = dd + 1 := IntWalk.i64_in _ (by omega)
      have w7 : IntKind.i64.wrap ((k : Int) + 1 + (m : Int)) = (k : Int) + 1 + (m : Int) := IntWalk.i64_in _ (by omega)
      have w5 : IntKind.i64.wrap ((k : Int) + 1) = (k : Int) + 1 := IntWalk.i64_in _ (by omega)
      have hmm : (m : Int) ≤ 150 := by omega
      clear e hown hs S3 HBL HC hBB hnb f1 f3 h3v h3c h3d hlp
      go_wp2
      rw [← HW.out]
      go_region_held3 (fun w' => w'.cell? ⟨wr.heap.size, 1, none⟩ = some (.int .i64 x.b)) (first | go_keep | exact m1 | exact n1 | exact q1)
        ((first
          | (go_at_call 45; refine (HIH.out _ (hB1.drew)).mono ?_; rintro e w2 ⟨v2, rfl, hown2, hb2⟩; obtain ⟨A2, c2, rfl⟩ := own_form hown2; have hs2 := Src.of_own hown2; have m1 := cell_step (by exact k1) hb2)
          | (go_at_call 80; refine (l07Loop_any x.b A2 nb c2 B _ hs2 (by omega) HNR.out HWF.out.kinds).mono ?_; rintro e w3 ⟨v3, rfl, hown3, hb3⟩; obtain ⟨A3, c3, rfl⟩ := own_form hown3; have hs3 := Src.of_own hown3; have n1 := cell_step m1 hb3; have hsa3 := (hsrc1.below (below_drew_at hb2)).below hb3)
          | (go_at_call 76; refine (l07Join_any A1 A3 la (nb + 2) c1 c3 acc (loopP x.b B) _ hsa3 hs3 (by omega) (by omega) HLW.out).mono ?_; rintro e w4 ⟨v4, rfl, hown4, hb4⟩; have q1 := cell_step n1 hb4)))
      all_goals
        have hB3 := below_step (below_step hB1 (below_drew_at hb2)) hb3
        have hB4 := below_step hB3 hb4
        clear hsrc1 hown2 hown3 hb2 hb3 hb4 hs2 hs3 hsa3 m1 n1 q1 k1 k2 c0 p0 p1 p2
        go_wp2
        go_roundw
        case rel => exact ⟨k + 1 + m, _, by omega, by omega, by go_num, by rw [joinP_len, HLL.out, ← HLA.out]; exact own_base hown4 hB3.size, HST.symm, HV2, hB4⟩
        case measure => simp [intOf]; omega
    · -- copy
      have HBL : Hid (bodyLen x = 0) := bodyLen_no (by unfold isLp; simp [e])
      rw [HBL.out] at HV2 HST
      by_cases hbc : x.b = x.c
      · have HC : Hid (cmdP dd x (progAt (dd + 1) [] (seg xs (k + 1) (k + 1 + 0))) = []) := by unfold Hid cmdP; rw [if_neg (by omega), if_neg (by omega), if_pos e, if_pos hbc]
        rw [HC.out, joinP_none] at HST
        rw [e] at HW p0 c0
        have e0 : (x.b != x.c) = false := by simp [hbc]
        have HBC := Lib.hid hbc
        have hown1 : w1.ownsRow w.heap.size 78 4 (.slice A1 la c1) la (rows R4.vs acc) := by
          rw [HW.out]; exact own_below' hown (laid_below _ _)
        clear e hown hs S3 HBL HC hsrc1 hbc
        go_wp2_with fail
        rw [← HW.out]
        clear c0 k1 k2 p0 p1 p2 HW
        go_roundw
        case rel => exact ⟨k + 1, acc, by omega, by omega, by go_num, by rw [← HLA.out]; exact hown1, HST.symm, HV2, hB1⟩
        case measure => simp [intOf]; omega
      · have HC : Hid (cmdP dd x (progAt (dd + 1) [] (seg xs (k + 1) (k + 1 + 0))) = joinP (moveP x.b []) (copyP x.c x.b 23)) := by unfold Hid cmdP; rw [if_neg (by omega), if_neg (by omega), if_pos e, if_neg hbc]
        rw [HC.out] at HST
        have HJL : Hid ((joinP (moveP x.b []) (copyP x.c x.b 23)).length = 1 + 5) := by unfold Hid; rw [joinP_len, moveP_len, copyP_len]; rfl
        have HJW := Lib.hid (joinP_wf (moveP_wf x.b []) (copyP_wf x.c x.b 23))
        have HMN : Hid (rows R4.vs [⟨1, x.b, 0, 1⟩] = rows R4.vs (moveP x.b [])) := by unfold Hid; rw [moveP_none]
        rw [e] at HW p0 c0
        have e0 : (x.b != x.c) = true := by simpa using hbc
        clear e hown hs S3 HBL HC hbc
        go_wp2_with fail
        rw [← HW.out]
        go_region_held3 (fun w' => w'.cell? ⟨wr.heap.size, 1, none⟩ = some (.int .i64 x.b) ∧ w'.cell? ⟨wr.heap.size, 2, none⟩ = some (.int .i64 x.c)) (first | go_keep | exact ⟨m1, m2⟩ | exact ⟨n1, n2⟩ | exact ⟨q1, q2⟩ | exact ⟨r1, r2⟩)
          ((first
            | (go_at_call 77; refine (l07Clear_any x.b _).mono ?_; rintro e w2 ⟨v2, rfl, hown2, hb2⟩; obtain ⟨A2, c2, rfl⟩ := own_form hown2; rw [HMN.out] at hown2; have hs2 := Src.of_own hown2; have m1 := cell_step (by exact k1) hb2; have m2 := cell_step (by exact k2) hb2)
            | (go_at_call 78; refine (l07Copy_any x.c x.b 23 _).mono ?_; rintro e w3 ⟨v3, rfl, hown3, hb3⟩; obtain ⟨A3, c3, rfl⟩ := own_form hown3; have hs3 := Src.of_own hown3; have hs23 := hs2.below hb3; have n1 := cell_step m1 hb3; have n2 := cell_step m2 hb3; have hsa3 := (hsrc1.below (below_drew_at hb2)).below hb3)
            | (go_at_call_of 76 (Value.slice A2 1 c2); refine (l07Join_any A2 A3 1 5 c2 c3 _ _ _ hs23 hs3 (by omega) (by omega) (copyP_wf _ _ _)).mono ?_; rintro e w4 ⟨v4, rfl, hown4, hb4⟩; obtain ⟨A4, c4, rfl⟩ := own_form hown4; have hs4 := Src.of_own hown4; have hsa4 := hsa3.below hb4; have q1 := cell_step n1 hb4; have q2 := cell_step n2 hb4)
            | (go_at_call_of 76 (Value.slice A1 la c1); refine (l07Join_any A1 A4 la (1 + 5) c1 c4 acc _ _ hsa4 hs4 (by omega) (by omega) HJW.out).mono ?_; rintro e w5 ⟨v5, rfl, hown5, hb5⟩; have r1 := cell_step q1 hb5; have r2 := cell_step q2 hb5)))
        all_goals
          have hB3 := below_step (below_step (below_step hB1 (below_drew_at hb2)) hb3) hb4
          have hB4 := below_step hB3 hb5
          clear hsrc1 hown2 hown3 hown4 hb2 hb3 hb4 hb5 hs2 hs3 hsa3 hs23 hs4 hsa4 m1 n1 q1 m2 n2 q2 r1 r2 k1 k2 c0 p0 p1 p2
          go_wp2
          go_roundw
          case rel => exact ⟨k + 1, _, by omega, by omega, by go_num, by rw [joinP_len, HJL.out, ← HLA.out]; exact own_base hown5 hB3.size, HST.symm, HV2, hB4⟩
          case measure => simp [intOf]; omega
end Go.Proofs.Ytkdjdnfdiphgiaa
