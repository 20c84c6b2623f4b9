/- BranchProgram on both sides. -/
import Derived.Test.YthjehhiaedfodaaLoopProg
namespace Go.Proofs.Ythjehhiaedfodaa
open Go.RowKit
set_option linter.all false

def branchP (r : Int) (zs os : List R4) : List R4 :=
  [⟨1, r, 1, (os.length : Int) + 2⟩, ⟨0, r, if os.length = 0 then (os.length : Int) + 2 + zs.length else 2, 0⟩] ++ os.map (redirF (tgt os.length ((os.length : Int) + 2 + zs.length) 2)) ++ zs.map (redirF (tgt zs.length ((os.length : Int) + 2 + zs.length) ((os.length : Int) + 2)))
def branchProgram (r : Int) (zs os : List R4) : List R4 × Int := if validP zs && validP os then (if inB r 0 23 then fits (branchP r zs os) else ([], 2)) else ([], 1)
theorem bndBranchProgram0 (r : Int) (zs os : List R4) (h : zs.length ≤ 1048576) (h2 : os.length ≤ 1048576) : (branchProgram r zs os).1.length ≤ 1048576 := by
  unfold branchProgram
  split
  · split
    · have := fits_len (branchP r zs os); omega
    · simp
  · simp
theorem branchP_len (r : Int) (zs os : List R4) : (branchP r zs os).length = 2 + os.length + zs.length := by simp [branchP]; omega

set_option maxRecDepth 100000 in
set_option maxHeartbeats 800000 in
theorem l07Branch_any (r : Int) (A1 A2 : Option Addr) (n1 n2 c1 c2 : Nat) (zs os : List R4) (w : World) (hz : Src 4 w (.slice A1 n1 c1) n1 (rows R4.vs zs)) (ho : Src 4 w (.slice A2 n2 c2) n2 (rows R4.vs os)) (hn1 : n1 ≤ 1000) (hn2 : n2 ≤ 1000)
    (hnear1 : Near zs) (hkind1 : Kinds zs) (hnear2 : Near os) (hkind2 : Kinds os) :
    Calls Try.prog 72 #[.int .i64 r, .slice A1 n1 c1, .slice A2 n2 c2] w fun e w' => ∃ v, e = .returned v ∧ w'.ownsRow w.heap.size 77 4 v (2 + n2 + n1) (rows R4.vs (branchP r zs os)) ∧ Below w.heap.size w w' := by
  have HL1 : Hid (zs.length = n1) := by have := hz.1; rw [rows_len R4.vs_len] at this; unfold Hid; omega
  have HL2 : Hid (os.length = n2) := by have := ho.1; rw [rows_len R4.vs_len] at this; unfold Hid; omega
  have HO1 := Lib.hid (one_rows_Instr (os.map (redirF (tgt n2 ((n2 : Int) + 2 + n1) 2))))
  have HO2 := Lib.hid (one_rows_Instr (zs.map (redirF (tgt n1 ((n2 : Int) + 2 + n1) ((n2 : Int) + 2)))))
  have hm2 : (2 : Nat) ≤ maxLen := by unfold maxLen; omega
  have close : ∀ t : Int, Hid (branchP r zs os = [⟨1, r, 1, (n2 : Int) + 2⟩, ⟨0, r, t, 0⟩] ++ os.map (redirF (tgt n2 ((n2 : Int) + 2 + n1) 2)) ++ zs.map (redirF (tgt n1 ((n2 : Int) + 2 + n1) ((n2 : Int) + 2)))) → ((n2 = 0 ∧ t = (n2 : Int) + 2 + n1) ∨ (n2 ≠ 0 ∧ t = 2)) →
      Calls Try.prog 72 #[.int .i64 r, .slice A1 n1 c1, .slice A2 n2 c2] w fun e w' => ∃ v, e = .returned v ∧ w'.ownsRow w.heap.size 77 4 v (2 + n2 + n1) (rows R4.vs (branchP r zs os)) ∧ Below w.heap.size w w' := by
    intro t HP ht
    have hown1 : (w.alloc (.cells #[.int .i64 1, .int .i64 r, .int .i64 1, .int .i64 ((n2 : Int) + 2), .int .i64 0, .int .i64 r, .int .i64 t, .int .i64 0] 77)).ownsRow w.heap.size 77 4 (.slice (some ⟨w.heap.size, 0, none⟩) 2 2) 2 (rows R4.vs [⟨1, r, 1, (n2 : Int) + 2⟩, ⟨0, r, t, 0⟩]) := own_laid w _ 4 2 _ rfl hm2
    have hb1 := laid_below w (.cells #[.int .i64 1, .int .i64 r, .int .i64 1, .int .i64 ((n2 : Int) + 2), .int .i64 0, .int .i64 r, .int .i64 t, .int .i64 0] 77)
    have hz1 := hz.below hb1
    have ho1 := ho.below hb1
    rcases ht with ⟨h0, rfl⟩ | ⟨h0, rfl⟩
    all_goals
      first
        | (have e0 : ((n2 : Int) == 0) = true := by simp [h0])
        | (have e0 : ((n2 : Int) == 0) = false := by simp [h0])
      clear h0
      go_enter Try.func72, Try.ntmps72
      go_wp2_with fail
      refine (l07Shift_any 2 _ A2 n2 c2 os _ ho1 (by omega) hnear2 hkind2 (by omega) (by omega)).mono ?_
      rintro e w2 ⟨v2, rfl, hown2, hb2⟩
      have hown3 := own_below' hown1 hb2
      have hB2 := below_step hb1 hb2
      have hsrc2 := Src.of_own hown2
      clear hown1 hown2 hb2
      go_wp2_with (first | (at_builtin; refine wpList_appx rfl _ _ _ rfl Try.underlying33 infoInstr rfl (by omega) w.heap.size hown3 hB2.size rfl hsrc2 rfl HO1.out (by unfold maxLen; omega) (by omega) ?_; intro v4 w4 hown4 hg4 hnil4; have hB4 := grown_below hB2 hown3 (Nat.le_refl _) hg4; clear hnil4 hown3 hsrc2 hg4 hB2; obtain ⟨A4, c4, rfl⟩ := own_form hown4))
      refine (l07Shift_any _ _ A1 n1 c1 zs _ (hz.below hB4) (by omega) hnear1 hkind1 (by omega) (by omega)).mono ?_
      rintro e w5 ⟨v5, rfl, hown5, hb5⟩
      have hown6 := own_below' hown4 hb5
      have hB5 := below_step hB4 hb5
      have hsrc5 := Src.of_own hown5
      clear hown4 hown5 hb5 hB4
      go_wp2_with (at_builtin; refine wpList_appx rfl _ _ _ rfl Try.underlying33 infoInstr rfl (by omega) w.heap.size hown6 hB5.size rfl hsrc5 rfl HO2.out (by unfold maxLen; omega) (by omega) ?_; intro v7 w7 hown7 hg7 hnil7; have hB7 := grown_below hB5 hown6 (Nat.le_refl _) hg7; clear hnil7 hown6 hsrc5 hg7)
      go_ret
      exact ⟨_, rfl, by rw [HP.out, rows_app, rows_app]; exact hown7, hB7⟩
  by_cases h0 : n2 = 0
  · exact close _ (by unfold Hid branchP; rw [HL1.out, HL2.out, if_pos h0]) (.inl ⟨h0, rfl⟩)
  · exact close 2 (by unfold Hid branchP; rw [HL1.out, HL2.out, if_neg h0]) (.inr ⟨h0, rfl⟩)

set_option maxRecDepth 100000 in
set_option maxHeartbeats 800000 in
theorem specBranchProgram_any (r : Int) (b1 o1 n1 c1 : Nat) (zs : List R4) (b2 o2 n2 c2 : Nat) (os : List R4) (w : World) (hr : Wf64 r) (hs1 : Sl w b1 o1 (rows R4.vs zs)) (hl1 : zs.length = n1) (hn1 : n1 ≤ 1048576) (hc1 : n1 ≤ c1) (hf1 : ∀ x ∈ zs, x.wf) (hs2 : Sl w b2 o2 (rows R4.vs os)) (hl2 : os.length = n2) (hn2 : n2 ≤ 1048576) (hc2 : n2 ≤ c2) (hf2 : ∀ x ∈ os, x.wf) :
    Calls Try.prog 29 #[.int .i64 r, .slice (some ⟨b1, o1, none⟩) n1 c1, .slice (some ⟨b2, o2, none⟩) n2 c2] w fun e w' => ∃ v, e = .returned (.tuple #[v, .int .i64 (branchProgram r zs os).2]) ∧
      w'.ownsRow w.heap.size 77 4 v (branchProgram r zs os).1.length (rows R4.vs (branchProgram r zs os).1) ∧ Below w.heap.size w w' := by
  have HL1 := Lib.hid hl1
  have HL2 := Lib.hid hl2
  clear hl1 hl2 hf1 hf2 hr
  have HA1 := Lib.hid (Args.of_sl (n := n1) (s := 4) hs1 (by rw [rows_len R4.vs_len, HL1.out]))
  have HS1 := Lib.hid (Src.of_sl (n := n1) (size := 4) (c := c1) hs1 (by rw [rows_len R4.vs_len, HL1.out]))
  have HA2 := Lib.hid (Args.of_sl (n := n2) (s := 4) hs2 (by rw [rows_len R4.vs_len, HL2.out]))
  have HS2 := Lib.hid (Src.of_sl (n := n2) (size := 4) (c := c2) hs2 (by rw [rows_len R4.vs_len, HL2.out]))
  clear hs1 hs2
  rcases Bool.eq_false_or_eq_true (validP zs) with hv | hv
  rotate_left
  · have HM : Hid (branchProgram r zs os = ([], 1)) := by unfold Hid branchProgram; rw [hv]; rfl
    have HV := Lib.hid hv; clear hv
    rw [HM.out]
    go_enter Try.func29, Try.ntmps29
    go_wp2_with fail
    refine (l07Is_is _ n1 c1 zs false HV.out _ HA1.out hn1).mono ?_
    rintro e w1 ⟨rfl, hb1⟩
    go_wp2
    go_ret2
    exact ⟨_, rfl, World.ownsRow_nil _ _ _ _, hb1⟩
  obtain ⟨v1, v2, v3⟩ := valid_near hv
  have HV := Lib.hid hv; clear hv
  rcases Bool.eq_false_or_eq_true (validP os) with hv | hv
  rotate_left
  · have HM : Hid (branchProgram r zs os = ([], 1)) := by unfold Hid branchProgram; rw [HV.out, hv]; rfl
    have HW := Lib.hid hv; clear hv
    rw [HM.out]
    go_enter Try.func29, Try.ntmps29
    go_wp2_with fail
    refine (l07Is_is _ n1 c1 zs true HV.out _ HA1.out hn1).mono ?_
    rintro e w1 ⟨rfl, hb1⟩
    go_wp2_with fail
    refine (l07Is_is _ n2 c2 os false HW.out _ (HA2.out.below hb1) hn2).mono ?_
    rintro e w2 ⟨rfl, hb2⟩
    go_wp2
    go_ret2
    exact ⟨_, rfl, World.ownsRow_nil _ _ _ _, below_step hb1 hb2⟩
  obtain ⟨u1, u2, u3⟩ := valid_near hv
  have HW := Lib.hid hv; clear hv
  rcases Bool.eq_false_or_eq_true (inB r 0 23) with hv | hv
  rotate_left
  · have HM : Hid (branchProgram r zs os = ([], 2)) := by unfold Hid branchProgram; rw [HV.out, HW.out, hv]; rfl
    have HR := Lib.hid hv; clear hv
    rw [HM.out]
    go_enter Try.func29, Try.ntmps29
    go_wp2_with fail
    refine (l07Is_is _ n1 c1 zs true HV.out _ HA1.out hn1).mono ?_
    rintro e w1 ⟨rfl, hb1⟩
    go_wp2_with fail
    refine (l07Is_is _ n2 c2 os true HW.out _ (HA2.out.below hb1) hn2).mono ?_
    rintro e w2 ⟨rfl, hb2⟩
    go_wp2_with fail
    refine (l07Register_is _ false HR.out _).mono ?_
    rintro e w3 ⟨rfl, rfl⟩
    go_wp2
    go_ret2
    exact ⟨_, rfl, World.ownsRow_nil _ _ _ _, below_step hb1 hb2⟩
  have HM : Hid (branchProgram r zs os = fits (branchP r zs os)) := by unfold Hid branchProgram; rw [HV.out, HW.out, hv]; rfl
  have HR := Lib.hid hv; clear hv
  rw [HM.out]
  have hn41 : n1 ≤ 400 := by have := HL1.out; omega
  have hn42 : n2 ≤ 400 := by have := HL2.out; omega
  clear v1 u1
  go_enter Try.func29, Try.ntmps29
  go_wp2_with fail
  refine (l07Is_is _ n1 c1 zs true HV.out _ HA1.out hn1).mono ?_
  rintro e w1 ⟨rfl, hb1⟩
  go_wp2_with fail
  refine (l07Is_is _ n2 c2 os true HW.out _ (HA2.out.below hb1) hn2).mono ?_
  rintro e w2 ⟨rfl, hb2⟩
  have hB2 := below_step hb1 hb2
  clear hb1 hb2
  go_wp2_with fail
  refine (l07Register_is _ true HR.out _).mono ?_
  rintro e w3 ⟨rfl, rfl⟩
  go_wp2_with fail
  refine (l07Branch_any r _ _ n1 n2 c1 c2 zs os _ (HS1.out.below hB2) (HS2.out.below hB2) (by omega) (by omega) v2 v3 u2 u3).mono ?_
  rintro e w3 ⟨v, rfl, hown3, hb3⟩
  have hB3 := below_step hB2 hb3
  obtain ⟨A3, c3, rfl⟩ := own_form hown3
  go_wp2_with fail
  refine (l07Fits_any _ _ c3 A3 (branchP r zs os) _ (own_base hown3 hB2.size) (by rw [branchP_len, HL1.out, HL2.out]) (by omega)).mono ?_
  rintro e w4 ⟨⟨v4, rfl, hown4⟩, rfl⟩
  go_wp2
  go_ret2
  exact ⟨_, rfl, hown4, hB3⟩

set_option maxRecDepth 100000 in
set_option maxHeartbeats 800000 in
theorem implBranchProgram_any (r : Int) (b1 o1 n1 c1 : Nat) (zs : List R4) (b2 o2 n2 c2 : Nat) (os : List R4) (w : World) (hr : Wf64 r) (hs1 : Sl w b1 o1 (rows R4.vs zs)) (hl1 : zs.length = n1) (hn1 : n1 ≤ 1048576) (hc1 : n1 ≤ c1) (hf1 : ∀ x ∈ zs, x.wf) (hs2 : Sl w b2 o2 (rows R4.vs os)) (hl2 : os.length = n2) (hn2 : n2 ≤ 1048576) (hc2 : n2 ≤ c2) (hf2 : ∀ x ∈ os, x.wf) :
    Calls Try.prog 30 #[.int .i64 r, .slice (some ⟨b1, o1, none⟩) n1 c1, .slice (some ⟨b2, o2, none⟩) n2 c2] w fun e w' => ∃ v, e = .returned (.tuple #[v, .int .i64 (branchProgram r zs os).2]) ∧
      w'.ownsRow w.heap.size 77 4 v (branchProgram r zs os).1.length (rows R4.vs (branchProgram r zs os).1) ∧ Below w.heap.size w w' := by
  have HL1 := Lib.hid hl1
  have HL2 := Lib.hid hl2
  clear hl1 hl2 hf1 hf2 hr
  have HA1 := Lib.hid (Args.of_sl (n := n1) (s := 4) hs1 (by rw [rows_len R4.vs_len, HL1.out]))
  have HS1 := Lib.hid (Src.of_sl (n := n1) (size := 4) (c := c1) hs1 (by rw [rows_len R4.vs_len, HL1.out]))
  have HA2 := Lib.hid (Args.of_sl (n := n2) (s := 4) hs2 (by rw [rows_len R4.vs_len, HL2.out]))
  have HS2 := Lib.hid (Src.of_sl (n := n2) (size := 4) (c := c2) hs2 (by rw [rows_len R4.vs_len, HL2.out]))
  clear hs1 hs2
  rcases Bool.eq_false_or_eq_true (validP zs) with hv | hv
  rotate_left
  · have HM : Hid (branchProgram r zs os = ([], 1)) := by unfold Hid branchProgram; rw [hv]; rfl
    have HV := Lib.hid hv; clear hv
    rw [HM.out]
    go_enter Try.func30, Try.ntmps30
    go_wp2_with fail
    refine (validProgram_is _ n1 c1 zs false HV.out _ HA1.out hn1).mono ?_
    rintro e w1 ⟨rfl, hb1⟩
    go_wp2
    go_ret2
    exact ⟨_, rfl, World.ownsRow_nil _ _ _ _, hb1⟩
  obtain ⟨v1, v2, v3⟩ := valid_near hv
  have HV := Lib.hid hv; clear hv
  rcases Bool.eq_false_or_eq_true (validP os) with hv | hv
  rotate_left
  · have HM : Hid (branchProgram r zs os = ([], 1)) := by unfold Hid branchProgram; rw [HV.out, hv]; rfl
    have HW := Lib.hid hv; clear hv
    rw [HM.out]
    go_enter Try.func30, Try.ntmps30
    go_wp2_with fail
    refine (validProgram_is _ n1 c1 zs true HV.out _ HA1.out hn1).mono ?_
    rintro e w1 ⟨rfl, hb1⟩
    go_wp2_with fail
    refine (validProgram_is _ n2 c2 os false HW.out _ (HA2.out.below hb1) hn2).mono ?_
    rintro e w2 ⟨rfl, hb2⟩
    go_wp2
    go_ret2
    exact ⟨_, rfl, World.ownsRow_nil _ _ _ _, below_step hb1 hb2⟩
  obtain ⟨u1, u2, u3⟩ := valid_near hv
  have HW := Lib.hid hv; clear hv
  rcases Bool.eq_false_or_eq_true (inB r 0 23) with hv | hv
  rotate_left
  · have HM : Hid (branchProgram r zs os = ([], 2)) := by unfold Hid branchProgram; rw [HV.out, HW.out, hv]; rfl
    have HR := Lib.hid hv; clear hv
    rw [HM.out]
    go_enter Try.func30, Try.ntmps30
    go_wp2_with fail
    refine (validProgram_is _ n1 c1 zs true HV.out _ HA1.out hn1).mono ?_
    rintro e w1 ⟨rfl, hb1⟩
    go_wp2_with fail
    refine (validProgram_is _ n2 c2 os true HW.out _ (HA2.out.below hb1) hn2).mono ?_
    rintro e w2 ⟨rfl, hb2⟩
    go_wp2_with fail
    refine (isRegister_is _ false HR.out _).mono ?_
    rintro e w3 ⟨rfl, rfl⟩
    go_wp2
    go_ret2
    exact ⟨_, rfl, World.ownsRow_nil _ _ _ _, below_step hb1 hb2⟩
  have HM : Hid (branchProgram r zs os = fits (branchP r zs os)) := by unfold Hid branchProgram; rw [HV.out, HW.out, hv]; rfl
  have HR := Lib.hid hv; clear hv
  rw [HM.out]
  have hn41 : n1 ≤ 400 := by have := HL1.out; omega
  have hn42 : n2 ≤ 400 := by have := HL2.out; omega
  clear v1 u1
  have close : ∀ t : Int, Hid (branchP r zs os = ([] ++ [⟨1, r, 1, 2 + (n2 : Int)⟩] ++ [⟨0, r, t, 0⟩] ++ os.map (redirF (tgt n2 (2 + (n2 : Int) + n1) 2)) ++ zs.map (redirF (tgt n1 (2 + (n2 : Int) + n1) ((2 + n2 : Nat) : Int))))) → ((n2 = 0 ∧ t = 2 + (n2 : Int) + n1) ∨ (n2 ≠ 0 ∧ t = 2)) → Calls Try.prog 30 #[.int .i64 r, .slice (some ⟨b1, o1, none⟩) n1 c1, .slice (some ⟨b2, o2, none⟩) n2 c2] w fun e w' => ∃ v, e = .returned (.tuple #[v, .int .i64 (fits (branchP r zs os)).2]) ∧
      w'.ownsRow w.heap.size 77 4 v (fits (branchP r zs os)).1.length (rows R4.vs (fits (branchP r zs os)).1) ∧ Below w.heap.size w w' := by
    intro t HP ht
    rcases ht with ⟨h0, rfl⟩ | ⟨h0, rfl⟩
    all_goals
      first
        | (have e0 : ((n2 : Int) == 0) = true := by simp [h0])
        | (have e0 : ((n2 : Int) == 0) = false := by simp [h0])
      clear h0
      go_enter Try.func30, Try.ntmps30
      go_wp2_with fail
      refine (validProgram_is _ n1 c1 zs true HV.out _ HA1.out hn1).mono ?_
      rintro e w1 ⟨rfl, hb1⟩
      go_wp2_with fail
      refine (validProgram_is _ n2 c2 os true HW.out _ (HA2.out.below hb1) hn2).mono ?_
      rintro e w2 ⟨rfl, hb2⟩
      have hB2 := below_step hb1 hb2
      clear hb1 hb2
      go_wp2_with fail
      refine (isRegister_is _ true HR.out _).mono ?_
      rintro e w3 ⟨rfl, rfl⟩
      go_wp2_with (go_at_call 67; refine (sizeOf_Instr_any _ _ _ _).mono ?_; rintro e w3 ⟨rfl, hw3⟩; subst hw3)
      have hasm : Asm (w2.alloc (.cells #[.slice none 0 0] 82)) w2.heap.size w2.heap.size [] := ⟨Nat.le_refl _, _, heap_alloc_new _ _, World.ownsRow_nil _ _ _ _⟩
      have hb3 := laid_below w2 (.cells #[.slice none 0 0] 82)
      refine (asmDec_any w2.heap.size w2.heap.size r 1 (2 + (n2 : Int)) [] _ hasm (by simp)).mono ?_
      rintro e w3 ⟨rfl, hasm3, hb3'⟩
      have hB3 := hb3.trans hb3'
      clear hasm hb3 hb3'
      go_wp2_with fail
      refine (asmInc_any w2.heap.size w2.heap.size r _ _ _ hasm3 (by simp)).mono ?_
      rintro e w4 ⟨rfl, hasm4, hb4⟩
      have hB4 := hB3.trans hb4
      clear hasm3 hB3 hb4
      go_wp2_with fail
      refine (asmPart_any w2.heap.size w2.heap.size _ _ os _ n2 c2 _ hasm4 (by simp) (HS2.out.below (below_step hB2 hB4)) (by omega) u2).mono ?_
      rintro e w5 ⟨rfl, hasm5, hb5⟩
      have hB5 := hB4.trans hb5
      clear hasm4 hB4 hb5
      have hlen5 : ∀ t0 : Int, (([] : List R4) ++ [(⟨1, r, 1, 2 + (n2 : Int)⟩ : R4)] ++ [(⟨0, r, t0, 0⟩ : R4)] ++ os.map (redirF (tgt n2 (2 + (n2 : Int) + n1) 2))).length = 2 + n2 := by intro t0; simp [HL2.out]; omega
      go_wp2_with fail
      refine (asmPart_any w2.heap.size w2.heap.size _ _ zs _ n1 c1 _ hasm5 (by simp [HL2.out]; omega) (HS1.out.below (below_step hB2 hB5)) (by omega) v2).mono ?_
      rintro e w6 ⟨rfl, hasm6, hb6⟩
      have hB6 := hB5.trans hb6
      have hasm7 : Asm w6 w2.heap.size w2.heap.size (branchP r zs os) := by
        have h6 : ∀ ys : List R4, ys.length = 2 + n2 → Asm w6 w2.heap.size w2.heap.size (ys ++ zs.map (redirF (tgt n1 (2 + (n2 : Int) + n1) (ys.length : Int)))) → Asm w6 w2.heap.size w2.heap.size (ys ++ zs.map (redirF (tgt n1 (2 + (n2 : Int) + n1) ((2 + n2 : Nat) : Int)))) := by intro ys hy h; rw [hy] at h; exact h
        rw [HP.out]
        exact h6 _ (hlen5 _) hasm6
      clear hasm5 hasm6 hB5 hb6 hlen5
      go_wp2_with fail
      refine (asmDone_any w2.heap.size w2.heap.size _ _ hasm7 hB6.size).mono ?_
      rintro e w7 ⟨⟨v7, rfl, hown7⟩, rfl⟩
      go_wp2
      go_ret2
      exact ⟨_, rfl, own_base hown7 hB2.size, below_step hB2 hB6⟩
  have hx1 : (n2 : Int) + 2 = 2 + (n2 : Int) := by omega
  have hx2 : 2 + (n2 : Int) = ((2 + n2 : Nat) : Int) := by omega
  by_cases h0 : n2 = 0
  · exact close _ (by unfold Hid branchP; rw [HL1.out, HL2.out, if_pos h0, hx1, ← hx2]; rfl) (.inl ⟨h0, rfl⟩)
  · exact close 2 (by unfold Hid branchP; rw [HL1.out, HL2.out, if_neg h0, hx1, ← hx2]; rfl) (.inr ⟨h0, rfl⟩)

end Go.Proofs.Ythjehhiaedfodaa
