/- ProgramOfLoop on both sides. -/
import Derived.Test.YtkdjdnfdiphgiaaProgSpec
namespace Go.Proofs.Ytkdjdnfdiphgiaa
open Go.RowKit
set_option linter.all false

theorem validL_facts {xs : List R3} (h : validL xs = true) : xs.length ≤ 150 ∧ vl 7 xs = true := by
  unfold validL at h
  simpa using h

set_option maxRecDepth 100000 in
theorem specProgramOfLoop_any (b off n c : Nat) (xs : List R3) (w : World) (hs : Sl w b off (rows R3.vs xs)) (hl : xs.length = n) (hn : n ≤ 1048576) (hc : n ≤ c) (hf : ∀ x ∈ xs, x.wf) :
    Calls Try.prog 9 #[.slice (some ⟨b, off, none⟩) n c] w fun e w' => ∃ v, e = .returned (.tuple #[v, .int .i64 (programOfLoop xs).2]) ∧
      w'.ownsRow w.heap.size 78 4 v (programOfLoop xs).1.length (rows R4.vs (programOfLoop xs).1) ∧ Below w.heap.size w w' := by
  have HL := Lib.hid hl; clear hl hf
  have HA := Lib.hid (Args.of_sl (n := n) (s := 3) hs (by rw [rows_len R3.vs_len, HL.out]))
  rcases Bool.eq_false_or_eq_true (validL xs) with hv | hv
  rotate_left
  · have HM : Hid (programOfLoop xs = ([], 1)) := by unfold Hid programOfLoop; rw [hv]; rfl
    have HV := Lib.hid hv; clear hv
    go_enter Try.func9, Try.ntmps9
    go_wp2_with fail
    refine (l17Is_is b off n c xs false HV.out _ HA.out hn).mono ?_
    rintro e w1 ⟨rfl, hb1⟩
    go_wp2
    go_ret2
    rw [HM.out]
    exact ⟨_, rfl, World.ownsRow_nil _ _ _ _, hb1⟩
  obtain ⟨h1, h7⟩ := validL_facts hv
  rw [HL.out] at h1
  have HM : Hid (programOfLoop xs = fits (progAt 0 [] xs)) := by unfold Hid programOfLoop; rw [hv]; rfl
  have HV := Lib.hid hv; clear hv
  have HSG : Hid (seg xs 0 n = xs) := by unfold Hid; rw [← HL.out]; exact seg_all xs
  have H7 : Hid (vl 7 (seg xs 0 n) = true) := by unfold Hid; rw [HSG.out]; exact h7
  obtain ⟨-, pf2, -⟩ := progAt_facts _ xs 0 [] (Nat.le_refl _)
  rw [HL.out] at pf2
  simp only [List.length_nil, Nat.zero_add] at pf2
  obtain ⟨m, hm⟩ : ∃ m, m = (progAt 0 [] xs).length := ⟨_, rfl⟩
  rw [← hm] at pf2
  have HMM := Lib.hid hm; clear hm h7
  go_enter Try.func9, Try.ntmps9
  go_wp2_with fail
  refine (l17Is_is b off n c xs true HV.out _ HA.out hn).mono ?_
  rintro e w1 ⟨rfl, hb1⟩
  go_wp2_with fail
  refine (l17Program_any n _ n c 0 n 7 0 xs _ (HA.out.below hb1) h1 (Nat.zero_le _) (Nat.le_refl _) (by omega) (by omega) (by omega) H7.out).mono ?_
  rintro e w2 ⟨v2, rfl, hown2, hb2⟩
  rw [HSG.out, ← HMM.out] at hown2
  obtain ⟨A2, c2, rfl⟩ := own_form hown2
  have hB2 := below_step hb1 hb2
  go_wp2_with fail
  refine (l07Fits_any w.heap.size m c2 A2 (progAt 0 [] xs) _ (own_base hown2 hb1.size) HMM.out.symm (by omega)).mono ?_
  rintro e w3 ⟨⟨v3, rfl, hown3⟩, rfl⟩
  go_wp2
  go_ret2
  rw [HM.out]
  exact ⟨_, rfl, hown3, hB2⟩

set_option maxRecDepth 100000 in
theorem implProgramOfLoop_any (b off n c : Nat) (xs : List R3) (w : World) (hs : Sl w b off (rows R3.vs xs)) (hl : xs.length = n) (hn : n ≤ 1048576) (hc : n ≤ c) (hf : ∀ x ∈ xs, x.wf) :
    Calls Try.prog 11 #[.slice (some ⟨b, off, none⟩) n c] w fun e w' => ∃ v, e = .returned (.tuple #[v, .int .i64 (programOfLoop xs).2]) ∧
      w'.ownsRow w.heap.size 78 4 v (programOfLoop xs).1.length (rows R4.vs (programOfLoop xs).1) ∧ Below w.heap.size w w' := by
  have HL := Lib.hid hl; clear hl hf
  have HA := Lib.hid (Args.of_sl (n := n) (s := 3) hs (by rw [rows_len R3.vs_len, HL.out]))
  rcases Bool.eq_false_or_eq_true (validL xs) with hv | hv
  rotate_left
  · have HM : Hid (programOfLoop xs = ([], 1)) := by unfold Hid programOfLoop; rw [hv]; rfl
    have HV := Lib.hid hv; clear hv
    go_enter Try.func11, Try.ntmps11
    go_wp2_with fail
    refine (implValidLoop_is b off n c xs false HV.out _ HA.out hn hc).mono ?_
    rintro e w1 ⟨rfl, hb1⟩
    go_wp2
    go_ret2
    rw [HM.out]
    exact ⟨_, rfl, World.ownsRow_nil _ _ _ _, hb1⟩
  obtain ⟨h1, h7⟩ := validL_facts hv
  rw [HL.out] at h1
  have HM : Hid (programOfLoop xs = fits (progAt 0 [] xs)) := by unfold Hid programOfLoop; rw [hv]; rfl
  have HV := Lib.hid hv; clear hv
  have H7 := Lib.hid h7
  obtain ⟨-, pf2, -⟩ := progAt_facts _ xs 0 [] (Nat.le_refl _)
  rw [HL.out] at pf2
  simp only [List.length_nil, Nat.zero_add] at pf2
  obtain ⟨m, hm⟩ : ∃ m, m = (progAt 0 [] xs).length := ⟨_, rfl⟩
  rw [← hm] at pf2
  have HMM := Lib.hid hm; clear hm h7
  by_cases h4 : 400 < m
  · have hi : (400 : Int) < (m : Int) := by omega
    have HF : Hid (fits (progAt 0 [] xs) = ([], 5)) := by unfold Hid fits; rw [← HMM.out, if_pos h4, if_pos h4]
    go_enter Try.func11, Try.ntmps11
    go_wp2_with fail
    refine (implValidLoop_is b off n c xs true HV.out _ HA.out hn hc).mono ?_
    rintro e w1 ⟨rfl, hb1⟩
    go_wp2_with fail
    refine (programOfLoop_any n _ c 7 0 xs _ (HA.out.below hb1) h1 hc (by omega) (by omega) H7.out).mono ?_
    rintro e w2 ⟨v2, rfl, hown2, hb2⟩
    rw [← HMM.out] at hown2
    obtain ⟨A2, c2, rfl⟩ := own_form hown2
    go_wp2
    go_ret2
    rw [HM.out, HF.out]
    exact ⟨_, rfl, World.ownsRow_nil _ _ _ _, below_step hb1 hb2⟩
  · have hi : ¬ (400 : Int) < (m : Int) := by omega
    have HF : Hid (fits (progAt 0 [] xs) = (progAt 0 [] xs, 0)) := by unfold Hid fits; rw [← HMM.out, if_neg h4, if_neg h4]
    go_enter Try.func11, Try.ntmps11
    go_wp2_with fail
    refine (implValidLoop_is b off n c xs true HV.out _ HA.out hn hc).mono ?_
    rintro e w1 ⟨rfl, hb1⟩
    go_wp2_with fail
    refine (programOfLoop_any n _ c 7 0 xs _ (HA.out.below hb1) h1 hc (by omega) (by omega) H7.out).mono ?_
    rintro e w2 ⟨v2, rfl, hown2, hb2⟩
    rw [← HMM.out] at hown2
    obtain ⟨A2, c2, rfl⟩ := own_form hown2
    go_wp2
    go_ret2
    rw [HM.out, HF.out]
    exact ⟨_, rfl, by show World.ownsRow _ _ _ _ _ (progAt 0 [] xs).length _; rw [← HMM.out]; exact own_base hown2 hb1.size, below_step hb1 hb2⟩
end Go.Proofs.Ytkdjdnfdiphgiaa
