/- LoopProgram on both sides. -/
import Derived.Test.YtkdjdnfdiphgiaaShift
namespace Go.Proofs.Ytkdjdnfdiphgiaa
open Go.RowKit
set_option linter.all false

def loopP (r : Int) (ps : List R4) : List R4 := [⟨1, r, 1, (ps.length : Int) + 2⟩, ⟨0, r, if ps.length = 0 then 0 else 2, 0⟩] ++ ps.map (redirF (tgt ps.length 0 2))
def loopProgram (r : Int) (ps : List R4) : List R4 × Int := if validP ps then (if inB r 0 23 then fits (loopP r ps) else ([], 2)) else ([], 1)
theorem fits_len (xs : List R4) : (fits xs).1.length ≤ 400 := by 
  unfold fits
  by_cases h : 400 < xs.length
  · simp [h]
  · simp [h]; omega
theorem bndLoopProgram0 (r : Int) (ps : List R4) (h : ps.length ≤ 1048576) : (loopProgram r ps).1.length ≤ 1048576 := by
  unfold loopProgram
  split
  · split
    · have := fits_len (loopP r ps); omega
    · simp
  · simp
theorem valid_near {ps : List R4} (h : validP ps = true) : ps.length ≤ 400 ∧ Near ps ∧ Kinds ps := by
  unfold validP at h
  simp only [Bool.and_eq_true, decide_eq_true_eq, List.all_eq_true] at h
  obtain ⟨h1, h2⟩ := h
  have key : ∀ x ∈ ps, (0 ≤ x.c ∧ x.c ≤ ps.length) ∧ (0 ≤ x.d ∧ x.d ≤ ps.length) ∧ (x.a = 0 ∨ x.a = 1) := by
    intro x hx
    have := h2 x hx
    unfold iOk at this
    simp only [Bool.and_eq_true] at this
    obtain ⟨_, h3, h4⟩ := this
    rw [inB_iff] at h3
    split at h4
    · simp at h4
      exact ⟨h3, by omega, by omega⟩
    · simp only [Bool.and_eq_true, decide_eq_true_eq] at h4
      rw [inB_iff] at h4
      exact ⟨h3, h4.2, .inr h4.1⟩
  refine ⟨h1, fun x hx => ?_, fun x hx => (key x hx).2.2⟩
  have := key x hx
  omega

set_option maxRecDepth 100000 in
set_option maxHeartbeats 400000 in
theorem l07Loop_any (r : Int) (A : Option Addr) (n c : Nat) (xs : List R4) (w : World) (hsrc : Src 4 w (.slice A n c) n (rows R4.vs xs)) (hn : n ≤ 1000) (hnear : Near xs) (hkind : Kinds xs) :
    Calls Try.prog 80 #[.int .i64 r, .slice A n c] w fun e w' => ∃ v, e = .returned v ∧ w'.ownsRow w.heap.size 78 4 v (n + 2) (rows R4.vs (loopP r xs)) ∧ Below w.heap.size w w' := by
  have HL : Hid (xs.length = n) := by have := hsrc.1; rw [rows_len R4.vs_len] at this; unfold Hid; omega
  have HO := Lib.hid (one_rows_Instr (xs.map (redirF (tgt n 0 2))))
  have hm2 : (2 : Nat) ≤ maxLen := by unfold maxLen; omega
  have close : ∀ t : Int, Hid (loopP r xs = [⟨1, r, 1, (n : Int) + 2⟩, ⟨0, r, t, 0⟩] ++ xs.map (redirF (tgt n 0 2))) → ((n = 0 ∧ t = 0) ∨ (n ≠ 0 ∧ t = 2)) → Calls Try.prog 80 #[.int .i64 r, .slice A n c] w fun e w' => ∃ v, e = .returned v ∧ w'.ownsRow w.heap.size 78 4 v (n + 2) (rows R4.vs (loopP r xs)) ∧ Below w.heap.size w w' := by
    intro t HP ht
    have hown1 : (w.alloc (.cells #[.int .i64 1, .int .i64 r, .int .i64 1, .int .i64 ((n : Int) + 2), .int .i64 0, .int .i64 r, .int .i64 t, .int .i64 0] 78)).ownsRow w.heap.size 78 4 (.slice (some ⟨w.heap.size, 0, none⟩) 2 2) 2 (rows R4.vs [⟨1, r, 1, (n : Int) + 2⟩, ⟨0, r, t, 0⟩]) := own_laid w _ 4 2 _ rfl hm2
    have hb1 := laid_below w (.cells #[.int .i64 1, .int .i64 r, .int .i64 1, .int .i64 ((n : Int) + 2), .int .i64 0, .int .i64 r, .int .i64 t, .int .i64 0] 78)
    have hsrc1 := hsrc.below hb1
    rcases ht with ⟨h0, rfl⟩ | ⟨h0, rfl⟩
    all_goals
      first
        | (have e0 : ((n : Int) == 0) = true := by simp [h0])
        | (have e0 : ((n : Int) == 0) = false := by simp [h0])
      clear h0
      go_enter Try.func80, Try.ntmps80
      go_wp2_with fail
      refine (l07Shift_any 2 0 A n c xs _ hsrc1 (by omega) hnear hkind (by omega) (by omega)).mono ?_
      rintro e w2 ⟨v2, rfl, hown2, hb2⟩
      have hown3 := own_below' hown1 hb2
      have hB2 := below_step hb1 hb2
      have hsrc2 := Src.of_own hown2
      clear hown1 hown2 hb2
      go_wp2_with (at_builtin; refine wpList_appx rfl _ _ _ rfl Try.underlying24 infoInstr rfl (by omega) w.heap.size hown3 hB2.size rfl hsrc2 rfl HO.out (by unfold maxLen; omega) (by omega) ?_; intro v4 w4 hown4 hg4 hnil4; have hB4 := grown_below hB2 hown3 (Nat.le_refl _) hg4; clear hnil4 hown3 hsrc2 hg4)
      go_ret
      exact ⟨_, rfl, by rw [HP.out, rows_app, Nat.add_comm n 2]; exact hown4, hB4⟩
  by_cases h0 : n = 0
  · exact close 0 (by unfold Hid loopP; rw [HL.out, if_pos h0]) (.inl ⟨h0, rfl⟩)
  · exact close 2 (by unfold Hid loopP; rw [HL.out, if_neg h0]) (.inr ⟨h0, rfl⟩)

theorem loopP_len (r : Int) (xs : List R4) : (loopP r xs).length = xs.length + 2 := by simp [loopP]

end Go.Proofs.Ytkdjdnfdiphgiaa
