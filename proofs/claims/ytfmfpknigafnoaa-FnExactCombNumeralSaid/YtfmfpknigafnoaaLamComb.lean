/- LamToComb on both sides. -/
import Derived.Test.YtfmfpknigafnoaaLamComb2
namespace Go.Proofs.Ytfmfpknigafnoaa
open Go.RowKit
set_option linter.all false

set_option maxRecDepth 100000 in
theorem specLamToComb_any (b off n c : Nat) (xs : List R2) (short : Bool) (w : World) (hs : Sl w b off (rows R2.vs xs)) (hl : xs.length = n) (hn : n ≤ 1048576) (hc : n ≤ c) (hf : ∀ x ∈ xs, x.wf) :
    Calls Try.prog 49 #[.slice (some ⟨b, off, none⟩) n c, .bool short] w fun e w' => ∃ v, e = .returned (.tuple #[v, .int .i64 (lamToComb xs short).2]) ∧
      w'.ownsRow w.heap.size 136 2 v (lamToComb xs short).1.length (rows R2.vs (lamToComb xs short).1) ∧ Below w.heap.size w w' := by
  have HL := Lib.hid hl; clear hl hf
  have HA := Lib.hid (Args.of_sl (n := n) (s := 2) hs (by rw [rows_len R2.vs_len, HL.out]))
  rcases Bool.eq_false_or_eq_true (validT xs) with hv | hv
  rotate_left
  · have HM : Hid (lamToComb xs short = ([], 1)) := by unfold Hid lamToComb; rw [hv]; rfl
    have HV := Lib.hid hv; clear hv
    rw [HM.out]
    have b1 := Below.refl w.heap.size w
    go_enter Try.func49, Try.ntmps49
    go_wp2_with fail
    refine (l12Is_is _ n c xs false HV.out _ HA.out hn).mono ?_
    rintro e w1 ⟨rfl, rfl⟩
    go_wp2
    go_ret2
    exact ⟨_, rfl, World.ownsRow_nil _ _ _ _, b1⟩
  have hv2 := hv
  unfold validT at hv2
  rw [Bool.and_eq_true, inB_iff, Bool.and_eq_true, HL.out] at hv2
  obtain ⟨⟨h1, h2⟩, h3, h4⟩ := hv2
  have hn4 : n ≤ 400 := by omega
  have HOK := Lib.hid h3
  have HF := Lib.hid h4
  have HP0 : Hid (part2 xs 0 n = xs) := by unfold Hid part2; rw [List.drop_zero, List.take_of_length_le (by rw [HL.out]; exact Nat.le_refl _)]
  have HSM := Lib.hid (lamC_same short h3)
  have HV := Lib.hid hv; clear hv h1 h2 h3 h4
  have b1 := Below.refl w.heap.size w
  cases h1 : lamC ixI bxI short 0 xs with
  | some cs =>
      have HM : Hid (lamToComb xs short = (cs, 0)) := by unfold Hid lamToComb; rw [if_pos HV.out, h1]
      have H1 : Hid (lamC ixS bxS short 0 xs = some cs) := by unfold Hid; first | exact h1 | (rw [HSM.out]; exact h1)
      clear h1
      rw [HM.out]
      go_enter Try.func49, Try.ntmps49
      go_wp2_with fail
      refine (l12Is_is _ n c xs true HV.out _ HA.out hn).mono ?_
      rintro e w1 ⟨rfl, rfl⟩
      go_wp2_with fail
      refine ((l18Comb_any n b off n c 0 short xs _ (Nat.le_refl _) hs HL.out hn4 hc (by omega) (by omega) HF.out HOK.out).1 cs H1.out).mono ?_
      rintro e w2 ⟨⟨v2, rfl, own2⟩, b2⟩
      have B2 := below_step b1 b2
      have own2' := own_base own2 b1.size
      obtain ⟨A2, c2, rfl⟩ := own_form own2
      clear own2
      go_wp2
      go_ret2
      exact ⟨_, rfl, own2', B2⟩
  | none =>
      have HM : Hid (lamToComb xs short = ([], 5)) := by unfold Hid lamToComb; rw [if_pos HV.out, h1]
      have H1 : Hid (lamC ixS bxS short 0 xs = none) := by unfold Hid; first | exact h1 | (rw [HSM.out]; exact h1)
      clear h1
      rw [HM.out]
      go_enter Try.func49, Try.ntmps49
      go_wp2_with fail
      refine (l12Is_is _ n c xs true HV.out _ HA.out hn).mono ?_
      rintro e w1 ⟨rfl, rfl⟩
      go_wp2_with fail
      refine ((l18Comb_any n b off n c 0 short xs _ (Nat.le_refl _) hs HL.out hn4 hc (by omega) (by omega) HF.out HOK.out).2 H1.out).mono ?_
      rintro e w2 ⟨⟨v2, rfl⟩, b2⟩
      have B2 := below_step b1 b2
      go_wp2
      go_ret2
      exact ⟨_, rfl, World.ownsRow_nil _ _ _ _, B2⟩

set_option maxRecDepth 100000 in
theorem implLamToComb_any (b off n c : Nat) (xs : List R2) (short : Bool) (w : World) (hs : Sl w b off (rows R2.vs xs)) (hl : xs.length = n) (hn : n ≤ 1048576) (hc : n ≤ c) (hf : ∀ x ∈ xs, x.wf) :
    Calls Try.prog 51 #[.slice (some ⟨b, off, none⟩) n c, .bool short] w fun e w' => ∃ v, e = .returned (.tuple #[v, .int .i64 (lamToComb xs short).2]) ∧
      w'.ownsRow w.heap.size 136 2 v (lamToComb xs short).1.length (rows R2.vs (lamToComb xs short).1) ∧ Below w.heap.size w w' := by
  have HL := Lib.hid hl; clear hl hf
  have HA := Lib.hid (Args.of_sl (n := n) (s := 2) hs (by rw [rows_len R2.vs_len, HL.out]))
  rcases Bool.eq_false_or_eq_true (validT xs) with hv | hv
  rotate_left
  · have HM : Hid (lamToComb xs short = ([], 1)) := by unfold Hid lamToComb; rw [hv]; rfl
    have HV := Lib.hid hv; clear hv
    rw [HM.out]
    skip
    go_enter Try.func51, Try.ntmps51
    go_wp2_with fail
    refine (validLam_is _ n c xs false HV.out _ HA.out hn).mono ?_
    rintro e w1 ⟨rfl, b1⟩
    go_wp2
    go_ret2
    exact ⟨_, rfl, World.ownsRow_nil _ _ _ _, b1⟩
  have hv2 := hv
  unfold validT at hv2
  rw [Bool.and_eq_true, inB_iff, Bool.and_eq_true, HL.out] at hv2
  obtain ⟨⟨h1, h2⟩, h3, h4⟩ := hv2
  have hn4 : n ≤ 400 := by omega
  have HOK := Lib.hid h3
  have HF := Lib.hid h4
  have HP0 : Hid (part2 xs 0 n = xs) := by unfold Hid part2; rw [List.drop_zero, List.take_of_length_le (by rw [HL.out]; exact Nat.le_refl _)]
  have HSM := Lib.hid (lamC_same short h3)
  have HV := Lib.hid hv; clear hv h1 h2 h3 h4
  skip
  cases h1 : lamC ixI bxI short 0 xs with
  | some cs =>
      have HM : Hid (lamToComb xs short = (cs, 0)) := by unfold Hid lamToComb; rw [if_pos HV.out, h1]
      have H1 : Hid (lamC ixI bxI short 0 xs = some cs) := by unfold Hid; first | exact h1 | (rw [HSM.out]; exact h1)
      clear h1
      rw [HM.out]
      go_enter Try.func51, Try.ntmps51
      go_wp2_with fail
      refine (validLam_is _ n c xs true HV.out _ HA.out hn).mono ?_
      rintro e w1 ⟨rfl, b1⟩
      go_wp2_with fail
      refine ((lamToComb_any b off n c xs HOK.out short HL.out hn4 n 0 n 0 n 0 _ rfl (by omega) (Nat.le_refl _) (hs.below' b1) (by omega) (by omega) (by omega) (by rw [HP0.out]; exact HF.out)).1 cs (by rw [HP0.out]; exact H1.out)).mono ?_
      rintro e w2 ⟨⟨v2, rfl, own2⟩, b2⟩
      have B2 := below_step b1 b2
      have own2' := own_base own2 b1.size
      obtain ⟨A2, c2, rfl⟩ := own_form own2
      clear own2
      go_wp2
      go_ret2
      exact ⟨_, rfl, own2', B2⟩
  | none =>
      have HM : Hid (lamToComb xs short = ([], 5)) := by unfold Hid lamToComb; rw [if_pos HV.out, h1]
      have H1 : Hid (lamC ixI bxI short 0 xs = none) := by unfold Hid; first | exact h1 | (rw [HSM.out]; exact h1)
      clear h1
      rw [HM.out]
      go_enter Try.func51, Try.ntmps51
      go_wp2_with fail
      refine (validLam_is _ n c xs true HV.out _ HA.out hn).mono ?_
      rintro e w1 ⟨rfl, b1⟩
      go_wp2_with fail
      refine ((lamToComb_any b off n c xs HOK.out short HL.out hn4 n 0 n 0 n 0 _ rfl (by omega) (Nat.le_refl _) (hs.below' b1) (by omega) (by omega) (by omega) (by rw [HP0.out]; exact HF.out)).2 (by rw [HP0.out]; exact H1.out)).mono ?_
      rintro e w2 ⟨⟨v2, en2, cs2, rfl, own2, -⟩, b2⟩
      have B2 := below_step b1 b2
      go_wp2
      go_ret2
      exact ⟨_, rfl, World.ownsRow_nil _ _ _ _, B2⟩
end Go.Proofs.Ytfmfpknigafnoaa
