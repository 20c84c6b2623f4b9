/- AbstractComb on both sides. -/
import Derived.Test.YtbnjoofagkemmaaCombAbs2
import Derived.Test.YtbnjoofagkemmaaCombSub
namespace Go.Proofs.Ytbnjoofagkemmaa
open Go.RowKit
set_option linter.all false

/-- What AbstractComb gives. -/
def abstractComb (xs : List R2) (k : Int) (short : Bool) : List R2 × Int := if validC xs then (if inB k 0 399 then fitC (absC k short xs) else ([], 2)) else ([], 1)
theorem bndAbstractComb0 (xs : List R2) (k : Int) (short : Bool) (h : xs.length ≤ 1048576) : (abstractComb xs k short).1.length ≤ 1048576 := by
  unfold abstractComb
  split
  · split
    · have := fitC_len (absC k short xs); omega
    · simp
  · simp

set_option maxRecDepth 100000 in
theorem specAbstractComb_any (b off n c : Nat) (xs : List R2) (k : Int) (short : Bool) (w : World) (hs : Sl w b off (rows R2.vs xs)) (hl : xs.length = n) (hn : n ≤ 1048576) (hc : n ≤ c) (hf : ∀ x ∈ xs, x.wf) (hk : Wf64 k) :
    Calls Try.prog 22 #[.slice (some ⟨b, off, none⟩) n c, .int .i64 k, .bool short] w fun e w' => ∃ v, e = .returned (.tuple #[v, .int .i64 (abstractComb xs k short).2]) ∧
      w'.ownsRow w.heap.size 60 2 v (abstractComb xs k short).1.length (rows R2.vs (abstractComb xs k short).1) ∧ Below w.heap.size w w' := by
  have HL := Lib.hid hl; clear hl hf hk
  have HA := Lib.hid (Args.of_sl (n := n) (s := 2) hs (by rw [rows_len R2.vs_len, HL.out]))
  rcases Bool.eq_false_or_eq_true (validC xs) with hv | hv
  rotate_left
  · have HM : Hid (abstractComb xs k short = ([], 1)) := by unfold Hid abstractComb; rw [hv]; rfl
    have HV := Lib.hid hv; clear hv
    rw [HM.out]
    go_enter Try.func22, Try.ntmps22
    go_wp2_with fail
    refine (l12Comb_is _ n c xs false HV.out _ HA.out hn).mono ?_
    rintro e w1 ⟨rfl, rfl⟩
    go_wp2
    go_ret2
    exact ⟨_, rfl, World.ownsRow_nil _ _ _ _, Below.refl _ _⟩
  have h4 := validC_len' hv
  rw [HL.out] at h4
  have HF : Hid (fit kFol 1 xs = true) := by unfold validC at hv; exact (Bool.and_eq_true _ _ ▸ (Bool.and_eq_true _ _ ▸ hv).2).2
  rcases Bool.eq_false_or_eq_true (inB k 0 399) with hi | hi
  rotate_left
  · have HM : Hid (abstractComb xs k short = ([], 2)) := by unfold Hid abstractComb; rw [hv, hi]; rfl
    have HV := Lib.hid hv; have HI := Lib.hid hi; clear hv hi
    rw [HM.out]
    go_enter Try.func22, Try.ntmps22
    go_wp2_with fail
    refine (l12Comb_is _ n c xs true HV.out _ HA.out hn).mono ?_
    rintro e w1 ⟨rfl, rfl⟩
    go_wp2_with fail
    refine (l00In_is _ _ _ false HI.out _).mono ?_
    rintro e w2 ⟨rfl, rfl⟩
    go_wp2
    go_ret2
    exact ⟨_, rfl, World.ownsRow_nil _ _ _ _, Below.refl _ _⟩
  have HM : Hid (abstractComb xs k short = fitC (absC k short xs)) := by unfold Hid abstractComb; rw [hv, hi]; rfl
  have HV := Lib.hid hv; have HI := Lib.hid hi; clear hv hi
  rw [HM.out]
  have lA := absC_len k short _ xs (Nat.le_refl _) HF.out
  rw [HL.out] at lA
  obtain ⟨m, hm⟩ : ∃ m, m = (absC k short xs).length := ⟨_, rfl⟩
  rw [← hm] at lA
  have HMM := Lib.hid hm; clear hm
  go_enter Try.func22, Try.ntmps22
  go_wp2_with fail
  refine (l12Comb_is _ n c xs true HV.out _ HA.out hn).mono ?_
  rintro e w1 ⟨rfl, rfl⟩
  go_wp2_with fail
  refine (l00In_is _ _ _ true HI.out _).mono ?_
  rintro e w2 ⟨rfl, rfl⟩
  go_wp2_with fail
  refine (l18Abstract_any n b off n c k short xs _ (Nat.le_refl _) hs HL.out (by omega) hc HF.out).mono ?_
  rintro e w3 ⟨v3, rfl, hown3, hb3⟩
  rw [← HMM.out] at hown3
  obtain ⟨A3, c3, rfl⟩ := own_form hown3
  go_wp2_with fail
  refine (l18Fit_any _ m c3 A3 (absC k short xs) _ hown3 (by omega)).mono ?_
  rintro e w4 ⟨⟨v4, rfl, hown4⟩, rfl⟩
  go_wp2
  go_ret2
  exact ⟨_, rfl, hown4, hb3⟩

set_option maxRecDepth 100000 in
theorem implAbstractComb_any (b off n c : Nat) (xs : List R2) (k : Int) (short : Bool) (w : World) (hs : Sl w b off (rows R2.vs xs)) (hl : xs.length = n) (hn : n ≤ 1048576) (hc : n ≤ c) (hf : ∀ x ∈ xs, x.wf) (hk : Wf64 k) :
    Calls Try.prog 23 #[.slice (some ⟨b, off, none⟩) n c, .int .i64 k, .bool short] w fun e w' => ∃ v, e = .returned (.tuple #[v, .int .i64 (abstractComb xs k short).2]) ∧
      w'.ownsRow w.heap.size 60 2 v (abstractComb xs k short).1.length (rows R2.vs (abstractComb xs k short).1) ∧ Below w.heap.size w w' := by
  have HL := Lib.hid hl; clear hl hf hk
  have HA := Lib.hid (Args.of_sl (n := n) (s := 2) hs (by rw [rows_len R2.vs_len, HL.out]))
  rcases Bool.eq_false_or_eq_true (validC xs) with hv | hv
  rotate_left
  · have HM : Hid (abstractComb xs k short = ([], 1)) := by unfold Hid abstractComb; rw [hv]; rfl
    have HV := Lib.hid hv; clear hv
    rw [HM.out]
    go_enter Try.func23, Try.ntmps23
    go_wp2_with fail
    refine (validComb_is _ n c xs false HV.out _ HA.out hn).mono ?_
    rintro e w1 ⟨rfl, hb1⟩
    go_wp2
    go_ret2
    exact ⟨_, rfl, World.ownsRow_nil _ _ _ _, hb1⟩
  have h4 := validC_len' hv
  rw [HL.out] at h4
  have HF : Hid (fit kFol 1 xs = true) := by unfold validC at hv; exact (Bool.and_eq_true _ _ ▸ (Bool.and_eq_true _ _ ▸ hv).2).2
  rcases Bool.eq_false_or_eq_true (inB k 0 399) with hi | hi
  rotate_left
  · have HM : Hid (abstractComb xs k short = ([], 2)) := by unfold Hid abstractComb; rw [hv, hi]; rfl
    have HV := Lib.hid hv; have HI := Lib.hid hi; clear hv hi
    rw [HM.out]
    go_enter Try.func23, Try.ntmps23
    go_wp2_with fail
    refine (validComb_is _ n c xs true HV.out _ HA.out hn).mono ?_
    rintro e w1 ⟨rfl, hb1⟩
    go_wp2_with fail
    refine (within_is _ _ _ false HI.out _).mono ?_
    rintro e w2 ⟨rfl, rfl⟩
    go_wp2
    go_ret2
    exact ⟨_, rfl, World.ownsRow_nil _ _ _ _, hb1⟩
  have HM : Hid (abstractComb xs k short = fitC (absC k short xs)) := by unfold Hid abstractComb; rw [hv, hi]; rfl
  have HV := Lib.hid hv; have HI := Lib.hid hi; clear hv hi
  rw [HM.out]
  have lA := absC_len k short _ xs (Nat.le_refl _) HF.out
  rw [HL.out] at lA
  obtain ⟨m, hm⟩ : ∃ m, m = (absC k short xs).length := ⟨_, rfl⟩
  rw [← hm] at lA
  have HMM := Lib.hid hm; clear hm
  go_enter Try.func23, Try.ntmps23
  go_wp2_with fail
  refine (validComb_is _ n c xs true HV.out _ HA.out hn).mono ?_
  rintro e w1 ⟨rfl, hb1⟩
  go_wp2_with fail
  refine (within_is _ _ _ true HI.out _).mono ?_
  rintro e w2 ⟨rfl, rfl⟩
  go_wp2_with fail
  refine (abstraction_any n b off n c k short xs _ (Nat.le_refl _) (hs.below' hb1) HL.out (by omega) hc HF.out).mono ?_
  rintro e w3 ⟨v3, rfl, hown3, hb3⟩
  rw [← HMM.out] at hown3
  obtain ⟨A3, c3, rfl⟩ := own_form hown3
  go_wp2_with fail
  refine (shortComb_any _ m c3 A3 (absC k short xs) _ (own_base hown3 hb1.size) (by omega)).mono ?_
  rintro e w4 ⟨⟨v4, rfl, hown4⟩, rfl⟩
  go_wp2
  go_ret2
  exact ⟨_, rfl, hown4, below_step hb1 hb3⟩

end Go.Proofs.Ytbnjoofagkemmaa
