/- ApplyRewrite, the reference's and the program's. -/
import Derived.Test.YteocnkiagifmfaaRwValid
import Derived.Test.YteocnkiagifmfaaWordsN
namespace Go.Proofs.Yteocnkiagifmfaa
open Go.RowKit
set_option linter.all false

set_option maxRecDepth 100000 in
set_option maxHeartbeats 1000000 in
theorem l10Apply_any (b off n c : Nat) (es : List ERewrite) (xs : List DRewrite) (b1 o1 n1 c1 : Nat) (x : List Int) (i k : Nat) (r : DRewrite) (hx : xs[i]? = some r) (w : World) (hs : Sl w b off (rows ERewrite.vs es)) (hr : RcsRewrite w es) (hd : es.map (·.d) = xs) (hl : xs.length = n) (hn : n ≤ 1048576) (ht : sumRewrite xs ≤ 1048576) (hs1 : Sl w b1 o1 (x.map (.int .i64))) (hl1 : x.length = n1) (hn1 : n1 ≤ 1048576) (hc1 : n1 ≤ c1) (hk : k ≤ n1) :
    Calls Try.prog 88 #[.slice (some ⟨b, off, none⟩) n c, .slice (some ⟨b1, o1, none⟩) n1 c1, .int .i64 i, .int .i64 k] w fun e w' => ∃ v, e = .returned (.tuple #[v, .int .i64 (stepRw r x k).2]) ∧
      w'.ownsRow w.heap.size 2 1 v (stepRw r x k).1.length ((stepRw r x k).1.map (.int .i64)) ∧ Below w.heap.size w w' ∧ ((stepRw r x k).2 = 0 → ∃ g d, v = .slice (some ⟨g, 0, none⟩) (stepRw r x k).1.length d ∧ (stepRw r x k).1.length ≤ d) := by
  have HL := Lib.hid hl; have HD := Lib.hid hd; have HT := Lib.hid ht
  have HE : Hid (es.length = n) := by unfold Hid; rw [← hl, ← hd, List.length_map]
  have HL1 := Lib.hid hl1
  have hi : i < n := by have := (List.getElem?_eq_some_iff.1 hx).1; omega
  have HR := Lib.hid hx
  clear hl hd ht hl1 hx
  obtain ⟨e, HX⟩ := hget HE hi
  have HXD : Hid (xs[i]? = some e.d) := by unfold Hid; rw [← HD.out, List.getElem?_map, HX.out]; rfl
  have hwl : wlRewrite e.d ≤ 1048576 := Nat.le_trans (sumRewrite_at HXD.out) HT.out
  obtain ⟨⟨g0, eu0, s0⟩, ⟨g1, eu1, s1⟩, -⟩ := hr.at (List.mem_of_getElem? HX.out)
  have p0 : w.cell? ⟨b, off + i * 2, none⟩ = some e.u0 := Sl.rec (f := ERewrite.vs) (s := 2) (fun _ => rfl) hs HX.out (j := 0) rfl
  have p1 : w.cell? ⟨b, off + i * 2 + 1, none⟩ = some e.u1 := Sl.rec (f := ERewrite.vs) (s := 2) (fun _ => rfl) hs HX.out (j := 1) rfl
  rw [eu0] at p0
  rw [eu1] at p1
  clear eu0 eu1
  obtain ⟨⟨f0, f1⟩, u0, u1⟩ := e
  dsimp only at p0 p1 s0 s1 hwl HXD
  simp only [wlRewrite] at hwl
  obtain ⟨m0, hm0⟩ : ∃ q, q = f0.length := ⟨_, rfl⟩
  obtain ⟨m1, hm1⟩ : ∃ q, q = f1.length := ⟨_, rfl⟩
  rw [← hm0] at p0 hwl
  rw [← hm1] at p1 hwl
  have HM0 := Lib.hid hm0.symm
  have HM1 := Lib.hid hm1.symm
  clear hm0 hm1
  have HEQ : Hid (r = ⟨f0, f1⟩) := by unfold Hid; have h1 := HR.out; rw [HXD.out] at h1; injection h1 with h1; exact h1.symm
  clear hs hr
  rw [HEQ.out]
  rcases Bool.eq_false_or_eq_true (startsB x k f0) with hst | hst
  rotate_left
  · have HST := Lib.hid hst; clear hst
    have HF : Hid (stepRw ⟨f0, f1⟩ x k = ([], 3)) := stepRw_no HST.out
    go_enter Try.func88, Try.ntmps88
    go_wp2_with fail
    refine (l03At_is b1 o1 n1 c1 x k g0 0 m0 m0 f0 false HST.out _ hs1 HL1.out (by omega) s0 HM0.out (by omega) hk hc1).mono ?_
    rintro e w' ⟨rfl, q, rfl⟩
    go_wp2_with fail
    go_ret2
    exact ⟨_, ends2 (by rw [HF.out]), own_nil' HF.out, below_drewN (Below.refl _ _) _, fun h0 => by rw [HF.out] at h0; cases h0⟩
  have hkm := starts_le hst
  rw [HL1.out, HM0.out] at hkm
  have HST := Lib.hid hst; clear hst
  have HS : Hid (stepRw ⟨f0, f1⟩ x k = fitL (putL x k m0 f1)) := by unfold Hid; rw [stepRw_yes HST.out]; show fitL (putL x k f0.length f1) = _; rw [HM0.out]
  have HPL : Hid ((putL x k m0 f1).length = n1 - m0 + m1) := by unfold Hid; rw [putL_length _ _ _ _ (by have := HL1.out; omega), HL1.out, HM1.out]
  have p0q : ∀ q, (w.drewN q).cell? ⟨b, off + i * 2, none⟩ = some (.slice (some ⟨g0, 0, none⟩) m0 m0) := fun q => p0
  have p1q : ∀ q, (w.drewN q).cell? ⟨b, off + i * 2 + 1, none⟩ = some (.slice (some ⟨g1, 0, none⟩) m1 m1) := fun q => p1
  have hw1 : IntKind.i64.wrap ((n1 : Int) - (m0 : Int)) = (n1 : Int) - (m0 : Int) := IntWalk.i64_in _ (by omega)
  have hw2 : IntKind.i64.wrap ((n1 : Int) - (m0 : Int) + (m1 : Int)) = (n1 : Int) - (m0 : Int) + (m1 : Int) := IntWalk.i64_in _ (by omega)
  by_cases hf : n1 - m0 + m1 ≤ 400
  rotate_left
  · have HF : Hid (stepRw ⟨f0, f1⟩ x k = ([], 5)) := by unfold Hid; rw [HS.out, fitL_no (by have := HPL.out; omega)]
    go_enter Try.func88, Try.ntmps88
    go_wp2_with fail
    refine (l03At_is b1 o1 n1 c1 x k g0 0 m0 m0 f0 true HST.out _ hs1 HL1.out (by omega) s0 HM0.out (by omega) hk hc1).mono ?_
    rintro e w' ⟨rfl, q, rfl⟩
    have hBq : Below w.heap.size w (w.drewN q) := below_drewN (Below.refl _ _) q
    replace p0q := p0q q
    replace p1q := p1q q
    clear p0 p1
    generalize w.drewN q = wq at *
    go_wp2_with fail
    go_quiet (fail)
    have hBz := below_drewN hBq nq
    go_wp2_with fail
    go_ret2
    exact ⟨_, ends2 (by rw [HF.out]), own_nil' HF.out, hBz, fun h0 => by rw [HF.out] at h0; cases h0⟩
  have HF : Hid (stepRw ⟨f0, f1⟩ x k = (putL x k m0 f1, 0)) := by unfold Hid; rw [HS.out, fitL_yes (by have := HPL.out; omega)]
  go_enter Try.func88, Try.ntmps88
  go_wp2_with fail
  refine (l03At_is b1 o1 n1 c1 x k g0 0 m0 m0 f0 true HST.out _ hs1 HL1.out (by omega) s0 HM0.out (by omega) hk hc1).mono ?_
  rintro e w' ⟨rfl, q, rfl⟩
  have hBq : Below w.heap.size w (w.drewN q) := below_drewN (Below.refl _ _) q
  have hs1q := hs1.below' hBq
  have s1q := s1.below' hBq
  replace p0q := p0q q
  replace p1q := p1q q
  clear p0 p1 hs1 s0 s1
  generalize w.drewN q = wq at *
  go_wp2_with fail
  go_quiet (fail)
  have hBz := below_drewN hBq nq
  have hs1z : Sl (wq.drewN nq) b1 o1 (x.map (.int .i64)) := hs1q
  have s1z : Sl (wq.drewN nq) g1 0 (f1.map (.int .i64)) := s1q
  have p0z : (wq.drewN nq).cell? ⟨b, off + i * 2, none⟩ = some (.slice (some ⟨g0, 0, none⟩) m0 m0) := p0q
  have p1z : (wq.drewN nq).cell? ⟨b, off + i * 2 + 1, none⟩ = some (.slice (some ⟨g1, 0, none⟩) m1 m1) := p1q
  clear hBq hs1q s1q p0q p1q
  generalize wq.drewN nq = wz at *
  go_wp2_with fail
  go_still_tail 11, (by kernel_rfl)
  change wpList _ _ _ _ _ wz.drew
  have hBq : Below w.heap.size w wz.drew := hBz.drew
  have hs1q : Sl wz.drew b1 o1 (x.map (.int .i64)) := hs1z
  have s1q : Sl wz.drew g1 0 (f1.map (.int .i64)) := s1z
  clear hBz hs1z s1z p0z p1z
  generalize wz.drew = wd at *
  go_wp2_with fail
  refine (l03PutA_any b1 o1 n1 c1 x k m0 g1 0 m1 m1 f1 _ hs1q HL1.out (by omega) s1q HM1.out (by omega) hkm hc1).mono ?_
  rintro e w1' ⟨g, d, rfl, hown, hB, hd9⟩
  have hB2 := below_step hBq hB
  have hown2 := own_base hown hBq.size
  clear hown hB
  go_wp2_with fail
  go_ret2
  refine ⟨_, ends2 (by rw [HF.out]), own_fit HF.out HPL.out hown2, hB2, fun _ => ?_⟩
  rw [HF.out]; simp only; rw [HPL.out]; exact ⟨g, d, rfl, hd9⟩

set_option maxRecDepth 100000 in
set_option maxHeartbeats 1000000 in
theorem specApplyRewrite_w (b off n c : Nat) (es : List ERewrite) (xs : List DRewrite) (b1 o1 n1 c1 : Nat) (x : List Int) (rule at' : Int) (w : World) (hs : Sl w b off (rows ERewrite.vs es)) (hr : RcsRewrite w es) (hd : es.map (·.d) = xs) (hl : xs.length = n) (hn : n ≤ 1048576) (ht : sumRewrite xs ≤ 1048576) (hs1 : Sl w b1 o1 (x.map (.int .i64))) (hl1 : x.length = n1) (hn1 : n1 ≤ 1048576) (hc1 : n1 ≤ c1) (wfr : Wf64 rule) (wfa : Wf64 at') :
    Calls Try.prog 22 #[.slice (some ⟨b, off, none⟩) n c, .slice (some ⟨b1, o1, none⟩) n1 c1, .int .i64 rule, .int .i64 at'] w fun e w' => ∃ v, e = .returned (.tuple #[v, .int .i64 (applyRewrite xs x rule at').2]) ∧
      w'.ownsRow w.heap.size 2 1 v (applyRewrite xs x rule at').1.length ((applyRewrite xs x rule at').1.map (.int .i64)) ∧ Below w.heap.size w w' ∧ ((applyRewrite xs x rule at').2 = 0 → ∃ g d, v = .slice (some ⟨g, 0, none⟩) (applyRewrite xs x rule at').1.length d ∧ (applyRewrite xs x rule at').1.length ≤ d) := by
  have HL := Lib.hid hl; have HD := Lib.hid hd; have HT := Lib.hid ht
  have HE : Hid (es.length = n) := by unfold Hid; rw [← hl, ← hd, List.length_map]
  have HL1 := Lib.hid hl1
  clear hl hd ht hl1 wfr wfa
  have hwn : IntKind.i64.wrap ((n : Int) - 1) = (n : Int) - 1 := IntWalk.i64_in _ (by omega)
  rcases Bool.eq_false_or_eq_true (validRws xs) with h1 | h1
  rotate_left
  · have HV := Lib.hid h1; clear h1
    have HF : Hid (applyRewrite xs x rule at' = ([], 1)) := by unfold Hid applyRewrite; rw [HV.out]; simp
    go_enter Try.func22, Try.ntmps22
    go_wp2_with fail
    refine (l10Is_is b off n c es xs false HV.out _ hs hr HD.out HL.out hn HT.out).mono ?_
    rintro e w' ⟨rfl, rfl⟩
    go_wp2_with fail
    go_ret2
    exact ⟨_, ends2 (by rw [HF.out]), own_nil' HF.out, Below.refl _ _, fun h0 => by rw [HF.out] at h0; cases h0⟩
  have HV := Lib.hid h1; clear h1
  rcases Bool.eq_false_or_eq_true (isWordB x) with h2 | h2
  rotate_left
  · have HW := Lib.hid h2; clear h2
    have HF : Hid (applyRewrite xs x rule at' = ([], 1)) := by unfold Hid applyRewrite; rw [HW.out]; simp
    go_enter Try.func22, Try.ntmps22
    go_wp2_with fail
    refine (l10Is_is b off n c es xs true HV.out _ hs hr HD.out HL.out hn HT.out).mono ?_
    rintro e w' ⟨rfl, rfl⟩
    go_wp2_with fail
    refine (l03Is_is b1 o1 n1 c1 x false HW.out _ hs1 HL1.out (by omega)).mono ?_
    rintro e w' ⟨rfl, rfl⟩
    go_wp2_with fail
    go_ret2
    exact ⟨_, ends2 (by rw [HF.out]), own_nil' HF.out, Below.refl _ _, fun h0 => by rw [HF.out] at h0; cases h0⟩
  have HW := Lib.hid h2; clear h2
  have HA : Hid (applyRewrite xs x rule at' = applyAt xs x rule at') := by unfold Hid applyRewrite; rw [HV.out, HW.out]; rfl
  rcases Bool.eq_false_or_eq_true (inB rule 0 ((n : Int) - 1)) with hi | hi
  rotate_left
  · have HI := Lib.hid hi; clear hi
    have HF : Hid (applyRewrite xs x rule at' = ([], 2)) := by unfold Hid; rw [HA.out, applyAt_out (by unfold applyIn; rw [HL.out, HI.out]; rfl)]
    go_enter Try.func22, Try.ntmps22
    go_wp2_with fail
    refine (l10Is_is b off n c es xs true HV.out _ hs hr HD.out HL.out hn HT.out).mono ?_
    rintro e w' ⟨rfl, rfl⟩
    go_wp2_with fail
    refine (l03Is_is b1 o1 n1 c1 x true HW.out _ hs1 HL1.out (by omega)).mono ?_
    rintro e w' ⟨rfl, rfl⟩
    go_wp2_with fail
    refine (l00In_is rule 0 ((n : Int) - 1) false HI.out _).mono ?_
    rintro e w' ⟨rfl, rfl⟩
    go_wp2_with fail
    go_ret2
    exact ⟨_, ends2 (by rw [HF.out]), own_nil' HF.out, Below.refl _ _, fun h0 => by rw [HF.out] at h0; cases h0⟩
  have HI := Lib.hid hi
  rcases Bool.eq_false_or_eq_true (inB at' 0 n1) with hj | hj
  rotate_left
  · have HJ := Lib.hid hj; clear hj hi
    have HF : Hid (applyRewrite xs x rule at' = ([], 2)) := by unfold Hid; rw [HA.out, applyAt_out (by unfold applyIn; rw [HL1.out, HJ.out, Bool.and_false])]
    go_enter Try.func22, Try.ntmps22
    go_wp2_with fail
    refine (l10Is_is b off n c es xs true HV.out _ hs hr HD.out HL.out hn HT.out).mono ?_
    rintro e w' ⟨rfl, rfl⟩
    go_wp2_with fail
    refine (l03Is_is b1 o1 n1 c1 x true HW.out _ hs1 HL1.out (by omega)).mono ?_
    rintro e w' ⟨rfl, rfl⟩
    go_wp2_with fail
    refine (l00In_is rule 0 ((n : Int) - 1) true HI.out _).mono ?_
    rintro e w' ⟨rfl, rfl⟩
    go_wp2_with fail
    refine (l00In_is at' 0 n1 false HJ.out _).mono ?_
    rintro e w' ⟨rfl, rfl⟩
    go_wp2_with fail
    go_ret2
    exact ⟨_, ends2 (by rw [HF.out]), own_nil' HF.out, Below.refl _ _, fun h0 => by rw [HF.out] at h0; cases h0⟩
  have HJ := Lib.hid hj
  obtain ⟨i, rfl⟩ : ∃ i : Nat, rule = i := ⟨rule.toNat, by have := (inB_iff _ _ _).1 hi; omega⟩
  obtain ⟨k, rfl⟩ : ∃ k : Nat, at' = k := ⟨at'.toNat, by have := (inB_iff _ _ _).1 hj; omega⟩
  have hin : i < n := by have := (inB_iff _ _ _).1 hi; omega
  have hk : k ≤ n1 := by have := (inB_iff _ _ _).1 hj; omega
  clear hi hj
  obtain ⟨r, HR⟩ := hget HL hin
  have HF : Hid (applyRewrite xs x i k = stepRw r x k) := by unfold Hid; rw [HA.out, applyAt_in HR.out (by have := HL1.out; omega)]
  go_enter Try.func22, Try.ntmps22
  go_wp2_with fail
  refine (l10Is_is b off n c es xs true HV.out _ hs hr HD.out HL.out hn HT.out).mono ?_
  rintro e w' ⟨rfl, rfl⟩
  go_wp2_with fail
  refine (l03Is_is b1 o1 n1 c1 x true HW.out _ hs1 HL1.out (by omega)).mono ?_
  rintro e w' ⟨rfl, rfl⟩
  go_wp2_with fail
  refine (l00In_is i 0 ((n : Int) - 1) true HI.out _).mono ?_
  rintro e w' ⟨rfl, rfl⟩
  go_wp2_with fail
  refine (l00In_is k 0 n1 true HJ.out _).mono ?_
  rintro e w' ⟨rfl, rfl⟩
  go_wp2_with fail
  refine (l10Apply_any b off n c es xs b1 o1 n1 c1 x i k r HR.out _ hs hr HD.out HL.out hn HT.out hs1 HL1.out hn1 hc1 hk).mono ?_
  rintro e w' ⟨v, rfl, hown, hB, hv⟩
  obtain ⟨A, d, rfl⟩ := own_form hown
  go_wp2_with fail
  go_ret2
  rw [HF.out]
  exact ⟨_, rfl, hown, hB, hv⟩

theorem sizeRw_any (A : Option Addr) (n c : Nat) (w : World) : Calls Try.prog 152 #[.slice A n c] w fun e w' => e = .returned (.int .i64 n) ∧ w = w' := by
  go_enter Try.func152, Try.ntmps152
  go_wp2
  go_ret
  exact ⟨rfl, rfl⟩

/-- The last part of the program's step: begins, replaced, fitting. -/
theorem fitting_any (n c : Nat) (A : Option Addr) (ys : List Int) (B : Nat) (w : World) (h : w.ownsRow B 2 1 (.slice A n c) n (ys.map (.int .i64))) (hl : ys.length = n) (hn : n ≤ 9000000) :
    Calls Try.prog 159 #[.slice A n c] w fun e w' => (∃ v, e = .returned (.tuple #[v, .int .i64 (fitL ys).2]) ∧ w'.ownsRow B 2 1 v (fitL ys).1.length ((fitL ys).1.map (.int .i64))) ∧ w = w' := by
  by_cases hf : n ≤ 400
  · refine (fitting_yes n w A c hf).mono ?_
    rintro e w' ⟨rfl, rfl⟩
    rw [fitL_yes (by omega)]
    exact ⟨⟨_, rfl, by rw [hl]; exact h⟩, rfl⟩
  · refine (fitting_no n w A c hn (by omega)).mono ?_
    rintro e w' ⟨rfl, rfl⟩
    rw [fitL_no (by omega)]
    exact ⟨⟨_, rfl, World.ownsRow_nil _ _ _ _⟩, rfl⟩

set_option maxRecDepth 100000 in
set_option maxHeartbeats 1000000 in
theorem implApplyAt_any (b off n c : Nat) (es : List ERewrite) (xs : List DRewrite) (b1 o1 n1 c1 : Nat) (x : List Int) (rule at' : Int) (w : World) (hs : Sl w b off (rows ERewrite.vs es)) (hr : RcsRewrite w es) (hd : es.map (·.d) = xs) (hl : xs.length = n) (hn : n ≤ 1048576) (ht : sumRewrite xs ≤ 1048576) (hs1 : Sl w b1 o1 (x.map (.int .i64))) (hl1 : x.length = n1) (hn1 : n1 ≤ 1048576) (hc1 : n1 ≤ c1) :
    Calls Try.prog 92 #[.slice (some ⟨b, off, none⟩) n c, .slice (some ⟨b1, o1, none⟩) n1 c1, .int .i64 rule, .int .i64 at'] w fun e w' => ∃ v, e = .returned (.tuple #[v, .int .i64 (applyAt xs x rule at').2]) ∧
      w'.ownsRow w.heap.size 2 1 v (applyAt xs x rule at').1.length ((applyAt xs x rule at').1.map (.int .i64)) ∧ Below w.heap.size w w' := by
  have HL := Lib.hid hl; have HD := Lib.hid hd; have HT := Lib.hid ht
  have HE : Hid (es.length = n) := by unfold Hid; rw [← hl, ← hd, List.length_map]
  have HL1 := Lib.hid hl1
  clear hl hd ht hl1
  have hwn : IntKind.i64.wrap ((n : Int) - 1) = (n : Int) - 1 := IntWalk.i64_in _ (by omega)
  rcases Bool.eq_false_or_eq_true (inB rule 0 ((n : Int) - 1)) with hi | hi
  rotate_left
  · have HI := Lib.hid hi; clear hi
    have HF : Hid (applyAt xs x rule at' = ([], 2)) := by unfold Hid; rw [applyAt_out (by unfold applyIn; rw [HL.out, HI.out]; rfl)]
    go_enter Try.func92, Try.ntmps92
    go_wp2_with fail
    refine (sizeRw_any _ n c _).mono ?_
    rintro e w' ⟨rfl, rfl⟩
    go_wp2_with fail
    refine (within_is rule 0 ((n : Int) - 1) false HI.out _).mono ?_
    rintro e w' ⟨rfl, rfl⟩
    go_wp2_with fail
    go_ret2
    exact ⟨_, ends2 (by rw [HF.out]), own_nil' HF.out, Below.refl _ _⟩
  have HI := Lib.hid hi
  rcases Bool.eq_false_or_eq_true (inB at' 0 n1) with hj | hj
  rotate_left
  · have HJ := Lib.hid hj; clear hj hi
    have HF : Hid (applyAt xs x rule at' = ([], 2)) := by unfold Hid; rw [applyAt_out (by unfold applyIn; rw [HL1.out, HJ.out, Bool.and_false])]
    go_enter Try.func92, Try.ntmps92
    go_wp2_with fail
    refine (sizeRw_any _ n c _).mono ?_
    rintro e w' ⟨rfl, rfl⟩
    go_wp2_with fail
    refine (within_is rule 0 ((n : Int) - 1) true HI.out _).mono ?_
    rintro e w' ⟨rfl, rfl⟩
    go_wp2_with fail
    refine (size_int64_any _ n1 c1 _).mono ?_
    rintro e w' ⟨rfl, rfl⟩
    go_wp2_with fail
    refine (within_is at' 0 n1 false HJ.out _).mono ?_
    rintro e w' ⟨rfl, rfl⟩
    go_wp2_with fail
    go_ret2
    exact ⟨_, ends2 (by rw [HF.out]), own_nil' HF.out, Below.refl _ _⟩
  have HJ := Lib.hid hj
  obtain ⟨i, rfl⟩ : ∃ i : Nat, rule = i := ⟨rule.toNat, by have := (inB_iff _ _ _).1 hi; omega⟩
  obtain ⟨k, rfl⟩ : ∃ k : Nat, at' = k := ⟨at'.toNat, by have := (inB_iff _ _ _).1 hj; omega⟩
  have hi2 : i < n := by have := (inB_iff _ _ _).1 hi; omega
  have hk : k ≤ n1 := by have := (inB_iff _ _ _).1 hj; omega
  clear hi hj
  have hi := hi2
  obtain ⟨e, HX⟩ := hget HE hi
  have HXD : Hid (xs[i]? = some e.d) := by unfold Hid; rw [← HD.out, List.getElem?_map, HX.out]; rfl
  have hwl : wlRewrite e.d ≤ 1048576 := Nat.le_trans (sumRewrite_at HXD.out) HT.out
  obtain ⟨⟨g0, eu0, s0⟩, ⟨g1, eu1, s1⟩, -⟩ := hr.at (List.mem_of_getElem? HX.out)
  have p0 : w.cell? ⟨b, off + i * 2, none⟩ = some e.u0 := Sl.rec (f := ERewrite.vs) (s := 2) (fun _ => rfl) hs HX.out (j := 0) rfl
  have p1 : w.cell? ⟨b, off + i * 2 + 1, none⟩ = some e.u1 := Sl.rec (f := ERewrite.vs) (s := 2) (fun _ => rfl) hs HX.out (j := 1) rfl
  rw [eu0] at p0
  rw [eu1] at p1
  clear eu0 eu1
  obtain ⟨⟨f0, f1⟩, u0, u1⟩ := e
  dsimp only at p0 p1 s0 s1 hwl HXD
  simp only [wlRewrite] at hwl
  obtain ⟨m0, hm0⟩ : ∃ q, q = f0.length := ⟨_, rfl⟩
  obtain ⟨m1, hm1⟩ : ∃ q, q = f1.length := ⟨_, rfl⟩
  rw [← hm0] at p0 hwl
  rw [← hm1] at p1 hwl
  have HM0 := Lib.hid hm0.symm
  have HM1 := Lib.hid hm1.symm
  clear hm0 hm1
  have HF0 : Hid (applyAt xs x i k = stepRw ⟨f0, f1⟩ x k) := by unfold Hid; rw [applyAt_in HXD.out (by have := HL1.out; omega)]
  clear hs hr
  obtain ⟨w0, HW0, B0, x0⟩ := al1 w (.cells #[.slice (some ⟨g0, 0, none⟩) m0 m0, .slice (some ⟨g1, 0, none⟩) m1 m1] 117)
  have k0 : w0.cell? ⟨w.heap.size, 0, none⟩ = some (.slice (some ⟨g0, 0, none⟩) m0 m0) := by rw [cell_of_heap x0]; rfl
  have k1 : w0.cell? ⟨w.heap.size, 1, none⟩ = some (.slice (some ⟨g1, 0, none⟩) m1 m1) := by rw [cell_of_heap x0]; rfl
  have hs10 := hs1.below' B0
  have s00 := s0.below' B0
  have s10 := s1.below' B0
  clear x0 s0 s1 hs1
  rcases Bool.eq_false_or_eq_true (startsB (x.drop k) 0 f0) with hst | hst
  rotate_left
  · have HST := Lib.hid hst
    have HF : Hid (applyAt xs x i k = ([], 3)) := by unfold Hid; rw [HF0.out, stepRw_no (by rw [← starts_drop _ _ _ (by have := HL1.out; omega)]; exact hst)]
    clear hst
    by_cases hck : c1 = k
    · have HD0 : Hid (x.drop k = []) := by unfold Hid; exact List.drop_of_length_le (by have := HL1.out; omega)
      subst hck
      have hsd : Sl w0 b1 o1 ((x.drop c1).map (.int .i64)) := by rw [HD0.out]; exact Sl.empty hs10.1
      have HLD : Hid ((x.drop c1).length = 0) := by have := HL1.out; unfold Hid; rw [HD0.out]; rfl
      have i1 : (c1 : Int) ≤ (c1 : Int) := by omega
      have i2 : (c1 : Int) ≤ (n1 : Int) := by omega
      have i5 : 0 ≤ (c1 : Int) := by omega
      go_enter Try.func92, Try.ntmps92
      go_wp2_with fail
      refine (sizeRw_any _ n c _).mono ?_
      rintro e w' ⟨rfl, rfl⟩
      go_wp2_with fail
      refine (within_is i 0 ((n : Int) - 1) true HI.out _).mono ?_
      rintro e w' ⟨rfl, rfl⟩
      go_wp2_with fail
      refine (size_int64_any _ n1 c1 _).mono ?_
      rintro e w' ⟨rfl, rfl⟩
      go_wp2_with fail
      refine (within_is c1 0 n1 true HJ.out _).mono ?_
      rintro e w' ⟨rfl, rfl⟩
      go_wp2_with fail
      rw [← HW0.out]
      go_quiet ((go_at_call 158; exact quiet_q (begins_is _ _ _ _ (x.drop c1) g0 0 m0 m0 f0 false HST.out _ (by exact hsd) HLD.out (by omega) (by exact s00) HM0.out (by omega) (by omega))))
      have hBq : Below w.heap.size w (w0.drewN nq) := below_drewN B0 nq
      go_wp2_with fail
      go_ret2
      exact ⟨_, ends2 (by rw [HF.out]), own_nil' HF.out, hBq⟩
    · have hkc : k < c1 := by omega
      have hsd := hs10.from k
      have HLD : Hid ((x.drop k).length = n1 - k) := by have := HL1.out; unfold Hid; simp; omega
      have i1 : (k : Int) ≤ (c1 : Int) := by omega
      have i2 : (k : Int) ≤ (n1 : Int) := by omega
      have i5 : 0 ≤ (k : Int) := by omega
      go_enter Try.func92, Try.ntmps92
      go_wp2_with fail
      refine (sizeRw_any _ n c _).mono ?_
      rintro e w' ⟨rfl, rfl⟩
      go_wp2_with fail
      refine (within_is i 0 ((n : Int) - 1) true HI.out _).mono ?_
      rintro e w' ⟨rfl, rfl⟩
      go_wp2_with fail
      refine (size_int64_any _ n1 c1 _).mono ?_
      rintro e w' ⟨rfl, rfl⟩
      go_wp2_with fail
      refine (within_is k 0 n1 true HJ.out _).mono ?_
      rintro e w' ⟨rfl, rfl⟩
      go_wp2_with fail
      rw [← HW0.out]
      go_quiet ((go_at_call 158; exact quiet_q (begins_is _ _ _ _ (x.drop k) g0 0 m0 m0 f0 false HST.out _ (by exact hsd) HLD.out (by omega) (by exact s00) HM0.out (by omega) (by omega))))
      have hBq : Below w.heap.size w (w0.drewN nq) := below_drewN B0 nq
      go_wp2_with fail
      go_ret2
      exact ⟨_, ends2 (by rw [HF.out]), own_nil' HF.out, hBq⟩
  have HST := Lib.hid hst
  rw [starts_drop _ _ _ (by have := HL1.out; omega)] at hst
  have hkm := starts_le hst
  rw [HL1.out, HM0.out] at hkm
  have HF : Hid (applyAt xs x i k = fitL (putL x k m0 f1)) := by unfold Hid; rw [HF0.out, stepRw_yes hst]; show fitL (putL x k f0.length f1) = _; rw [HM0.out]
  clear hst
  have HPL : Hid ((putL x k m0 f1).length = n1 - m0 + m1) := by unfold Hid; rw [putL_length _ _ _ _ (by have := HL1.out; omega), HL1.out, HM1.out]
  by_cases hck : c1 = k
  · have HD0 : Hid (x.drop k = []) := by unfold Hid; exact List.drop_of_length_le (by have := HL1.out; omega)
    subst hck
    have hsd : Sl w0 b1 o1 ((x.drop c1).map (.int .i64)) := by rw [HD0.out]; exact Sl.empty hs10.1
    have HLD : Hid ((x.drop c1).length = 0) := by have := HL1.out; unfold Hid; rw [HD0.out]; rfl
    have i1 : (c1 : Int) ≤ (c1 : Int) := by omega
    have i2 : (c1 : Int) ≤ (n1 : Int) := by omega
    have i5 : 0 ≤ (c1 : Int) := by omega
    go_enter Try.func92, Try.ntmps92
    go_wp2_with fail
    refine (sizeRw_any _ n c _).mono ?_
    rintro e w' ⟨rfl, rfl⟩
    go_wp2_with fail
    refine (within_is i 0 ((n : Int) - 1) true HI.out _).mono ?_
    rintro e w' ⟨rfl, rfl⟩
    go_wp2_with fail
    refine (size_int64_any _ n1 c1 _).mono ?_
    rintro e w' ⟨rfl, rfl⟩
    go_wp2_with fail
    refine (within_is c1 0 n1 true HJ.out _).mono ?_
    rintro e w' ⟨rfl, rfl⟩
    go_wp2_with fail
    rw [← HW0.out]
    go_quiet ((go_at_call 158; exact quiet_q (begins_is _ _ _ _ (x.drop c1) g0 0 m0 m0 f0 true HST.out _ (by exact hsd) HLD.out (by omega) (by exact s00) HM0.out (by omega) (by omega))))
    have hBq : Below w.heap.size w (w0.drewN nq) := below_drewN B0 nq
    have hs1q := hs10.below' (quiet_below rfl : Below w0.heap.size w0 (w0.drewN nq))
    have s1q := s10.below' (quiet_below rfl : Below w0.heap.size w0 (w0.drewN nq))
    have k0q : (w0.drewN nq).cell? ⟨w.heap.size, 0, none⟩ = some (.slice (some ⟨g0, 0, none⟩) m0 m0) := k0
    have k1q : (w0.drewN nq).cell? ⟨w.heap.size, 1, none⟩ = some (.slice (some ⟨g1, 0, none⟩) m1 m1) := k1
    clear k0 k1 hs10 s00 s10 hsd
    generalize w0.drewN nq = wq at *
    go_wp2_with fail
    refine (replaced_any b1 o1 n1 c1 x c1 m0 g1 0 m1 m1 f1 _ hs1q HL1.out (by omega) s1q HM1.out (by omega) hkm hc1).mono ?_
    rintro e w1' ⟨v, rfl, hown, hB⟩
    obtain ⟨A, d, rfl⟩ := own_form hown
    have hB2 := below_step hBq hB
    have hown2 := own_base hown hBq.size
    clear hown hB
    go_wp2_with fail
    refine (fitting_any (n1 - m0 + m1) d A (putL x c1 m0 f1) w.heap.size _ hown2 HPL.out (by omega)).mono ?_
    rintro e w' ⟨⟨v, rfl, hown3⟩, rfl⟩
    obtain ⟨A3, d3, rfl⟩ := own_form hown3
    go_wp2_with fail
    go_ret2
    rw [HF.out]
    exact ⟨_, rfl, hown3, hB2⟩
  · have hkc : k < c1 := by omega
    have hsd := hs10.from k
    have HLD : Hid ((x.drop k).length = n1 - k) := by have := HL1.out; unfold Hid; simp; omega
    have i1 : (k : Int) ≤ (c1 : Int) := by omega
    have i2 : (k : Int) ≤ (n1 : Int) := by omega
    have i5 : 0 ≤ (k : Int) := by omega
    go_enter Try.func92, Try.ntmps92
    go_wp2_with fail
    refine (sizeRw_any _ n c _).mono ?_
    rintro e w' ⟨rfl, rfl⟩
    go_wp2_with fail
    refine (within_is i 0 ((n : Int) - 1) true HI.out _).mono ?_
    rintro e w' ⟨rfl, rfl⟩
    go_wp2_with fail
    refine (size_int64_any _ n1 c1 _).mono ?_
    rintro e w' ⟨rfl, rfl⟩
    go_wp2_with fail
    refine (within_is k 0 n1 true HJ.out _).mono ?_
    rintro e w' ⟨rfl, rfl⟩
    go_wp2_with fail
    rw [← HW0.out]
    go_quiet ((go_at_call 158; exact quiet_q (begins_is _ _ _ _ (x.drop k) g0 0 m0 m0 f0 true HST.out _ (by exact hsd) HLD.out (by omega) (by exact s00) HM0.out (by omega) (by omega))))
    have hBq : Below w.heap.size w (w0.drewN nq) := below_drewN B0 nq
    have hs1q := hs10.below' (quiet_below rfl : Below w0.heap.size w0 (w0.drewN nq))
    have s1q := s10.below' (quiet_below rfl : Below w0.heap.size w0 (w0.drewN nq))
    have k0q : (w0.drewN nq).cell? ⟨w.heap.size, 0, none⟩ = some (.slice (some ⟨g0, 0, none⟩) m0 m0) := k0
    have k1q : (w0.drewN nq).cell? ⟨w.heap.size, 1, none⟩ = some (.slice (some ⟨g1, 0, none⟩) m1 m1) := k1
    clear k0 k1 hs10 s00 s10 hsd
    generalize w0.drewN nq = wq at *
    go_wp2_with fail
    refine (replaced_any b1 o1 n1 c1 x k m0 g1 0 m1 m1 f1 _ hs1q HL1.out (by omega) s1q HM1.out (by omega) hkm hc1).mono ?_
    rintro e w1' ⟨v, rfl, hown, hB⟩
    obtain ⟨A, d, rfl⟩ := own_form hown
    have hB2 := below_step hBq hB
    have hown2 := own_base hown hBq.size
    clear hown hB
    go_wp2_with fail
    refine (fitting_any (n1 - m0 + m1) d A (putL x k m0 f1) w.heap.size _ hown2 HPL.out (by omega)).mono ?_
    rintro e w' ⟨⟨v, rfl, hown3⟩, rfl⟩
    obtain ⟨A3, d3, rfl⟩ := own_form hown3
    go_wp2_with fail
    go_ret2
    rw [HF.out]
    exact ⟨_, rfl, hown3, hB2⟩

set_option maxRecDepth 100000 in
set_option maxHeartbeats 1000000 in
theorem specApplyRewrite_any (b off n c : Nat) (es : List ERewrite) (xs : List DRewrite) (b1 o1 n1 c1 : Nat) (x : List Int) (rule at' : Int) (w : World) (hs : Sl w b off (rows ERewrite.vs es)) (hr : RcsRewrite w es) (hd : es.map (·.d) = xs) (hl : xs.length = n) (hn : n ≤ 1048576) (hc : n ≤ c) (ht : sumRewrite xs ≤ 1048576) (wf : ∀ x ∈ xs, x.wf) (hs1 : Sl w b1 o1 (x.map (.int .i64))) (hl1 : x.length = n1) (hn1 : n1 ≤ 1048576) (hc1 : n1 ≤ c1) (wf1 : Wf64s x) (wfr : Wf64 rule) (wfa : Wf64 at') :
    Calls Try.prog 22 #[.slice (some ⟨b, off, none⟩) n c, .slice (some ⟨b1, o1, none⟩) n1 c1, .int .i64 rule, .int .i64 at'] w fun e w' => ∃ v, e = .returned (.tuple #[v, .int .i64 (applyRewrite xs x rule at').2]) ∧
      w'.ownsRow w.heap.size 2 1 v (applyRewrite xs x rule at').1.length ((applyRewrite xs x rule at').1.map (.int .i64)) ∧ Below w.heap.size w w' :=
  (specApplyRewrite_w b off n c es xs b1 o1 n1 c1 x rule at' w hs hr hd hl hn ht hs1 hl1 hn1 hc1 wfr wfa).mono fun _ _ ⟨v, h1, h2, h3, _⟩ => ⟨v, h1, h2, h3⟩

set_option maxRecDepth 100000 in
set_option maxHeartbeats 1000000 in
theorem implApplyRewrite_any (b off n c : Nat) (es : List ERewrite) (xs : List DRewrite) (b1 o1 n1 c1 : Nat) (x : List Int) (rule at' : Int) (w : World) (hs : Sl w b off (rows ERewrite.vs es)) (hr : RcsRewrite w es) (hd : es.map (·.d) = xs) (hl : xs.length = n) (hn : n ≤ 1048576) (hc : n ≤ c) (ht : sumRewrite xs ≤ 1048576) (wf : ∀ x ∈ xs, x.wf) (hs1 : Sl w b1 o1 (x.map (.int .i64))) (hl1 : x.length = n1) (hn1 : n1 ≤ 1048576) (hc1 : n1 ≤ c1) (wf1 : Wf64s x) (wfr : Wf64 rule) (wfa : Wf64 at') :
    Calls Try.prog 25 #[.slice (some ⟨b, off, none⟩) n c, .slice (some ⟨b1, o1, none⟩) n1 c1, .int .i64 rule, .int .i64 at'] w fun e w' => ∃ v, e = .returned (.tuple #[v, .int .i64 (applyRewrite xs x rule at').2]) ∧
      w'.ownsRow w.heap.size 2 1 v (applyRewrite xs x rule at').1.length ((applyRewrite xs x rule at').1.map (.int .i64)) ∧ Below w.heap.size w w' := by
  have HL := Lib.hid hl; have HD := Lib.hid hd; have HT := Lib.hid ht
  have HE : Hid (es.length = n) := by unfold Hid; rw [← hl, ← hd, List.length_map]
  have HL1 := Lib.hid hl1
  clear hl hd ht hl1 wfr wfa wf wf1
  rcases Bool.eq_false_or_eq_true (validRws xs) with h1 | h1
  rotate_left
  · have HV := Lib.hid h1; clear h1
    have HF : Hid (applyRewrite xs x rule at' = ([], 1)) := by unfold Hid applyRewrite; rw [HV.out]; simp
    go_enter Try.func25, Try.ntmps25
    go_wp2_with fail
    refine (implValidRewrites_is b off n c es xs false HV.out _ hs hr HD.out HL.out hn HT.out).mono ?_
    rintro e w1 ⟨rfl, b1⟩
    go_wp2_with fail
    go_ret2
    exact ⟨_, ends2 (by rw [HF.out]), own_nil' HF.out, b1⟩
  have HV := Lib.hid h1; clear h1
  rcases Bool.eq_false_or_eq_true (isWordB x) with h2 | h2
  rotate_left
  · have HW := Lib.hid h2; clear h2
    have HF : Hid (applyRewrite xs x rule at' = ([], 1)) := by unfold Hid applyRewrite; rw [HW.out]; simp
    go_enter Try.func25, Try.ntmps25
    go_wp2_with fail
    refine (implValidRewrites_is b off n c es xs true HV.out _ hs hr HD.out HL.out hn HT.out).mono ?_
    rintro e w1 ⟨rfl, b2⟩
    go_wp2_with fail
    refine (isWord_is b1 o1 n1 c1 x false HW.out _ (hs1.below' b2) HL1.out (by omega)).mono ?_
    rintro e w' ⟨rfl, rfl⟩
    go_wp2_with fail
    go_ret2
    exact ⟨_, ends2 (by rw [HF.out]), own_nil' HF.out, b2⟩
  have HW := Lib.hid h2; clear h2
  have HA : Hid (applyRewrite xs x rule at' = applyAt xs x rule at') := by unfold Hid applyRewrite; rw [HV.out, HW.out]; rfl
  go_enter Try.func25, Try.ntmps25
  go_wp2_with fail
  refine (implValidRewrites_is b off n c es xs true HV.out _ hs hr HD.out HL.out hn HT.out).mono ?_
  rintro e w1 ⟨rfl, b2⟩
  go_wp2_with fail
  refine (isWord_is b1 o1 n1 c1 x true HW.out _ (hs1.below' b2) HL1.out (by omega)).mono ?_
  rintro e w' ⟨rfl, rfl⟩
  go_wp2_with fail
  refine (implApplyAt_any b off n c es xs b1 o1 n1 c1 x rule at' _ (hs.below' b2) (hr.below b2) HD.out HL.out hn HT.out (hs1.below' b2) HL1.out hn1 hc1).mono ?_
  rintro e w2 ⟨v, rfl, hown, hB⟩
  obtain ⟨A, d, rfl⟩ := own_form hown
  go_wp2_with fail
  go_ret2
  rw [HA.out]
  exact ⟨_, rfl, own_base hown b2.size, below_step b2 hB⟩
end Go.Proofs.Yteocnkiagifmfaa
