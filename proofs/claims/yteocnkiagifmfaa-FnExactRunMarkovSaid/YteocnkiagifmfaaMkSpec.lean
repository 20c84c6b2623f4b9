/- StepMarkov and RunMarkov of the reference. -/
import Derived.Test.YteocnkiagifmfaaRwValid
import Derived.Test.YteocnkiagifmfaaWordsN
namespace Go.Proofs.Yteocnkiagifmfaa
open Go.RowKit
set_option linter.all false

theorem ends3 {v : Value} {a b c d : Int} (h : a = b) (k : c = d) : Ending.returned (.tuple #[v, .int .i64 a, .int .i64 c]) = .returned (.tuple #[v, .int .i64 b, .int .i64 d]) := by rw [h, k]
theorem ret2 {a b c d : Int} (h : a = b) (k : c = d) : Ending.returned (.tuple #[.int .i64 a, .int .i64 c]) = .returned (.tuple #[.int .i64 b, .int .i64 d]) := by rw [h, k]

set_option maxRecDepth 100000 in
set_option maxHeartbeats 1000000 in
theorem l10Rule_any (b off n c : Nat) (es : List EMarkovRule) (xs : List DMarkovRule) (b1 o1 n1 c1 : Nat) (x : List Int) (w : World) (hs : Sl w b off (rows EMarkovRule.vs es)) (hr : RcsMarkovRule w es) (hd : es.map (·.d) = xs) (hl : xs.length = n) (hn : n ≤ 1048576) (ht : sumMarkovRule xs ≤ 1048576) (hs1 : Sl w b1 o1 (x.map (.int .i64))) (hl1 : x.length = n1) (hn1 : n1 ≤ 1048576) (hc1 : n1 ≤ c1) :
    Calls Try.prog 129 #[.slice (some ⟨b, off, none⟩) n c, .slice (some ⟨b1, o1, none⟩) n1 c1] w fun e w' => e = .returned (.tuple #[.int .i64 (ruleMk x 0 xs).1, .int .i64 ((ruleMk x 0 xs).2 : Int)]) ∧ ∃ q, w' = w.drewN q := by
  have HL := Lib.hid hl; have HD := Lib.hid hd; have HT := Lib.hid ht
  have HE : Hid (es.length = n) := by unfold Hid; rw [← hl, ← hd, List.length_map]
  have HL1 := Lib.hid hl1
  clear hl hd ht hl1
  go_enter Try.func129, Try.ntmps129
  go_wp2_with fail
  go_loopw [6] (fun i wr => ∃ k q : Nat, k ≤ n ∧ i = .int .i64 k ∧ wr = w.drewN q ∧ Hid (∀ j r, j < k → xs[j]? = some r → findMk r x = -1)) (fun i _ => n - (intOf i).toNat)
  case atStart => exact ⟨0, 0, Nat.zero_le _, rfl, rfl, by intro j x hj; omega⟩
  case round =>
    obtain ⟨k, q, hk, rfl, rfl, HR⟩ := hrel
    by_cases hlt : k < n
    rotate_left
    · have HF : Hid (ruleMk x 0 xs = (-1, 0)) := by
        unfold Hid; apply ruleMk_none; intro j r hj; exact HR.out j r (by have := (List.getElem?_eq_some_iff.1 hj).1; have := HL.out; omega) hj
      go_wp2_with fail
      go_ret2
      exact ⟨ret2 (by rw [HF.out]) (by rw [HF.out]; rfl), _, rfl⟩
    obtain ⟨e, HX⟩ := hget HE hlt
    have HXD : Hid (xs[k]? = some e.d) := by unfold Hid; rw [← HD.out, List.getElem?_map, HX.out]; rfl
    have hwl : wlMarkovRule e.d ≤ 1048576 := Nat.le_trans (sumMarkovRule_at HXD.out) HT.out
    obtain ⟨⟨g0, eu0, s0⟩, ⟨g1, eu1, s1⟩, -⟩ := hr.at (List.mem_of_getElem? HX.out)
    have p0 : w.cell? ⟨b, off + k * 3, none⟩ = some e.u0 := Sl.rec (f := EMarkovRule.vs) (s := 3) (fun _ => rfl) hs HX.out (j := 0) rfl
    have p1 : w.cell? ⟨b, off + k * 3 + 1, none⟩ = some e.u1 := Sl.rec (f := EMarkovRule.vs) (s := 3) (fun _ => rfl) hs HX.out (j := 1) rfl
    have p2 : w.cell? ⟨b, off + k * 3 + 2, none⟩ = some (.bool e.d.f2) := Sl.rec (f := EMarkovRule.vs) (s := 3) (fun _ => rfl) hs HX.out (j := 2) rfl
    rw [eu0] at p0
    rw [eu1] at p1
    clear eu0 eu1
    obtain ⟨⟨f0, f1, f2⟩, u0, u1⟩ := e
    dsimp only at p0 p1 p2 s0 s1 hwl HXD
    simp only [wlMarkovRule] at hwl
    obtain ⟨m0, hm0⟩ : ∃ q, q = f0.length := ⟨_, rfl⟩
    obtain ⟨m1, hm1⟩ : ∃ q, q = f1.length := ⟨_, rfl⟩
    rw [← hm0] at p0 hwl
    rw [← hm1] at p1 hwl
    have HM0 := Lib.hid hm0.symm
    have HM1 := Lib.hid hm1.symm
    clear hm0 hm1
    have p0q : (w.drewN q).cell? ⟨b, off + k * 3, none⟩ = some (.slice (some ⟨g0, 0, none⟩) m0 m0) := p0
    have s0q : Sl (w.drewN q) g0 0 (f0.map (.int .i64)) := s0
    have hs1q : Sl (w.drewN q) b1 o1 (x.map (.int .i64)) := hs1
    clear p0 p1 p2 s0 s1
    obtain ⟨fi, hfi⟩ : ∃ fi, fi = findMk ⟨f0, f1, f2⟩ x := ⟨_, rfl⟩
    have HFI := Lib.hid hfi.symm
    rcases findMk_cases ⟨f0, f1, f2⟩ x with hc | ⟨a, hc, hax, -⟩
    · have hfi2 : fi = -1 := by rw [hfi]; exact hc
      have HC := Lib.hid hc
      clear hc hfi
      go_wp2_with fail
      refine (l03Find_is b1 o1 n1 c1 x g0 0 m0 m0 f0 fi HFI.out _ (by exact hs1q) HL1.out (by omega) (by exact s0q) HM0.out (by omega) hc1).mono ?_
      rintro e w' ⟨rfl, q2, rfl⟩
      go_wp2_with fail
      go_roundw
      case rel => exact ⟨k + 1, _, by omega, by go_num, (by first | rfl | exact World.drewN_drewN _ _ _), by
        intro j r hj hr2
        by_cases ej : j = k
        · subst ej; rw [HXD.out] at hr2; injection hr2 with hr2; subst hr2; exact HC.out
        · exact HR.out j r (by omega) hr2⟩
      case measure => simp [intOf]; omega
    · have hfi2 : fi = (a : Int) := by rw [hfi]; exact hc
      have HF : Hid (ruleMk x 0 xs = ((k : Int), a)) := by unfold Hid; have := ruleMk_found (k := 0) HR.out HXD.out hc; rwa [Nat.zero_add] at this
      rw [HL1.out] at hax
      clear hc hfi
      subst hfi2
      go_wp2_with fail
      refine (l03Find_is b1 o1 n1 c1 x g0 0 m0 m0 f0 a HFI.out _ (by exact hs1q) HL1.out (by omega) (by exact s0q) HM0.out (by omega) hc1).mono ?_
      rintro e w' ⟨rfl, q2, rfl⟩
      go_wp2_with fail
      go_ret2
      exact ⟨ret2 (by rw [HF.out]) (by rw [HF.out]), by first | exact ⟨_, rfl⟩ | exact ⟨_, World.drewN_drewN _ _ _⟩⟩

set_option maxRecDepth 100000 in
set_option maxHeartbeats 1000000 in
theorem l10Step_any (b off n c : Nat) (es : List EMarkovRule) (xs : List DMarkovRule) (b1 o1 n1 c1 : Nat) (x : List Int) (w : World) (hs : Sl w b off (rows EMarkovRule.vs es)) (hr : RcsMarkovRule w es) (hd : es.map (·.d) = xs) (hl : xs.length = n) (hn : n ≤ 1048576) (ht : sumMarkovRule xs ≤ 1048576) (hs1 : Sl w b1 o1 (x.map (.int .i64))) (hl1 : x.length = n1) (hn1 : n1 ≤ 1048576) (hc1 : n1 ≤ c1) :
    Calls Try.prog 96 #[.slice (some ⟨b, off, none⟩) n c, .slice (some ⟨b1, o1, none⟩) n1 c1] w fun e w' => ∃ v, e = .returned (.tuple #[v, .int .i64 (stepMk xs x).2.1, .int .i64 (stepMk xs x).2.2]) ∧
      w'.ownsRow w.heap.size 2 1 v (stepMk xs x).1.length ((stepMk xs x).1.map (.int .i64)) ∧ Below w.heap.size w w' ∧ ((stepMk xs x).2.2 = 0 → ∃ g d, v = .slice (some ⟨g, 0, none⟩) (stepMk xs x).1.length d ∧ (stepMk xs x).1.length ≤ d) := by
  have HL := Lib.hid hl; have HD := Lib.hid hd; have HT := Lib.hid ht
  have HE : Hid (es.length = n) := by unfold Hid; rw [← hl, ← hd, List.length_map]
  have HL1 := Lib.hid hl1
  clear hl hd ht hl1
  have HRU := Lib.hid (l10Rule_any b off n c es xs b1 o1 n1 c1 x w hs hr HD.out HL.out hn HT.out hs1 HL1.out hn1 hc1)
  rcases ruleMk_cases x xs with ⟨h, -⟩ | ⟨i, a, r, hri, hra, h, -⟩
  · rw [h] at HRU
    have HF : Hid (stepMk xs x = ([], 0, 6)) := stepMk_none h
    clear h
    go_enter Try.func96, Try.ntmps96
    go_wp2_with fail
    refine (HRU.out).mono ?_
    rintro e w' ⟨rfl, q, rfl⟩
    go_wp2_with fail
    go_ret3
    exact ⟨_, ends3 (by rw [HF.out]) (by rw [HF.out]), by rw [HF.out]; exact World.ownsRow_nil _ _ _ _, below_drewN (Below.refl _ _) _, fun h0 => by rw [HF.out] at h0; cases h0⟩
  rw [h] at HRU
  simp only at HRU
  have hi : i < n := by have := (List.getElem?_eq_some_iff.1 hri).1; have := HL.out; omega
  obtain ⟨e, HX⟩ := hget HE hi
  have HXD : Hid (xs[i]? = some e.d) := by unfold Hid; rw [← HD.out, List.getElem?_map, HX.out]; rfl
  have hwl : wlMarkovRule e.d ≤ 1048576 := Nat.le_trans (sumMarkovRule_at HXD.out) HT.out
  obtain ⟨⟨g0, eu0, s0⟩, ⟨g1, eu1, s1⟩, -⟩ := hr.at (List.mem_of_getElem? HX.out)
  have p0 : w.cell? ⟨b, off + i * 3, none⟩ = some e.u0 := Sl.rec (f := EMarkovRule.vs) (s := 3) (fun _ => rfl) hs HX.out (j := 0) rfl
  have p1 : w.cell? ⟨b, off + i * 3 + 1, none⟩ = some e.u1 := Sl.rec (f := EMarkovRule.vs) (s := 3) (fun _ => rfl) hs HX.out (j := 1) rfl
  have p2 : w.cell? ⟨b, off + i * 3 + 2, none⟩ = some (.bool e.d.f2) := Sl.rec (f := EMarkovRule.vs) (s := 3) (fun _ => rfl) hs HX.out (j := 2) rfl
  rw [eu0] at p0
  rw [eu1] at p1
  clear eu0 eu1
  obtain ⟨⟨f0, f1, f2⟩, u0, u1⟩ := e
  dsimp only at p0 p1 p2 s0 s1 hwl HXD
  simp only [wlMarkovRule] at hwl
  obtain ⟨m0, hm0⟩ : ∃ q, q = f0.length := ⟨_, rfl⟩
  obtain ⟨m1, hm1⟩ : ∃ q, q = f1.length := ⟨_, rfl⟩
  rw [← hm0] at p0 hwl
  rw [← hm1] at p1 hwl
  have HM0 := Lib.hid hm0.symm
  have HM1 := Lib.hid hm1.symm
  clear hm0 hm1
  have HEQ : r = ⟨f0, f1, f2⟩ := by have h1 := hri; rw [HXD.out] at h1; injection h1 with h1; exact h1.symm
  subst HEQ
  have hst : startsB x a f0 = true ∧ a ≤ x.length := by
    rcases findMk_cases ⟨f0, f1, f2⟩ x with hc | ⟨a', hc, hax, hst⟩
    · rw [hra] at hc; omega
    · rw [hra] at hc; obtain rfl : a = a' := by omega
      exact ⟨hst, hax⟩
  have hkm := starts_le hst.1
  rw [HL1.out, HM0.out] at hkm
  have hR := Lib.hid hri; have hH := Lib.hid h
  clear hst hri hra h
  have HPL : Hid ((putL x a m0 f1).length = n1 - m0 + m1) := by unfold Hid; rw [putL_length _ _ _ _ (by have := HL1.out; omega), HL1.out, HM1.out]
  have p0q : ∀ q, (w.drewN q).cell? ⟨b, off + i * 3, none⟩ = some (.slice (some ⟨g0, 0, none⟩) m0 m0) := fun q => p0
  have p1q : ∀ q, (w.drewN q).cell? ⟨b, off + i * 3 + 1, none⟩ = some (.slice (some ⟨g1, 0, none⟩) m1 m1) := fun q => p1
  have hw1 : IntKind.i64.wrap ((n1 : Int) - (m0 : Int)) = (n1 : Int) - (m0 : Int) := IntWalk.i64_in _ (by omega)
  have hw2 : IntKind.i64.wrap ((n1 : Int) - (m0 : Int) + (m1 : Int)) = (n1 : Int) - (m0 : Int) + (m1 : Int) := IntWalk.i64_in _ (by omega)
  by_cases hf : n1 - m0 + m1 ≤ 400
  rotate_left
  · have HF : Hid (stepMk xs x = ([], 0, 5)) := stepMk_full hR.out hH.out (by show 400 < (putL x a f0.length f1).length; rw [HM0.out, HPL.out]; omega)
    go_enter Try.func96, Try.ntmps96
    go_wp2_with fail
    refine (HRU.out).mono ?_
    rintro e w' ⟨rfl, q, rfl⟩
    have hBq : Below w.heap.size w (w.drewN q) := below_drewN (Below.refl _ _) q
    replace p0q := p0q q
    replace p1q := p1q q
    clear p0 p1 p2 s0 s1 hs hr hs1 HRU
    generalize w.drewN q = wq at *
    go_wp2_with fail
    go_quiet (fail)
    have hBz := below_drewN hBq nq
    go_wp2_with fail
    go_ret3
    exact ⟨_, ends3 (by rw [HF.out]) (by rw [HF.out]), by rw [HF.out]; exact World.ownsRow_nil _ _ _ _, hBz, fun h0 => by rw [HF.out] at h0; cases h0⟩
  have HF : Hid (stepMk xs x = (putL x a m0 f1, (i : Int), 0)) := by
    have := stepMk_fits hR.out hH.out (by show (putL x a f0.length f1).length ≤ 400; rw [HM0.out, HPL.out]; omega)
    unfold Hid; rw [this]; show (putL x a f0.length f1, _, _) = _; rw [HM0.out]
  go_enter Try.func96, Try.ntmps96
  go_wp2_with fail
  refine (HRU.out).mono ?_
  rintro e w' ⟨rfl, q, rfl⟩
  have hBq : Below w.heap.size w (w.drewN q) := below_drewN (Below.refl _ _) q
  have hs1q := hs1.below' hBq
  have s1q := s1.below' hBq
  replace p0q := p0q q
  replace p1q := p1q q
  clear p0 p1 p2 s0 s1 hs hr hs1 HRU
  generalize w.drewN q = wq at *
  go_wp2_with fail
  go_quiet (fail)
  have hBz := below_drewN hBq nq
  have hs1z : Sl (wq.drewN nq) b1 o1 (x.map (.int .i64)) := hs1q
  have s1z : Sl (wq.drewN nq) g1 0 (f1.map (.int .i64)) := s1q
  have p0z : (wq.drewN nq).cell? ⟨b, off + i * 3, none⟩ = some (.slice (some ⟨g0, 0, none⟩) m0 m0) := p0q
  have p1z : (wq.drewN nq).cell? ⟨b, off + i * 3 + 1, none⟩ = some (.slice (some ⟨g1, 0, none⟩) m1 m1) := p1q
  clear hBq hs1q s1q p0q p1q
  generalize wq.drewN nq = wz at *
  go_wp2_with fail
  go_region_held3 (fun W => W.cell? ⟨b, off + i * 3, none⟩ = some (.slice (some ⟨g0, 0, none⟩) m0 m0) ∧ W.cell? ⟨b, off + i * 3 + 1, none⟩ = some (.slice (some ⟨g1, 0, none⟩) m1 m1)) (first | go_keep | exact ⟨q0, q1⟩)
    ((go_at_call 150; refine (l03PutA_any b1 o1 n1 c1 x a m0 g1 0 m1 m1 f1 _ (by exact hs1z) HL1.out (by omega) (by exact s1z) HM1.out (by omega) hkm hc1).mono ?_; rintro e w3 ⟨g, d, rfl, hown', hB', hd⟩; have hB := below_drew_at hB'; have hown : w3.ownsRow wz.heap.size 2 1 (.slice (some ⟨g, 0, none⟩) (n1 - m0 + m1) d) (n1 - m0 + m1) ((putL x a m0 f1).map (.int .i64)) := hown'; have q0 := cell_step (by exact p0z) hB; have q1 := cell_step (by exact p1z) hB))
  all_goals
    have hB2 := below_step hBz hB
    have hown2 := own_base hown hBz.size
    clear q0 q1 hown hown' hB hB'
    go_wp2_with fail
    go_ret3
    refine ⟨_, ends3 (by rw [HF.out]) (by rw [HF.out]), ?_, hB2, fun _ => ?_⟩
    · rw [HF.out]; simp only; rw [HPL.out]; exact hown2
    · rw [HF.out]; simp only; rw [HPL.out]; exact ⟨g, d, rfl, hd⟩

set_option maxRecDepth 100000 in
set_option maxHeartbeats 1000000 in
theorem specStepMarkov_any (b off n c : Nat) (es : List EMarkovRule) (xs : List DMarkovRule) (b1 o1 n1 c1 : Nat) (x : List Int) (w : World) (hs : Sl w b off (rows EMarkovRule.vs es)) (hr : RcsMarkovRule w es) (hd : es.map (·.d) = xs) (hl : xs.length = n) (hn : n ≤ 1048576) (hc : n ≤ c) (ht : sumMarkovRule xs ≤ 1048576) (wf : ∀ x ∈ xs, x.wf) (hs1 : Sl w b1 o1 (x.map (.int .i64))) (hl1 : x.length = n1) (hn1 : n1 ≤ 1048576) (hc1 : n1 ≤ c1) (wf1 : Wf64s x) :
    Calls Try.prog 32 #[.slice (some ⟨b, off, none⟩) n c, .slice (some ⟨b1, o1, none⟩) n1 c1] w fun e w' => ∃ v, e = .returned (.tuple #[v, .int .i64 (stepMarkov xs x).2.1, .int .i64 (stepMarkov xs x).2.2]) ∧
      w'.ownsRow w.heap.size 2 1 v (stepMarkov xs x).1.length ((stepMarkov xs x).1.map (.int .i64)) ∧ Below w.heap.size w w' := by
  have HL := Lib.hid hl; have HD := Lib.hid hd; have HT := Lib.hid ht
  have HE : Hid (es.length = n) := by unfold Hid; rw [← hl, ← hd, List.length_map]
  have HL1 := Lib.hid hl1
  clear hl hd ht hl1
  clear wf wf1
  rcases Bool.eq_false_or_eq_true (validMks xs) with h1 | h1
  rotate_left
  · have HV := Lib.hid h1; clear h1
    have HF : Hid (stepMarkov xs x = ([], 0, 1)) := by unfold Hid stepMarkov; rw [HV.out]; simp
    go_enter Try.func32, Try.ntmps32
    go_wp2_with fail
    refine (l10Markov_is b off n c es xs false HV.out _ hs hr HD.out HL.out hn HT.out).mono ?_
    rintro e w' ⟨rfl, rfl⟩
    go_wp2_with fail
    go_ret3
    exact ⟨_, ends3 (by rw [HF.out]) (by rw [HF.out]), by rw [HF.out]; exact World.ownsRow_nil _ _ _ _, Below.refl _ _⟩
  have HV := Lib.hid h1; clear h1
  rcases Bool.eq_false_or_eq_true (isWordB x) with h2 | h2
  rotate_left
  · have HW := Lib.hid h2; clear h2
    have HF : Hid (stepMarkov xs x = ([], 0, 1)) := by unfold Hid stepMarkov; rw [HW.out]; simp
    go_enter Try.func32, Try.ntmps32
    go_wp2_with fail
    refine (l10Markov_is b off n c es xs true HV.out _ hs hr HD.out HL.out hn HT.out).mono ?_
    rintro e w' ⟨rfl, rfl⟩
    go_wp2_with fail
    refine (l03Is_is b1 o1 n1 c1 x false HW.out _ hs1 HL1.out (by omega)).mono ?_
    rintro e w' ⟨rfl, rfl⟩
    go_wp2_with fail
    go_ret3
    exact ⟨_, ends3 (by rw [HF.out]) (by rw [HF.out]), by rw [HF.out]; exact World.ownsRow_nil _ _ _ _, Below.refl _ _⟩
  have HW := Lib.hid h2; clear h2
  have HA : Hid (stepMarkov xs x = stepMk xs x) := by unfold Hid stepMarkov; rw [HV.out, HW.out]; rfl
  go_enter Try.func32, Try.ntmps32
  go_wp2_with fail
  refine (l10Markov_is b off n c es xs true HV.out _ hs hr HD.out HL.out hn HT.out).mono ?_
  rintro e w' ⟨rfl, rfl⟩
  go_wp2_with fail
  refine (l03Is_is b1 o1 n1 c1 x true HW.out _ hs1 HL1.out (by omega)).mono ?_
  rintro e w' ⟨rfl, rfl⟩
  go_wp2_with fail
  refine (l10Step_any b off n c es xs b1 o1 n1 c1 x _ hs hr HD.out HL.out hn HT.out hs1 HL1.out hn1 hc1).mono ?_
  rintro e w1 ⟨v, rfl, hown, hB, -⟩
  obtain ⟨A, d, rfl⟩ := own_form hown
  go_wp2_with fail
  go_ret3
  rw [HA.out]
  exact ⟨_, rfl, hown, hB⟩

theorem results_tmp4 {fn : Func} {t u v x : Tmp} (h : fn.results = #[.tmp t, .tmp u, .tmp v, .tmp x]) (tmps : Array Value) (P : Program) (w : World) :
    (results fn tmps).run P w = .ok (.tuple #[tmps.getD t undef, tmps.getD u undef, tmps.getD v undef, tmps.getD x undef]) w := by
  simp [results, h]
theorem ends4 {v : Value} {a b : Int} {c d : Bool} {e f : Int} (h : a = b) (k : c = d) (l : e = f) : Ending.returned (.tuple #[v, .int .i64 a, .bool c, .int .i64 e]) = .returned (.tuple #[v, .int .i64 b, .bool d, .int .i64 f]) := by rw [h, k, l]
theorem own_res {w : World} {B n : Nat} {v : Value} {r : List Int} {xs : List Int} (h : r = xs) (hl : xs.length = n) (ho : w.ownsRow B 2 1 v n (xs.map (.int .i64))) : w.ownsRow B 2 1 v r.length (r.map (.int .i64)) := by
  subst hl; rw [h]; exact ho
theorem own_res0 {w : World} {B : Nat} {r : List Int} (h : r = []) : w.ownsRow B 2 1 (.slice none 0 0) r.length (r.map (.int .i64)) := by rw [h]; exact World.ownsRow_nil _ _ _ _

set_option maxRecDepth 100000 in
set_option maxHeartbeats 2000000 in
theorem l10Run_any (b off n c : Nat) (es : List EMarkovRule) (xs : List DMarkovRule) (b1 o1 n1 c1 : Nat) (x : List Int) (bd : Nat) (w : World) (hs : Sl w b off (rows EMarkovRule.vs es)) (hr : RcsMarkovRule w es) (hd : es.map (·.d) = xs) (hl : xs.length = n) (hn : n ≤ 1048576) (ht : sumMarkovRule xs ≤ 1048576) (hs1 : Sl w b1 o1 (x.map (.int .i64))) (hl1 : x.length = n1) (hn1 : n1 ≤ 1048576) (hc1 : n1 ≤ c1) (hw : n1 ≤ 400) (hbd : bd ≤ 20000) :
    Calls Try.prog 102 #[.slice (some ⟨b, off, none⟩) n c, .slice (some ⟨b1, o1, none⟩) n1 c1, .int .i64 bd] w fun e w' => ∃ v, e = .returned (.tuple #[v, .int .i64 (runMk xs bd 0 x).2.1, .bool (runMk xs bd 0 x).2.2.1, .int .i64 (runMk xs bd 0 x).2.2.2]) ∧
      w'.ownsRow w.heap.size 2 1 v (runMk xs bd 0 x).1.length ((runMk xs bd 0 x).1.map (.int .i64)) ∧ Below w.heap.size w w' := by
  have HL := Lib.hid hl; have HD := Lib.hid hd; have HT := Lib.hid ht
  have HE : Hid (es.length = n) := by unfold Hid; rw [← hl, ← hd, List.length_map]
  have HL1 := Lib.hid hl1
  clear hl hd ht hl1
  go_enter Try.func102, Try.ntmps102
  go_wp2_with fail
  refine (l00OwnA_any b1 o1 n1 c1 x w hs1 HL1.out (by omega)).mono ?_
  rintro e w1 ⟨g0, d0, rfl, hown0, hB0, hd0⟩
  have HBS : Hid (∀ f n x, runMk xs f n x = runMk xs f n x) := fun _ _ _ => rfl
  go_wp2_with fail
  go_loopw [10, 11] (fun vv i wr => ∃ (k f m g d : Nat) (y : List Int), k + f = bd ∧ i = .int .i64 k ∧ vv = .slice (some ⟨g, 0, none⟩) m d ∧ m ≤ d ∧ m ≤ 400 ∧ wr.ownsRow w.heap.size 2 1 (.slice (some ⟨g, 0, none⟩) m d) m (y.map (.int .i64)) ∧ Below w.heap.size w wr ∧ Hid (y.length = m) ∧ Hid (runMk xs bd 0 x = runMk xs f k y)) (fun _ i _ => bd - (intOf i).toNat)
  case atStart => exact ⟨0, bd, n1, g0, d0, x, by omega, rfl, rfl, hd0, hw, hown0, hB0, HL1, rfl⟩
  case round =>
    obtain ⟨k, f, m, g, d, y, hkf, rfl, rfl, hmd, hm4, hown, hB, HY, HQ⟩ := hrel
    clear hown0 hB0
    have hsy := sl_of_own hown
    have hsw := hs.below' hB
    have hrw := hr.below hB
    have HRU := Lib.hid (l10Rule_any b off n c es xs g 0 m d y wr hsw hrw HD.out HL.out hn HT.out hsy HY.out (by omega) hmd)
    rcases ruleMk_cases y xs with ⟨h, -⟩ | ⟨i, a, r, hri, hra, h, -⟩
    · rw [h] at HRU
      have HF : Hid (runMk xs bd 0 x = (y, (k : Int), true, 0)) := by unfold Hid; rw [HQ.out, runMk_none h]
      clear h
      go_wp2_with fail
      refine (HRU.out).mono ?_
      rintro e w' ⟨rfl, q, rfl⟩
      go_wp2_with fail
      ((try simp only [Exit.inBlock, Exit.then]); refine bodyPost_ret (results_tmp4 rfl _ _ _) rfl ?_)
      exact ⟨_, ends4 (by rw [HF.out]) (by rw [HF.out]) (by rw [HF.out]), own_res (by rw [HF.out]) HY.out (own_below' hown (quiet_below rfl)), below_drewN hB _⟩
    rw [h] at HRU
    simp only at HRU
    have hi : i < n := by have := (List.getElem?_eq_some_iff.1 hri).1; have := HL.out; omega
    cases f with
    | zero =>
      obtain rfl : k = bd := by omega
      have HF : Hid (runMk xs k 0 x = (y, (k : Int), false, 0)) := by unfold Hid; rw [HQ.out, runMk_stop hri h]
      clear h
      go_wp2_with fail
      refine (HRU.out).mono ?_
      rintro e w' ⟨rfl, q, rfl⟩
      go_wp2_with fail
      ((try simp only [Exit.inBlock, Exit.then]); refine bodyPost_ret (results_tmp4 rfl _ _ _) rfl ?_)
      exact ⟨_, ends4 (by rw [HF.out]) (by rw [HF.out]) (by rw [HF.out]), own_res (by rw [HF.out]) HY.out (own_below' hown (quiet_below rfl)), below_drewN hB _⟩
    | succ f =>
    have hkb : k < bd := by omega
    have hSTEP := fun (W : World) (hW : Below wr.heap.size wr W) => l10Step_any b off n c es xs g 0 m d y W (hsw.below' hW) (hrw.below hW) HD.out HL.out hn HT.out (hsy.below' hW) HY.out (by omega) hmd
    have HSTEP := Lib.hid hSTEP; clear hSTEP
    obtain ⟨e, HX⟩ := hget HE hi
    have HXD : Hid (xs[i]? = some e.d) := by unfold Hid; rw [← HD.out, List.getElem?_map, HX.out]; rfl
    have hwl : wlMarkovRule e.d ≤ 1048576 := Nat.le_trans (sumMarkovRule_at HXD.out) HT.out
    obtain ⟨⟨g0, eu0, s0⟩, ⟨g1, eu1, s1⟩, -⟩ := (hr.below hB).at (List.mem_of_getElem? HX.out)
    have p0 : wr.cell? ⟨b, off + i * 3, none⟩ = some e.u0 := Sl.rec (f := EMarkovRule.vs) (s := 3) (fun _ => rfl) (hs.below' hB) HX.out (j := 0) rfl
    have p1 : wr.cell? ⟨b, off + i * 3 + 1, none⟩ = some e.u1 := Sl.rec (f := EMarkovRule.vs) (s := 3) (fun _ => rfl) (hs.below' hB) HX.out (j := 1) rfl
    have p2 : wr.cell? ⟨b, off + i * 3 + 2, none⟩ = some (.bool e.d.f2) := Sl.rec (f := EMarkovRule.vs) (s := 3) (fun _ => rfl) (hs.below' hB) HX.out (j := 2) rfl
    rw [eu0] at p0
    rw [eu1] at p1
    clear eu0 eu1
    obtain ⟨⟨f0, f1, f2⟩, u0, u1⟩ := e
    dsimp only at p0 p1 p2 s0 s1 hwl HXD
    simp only [wlMarkovRule] at hwl
    obtain ⟨m0, hm0⟩ : ∃ q, q = f0.length := ⟨_, rfl⟩
    obtain ⟨m1, hm1⟩ : ∃ q, q = f1.length := ⟨_, rfl⟩
    rw [← hm0] at p0 hwl
    rw [← hm1] at p1 hwl
    have HM0 := Lib.hid hm0.symm
    have HM1 := Lib.hid hm1.symm
    clear hm0 hm1
    have HEQ : r = ⟨f0, f1, f2⟩ := by have h1 := hri; rw [HXD.out] at h1; injection h1 with h1; exact h1.symm
    subst HEQ
    clear p0 p1 s0 s1
    by_cases hf : (putL y a f0.length f1).length ≤ 400
    rotate_left
    · have HF : Hid (runMk xs bd 0 x = ([], 0, false, 5)) := by unfold Hid; rw [HQ.out, runMk_full hri h (by show 400 < (putL y a f0.length f1).length; omega)]
      have HS : stepMk xs y = ([], 0, 5) := stepMk_full hri h (by show 400 < (putL y a f0.length f1).length; omega)
      rw [HS] at HSTEP
      clear h HS hf
      go_wp2_with fail
      refine (HRU.out).mono ?_
      rintro e w' ⟨rfl, q, rfl⟩
      have hbq : Below wr.heap.size wr (wr.drewN q) := below_drewN (Below.refl _ _) q
      have hST := HSTEP.out (wr.drewN q) hbq
      have HST := Lib.hid hST; clear hST
      go_wp2_with fail
      refine (HST.out).mono ?_
      rintro e w2 ⟨v, rfl, hown2, hB2, -⟩
      obtain ⟨A2, d2, rfl⟩ := own_form hown2
      have hB3 := below_step (below_step hB hbq) hB2
      go_wp2_with fail
      ((try simp only [Exit.inBlock, Exit.then]); refine bodyPost_ret (results_tmp4 rfl _ _ _) rfl ?_)
      exact ⟨_, ends4 (by rw [HF.out]) (by rw [HF.out]) (by rw [HF.out]), own_res0 (by rw [HF.out]), hB3⟩
    have HS : stepMk xs y = (putL y a f0.length f1, (i : Int), 0) := stepMk_fits hri h hf
    rw [HS] at HSTEP
    simp only at HSTEP
    have HH := Lib.hid h; have HRI := Lib.hid hri
    obtain ⟨z, hz⟩ : ∃ z, z = putL y a f0.length f1 := ⟨_, rfl⟩
    rw [← hz] at HSTEP hf
    have HZ := Lib.hid hz
    obtain ⟨mz, hmz⟩ : ∃ q, q = z.length := ⟨_, rfl⟩
    rw [← hmz] at HSTEP hf
    have HMZ := Lib.hid hmz.symm
    clear h HS hri hra hz hmz
    have p2' : ∀ W, Below wr.heap.size wr W → W.cell? ⟨b, off + i * 3 + 2, none⟩ = some (.bool f2) := fun W hW => (hW.cell (p := ⟨b, off + i * 3 + 2, none⟩) hsw.lt).trans p2
    have P2 := Lib.hid p2'; clear p2' p2
    cases f2
    · have HN : Hid (runMk xs bd 0 x = runMk xs f (k + 1) z) := by unfold Hid; rw [HQ.out, runMk_next HRI.out HH.out (by show (putL y a f0.length f1).length ≤ 400; rw [← HZ.out, HMZ.out]; exact hf) rfl]; show runMk xs f (k + 1) (putL y a f0.length f1) = _; rw [← HZ.out]
      go_wp2_with fail
      refine (HRU.out).mono ?_
      rintro e w' ⟨rfl, q, rfl⟩
      have hbq : Below wr.heap.size wr (wr.drewN q) := below_drewN (Below.refl _ _) q
      have HST := Lib.hid (HSTEP.out (wr.drewN q) hbq)
      go_wp2_with fail
      refine (HST.out).mono ?_
      rintro e w2 ⟨v, rfl, hown2, hB2, hv⟩
      obtain ⟨g2, d2, rfl, hd2⟩ := hv trivial
      have hB3 := below_step (below_step hB hbq) hB2
      have hown3 := own_base hown2 (Nat.le_trans hB.size hbq.size)
      have p2 := P2.out w2 (below_step hbq hB2)
      clear hown2 hB2 hown hsy hsw hrw hs hr hs1 hB
      go_wp2_with fail
      go_roundw
      case rel => exact ⟨k + 1, f, mz, g2, d2, z, by omega, by go_num, rfl, hd2, hf, hown3, hB3, HMZ, HN⟩
      case measure => simp [intOf]; omega
    · have HF : Hid (runMk xs bd 0 x = (z, ((k + 1 : Nat) : Int), true, 0)) := by unfold Hid; rw [HQ.out, runMk_last HRI.out HH.out (by show (putL y a f0.length f1).length ≤ 400; rw [← HZ.out, HMZ.out]; exact hf) rfl]; show (putL y a f0.length f1, _, _, _) = _; rw [← HZ.out]
      go_wp2_with fail
      refine (HRU.out).mono ?_
      rintro e w' ⟨rfl, q, rfl⟩
      have hbq : Below wr.heap.size wr (wr.drewN q) := below_drewN (Below.refl _ _) q
      have HST := Lib.hid (HSTEP.out (wr.drewN q) hbq)
      go_wp2_with fail
      refine (HST.out).mono ?_
      rintro e w2 ⟨v, rfl, hown2, hB2, hv⟩
      obtain ⟨g2, d2, rfl, hd2⟩ := hv trivial
      have hB3 := below_step (below_step hB hbq) hB2
      have hown3 := own_base hown2 (Nat.le_trans hB.size hbq.size)
      have p2 := P2.out w2 (below_step hbq hB2)
      clear hown2 hB2 hown hsy hsw hrw hs hr hs1 hB
      go_wp2_with fail
      ((try simp only [Exit.inBlock, Exit.then]); refine bodyPost_ret (results_tmp4 rfl _ _ _) rfl ?_)
      exact ⟨_, ends4 (by rw [HF.out]; first | rfl | go_num | omega) (by rw [HF.out]) (by rw [HF.out]), own_res (by rw [HF.out]) HMZ.out hown3, hB3⟩

theorem l05Budget_is (n : Int) (v : Bool) (hv : inB n 1 20000 = v) (w : World) : Calls Try.prog 101 #[.int .i64 n] w fun e w' => e = .returned (.bool v) ∧ w = w' := by
  have HV := Lib.hid hv; clear hv
  go_enter Try.func101, Try.ntmps101
  go_wp2_with fail
  refine (l00In_is n 1 20000 v HV.out _).mono ?_
  rintro e w' ⟨rfl, rfl⟩
  go_wp2_with fail
  go_ret
  exact ⟨rfl, rfl⟩

set_option maxRecDepth 100000 in
set_option maxHeartbeats 1000000 in
theorem specRunMarkov_any (b off n c : Nat) (es : List EMarkovRule) (xs : List DMarkovRule) (b1 o1 n1 c1 : Nat) (x : List Int) (bd : Int) (w : World) (hs : Sl w b off (rows EMarkovRule.vs es)) (hr : RcsMarkovRule w es) (hd : es.map (·.d) = xs) (hl : xs.length = n) (hn : n ≤ 1048576) (hc : n ≤ c) (ht : sumMarkovRule xs ≤ 1048576) (wf : ∀ x ∈ xs, x.wf) (hs1 : Sl w b1 o1 (x.map (.int .i64))) (hl1 : x.length = n1) (hn1 : n1 ≤ 1048576) (hc1 : n1 ≤ c1) (wf1 : Wf64s x) (wfb : Wf64 bd) :
    Calls Try.prog 37 #[.slice (some ⟨b, off, none⟩) n c, .slice (some ⟨b1, o1, none⟩) n1 c1, .int .i64 bd] w fun e w' => ∃ v, e = .returned (.tuple #[v, .int .i64 (runMarkov xs x bd).2.1, .bool (runMarkov xs x bd).2.2.1, .int .i64 (runMarkov xs x bd).2.2.2]) ∧
      w'.ownsRow w.heap.size 2 1 v (runMarkov xs x bd).1.length ((runMarkov xs x bd).1.map (.int .i64)) ∧ Below w.heap.size w w' := by
  have HL := Lib.hid hl; have HD := Lib.hid hd; have HT := Lib.hid ht
  have HE : Hid (es.length = n) := by unfold Hid; rw [← hl, ← hd, List.length_map]
  have HL1 := Lib.hid hl1
  clear hl hd ht hl1
  clear wf wf1 wfb
  rcases Bool.eq_false_or_eq_true (validMks xs) with h1 | h1
  rotate_left
  · have HV := Lib.hid h1; clear h1
    have HF : Hid (runMarkov xs x bd = ([], 0, false, 1)) := by unfold Hid runMarkov; rw [HV.out]; simp
    go_enter Try.func37, Try.ntmps37
    go_wp2_with fail
    refine (l10Markov_is b off n c es xs false HV.out _ hs hr HD.out HL.out hn HT.out).mono ?_
    rintro e w' ⟨rfl, rfl⟩
    go_wp2_with fail
    ((try simp only [Exit.inBlock, Exit.then]); refine bodyPost_ret (results_tmp4 rfl _ _ _) rfl ?_)
    exact ⟨_, ends4 (by rw [HF.out]) (by rw [HF.out]) (by rw [HF.out]), own_res0 (by rw [HF.out]), Below.refl _ _⟩
  have HV := Lib.hid h1; clear h1
  rcases Bool.eq_false_or_eq_true (isWordB x) with h2 | h2
  rotate_left
  · have HW := Lib.hid h2; clear h2
    have HF : Hid (runMarkov xs x bd = ([], 0, false, 1)) := by unfold Hid runMarkov; rw [HW.out]; simp
    go_enter Try.func37, Try.ntmps37
    go_wp2_with fail
    refine (l10Markov_is b off n c es xs true HV.out _ hs hr HD.out HL.out hn HT.out).mono ?_
    rintro e w' ⟨rfl, rfl⟩
    go_wp2_with fail
    refine (l03Is_is b1 o1 n1 c1 x false HW.out _ hs1 HL1.out (by omega)).mono ?_
    rintro e w' ⟨rfl, rfl⟩
    go_wp2_with fail
    ((try simp only [Exit.inBlock, Exit.then]); refine bodyPost_ret (results_tmp4 rfl _ _ _) rfl ?_)
    exact ⟨_, ends4 (by rw [HF.out]) (by rw [HF.out]) (by rw [HF.out]), own_res0 (by rw [HF.out]), Below.refl _ _⟩
  have HW := Lib.hid h2; clear h2
  have hw4 := isWord_len HW.out
  rw [HL1.out] at hw4
  rcases Bool.eq_false_or_eq_true (inB bd 1 20000) with h3 | h3
  rotate_left
  · have HBD := Lib.hid h3; clear h3
    have HF : Hid (runMarkov xs x bd = ([], 0, false, 2)) := by unfold Hid runMarkov; rw [HV.out, HW.out, HBD.out]; rfl
    go_enter Try.func37, Try.ntmps37
    go_wp2_with fail
    refine (l10Markov_is b off n c es xs true HV.out _ hs hr HD.out HL.out hn HT.out).mono ?_
    rintro e w' ⟨rfl, rfl⟩
    go_wp2_with fail
    refine (l03Is_is b1 o1 n1 c1 x true HW.out _ hs1 HL1.out (by omega)).mono ?_
    rintro e w' ⟨rfl, rfl⟩
    go_wp2_with fail
    refine (l05Budget_is bd false HBD.out _).mono ?_
    rintro e w' ⟨rfl, rfl⟩
    go_wp2_with fail
    ((try simp only [Exit.inBlock, Exit.then]); refine bodyPost_ret (results_tmp4 rfl _ _ _) rfl ?_)
    exact ⟨_, ends4 (by rw [HF.out]) (by rw [HF.out]) (by rw [HF.out]), own_res0 (by rw [HF.out]), Below.refl _ _⟩
  have HBD := Lib.hid h3
  obtain ⟨f, rfl⟩ : ∃ f : Nat, bd = f := ⟨bd.toNat, by have := (inB_iff _ _ _).1 h3; omega⟩
  have hf : f ≤ 20000 := by have := (inB_iff _ _ _).1 h3; omega
  clear h3
  have HA : Hid (runMarkov xs x f = runMk xs f 0 x) := by unfold Hid runMarkov; rw [HV.out, HW.out, HBD.out]; rfl
  go_enter Try.func37, Try.ntmps37
  go_wp2_with fail
  refine (l10Markov_is b off n c es xs true HV.out _ hs hr HD.out HL.out hn HT.out).mono ?_
  rintro e w' ⟨rfl, rfl⟩
  go_wp2_with fail
  refine (l03Is_is b1 o1 n1 c1 x true HW.out _ hs1 HL1.out (by omega)).mono ?_
  rintro e w' ⟨rfl, rfl⟩
  go_wp2_with fail
  refine (l05Budget_is f true HBD.out _).mono ?_
  rintro e w' ⟨rfl, rfl⟩
  go_wp2_with fail
  refine (l10Run_any b off n c es xs b1 o1 n1 c1 x f _ hs hr HD.out HL.out hn HT.out hs1 HL1.out hn1 hc1 hw4 hf).mono ?_
  rintro e w1 ⟨v, rfl, hown, hB⟩
  obtain ⟨A, d, rfl⟩ := own_form hown
  go_wp2_with fail
  ((try simp only [Exit.inBlock, Exit.then]); refine bodyPost_ret (results_tmp4 rfl _ _ _) rfl ?_)
  rw [HA.out]
  exact ⟨_, rfl, hown, hB⟩
end Go.Proofs.Yteocnkiagifmfaa
