/- StepMarkov and RunMarkov of the program: the laws' functions. -/
import Derived.Test.YteocnkiagifmfaaMkNext
namespace Go.Proofs.Yteocnkiagifmfaa
open Go.RowKit
set_option linter.all false

theorem putL_le (x y : List Int) (k m : Nat) (h : k + m ≤ x.length) : (putL x k m y).length ≤ x.length + y.length := by rw [putL_length _ _ _ _ h]; omega
/-- What a step of the program answers, beside the reference's. -/
theorem next_cases (xs : List DMarkovRule) (x : List Int) (hv : validMks xs = true) (hx : x.length ≤ 400) : (∃ a, ruleMk x 0 xs = (-1, a) ∧ nextMk xs x = ([], -1)) ∨
    ∃ (i a : Nat) (r : DMarkovRule), xs[i]? = some r ∧ ruleMk x 0 xs = ((i : Int), a) ∧ nextMk xs x = (putL x a r.f0.length r.f1, (i : Int)) ∧ (putL x a r.f0.length r.f1).length ≤ 800 := by
  rcases ruleMk_cases x xs with ⟨h, -⟩ | ⟨i, a, r, hri, hra, h, -⟩
  · exact .inl ⟨0, h, nextMk_none h⟩
  · refine .inr ⟨i, a, r, hri, h, nextMk_some hri h, ?_⟩
    rcases findMk_cases r x with hc | ⟨a', hc, hax, hst⟩
    · rw [hra] at hc; omega
    · rw [hra] at hc
      obtain rfl : a = a' := by omega
      have h1 := putL_le x r.f1 a r.f0.length (starts_le hst)
      have h2 := isWord_len (okMk_parts (okMk_at hv (List.mem_of_getElem? hri))).2
      omega

set_option maxRecDepth 100000 in
set_option maxHeartbeats 1000000 in
theorem implStepMarkov_any (b off n c : Nat) (es : List EMarkovRule) (xs : List DMarkovRule) (bb o1 n1 c1 : Nat) (x : List Int) (w : World) (hs : Sl w b off (rows EMarkovRule.vs es)) (hr : RcsMarkovRule w es) (hd : es.map (·.d) = xs) (hl : xs.length = n) (hn : n ≤ 1048576) (hc : n ≤ c) (ht : sumMarkovRule xs ≤ 1048576) (wf : ∀ x ∈ xs, x.wf) (hs1 : Sl w bb o1 (x.map (.int .i64))) (hl1 : x.length = n1) (hn1 : n1 ≤ 1048576) (hc1 : n1 ≤ c1) (wf1 : Wf64s x) :
    Calls Try.prog 34 #[.slice (some ⟨b, off, none⟩) n c, .slice (some ⟨bb, o1, none⟩) n1 c1] w fun e w' => ∃ v, e = .returned (.tuple #[v, .int .i64 (stepMarkov xs x).2.1, .int .i64 (stepMarkov xs x).2.2]) ∧
      w'.ownsRow w.heap.size 2 1 v (stepMarkov xs x).1.length ((stepMarkov xs x).1.map (.int .i64)) ∧ Below w.heap.size w w' := by
  have HL := Lib.hid hl; have HD := Lib.hid hd; have HT := Lib.hid ht
  have HE : Hid (es.length = n) := by unfold Hid; rw [← hl, ← hd, List.length_map]
  have HL1 := Lib.hid hl1
  clear hl hd ht hl1
  clear wf wf1
  rcases Bool.eq_false_or_eq_true (validMks xs) with h1 | h1
  rotate_left
  · have HV := Lib.hid h1; clear h1
    have HF : Hid (stepMarkov xs x = ([], 0, 1)) := by unfold Hid stepMarkov; rw [HV.out]; simp
    go_enter Try.func34, Try.ntmps34
    go_wp2_with fail
    refine (implValidMarkov_is b off n c es xs false HV.out _ hs hr HD.out HL.out hn HT.out).mono ?_
    rintro e w1 ⟨rfl, b1⟩
    go_wp2_with fail
    go_ret3
    exact ⟨_, ends3 (by rw [HF.out]) (by rw [HF.out]), own_res0 (by rw [HF.out]), b1⟩
  have HV := Lib.hid h1; clear h1
  rcases Bool.eq_false_or_eq_true (isWordB x) with h2 | h2
  rotate_left
  · have HW := Lib.hid h2; clear h2
    have HF : Hid (stepMarkov xs x = ([], 0, 1)) := by unfold Hid stepMarkov; rw [HW.out]; simp
    go_enter Try.func34, Try.ntmps34
    go_wp2_with fail
    refine (implValidMarkov_is b off n c es xs true HV.out _ hs hr HD.out HL.out hn HT.out).mono ?_
    rintro e w1 ⟨rfl, b1⟩
    go_wp2_with fail
    refine (isWord_is bb o1 n1 c1 x false HW.out _ (hs1.below' b1) HL1.out (by omega)).mono ?_
    rintro e w' ⟨rfl, rfl⟩
    go_wp2_with fail
    go_ret3
    exact ⟨_, ends3 (by rw [HF.out]) (by rw [HF.out]), own_res0 (by rw [HF.out]), b1⟩
  have HW := Lib.hid h2; clear h2
  have HA : Hid (stepMarkov xs x = stepMk xs x) := by unfold Hid stepMarkov; rw [HV.out, HW.out]; rfl
  have hw4 := isWord_len HW.out
  have HN := fun W (hW : Below w.heap.size w W) => implNextMk_sl b off n c es xs bb o1 n1 c1 x W (hs.below' hW) (hr.below hW) HD.out HL.out hn HT.out (hs1.below' hW) HL1.out hn1 hc1
  rcases next_cases xs x HV.out hw4 with ⟨a, hru, hnx⟩ | ⟨i, a, r, hri, hru, hnx, hle⟩
  · have HF : Hid (stepMarkov xs x = ([], 0, 6)) := by unfold Hid; rw [HA.out, stepMk_none hru]
    rw [hnx] at HN
    have HN := Lib.hid HN
    clear hru hnx hw4
    go_enter Try.func34, Try.ntmps34
    go_wp2_with fail
    refine (implValidMarkov_is b off n c es xs true HV.out _ hs hr HD.out HL.out hn HT.out).mono ?_
    rintro e w1 ⟨rfl, b1⟩
    go_wp2_with fail
    refine (isWord_is bb o1 n1 c1 x true HW.out _ (hs1.below' b1) HL1.out (by omega)).mono ?_
    rintro e w' ⟨rfl, rfl⟩
    go_wp2_with fail
    refine (HN.out _ b1).mono ?_
    rintro e w2 ⟨v, rfl, own2, b2⟩
    obtain ⟨A2, d2, rfl⟩ := own_form own2
    have B2 := below_step b1 b2
    go_wp2_with fail
    go_ret3
    exact ⟨_, ends3 (by rw [HF.out]) (by rw [HF.out]), own_res0 (by rw [HF.out]), B2⟩
  rw [hnx] at HN
  simp only at HN
  obtain ⟨z, hz⟩ : ∃ z, z = putL x a r.f0.length r.f1 := ⟨_, rfl⟩
  rw [← hz] at HN hle
  obtain ⟨m, hm⟩ : ∃ q, q = z.length := ⟨_, rfl⟩
  rw [← hm] at HN hle
  have HZ := Lib.hid hz; have HM := Lib.hid hm.symm; have HRI := Lib.hid hri; have HRU := Lib.hid hru
  have HN := Lib.hid HN
  clear hz hm hri hru hnx hw4
  by_cases hf : m ≤ 400
  · have HF : Hid (stepMarkov xs x = (z, (i : Int), 0)) := by unfold Hid; rw [HA.out, stepMk_fits HRI.out HRU.out (by rw [← HZ.out, HM.out]; exact hf), ← HZ.out]
    go_enter Try.func34, Try.ntmps34
    go_wp2_with fail
    refine (implValidMarkov_is b off n c es xs true HV.out _ hs hr HD.out HL.out hn HT.out).mono ?_
    rintro e w1 ⟨rfl, b1⟩
    go_wp2_with fail
    refine (isWord_is bb o1 n1 c1 x true HW.out _ (hs1.below' b1) HL1.out (by omega)).mono ?_
    rintro e w' ⟨rfl, rfl⟩
    go_wp2_with fail
    refine (HN.out _ b1).mono ?_
    rintro e w2 ⟨v, rfl, own2, b2⟩
    obtain ⟨A2, d2, rfl⟩ := own_form own2
    have B2 := below_step b1 b2
    have own3 := own_base own2 b1.size
    clear own2
    go_wp2_with fail
    go_ret3
    exact ⟨_, ends3 (by rw [HF.out]) (by rw [HF.out]), own_res (by rw [HF.out]) HM.out own3, B2⟩
  · have HF : Hid (stepMarkov xs x = ([], 0, 5)) := by unfold Hid; rw [HA.out, stepMk_full HRI.out HRU.out (by rw [← HZ.out, HM.out]; omega)]
    go_enter Try.func34, Try.ntmps34
    go_wp2_with fail
    refine (implValidMarkov_is b off n c es xs true HV.out _ hs hr HD.out HL.out hn HT.out).mono ?_
    rintro e w1 ⟨rfl, b1⟩
    go_wp2_with fail
    refine (isWord_is bb o1 n1 c1 x true HW.out _ (hs1.below' b1) HL1.out (by omega)).mono ?_
    rintro e w' ⟨rfl, rfl⟩
    go_wp2_with fail
    refine (HN.out _ b1).mono ?_
    rintro e w2 ⟨v, rfl, own2, b2⟩
    obtain ⟨A2, d2, rfl⟩ := own_form own2
    have B2 := below_step b1 b2
    go_wp2_with fail
    go_ret3
    exact ⟨_, ends3 (by rw [HF.out]) (by rw [HF.out]), own_res0 (by rw [HF.out]), B2⟩

theorem budgetOk_is (n : Int) (v : Bool) (hv : inB n 1 20000 = v) (w : World) : Calls Try.prog 103 #[.int .i64 n] w fun e w' => e = .returned (.bool v) ∧ w = w' := by
  have HV := Lib.hid hv; clear hv
  go_enter Try.func103, Try.ntmps103
  go_wp2_with fail
  refine (within_is n 1 20000 v HV.out _).mono ?_
  rintro e w' ⟨rfl, rfl⟩
  go_wp2_with fail
  go_ret
  exact ⟨rfl, rfl⟩

/-- The program's loop: the word, whether the last rule was made, against the reference's run. -/
def runLast (xs : List DMarkovRule) (f n : Nat) (w : List Int) (last : Bool) : List Int × Int × Bool × Int := if last then (w, (n : Int), true, 0) else runMk xs f n w

set_option maxRecDepth 100000 in
set_option maxHeartbeats 2000000 in
theorem implRunMarkov_any (b off n c : Nat) (es : List EMarkovRule) (xs : List DMarkovRule) (bb o1 n1 c1 : Nat) (x : List Int) (bd : Int) (w : World) (hs : Sl w b off (rows EMarkovRule.vs es)) (hr : RcsMarkovRule w es) (hd : es.map (·.d) = xs) (hl : xs.length = n) (hn : n ≤ 1048576) (hc : n ≤ c) (ht : sumMarkovRule xs ≤ 1048576) (wf : ∀ x ∈ xs, x.wf) (hs1 : Sl w bb o1 (x.map (.int .i64))) (hl1 : x.length = n1) (hn1 : n1 ≤ 1048576) (hc1 : n1 ≤ c1) (wf1 : Wf64s x) (wfb : Wf64 bd) :
    Calls Try.prog 38 #[.slice (some ⟨b, off, none⟩) n c, .slice (some ⟨bb, o1, none⟩) n1 c1, .int .i64 bd] w fun e w' => ∃ v, e = .returned (.tuple #[v, .int .i64 (runMarkov xs x bd).2.1, .bool (runMarkov xs x bd).2.2.1, .int .i64 (runMarkov xs x bd).2.2.2]) ∧
      w'.ownsRow w.heap.size 2 1 v (runMarkov xs x bd).1.length ((runMarkov xs x bd).1.map (.int .i64)) ∧ Below w.heap.size w w' := by
  have HL := Lib.hid hl; have HD := Lib.hid hd; have HT := Lib.hid ht
  have HE : Hid (es.length = n) := by unfold Hid; rw [← hl, ← hd, List.length_map]
  have HL1 := Lib.hid hl1
  clear hl hd ht hl1
  clear wf wf1 wfb
  rcases Bool.eq_false_or_eq_true (validMks xs) with h1 | h1
  rotate_left
  · have HV := Lib.hid h1; clear h1
    have HF : Hid (runMarkov xs x bd = ([], 0, false, 1)) := by unfold Hid runMarkov; rw [HV.out]; simp
    go_enter Try.func38, Try.ntmps38
    go_wp2_with fail
    refine (implValidMarkov_is b off n c es xs false HV.out _ hs hr HD.out HL.out hn HT.out).mono ?_
    rintro e w1 ⟨rfl, b1⟩
    go_wp2_with fail
    ((try simp only [Exit.inBlock, Exit.then]); refine bodyPost_ret (results_tmp4 rfl _ _ _) rfl ?_)
    exact ⟨_, ends4 (by rw [HF.out]) (by rw [HF.out]) (by rw [HF.out]), own_res0 (by rw [HF.out]), b1⟩
  have HV := Lib.hid h1; clear h1
  rcases Bool.eq_false_or_eq_true (isWordB x) with h2 | h2
  rotate_left
  · have HW := Lib.hid h2; clear h2
    have HF : Hid (runMarkov xs x bd = ([], 0, false, 1)) := by unfold Hid runMarkov; rw [HW.out]; simp
    go_enter Try.func38, Try.ntmps38
    go_wp2_with fail
    refine (implValidMarkov_is b off n c es xs true HV.out _ hs hr HD.out HL.out hn HT.out).mono ?_
    rintro e w1 ⟨rfl, b1⟩
    go_wp2_with fail
    refine (isWord_is bb o1 n1 c1 x false HW.out _ (hs1.below' b1) HL1.out (by omega)).mono ?_
    rintro e w' ⟨rfl, rfl⟩
    go_wp2_with fail
    ((try simp only [Exit.inBlock, Exit.then]); refine bodyPost_ret (results_tmp4 rfl _ _ _) rfl ?_)
    exact ⟨_, ends4 (by rw [HF.out]) (by rw [HF.out]) (by rw [HF.out]), own_res0 (by rw [HF.out]), b1⟩
  have HW := Lib.hid h2; clear h2
  have hw4 := isWord_len HW.out
  rw [HL1.out] at hw4
  rcases Bool.eq_false_or_eq_true (inB bd 1 20000) with h3 | h3
  rotate_left
  · have HBD := Lib.hid h3; clear h3
    have HF : Hid (runMarkov xs x bd = ([], 0, false, 2)) := by unfold Hid runMarkov; rw [HV.out, HW.out, HBD.out]; rfl
    go_enter Try.func38, Try.ntmps38
    go_wp2_with fail
    refine (implValidMarkov_is b off n c es xs true HV.out _ hs hr HD.out HL.out hn HT.out).mono ?_
    rintro e w1 ⟨rfl, b1⟩
    go_wp2_with fail
    refine (isWord_is bb o1 n1 c1 x true HW.out _ (hs1.below' b1) HL1.out (by omega)).mono ?_
    rintro e w' ⟨rfl, rfl⟩
    go_wp2_with fail
    refine (budgetOk_is bd false HBD.out _).mono ?_
    rintro e w' ⟨rfl, rfl⟩
    go_wp2_with fail
    ((try simp only [Exit.inBlock, Exit.then]); refine bodyPost_ret (results_tmp4 rfl _ _ _) rfl ?_)
    exact ⟨_, ends4 (by rw [HF.out]) (by rw [HF.out]) (by rw [HF.out]), own_res0 (by rw [HF.out]), b1⟩
  have HBD := Lib.hid h3
  obtain ⟨f, rfl⟩ : ∃ f : Nat, bd = f := ⟨bd.toNat, by have := (inB_iff _ _ _).1 h3; omega⟩
  have hf : f ≤ 20000 := by have := (inB_iff _ _ _).1 h3; omega
  clear h3
  have HA : Hid (runMarkov xs x f = runMk xs f 0 x) := by unfold Hid runMarkov; rw [HV.out, HW.out, HBD.out]; rfl
  go_enter Try.func38, Try.ntmps38
  go_wp2_with fail
  refine (implValidMarkov_is b off n c es xs true HV.out _ hs hr HD.out HL.out hn HT.out).mono ?_
  rintro e w1 ⟨rfl, b1⟩
  go_wp2_with fail
  refine (isWord_is bb o1 n1 c1 x true HW.out _ (hs1.below' b1) HL1.out (by omega)).mono ?_
  rintro e w' ⟨rfl, rfl⟩
  go_wp2_with fail
  refine (budgetOk_is f true HBD.out _).mono ?_
  rintro e w' ⟨rfl, rfl⟩
  go_wp2_with fail
  refine (cloneA_any bb o1 n1 c1 x _ (hs1.below' b1) HL1.out (by omega)).mono ?_
  rintro e w2 ⟨g0, d0, rfl, own0, b2, hd0⟩
  have hB0 := below_step b1 b2
  have hown0 := own_base own0 b1.size
  clear own0
  go_wp2_with fail
  go_loopw [10, 11, 12] (fun vv ll i wr => ∃ (k q m : Nat) (y : List Int) (last : Bool), k + q = f ∧ i = .int .i64 k ∧ ll = .bool last ∧ m ≤ 400 ∧ wr.ownsRow w.heap.size 2 1 vv m (y.map (.int .i64)) ∧ Below w.heap.size w wr ∧ Hid (y.length = m) ∧ Hid (runMk xs f 0 x = runLast xs q k y last)) (fun _ _ i _ => f - (intOf i).toNat)
  case atStart => exact ⟨0, f, n1, x, false, by omega, rfl, rfl, hw4, hown0, hB0, HL1, rfl⟩
  case round =>
    obtain ⟨k, q, m, y, last, hkf, rfl, rfl, hm4, hown, hB, HY, HQ⟩ := hrel
    clear hown0 hB0
    have hsw := hs.below' hB
    have hrw := hr.below hB
    have HNX := implNextMk_any b off n c es xs _ m y wr hsw hrw HD.out HL.out hn HT.out w.heap.size hown (by omega)
    obtain ⟨A, d, rfl⟩ := own_form hown
    cases last
    rotate_left
    · have HF : Hid (runMarkov xs x f = (y, (k : Int), true, 0)) := by unfold Hid; rw [HA.out, HQ.out]; rfl
      rcases next_cases xs y HV.out (by have := HY.out; omega) with ⟨a, hru, hnx⟩ | ⟨i, a, r, hri, hru, hnx, hle⟩
      all_goals
        rw [hnx] at HNX
        have HNX := Lib.hid HNX
        clear hru hnx
        go_wp2_with fail
        refine HNX.out.mono ?_
        rintro e w3 ⟨v, rfl, own3, b3⟩
        obtain ⟨A3, d3, rfl⟩ := own_form own3
        have B3 := below_step hB b3
        have hown3 := own_below' hown b3
        go_wp2_with fail
        ((try simp only [Exit.inBlock, Exit.then]); refine bodyPost_ret (results_tmp4 rfl _ _ _) rfl ?_)
        exact ⟨_, ends4 (by rw [HF.out]) (by rw [HF.out]) (by rw [HF.out]), own_res (by rw [HF.out]) HY.out hown3, B3⟩
    have HQ2 : Hid (runMk xs f 0 x = runMk xs q k y) := HQ.out
    rcases next_cases xs y HV.out (by have := HY.out; omega) with ⟨a, hru, hnx⟩ | ⟨i, a, r, hri, hru, hnx, hle⟩
    · have HF : Hid (runMarkov xs x f = (y, (k : Int), true, 0)) := by unfold Hid; rw [HA.out, HQ2.out, runMk_none hru]
      rw [hnx] at HNX
      have HNX := Lib.hid HNX
      clear hru hnx
      go_wp2_with fail
      refine HNX.out.mono ?_
      rintro e w3 ⟨v, rfl, own3, b3⟩
      obtain ⟨A3, d3, rfl⟩ := own_form own3
      have B3 := below_step hB b3
      have hown3 := own_below' hown b3
      go_wp2_with fail
      ((try simp only [Exit.inBlock, Exit.then]); refine bodyPost_ret (results_tmp4 rfl _ _ _) rfl ?_)
      exact ⟨_, ends4 (by rw [HF.out]) (by rw [HF.out]) (by rw [HF.out]), own_res (by rw [HF.out]) HY.out hown3, B3⟩
    rw [hnx] at HNX
    simp only at HNX
    have hi : i < n := by have := (List.getElem?_eq_some_iff.1 hri).1; have := HL.out; omega
    obtain ⟨e, HX⟩ := hget HE hi
    have HXD : Hid (xs[i]? = some e.d) := by unfold Hid; rw [← HD.out, List.getElem?_map, HX.out]; rfl
    have hwl : wlMarkovRule e.d ≤ 1048576 := Nat.le_trans (sumMarkovRule_at HXD.out) HT.out
    obtain ⟨⟨g0, eu0, s0⟩, ⟨g1, eu1, s1⟩, -⟩ := (hr.below hB).at (List.mem_of_getElem? HX.out)
    have p0 : wr.cell? ⟨b, off + i * 3, none⟩ = some e.u0 := Sl.rec (f := EMarkovRule.vs) (s := 3) (fun _ => rfl) (hs.below' hB) HX.out (j := 0) rfl
    have p1 : wr.cell? ⟨b, off + i * 3 + 1, none⟩ = some e.u1 := Sl.rec (f := EMarkovRule.vs) (s := 3) (fun _ => rfl) (hs.below' hB) HX.out (j := 1) rfl
    have p2 : wr.cell? ⟨b, off + i * 3 + 2, none⟩ = some (.bool e.d.f2) := Sl.rec (f := EMarkovRule.vs) (s := 3) (fun _ => rfl) (hs.below' hB) HX.out (j := 2) rfl
    rw [eu0] at p0
    rw [eu1] at p1
    clear eu0 eu1
    obtain ⟨⟨f0, f1, f2⟩, u0, u1⟩ := e
    dsimp only at p0 p1 p2 s0 s1 hwl HXD
    simp only [wlMarkovRule] at hwl
    obtain ⟨m0, hm0⟩ : ∃ q, q = f0.length := ⟨_, rfl⟩
    obtain ⟨m1, hm1⟩ : ∃ q, q = f1.length := ⟨_, rfl⟩
    rw [← hm0] at p0 hwl
    rw [← hm1] at p1 hwl
    have HM0 := Lib.hid hm0.symm
    have HM1 := Lib.hid hm1.symm
    clear hm0 hm1
    have HEQ : r = ⟨f0, f1, f2⟩ := by have h1 := hri; rw [HXD.out] at h1; injection h1 with h1; exact h1.symm
    subst HEQ
    have p2' : ∀ W, Below wr.heap.size wr W → W.cell? ⟨b, off + i * 3 + 2, none⟩ = some (.bool f2) := fun W hW => (hW.cell (p := ⟨b, off + i * 3 + 2, none⟩) hsw.lt).trans p2
    have P2 := Lib.hid p2'
    clear p0 p1 p2 s0 s1 p2' hsw hrw
    obtain ⟨z, hz⟩ : ∃ z, z = putL y a f0.length f1 := ⟨_, rfl⟩
    have hz2 : z = putL y a (⟨f0, f1, f2⟩ : DMarkovRule).f0.length (⟨f0, f1, f2⟩ : DMarkovRule).f1 := hz
    dsimp only at HNX hle
    rw [← hz] at HNX hle
    obtain ⟨mz, hmz⟩ : ∃ q, q = z.length := ⟨_, rfl⟩
    rw [← hmz] at HNX hle
    have HZ := Lib.hid hz2; have HMZ := Lib.hid hmz.symm; have HRI := Lib.hid hri; have HRU := Lib.hid hru
    have HNX := Lib.hid HNX
    clear hz hz2 hmz hri hru hnx
    cases q with
    | zero =>
      obtain rfl : k = f := by omega
      have HF : Hid (runMarkov xs x k = (y, (k : Int), false, 0)) := by unfold Hid; rw [HA.out, HQ2.out, runMk_stop HRI.out HRU.out]
      go_wp2_with fail
      refine HNX.out.mono ?_
      rintro e w3 ⟨v, rfl, own3, b3⟩
      obtain ⟨A3, d3, rfl⟩ := own_form own3
      have B3 := below_step hB b3
      have hown3 := own_below' hown b3
      go_wp2_with fail
      ((try simp only [Exit.inBlock, Exit.then]); refine bodyPost_ret (results_tmp4 rfl _ _ _) rfl ?_)
      exact ⟨_, ends4 (by rw [HF.out]) (by rw [HF.out]; first | done | exact decide_eq_false (by omega)) (by rw [HF.out]), own_res (by rw [HF.out]) HY.out hown3, B3⟩
    | succ q =>
    have hkb : k < f := by omega
    have hkn : ((k : Int) == (f : Int)) = false := by simp; omega
    have hin : ¬ ((i : Int) < 0) := by omega
    by_cases hf4 : mz ≤ 400
    rotate_left
    · have HF : Hid (runMarkov xs x f = ([], 0, false, 5)) := by unfold Hid; rw [HA.out, HQ2.out, runMk_full HRI.out HRU.out (by rw [← HZ.out, HMZ.out]; omega)]
      go_wp2_with fail
      refine HNX.out.mono ?_
      rintro e w3 ⟨v, rfl, own3, b3⟩
      obtain ⟨A3, d3, rfl⟩ := own_form own3
      have B3 := below_step hB b3
      go_wp2_with fail
      ((try simp only [Exit.inBlock, Exit.then]); refine bodyPost_ret (results_tmp4 rfl _ _ _) rfl ?_)
      exact ⟨_, ends4 (by rw [HF.out]) (by rw [HF.out]) (by rw [HF.out]), own_res0 (by rw [HF.out]), B3⟩
    have HN : Hid (runMk xs f 0 x = runLast xs q (k + 1) z f2) := by
      unfold Hid runLast
      cases f2
      · rw [HQ2.out, runMk_next HRI.out HRU.out (by rw [← HZ.out, HMZ.out]; exact hf4) rfl, ← HZ.out]; rfl
      · rw [HQ2.out, runMk_last HRI.out HRU.out (by rw [← HZ.out, HMZ.out]; exact hf4) rfl, ← HZ.out]; rfl
    go_wp2_with fail
    refine HNX.out.mono ?_
    rintro e w3 ⟨v, rfl, own3, b3⟩
    have own4 := own_base own3 hB.size
    have B3 := below_step hB b3
    obtain ⟨A3, d3, rfl⟩ := own_form own4
    have p2 := P2.out w3 b3
    clear hown own3 b3 hB hs hr hs1
    go_wp2_with fail
    go_quiet (fail)
    go_wp2_with fail
    go_roundw
    case rel => exact ⟨k + 1, q, mz, z, f2, by omega, by go_num, rfl, hf4, own_below' own4 (quiet_below rfl), below_drewN B3 _, HMZ, HN⟩
    case measure => simp [intOf]; omega
end Go.Proofs.Yteocnkiagifmfaa
