/- Recursive functions, the reference's side: l11Fits, l11Whole, l11Is. -/
import Derived.Test.YtfmfpknigafnoaaFSpec1
namespace Go.Proofs.Ytfmfpknigafnoaa
open Go.RowKit
set_option linter.all false

/-- The places of the functions that follow, and what is read there. -/
structure Places (xs : List R3) (n m : Nat) (ps : List Nat) : Prop where
  len : ps.length = m
  lt : ∀ p ∈ ps, p < n
theorem Places.at {xs : List R3} {n m : Nat} {ps : List Nat} (h : Places xs n m ps) (hl : xs.length = n) {j : Nat} (hj : j < m) : ∃ p y, ps[j]? = some p ∧ p < n ∧ xs[p]? = some y ∧ arAt xs p = y.b ∧ (ps.map (arAt xs))[j]? = some y.b := by
  have h1 : ps[j]? = some (ps[j]'(by rw [h.len]; exact hj)) := List.getElem?_eq_getElem _
  have h2 := h.lt _ (List.mem_of_getElem? h1)
  generalize ps[j]'(by rw [h.len]; exact hj) = p at h1 h2
  have h3 : xs[p]? = some (xs[p]'(by rw [hl]; exact h2)) := List.getElem?_eq_getElem _
  generalize xs[p]'(by rw [hl]; exact h2) = y at h3
  have h4 : arAt xs p = y.b := by unfold arAt; rw [h3]
  exact ⟨p, y, h1, h2, h3, h4, by rw [List.getElem?_map, h1]; simp only [Option.map_some]; rw [h4]⟩
theorem rep_at {b c : Int} {k j : Nat} (h1 : 1 ≤ j) (h2 : j < k + 1) : (c :: List.replicate k b)[j]? = some b := by
  obtain ⟨i, rfl⟩ : ∃ i, j = i + 1 := ⟨j - 1, by omega⟩
  rw [List.getElem?_cons_succ, List.getElem?_replicate, if_pos (by omega)]

set_option maxRecDepth 100000 in
set_option maxHeartbeats 2000000 in
theorem l11Fits_is (b off n c k : Nat) (xs : List R3) (x : R3) (hx : xs[k]? = some x) (v : Bool) (hv : fFit xs k = v) (hok : xs.all fOkN = true) (bb : Nat) (hfit : fit fMany (fMany x + bb) (xs.drop (k + 1)) = true) (w : World) (hs : Sl w b off (rows R3.vs xs)) (hl : xs.length = n) (hn : n ≤ 1048576) :
    Calls Try.prog 171 #[.slice (some ⟨b, off, none⟩) n c, .int .i64 k] w fun e w' => e = .returned (.bool v) ∧ Below w.heap.size w w' := by
  have HL := Lib.hid hl; have HX := Lib.hid hx
  have hlt : k < n := by have := (List.getElem?_eq_some_iff.1 hx).1; omega
  have hokx : fOkN x = true := List.all_eq_true.1 hok x (List.mem_of_getElem? hx)
  have hcs := (fOkN_iff x).1 hokx
  obtain ⟨p0, p1, p2⟩ := hs.rec3 HX.out
  obtain ⟨w0, HW0, B0, y0⟩ := al1 w (.cells #[.int .i64 x.a, .int .i64 x.b, .int .i64 x.c] 115)
  have n0 : w0.cell? ⟨w.heap.size, 0, none⟩ = some (.int .i64 x.a) := by rw [cell_of_heap y0]; rfl
  have n1 : w0.cell? ⟨w.heap.size, 1, none⟩ = some (.int .i64 x.b) := by rw [cell_of_heap y0]; rfl
  have n2 : w0.cell? ⟨w.heap.size, 2, none⟩ = some (.int .i64 x.c) := by rw [cell_of_heap y0]; rfl
  have HS0 := Lib.hid (hs.below' B0)
  obtain ⟨hr1, hr2⟩ := rts_poss xs bb (fMany x) (k + 1) hfit
  obtain ⟨ps, hps⟩ : ∃ ps, ps = poss (fMany x) (k + 1) (xs.drop (k + 1)) := ⟨_, rfl⟩
  rw [← hps] at hr1 hr2
  have HPL : Hid (Places xs n (fMany x) ps) := ⟨by rw [hps, poss_len], fun p hp => by rw [← hl]; exact hr2 p hp⟩
  have HV : Hid (decide (ps.map (arAt xs) = fFols x) = v) := by unfold Hid; rw [← hv, fFit, hx]; simp only; rw [hr1]
  have HPA := Lib.hid (l11Parts_any (some ⟨b, off, none⟩) n c k bb k rfl xs x hx hok hfit w0 (Args.of_sl HS0.out (by rw [rows_len R3.vs_len, HL.out])) hn)
  rw [← hps] at HPA
  obtain ⟨m, hm⟩ : ∃ m, m = fMany x := ⟨_, rfl⟩
  have hm5 := fMany_le hokx
  rw [← hm] at HPA HPL hm5
  have HM := Lib.hid hm
  have HB0 := Lib.hid B0
  have hk0 : (0 : Int) ≤ (k : Int) := by omega
  have hkn : (k : Int) < (n : Int) := by omega
  obtain ⟨xa, xb, xc⟩ := x
  simp only at *
  clear hx hv hok hfit hokx hr1 hr2 hps hm y0 hl B0
  have start : ∀ (Q : Ending → World → Prop), True := fun _ => trivial
  clear start
  by_cases a3 : xa = 3
  · subst a3
    obtain ⟨kc, hkc⟩ : ∃ kc : Nat, xc = (kc : Int) := ⟨xc.toNat, by omega⟩
    subst hkc
    have hmk : m = kc + 1 := by rw [HM.out, fMany_3 rfl]; simp only; omega
    have HFO : Hid (fFols ⟨3, xb, (kc : Int)⟩ = (kc : Int) :: List.replicate kc xb) := by unfold Hid; rw [fFols_3 rfl]; simp
    rw [HFO.out] at HV
    obtain ⟨p, y, e1, e2, e3, e4, e5⟩ := HPL.out.at HL.out (j := 0) (by omega)
    have E1 := Lib.hid e1; have E3 := Lib.hid e3; have E5 := Lib.hid e5
    have hp0 : (0 : Int) ≤ (p : Int) := by omega
    have hpn : (p : Int) < (n : Int) := by omega
    clear hcs e1 e3 e4 e5
    by_cases hy : y.b = (kc : Int)
    rotate_left
    · have hyb : (y.b != (kc : Int)) = true := by simpa using hy
      have HVF : Hid (v = false) := by
        unfold Hid; rw [← HV.out, decide_eq_false_iff_not]
        intro h; have := E5.out; rw [h] at this; simp at this; exact hy this.symm
      clear hy
      go_enter Try.func171, Try.ntmps171
      go_wp2_with fail
      rw [← HW0.out]
      refine HPA.out.mono ?_
      rintro e w1 ⟨v1, rfl, own1, b1⟩
      obtain ⟨A1, c1, rfl⟩ := own_form own1
      obtain ⟨g1, rfl, _, _⟩ := own_addr0 own1 (by omega)
      have q0 := cell_step (by exact n0) b1
      have q2 := cell_step (by exact n2) b1
      have r0 := (sl_of_own own1).at (j := 0) (u := .int .i64 (p : Int)) (by rw [List.getElem?_map, E1.out]; rfl)
      obtain ⟨s0, s1, s2⟩ := (HS0.out.below' b1).rec3 E3.out
      have hm0 : (0 : Int) < (m : Int) := by omega
      clear own1
      go_wp2
      go_quiet (fail)
      go_wp2
      go_ret
      exact ⟨ret_bool HVF.out.symm, below_drewN (below_step HB0.out b1) _⟩
    · have hyb : (y.b != (kc : Int)) = false := by simpa using hy
      clear hy
      have HY : Hid ((ps.map (arAt xs))[0]? = some (kc : Int)) := by unfold Hid; rw [E5.out]; have : y.b = (kc : Int) := by simpa using hyb
                                                                     rw [this]
      go_enter Try.func171, Try.ntmps171
      go_wp2_with fail
      rw [← HW0.out]
      refine HPA.out.mono ?_
      rintro e w1 ⟨v1, rfl, own1, b1⟩
      obtain ⟨A1, c1, rfl⟩ := own_form own1
      obtain ⟨g1, rfl, _, _⟩ := own_addr0 own1 (by omega)
      have HSR := Lib.hid (sl_of_own own1)
      have HSX := Lib.hid (HS0.out.below' b1)
      have q0 := cell_step (by exact n0) b1
      have q1 := cell_step (by exact n1) b1
      have q2 := cell_step (by exact n2) b1
      have r0 := HSR.out.at (j := 0) (u := .int .i64 (p : Int)) (by rw [List.getElem?_map, E1.out]; rfl)
      obtain ⟨s0, s1, s2⟩ := HSX.out.rec3 E3.out
      have hm0 : (0 : Int) < (m : Int) := by omega
      have B1 := Lib.hid (below_step HB0.out b1)
      clear own1
      go_wp2
      go_quiet (fail)
      go_wp2
      go_loopw [7] (fun i wr => ∃ j : Nat, 1 ≤ j ∧ j ≤ m ∧ i = .int .i64 j ∧ Below w1.heap.size w1 wr ∧ Hid (∀ t, 1 ≤ t → t < j → (ps.map (arAt xs))[t]? = some xb)) (fun i _ => m - (intOf i).toNat)
      case atStart => exact ⟨1, Nat.le_refl _, by omega, rfl, below_drewN (Below.refl _ _) _, by intro t h1 h2; omega⟩
      case round =>
        obtain ⟨j, hj1, hjm, rfl, hB, HA⟩ := hrel
        clear s0 s1 s2 r0 hyb
        by_cases hjl : j < m
        · obtain ⟨pj, yj, e1, e2j, e3, e4, e5⟩ := HPL.out.at HL.out (j := j) hjl
          have F1 := Lib.hid e1; have F3 := Lib.hid e3; have F5 := Lib.hid e5
          have t1 := cell_step (by exact q1) hB
          have r1 := (HSR.out.below' hB).at (j := j) (u := .int .i64 (pj : Int)) (by rw [List.getElem?_map, F1.out]; rfl)
          rw [Nat.zero_add] at r1
          obtain ⟨u0, u1, u2⟩ := (HSX.out.below' hB).rec3 F3.out
          have hpj0 : (0 : Int) ≤ (pj : Int) := by omega
          have hpjn : (pj : Int) < (n : Int) := by omega
          have hj0 : (0 : Int) ≤ (j : Int) := by omega
          have hjm' : (j : Int) < (m : Int) := by omega
          clear e1 e3 e4 e5 q0 q1 q2
          by_cases hyj : yj.b = xb
          rotate_left
          · have hyb : (yj.b != xb) = true := by simpa using hyj
            have HVF : Hid (v = false) := by
              unfold Hid; rw [← HV.out, decide_eq_false_iff_not]
              intro h; have := F5.out; rw [h, rep_at hj1 (by omega)] at this; injection this with this; exact hyj this.symm
            clear hyj
            go_wp2
            go_quiet (fail)
            go_wp2
            go_ret
            exact ⟨ret_bool HVF.out.symm, by first | exact below_step B1.out (below_drewN hB _) | exact below_drewN (below_step B1.out hB) _⟩
          · have hyb : (yj.b != xb) = false := by simpa using hyj
            have HA2 : Hid (∀ t, 1 ≤ t → t < j + 1 → (ps.map (arAt xs))[t]? = some xb) := by
              intro t h1 h2
              by_cases ht : t = j
              · subst ht; rw [F5.out, hyj]
              · exact HA.out t h1 (by omega)
            clear hyj
            go_wp2
            go_quiet (fail)
            go_wp2
            go_roundw
            case rel => exact ⟨j + 1, by omega, by omega, by go_num, below_drewN hB _, HA2⟩
            case measure => simp [intOf]; omega
        · have HVT : Hid (v = true) := by
            unfold Hid; rw [← HV.out, decide_eq_true_iff]
            apply List.ext_getElem?
            intro t
            by_cases h0 : t = 0
            · subst h0; rw [HY.out]; rfl
            · by_cases ht : t < m
              · rw [HA.out t (by omega) (by omega), rep_at (by omega) (by omega)]
              · rw [List.getElem?_eq_none (by rw [List.length_map, HPL.out.len]; omega), List.getElem?_eq_none (by simp; omega)]
          go_wp2
          go_ret
          exact ⟨ret_bool HVT.out.symm, below_step B1.out hB⟩
  have e3 : (xa == 3) = false := by simpa using a3
  by_cases a4 : xa = 4
  · subst a4
    have hm2 : m = 2 := by rw [HM.out, fMany_4 rfl]
    subst hm2
    have HFO : Hid (fFols ⟨4, xb, xc⟩ = [xb - 1, xb + 1]) := fFols_4 rfl
    rw [HFO.out] at HV
    obtain ⟨p, y, e1, e2, e3', e4, e5⟩ := HPL.out.at HL.out (j := 0) (by omega)
    obtain ⟨p', y', f1, f2, f3, f4, f5⟩ := HPL.out.at HL.out (j := 1) (by omega)
    have E1 := Lib.hid e1; have E3 := Lib.hid e3'; have E5 := Lib.hid e5
    have F1 := Lib.hid f1; have F3 := Lib.hid f3; have F5 := Lib.hid f5
    have hp0 : (0 : Int) ≤ (p : Int) := by omega
    have hpn : (p : Int) < (n : Int) := by omega
    have hp0' : (0 : Int) ≤ (p' : Int) := by omega
    have hpn' : (p' : Int) < (n : Int) := by omega
    have HAS : Hid (ps.map (arAt xs) = [y.b, y'.b]) := by
      unfold Hid
      have hlen := HPL.out.len
      match ps, hlen, E5.out, F5.out with
      | [q1, q2], _, h1, h2 => simp at h1 h2; simp [h1, h2]
    rw [HAS.out] at HV
    have hb1 : 1 ≤ xb := by omega
    have hb3 : xb ≤ 3 := by omega
    have w1' : IntKind.i64.wrap (xb - 1) = xb - 1 := IntWalk.i64_in _ (by omega)
    have w2' : IntKind.i64.wrap (xb + 1) = xb + 1 := IntWalk.i64_in _ (by omega)
    clear hcs e1 e3' e4 e5 f1 f3 f4 f5 a3 e3
    by_cases hy : y.b = xb - 1
    rotate_left
    · have hyb : (y.b == xb - 1) = false := by simpa using hy
      have HVF : Hid (v = false) := by unfold Hid; rw [← HV.out, decide_eq_false_iff_not]; intro h; simp at h; exact hy h.1
      clear hy
      go_enter Try.func171, Try.ntmps171
      go_wp2_with fail
      rw [← HW0.out]
      refine HPA.out.mono ?_
      rintro e w1 ⟨v1, rfl, own1, b1⟩
      obtain ⟨A1, c1, rfl⟩ := own_form own1
      obtain ⟨g1, rfl, _, _⟩ := own_addr0 own1 (by omega)
      have q0 := cell_step (by exact n0) b1
      have q1 := cell_step (by exact n1) b1
      have r0 := (sl_of_own own1).at (j := 0) (u := .int .i64 (p : Int)) (by rw [List.getElem?_map, E1.out]; rfl)
      obtain ⟨s0, s1, s2⟩ := (HS0.out.below' b1).rec3 E3.out
      have r1 := (sl_of_own own1).at (j := 1) (u := .int .i64 (p' : Int)) (by rw [List.getElem?_map, F1.out]; rfl)
      obtain ⟨t0, t1, t2⟩ := (HS0.out.below' b1).rec3 F3.out
      clear own1
      go_wp2
      go_quiet (fail)
      go_wp2
      go_ret
      exact ⟨ret_bool HVF.out.symm, below_drewN (below_step HB0.out b1) _⟩
    · have hyb : (y.b == xb - 1) = true := by simpa using hy
      clear hy
      by_cases hy2 : y'.b = xb + 1
      rotate_left
      · have hyb2 : (y'.b == xb + 1) = false := by simpa using hy2
        have HVF : Hid (v = false) := by unfold Hid; rw [← HV.out, decide_eq_false_iff_not]; intro h; simp at h; exact hy2 h.2
        clear hy2
        go_enter Try.func171, Try.ntmps171
        go_wp2_with fail
        rw [← HW0.out]
        refine HPA.out.mono ?_
        rintro e w1 ⟨v1, rfl, own1, b1⟩
        obtain ⟨A1, c1, rfl⟩ := own_form own1
        obtain ⟨g1, rfl, _, _⟩ := own_addr0 own1 (by omega)
        have q0 := cell_step (by exact n0) b1
        have q1 := cell_step (by exact n1) b1
        have r0 := (sl_of_own own1).at (j := 0) (u := .int .i64 (p : Int)) (by rw [List.getElem?_map, E1.out]; rfl)
        obtain ⟨s0, s1, s2⟩ := (HS0.out.below' b1).rec3 E3.out
        have r1 := (sl_of_own own1).at (j := 1) (u := .int .i64 (p' : Int)) (by rw [List.getElem?_map, F1.out]; rfl)
        obtain ⟨t0, t1, t2⟩ := (HS0.out.below' b1).rec3 F3.out
        clear own1
        go_wp2
        go_quiet (fail)
        go_wp2
        go_ret
        exact ⟨ret_bool HVF.out.symm, below_drewN (below_step HB0.out b1) _⟩
      · have hyb2 : (y'.b == xb + 1) = true := by simpa using hy2
        have HVF : Hid (v = true) := by unfold Hid; rw [← HV.out, decide_eq_true_iff, hy2]; have : y.b = xb - 1 := by simpa using hyb
                                        rw [this]
        clear hy2
        go_enter Try.func171, Try.ntmps171
        go_wp2_with fail
        rw [← HW0.out]
        refine HPA.out.mono ?_
        rintro e w1 ⟨v1, rfl, own1, b1⟩
        obtain ⟨A1, c1, rfl⟩ := own_form own1
        obtain ⟨g1, rfl, _, _⟩ := own_addr0 own1 (by omega)
        have q0 := cell_step (by exact n0) b1
        have q1 := cell_step (by exact n1) b1
        have r0 := (sl_of_own own1).at (j := 0) (u := .int .i64 (p : Int)) (by rw [List.getElem?_map, E1.out]; rfl)
        obtain ⟨s0, s1, s2⟩ := (HS0.out.below' b1).rec3 E3.out
        have r1 := (sl_of_own own1).at (j := 1) (u := .int .i64 (p' : Int)) (by rw [List.getElem?_map, F1.out]; rfl)
        obtain ⟨t0, t1, t2⟩ := (HS0.out.below' b1).rec3 F3.out
        clear own1
        go_wp2
        go_quiet (fail)
        go_wp2
        go_ret
        exact ⟨ret_bool HVF.out.symm, below_drewN (below_step HB0.out b1) _⟩
  have e4 : (xa == 4) = false := by simpa using a4
  by_cases a5 : xa = 5
  · subst a5
    have hm1 : m = 1 := by rw [HM.out, fMany_5 rfl]
    subst hm1
    have HFO : Hid (fFols ⟨5, xb, xc⟩ = [xb + 1]) := fFols_5 rfl
    rw [HFO.out] at HV
    obtain ⟨p, y, e1, e2, e3', e4', e5⟩ := HPL.out.at HL.out (j := 0) (by omega)
    have E1 := Lib.hid e1; have E3 := Lib.hid e3'; have E5 := Lib.hid e5
    have hp0 : (0 : Int) ≤ (p : Int) := by omega
    have hpn : (p : Int) < (n : Int) := by omega
    have HAS : Hid (ps.map (arAt xs) = [y.b]) := by
      unfold Hid
      have hlen := HPL.out.len
      match ps, hlen, E5.out with
      | [q1], _, h1 => simp at h1; simp [h1]
    rw [HAS.out] at HV
    have hb1 : 0 ≤ xb := by omega
    have hb3 : xb ≤ 3 := by omega
    have w2' : IntKind.i64.wrap (xb + 1) = xb + 1 := IntWalk.i64_in _ (by omega)
    clear hcs e1 e3' e4' e5 a3 a4 e3 e4
    by_cases hy : y.b = xb + 1
    · have hyb : (y.b == xb + 1) = true := by simpa using hy
      have HVF : Hid (v = true) := by unfold Hid; rw [← HV.out, decide_eq_true_iff, hy]
      clear hy
      go_enter Try.func171, Try.ntmps171
      go_wp2_with fail
      rw [← HW0.out]
      refine HPA.out.mono ?_
      rintro e w1 ⟨v1, rfl, own1, b1⟩
      obtain ⟨A1, c1, rfl⟩ := own_form own1
      obtain ⟨g1, rfl, _, _⟩ := own_addr0 own1 (by omega)
      have q0 := cell_step (by exact n0) b1
      have q1 := cell_step (by exact n1) b1
      have r0 := (sl_of_own own1).at (j := 0) (u := .int .i64 (p : Int)) (by rw [List.getElem?_map, E1.out]; rfl)
      obtain ⟨s0, s1, s2⟩ := (HS0.out.below' b1).rec3 E3.out
      clear own1
      go_wp2
      go_quiet (fail)
      go_wp2
      go_ret
      exact ⟨ret_bool HVF.out.symm, below_drewN (below_step HB0.out b1) _⟩
    · have hyb : (y.b == xb + 1) = false := by simpa using hy
      have HVF : Hid (v = false) := by unfold Hid; rw [← HV.out, decide_eq_false_iff_not]; intro h; simp at h; exact hy h
      clear hy
      go_enter Try.func171, Try.ntmps171
      go_wp2_with fail
      rw [← HW0.out]
      refine HPA.out.mono ?_
      rintro e w1 ⟨v1, rfl, own1, b1⟩
      obtain ⟨A1, c1, rfl⟩ := own_form own1
      obtain ⟨g1, rfl, _, _⟩ := own_addr0 own1 (by omega)
      have q0 := cell_step (by exact n0) b1
      have q1 := cell_step (by exact n1) b1
      have r0 := (sl_of_own own1).at (j := 0) (u := .int .i64 (p : Int)) (by rw [List.getElem?_map, E1.out]; rfl)
      obtain ⟨s0, s1, s2⟩ := (HS0.out.below' b1).rec3 E3.out
      clear own1
      go_wp2
      go_quiet (fail)
      go_wp2
      go_ret
      exact ⟨ret_bool HVF.out.symm, below_drewN (below_step HB0.out b1) _⟩
  have e5 : (xa == 5) = false := by simpa using a5
  have hm0 : m = 0 := by rw [HM.out]; exact fMany_0 a3 a4 a5
  subst hm0
  have HVT : Hid (v = true) := by
    unfold Hid
    rw [← HV.out, decide_eq_true_iff, fFols_0 a3 a4 a5]
    have hlen := HPL.out.len
    rw [List.eq_nil_of_length_eq_zero hlen]; rfl
  clear hcs a3 a4 a5
  go_enter Try.func171, Try.ntmps171
  go_wp2_with fail
  rw [← HW0.out]
  refine HPA.out.mono ?_
  rintro e w1 ⟨v1, rfl, own1, b1⟩
  obtain ⟨A1, c1, rfl⟩ := own_form own1
  have q0 := cell_step (by exact n0) b1
  go_wp2
  go_ret
  exact ⟨ret_bool HVT.out.symm, below_step HB0.out b1⟩
end Go.Proofs.Ytfmfpknigafnoaa
