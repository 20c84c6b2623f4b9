/- The law FnExactFuncToLam returns true for every input, and each argument reads afterwards as before: the proof, part 6. No conditions. -/
import Derived.Test.YtkiaclajjlidoaaGreatDoorFuncToLamZe
import Derived.Deep.RegionLaw
import Derived.Test.YtkiaclajjlidoaaGreatDoorBitsLay
/- Recursive functions, the reference's side: l11Fits, l11Whole, l11Is. -/
namespace Go.Proofs.YtkiaclajjlidoaaGreatDoor
open Go.RowKit
set_option linter.all false

/-- The places of the functions that follow, and what is read there. -/
structure Places (xs : List R3) (n m : Nat) (ps : List Nat) : Prop where
  len : ps.length = m
  lt : ∀ p ∈ ps, p < n
theorem Places.at {xs : List R3} {n m : Nat} {ps : List Nat} (h : Places xs n m ps) (hl : xs.length = n) {j : Nat} (hj : j < m) : ∃ p y, ps[j]? = some p ∧ p < n ∧ xs[p]? = some y ∧ arAt xs p = y.b ∧ (ps.map (arAt xs))[j]? = some y.b := by
  have h1 : ps[j]? = some (ps[j]'(by rw [h.len]; exact hj)) := List.getElem?_eq_getElem _
  have h2 := h.lt _ (List.mem_of_getElem? h1)
  generalize ps[j]'(by rw [h.len]; exact hj) = p at h1 h2
  have h3 : xs[p]? = some (xs[p]'(by rw [hl]; exact h2)) := List.getElem?_eq_getElem _
  generalize xs[p]'(by rw [hl]; exact h2) = y at h3
  have h4 : arAt xs p = y.b := by unfold arAt; rw [h3]
  exact ⟨p, y, h1, h2, h3, h4, by rw [List.getElem?_map, h1]; simp only [Option.map_some]; rw [h4]⟩
theorem rep_at {b c : Int} {k j : Nat} (h1 : 1 ≤ j) (h2 : j < k + 1) : (c :: List.replicate k b)[j]? = some b := by
  obtain ⟨i, rfl⟩ : ∃ i, j = i + 1 := ⟨j - 1, by omega⟩
  rw [List.getElem?_cons_succ, List.getElem?_replicate, if_pos (by omega)]

set_option maxRecDepth 100000 in
set_option maxHeartbeats 2000000 in
theorem l11Fits_is (b off n c k : Nat) (xs : List R3) (x : R3) (hx : xs[k]? = some x) (v : Bool) (hv : fFit xs k = v) (hok : xs.all fOkN = true) (bb : Nat) (hfit : fit fMany (fMany x + bb) (xs.drop (k + 1)) = true) (w : World) (hs : Sl w b off (rows R3.vs xs)) (hl : xs.length = n) (hn : n ≤ 1048576) :
    Calls Tryz.prog 75 #[.slice (some ⟨b, off, none⟩) n c, .int .i64 k] w fun e w' => e = .returned (.bool v) ∧ Below w.heap.size w w' := by
  have HL := Lib.hid hl; have HX := Lib.hid hx
  have hlt : k < n := by have := (List.getElem?_eq_some_iff.1 hx).1; omega
  have hokx : fOkN x = true := List.all_eq_true.1 hok x (List.mem_of_getElem? hx)
  have hcs := (fOkN_iff x).1 hokx
  obtain ⟨p0, p1, p2⟩ := hs.rec3 HX.out
  obtain ⟨w0, HW0, B0, y0⟩ := al1 w (.cells #[.int .i64 x.a, .int .i64 x.b, .int .i64 x.c] 60)
  have n0 : w0.cell? ⟨w.heap.size, 0, none⟩ = some (.int .i64 x.a) := by rw [cell_of_heap y0]; rfl
  have n1 : w0.cell? ⟨w.heap.size, 1, none⟩ = some (.int .i64 x.b) := by rw [cell_of_heap y0]; rfl
  have n2 : w0.cell? ⟨w.heap.size, 2, none⟩ = some (.int .i64 x.c) := by rw [cell_of_heap y0]; rfl
  have HS0 := Lib.hid (hs.below' B0)
  obtain ⟨hr1, hr2⟩ := rts_poss xs bb (fMany x) (k + 1) hfit
  obtain ⟨ps, hps⟩ : ∃ ps, ps = poss (fMany x) (k + 1) (xs.drop (k + 1)) := ⟨_, rfl⟩
  rw [← hps] at hr1 hr2
  have HPL : Hid (Places xs n (fMany x) ps) := ⟨by rw [hps, poss_len], fun p hp => by rw [← hl]; exact hr2 p hp⟩
  have HV : Hid (decide (ps.map (arAt xs) = fFols x) = v) := by unfold Hid; rw [← hv, fFit, hx]; simp only; rw [hr1]
  have HPA := Lib.hid (l11Parts_any (some ⟨b, off, none⟩) n c k bb k rfl xs x hx hok hfit w0 (Args.of_sl HS0.out (by rw [rows_len R3.vs_len, HL.out])) hn)
  rw [← hps] at HPA
  obtain ⟨m, hm⟩ : ∃ m, m = fMany x := ⟨_, rfl⟩
  have hm5 := fMany_le hokx
  rw [← hm] at HPA HPL hm5
  have HM := Lib.hid hm
  have HB0 := Lib.hid B0
  have hk0 : (0 : Int) ≤ (k : Int) := by omega
  have hkn : (k : Int) < (n : Int) := by omega
  obtain ⟨xa, xb, xc⟩ := x
  simp only at *
  clear hx hv hok hfit hokx hr1 hr2 hps hm y0 hl B0
  have start : ∀ (Q : Ending → World → Prop), True := fun _ => trivial
  clear start
  by_cases a3 : xa = 3
  · subst a3
    obtain ⟨kc, hkc⟩ : ∃ kc : Nat, xc = (kc : Int) := ⟨xc.toNat, by omega⟩
    subst hkc
    have hmk : m = kc + 1 := by rw [HM.out, fMany_3 rfl]; simp only; omega
    have HFO : Hid (fFols ⟨3, xb, (kc : Int)⟩ = (kc : Int) :: List.replicate kc xb) := by unfold Hid; rw [fFols_3 rfl]; simp
    rw [HFO.out] at HV
    obtain ⟨p, y, e1, e2, e3, e4, e5⟩ := HPL.out.at HL.out (j := 0) (by omega)
    have E1 := Lib.hid e1; have E3 := Lib.hid e3; have E5 := Lib.hid e5
    have hp0 : (0 : Int) ≤ (p : Int) := by omega
    have hpn : (p : Int) < (n : Int) := by omega
    clear hcs e1 e3 e4 e5
    by_cases hy : y.b = (kc : Int)
    rotate_left
    · have hyb : (y.b != (kc : Int)) = true := by simpa using hy
      have HVF : Hid (v = false) := by
        unfold Hid; rw [← HV.out, decide_eq_false_iff_not]
        intro h; have := E5.out; rw [h] at this; simp at this; exact hy this.symm
      clear hy
      go_enter Tryz.func75, Tryz.ntmps75
      go_wp2_with fail
      rw [← HW0.out]
      refine HPA.out.mono ?_
      rintro e w1 ⟨v1, rfl, own1, b1⟩
      obtain ⟨A1, c1, rfl⟩ := own_form own1
      obtain ⟨g1, rfl, _, _⟩ := own_addr0 own1 (by omega)
      have q0 := cell_step (by exact n0) b1
      have q2 := cell_step (by exact n2) b1
      have r0 := (sl_of_own own1).at (j := 0) (u := .int .i64 (p : Int)) (by rw [List.getElem?_map, E1.out]; rfl)
      obtain ⟨s0, s1, s2⟩ := (HS0.out.below' b1).rec3 E3.out
      have hm0 : (0 : Int) < (m : Int) := by omega
      clear own1
      go_wp2
      go_quiet (fail)
      go_wp2
      go_ret
      exact ⟨ret_bool HVF.out.symm, below_drewN (below_step HB0.out b1) _⟩
    · have hyb : (y.b != (kc : Int)) = false := by simpa using hy
      clear hy
      have HY : Hid ((ps.map (arAt xs))[0]? = some (kc : Int)) := by unfold Hid; rw [E5.out]; have : y.b = (kc : Int) := by simpa using hyb
                                                                     rw [this]
      go_enter Tryz.func75, Tryz.ntmps75
      go_wp2_with fail
      rw [← HW0.out]
      refine HPA.out.mono ?_
      rintro e w1 ⟨v1, rfl, own1, b1⟩
      obtain ⟨A1, c1, rfl⟩ := own_form own1
      obtain ⟨g1, rfl, _, _⟩ := own_addr0 own1 (by omega)
      have HSR := Lib.hid (sl_of_own own1)
      have HSX := Lib.hid (HS0.out.below' b1)
      have q0 := cell_step (by exact n0) b1
      have q1 := cell_step (by exact n1) b1
      have q2 := cell_step (by exact n2) b1
      have r0 := HSR.out.at (j := 0) (u := .int .i64 (p : Int)) (by rw [List.getElem?_map, E1.out]; rfl)
      obtain ⟨s0, s1, s2⟩ := HSX.out.rec3 E3.out
      have hm0 : (0 : Int) < (m : Int) := by omega
      have B1 := Lib.hid (below_step HB0.out b1)
      clear own1
      go_wp2
      go_quiet (fail)
      go_wp2
      go_loopw [7] (fun i wr => ∃ j : Nat, 1 ≤ j ∧ j ≤ m ∧ i = .int .i64 j ∧ Below w1.heap.size w1 wr ∧ Hid (∀ t, 1 ≤ t → t < j → (ps.map (arAt xs))[t]? = some xb)) (fun i _ => m - (intOf i).toNat)
      case atStart => exact ⟨1, Nat.le_refl _, by omega, rfl, below_drewN (Below.refl _ _) _, by intro t h1 h2; omega⟩
      case round =>
        obtain ⟨j, hj1, hjm, rfl, hB, HA⟩ := hrel
        clear s0 s1 s2 r0 hyb
        by_cases hjl : j < m
        · obtain ⟨pj, yj, e1, e2j, e3, e4, e5⟩ := HPL.out.at HL.out (j := j) hjl
          have F1 := Lib.hid e1; have F3 := Lib.hid e3; have F5 := Lib.hid e5
          have t1 := cell_step (by exact q1) hB
          have r1 := (HSR.out.below' hB).at (j := j) (u := .int .i64 (pj : Int)) (by rw [List.getElem?_map, F1.out]; rfl)
          rw [Nat.zero_add] at r1
          obtain ⟨u0, u1, u2⟩ := (HSX.out.below' hB).rec3 F3.out
          have hpj0 : (0 : Int) ≤ (pj : Int) := by omega
          have hpjn : (pj : Int) < (n : Int) := by omega
          have hj0 : (0 : Int) ≤ (j : Int) := by omega
          have hjm' : (j : Int) < (m : Int) := by omega
          clear e1 e3 e4 e5 q0 q1 q2
          by_cases hyj : yj.b = xb
          rotate_left
          · have hyb : (yj.b != xb) = true := by simpa using hyj
            have HVF : Hid (v = false) := by
              unfold Hid; rw [← HV.out, decide_eq_false_iff_not]
              intro h; have := F5.out; rw [h, rep_at hj1 (by omega)] at this; injection this with this; exact hyj this.symm
            clear hyj
            go_wp2
            go_quiet (fail)
            go_wp2
            go_ret
            exact ⟨ret_bool HVF.out.symm, by first | exact below_step B1.out (below_drewN hB _) | exact below_drewN (below_step B1.out hB) _⟩
          · have hyb : (yj.b != xb) = false := by simpa using hyj
            have HA2 : Hid (∀ t, 1 ≤ t → t < j + 1 → (ps.map (arAt xs))[t]? = some xb) := by
              intro t h1 h2
              by_cases ht : t = j
              · subst ht; rw [F5.out, hyj]
              · exact HA.out t h1 (by omega)
            clear hyj
            go_wp2
            go_quiet (fail)
            go_wp2
            go_roundw
            case rel => exact ⟨j + 1, by omega, by omega, by go_num, below_drewN hB _, HA2⟩
            case measure => simp [intOf]; omega
        · have HVT : Hid (v = true) := by
            unfold Hid; rw [← HV.out, decide_eq_true_iff]
            apply List.ext_getElem?
            intro t
            by_cases h0 : t = 0
            · subst h0; rw [HY.out]; rfl
            · by_cases ht : t < m
              · rw [HA.out t (by omega) (by omega), rep_at (by omega) (by omega)]
              · rw [List.getElem?_eq_none (by rw [List.length_map, HPL.out.len]; omega), List.getElem?_eq_none (by simp; omega)]
          go_wp2
          go_ret
          exact ⟨ret_bool HVT.out.symm, below_step B1.out hB⟩
  have e3 : (xa == 3) = false := by simpa using a3
  by_cases a4 : xa = 4
  · subst a4
    have hm2 : m = 2 := by rw [HM.out, fMany_4 rfl]
    subst hm2
    have HFO : Hid (fFols ⟨4, xb, xc⟩ = [xb - 1, xb + 1]) := fFols_4 rfl
    rw [HFO.out] at HV
    obtain ⟨p, y, e1, e2, e3', e4, e5⟩ := HPL.out.at HL.out (j := 0) (by omega)
    obtain ⟨p', y', f1, f2, f3, f4, f5⟩ := HPL.out.at HL.out (j := 1) (by omega)
    have E1 := Lib.hid e1; have E3 := Lib.hid e3'; have E5 := Lib.hid e5
    have F1 := Lib.hid f1; have F3 := Lib.hid f3; have F5 := Lib.hid f5
    have hp0 : (0 : Int) ≤ (p : Int) := by omega
    have hpn : (p : Int) < (n : Int) := by omega
    have hp0' : (0 : Int) ≤ (p' : Int) := by omega
    have hpn' : (p' : Int) < (n : Int) := by omega
    have HAS : Hid (ps.map (arAt xs) = [y.b, y'.b]) := by
      unfold Hid
      have hlen := HPL.out.len
      match ps, hlen, E5.out, F5.out with
      | [q1, q2], _, h1, h2 => simp at h1 h2; simp [h1, h2]
    rw [HAS.out] at HV
    have hb1 : 1 ≤ xb := by omega
    have hb3 : xb ≤ 3 := by omega
    have w1' : IntKind.i64.wrap (xb - 1) = xb - 1 := IntWalk.i64_in _ (by omega)
    have w2' : IntKind.i64.wrap (xb + 1) = xb + 1 := IntWalk.i64_in _ (by omega)
    clear hcs e1 e3' e4 e5 f1 f3 f4 f5 a3 e3
    by_cases hy : y.b = xb - 1
    rotate_left
    · have hyb : (y.b == xb - 1) = false := by simpa using hy
      have HVF : Hid (v = false) := by unfold Hid; rw [← HV.out, decide_eq_false_iff_not]; intro h; simp at h; exact hy h.1
      clear hy
      go_enter Tryz.func75, Tryz.ntmps75
      go_wp2_with fail
      rw [← HW0.out]
      refine HPA.out.mono ?_
      rintro e w1 ⟨v1, rfl, own1, b1⟩
      obtain ⟨A1, c1, rfl⟩ := own_form own1
      obtain ⟨g1, rfl, _, _⟩ := own_addr0 own1 (by omega)
      have q0 := cell_step (by exact n0) b1
      have q1 := cell_step (by exact n1) b1
      have r0 := (sl_of_own own1).at (j := 0) (u := .int .i64 (p : Int)) (by rw [List.getElem?_map, E1.out]; rfl)
      obtain ⟨s0, s1, s2⟩ := (HS0.out.below' b1).rec3 E3.out
      have r1 := (sl_of_own own1).at (j := 1) (u := .int .i64 (p' : Int)) (by rw [List.getElem?_map, F1.out]; rfl)
      obtain ⟨t0, t1, t2⟩ := (HS0.out.below' b1).rec3 F3.out
      clear own1
      go_wp2
      go_quiet (fail)
      go_wp2
      go_ret
      exact ⟨ret_bool HVF.out.symm, below_drewN (below_step HB0.out b1) _⟩
    · have hyb : (y.b == xb - 1) = true := by simpa using hy
      clear hy
      by_cases hy2 : y'.b = xb + 1
      rotate_left
      · have hyb2 : (y'.b == xb + 1) = false := by simpa using hy2
        have HVF : Hid (v = false) := by unfold Hid; rw [← HV.out, decide_eq_false_iff_not]; intro h; simp at h; exact hy2 h.2
        clear hy2
        go_enter Tryz.func75, Tryz.ntmps75
        go_wp2_with fail
        rw [← HW0.out]
        refine HPA.out.mono ?_
        rintro e w1 ⟨v1, rfl, own1, b1⟩
        obtain ⟨A1, c1, rfl⟩ := own_form own1
        obtain ⟨g1, rfl, _, _⟩ := own_addr0 own1 (by omega)
        have q0 := cell_step (by exact n0) b1
        have q1 := cell_step (by exact n1) b1
        have r0 := (sl_of_own own1).at (j := 0) (u := .int .i64 (p : Int)) (by rw [List.getElem?_map, E1.out]; rfl)
        obtain ⟨s0, s1, s2⟩ := (HS0.out.below' b1).rec3 E3.out
        have r1 := (sl_of_own own1).at (j := 1) (u := .int .i64 (p' : Int)) (by rw [List.getElem?_map, F1.out]; rfl)
        obtain ⟨t0, t1, t2⟩ := (HS0.out.below' b1).rec3 F3.out
        clear own1
        go_wp2
        go_quiet (fail)
        go_wp2
        go_ret
        exact ⟨ret_bool HVF.out.symm, below_drewN (below_step HB0.out b1) _⟩
      · have hyb2 : (y'.b == xb + 1) = true := by simpa using hy2
        have HVF : Hid (v = true) := by unfold Hid; rw [← HV.out, decide_eq_true_iff, hy2]; have : y.b = xb - 1 := by simpa using hyb
                                        rw [this]
        clear hy2
        go_enter Tryz.func75, Tryz.ntmps75
        go_wp2_with fail
        rw [← HW0.out]
        refine HPA.out.mono ?_
        rintro e w1 ⟨v1, rfl, own1, b1⟩
        obtain ⟨A1, c1, rfl⟩ := own_form own1
        obtain ⟨g1, rfl, _, _⟩ := own_addr0 own1 (by omega)
        have q0 := cell_step (by exact n0) b1
        have q1 := cell_step (by exact n1) b1
        have r0 := (sl_of_own own1).at (j := 0) (u := .int .i64 (p : Int)) (by rw [List.getElem?_map, E1.out]; rfl)
        obtain ⟨s0, s1, s2⟩ := (HS0.out.below' b1).rec3 E3.out
        have r1 := (sl_of_own own1).at (j := 1) (u := .int .i64 (p' : Int)) (by rw [List.getElem?_map, F1.out]; rfl)
        obtain ⟨t0, t1, t2⟩ := (HS0.out.below' b1).rec3 F3.out
        clear own1
        go_wp2
        go_quiet (fail)
        go_wp2
        go_ret
        exact ⟨ret_bool HVF.out.symm, below_drewN (below_step HB0.out b1) _⟩
  have e4 : (xa == 4) = false := by simpa using a4
  by_cases a5 : xa = 5
  · subst a5
    have hm1 : m = 1 := by rw [HM.out, fMany_5 rfl]
    subst hm1
    have HFO : Hid (fFols ⟨5, xb, xc⟩ = [xb + 1]) := fFols_5 rfl
    rw [HFO.out] at HV
    obtain ⟨p, y, e1, e2, e3', e4', e5⟩ := HPL.out.at HL.out (j := 0) (by omega)
    have E1 := Lib.hid e1; have E3 := Lib.hid e3'; have E5 := Lib.hid e5
    have hp0 : (0 : Int) ≤ (p : Int) := by omega
    have hpn : (p : Int) < (n : Int) := by omega
    have HAS : Hid (ps.map (arAt xs) = [y.b]) := by
      unfold Hid
      have hlen := HPL.out.len
      match ps, hlen, E5.out with
      | [q1], _, h1 => simp at h1; simp [h1]
    rw [HAS.out] at HV
    have hb1 : 0 ≤ xb := by omega
    have hb3 : xb ≤ 3 := by omega
    have w2' : IntKind.i64.wrap (xb + 1) = xb + 1 := IntWalk.i64_in _ (by omega)
    clear hcs e1 e3' e4' e5 a3 a4 e3 e4
    by_cases hy : y.b = xb + 1
    · have hyb : (y.b == xb + 1) = true := by simpa using hy
      have HVF : Hid (v = true) := by unfold Hid; rw [← HV.out, decide_eq_true_iff, hy]
      clear hy
      go_enter Tryz.func75, Tryz.ntmps75
      go_wp2_with fail
      rw [← HW0.out]
      refine HPA.out.mono ?_
      rintro e w1 ⟨v1, rfl, own1, b1⟩
      obtain ⟨A1, c1, rfl⟩ := own_form own1
      obtain ⟨g1, rfl, _, _⟩ := own_addr0 own1 (by omega)
      have q0 := cell_step (by exact n0) b1
      have q1 := cell_step (by exact n1) b1
      have r0 := (sl_of_own own1).at (j := 0) (u := .int .i64 (p : Int)) (by rw [List.getElem?_map, E1.out]; rfl)
      obtain ⟨s0, s1, s2⟩ := (HS0.out.below' b1).rec3 E3.out
      clear own1
      go_wp2
      go_quiet (fail)
      go_wp2
      go_ret
      exact ⟨ret_bool HVF.out.symm, below_drewN (below_step HB0.out b1) _⟩
    · have hyb : (y.b == xb + 1) = false := by simpa using hy
      have HVF : Hid (v = false) := by unfold Hid; rw [← HV.out, decide_eq_false_iff_not]; intro h; simp at h; exact hy h
      clear hy
      go_enter Tryz.func75, Tryz.ntmps75
      go_wp2_with fail
      rw [← HW0.out]
      refine HPA.out.mono ?_
      rintro e w1 ⟨v1, rfl, own1, b1⟩
      obtain ⟨A1, c1, rfl⟩ := own_form own1
      obtain ⟨g1, rfl, _, _⟩ := own_addr0 own1 (by omega)
      have q0 := cell_step (by exact n0) b1
      have q1 := cell_step (by exact n1) b1
      have r0 := (sl_of_own own1).at (j := 0) (u := .int .i64 (p : Int)) (by rw [List.getElem?_map, E1.out]; rfl)
      obtain ⟨s0, s1, s2⟩ := (HS0.out.below' b1).rec3 E3.out
      clear own1
      go_wp2
      go_quiet (fail)
      go_wp2
      go_ret
      exact ⟨ret_bool HVF.out.symm, below_drewN (below_step HB0.out b1) _⟩
  have e5 : (xa == 5) = false := by simpa using a5
  have hm0 : m = 0 := by rw [HM.out]; exact fMany_0 a3 a4 a5
  subst hm0
  have HVT : Hid (v = true) := by
    unfold Hid
    rw [← HV.out, decide_eq_true_iff, fFols_0 a3 a4 a5]
    have hlen := HPL.out.len
    rw [List.eq_nil_of_length_eq_zero hlen]; rfl
  clear hcs a3 a4 a5
  go_enter Tryz.func75, Tryz.ntmps75
  go_wp2_with fail
  rw [← HW0.out]
  refine HPA.out.mono ?_
  rintro e w1 ⟨v1, rfl, own1, b1⟩
  obtain ⟨A1, c1, rfl⟩ := own_form own1
  have q0 := cell_step (by exact n0) b1
  go_wp2
  go_ret
  exact ⟨ret_bool HVT.out.symm, below_step HB0.out b1⟩
end Go.Proofs.YtkiaclajjlidoaaGreatDoor

/- Recursive functions, the reference's side: l11Whole, l11Is. -/
namespace Go.Proofs.YtkiaclajjlidoaaGreatDoor
open Go.RowKit
set_option linter.all false

theorem fit_suffix {α : Type} {fol : α → Nat} : ∀ {l : List α} {op k : Nat}, fit fol op l = true → k ≤ l.length → ∃ op', fit fol op' (l.drop k) = true
  | l, op, 0, h, _ => ⟨op, by simpa using h⟩
  | [], op, k + 1, h, hk => by simp at hk
  | x :: l, 0, k + 1, h, _ => by rw [fit_0c] at h; cases h
  | x :: l, op + 1, k + 1, h, hk => by rw [fit_sc] at h; rw [List.drop_succ_cons]; exact fit_suffix h (by simpa using hk)
theorem fit_next {α : Type} {fol : α → Nat} {l : List α} {op k : Nat} {x : α} (h : fit fol op l = true) (hx : l[k]? = some x) : ∃ b, fit fol (fol x + b) (l.drop (k + 1)) = true := by
  obtain ⟨op', h1⟩ := fit_suffix h (Nat.le_of_lt (List.getElem?_eq_some_iff.1 hx).1)
  rw [drop_at hx] at h1
  cases op' with
  | zero => rw [fit_0c] at h1; cases h1
  | succ op' => rw [fit_sc] at h1; exact ⟨op', by rw [Nat.add_comm]; exact h1⟩
theorem end_flat {xs : List R3} {n : Nat} (hl : xs.length = n) (h1 : fit fMany 1 xs = true) (h2 : xs.all fOkN = true) {en : Int} {ok : Bool} (h : EndOk xs 0 en ok) : ok = true ∧ en = n := by
  have hp : tPosAt fMany 1 0 xs = (n : Int) := by have := fit_iff fMany xs 1 0; rw [h1, decide_eq_true_iff] at this; rw [this, hl, Nat.zero_add]
  unfold EndOk at h
  rw [List.drop_zero] at h
  rcases h with ⟨rfl, q, rfl, hq, _⟩ | ⟨rfl, hno⟩
  · exact ⟨rfl, by rw [hp] at hq; exact hq.symm⟩
  · have := hno n (by rw [hp, Nat.zero_add])
    rw [List.take_of_length_le (by rw [hl]; exact Nat.le_refl _), h2] at this; cases this
theorem end_not {xs : List R3} {n : Nat} (hl : xs.length = n) (h0 : ¬ (fit fMany 1 xs = true ∧ xs.all fOkN = true)) {en : Int} (h : EndOk xs 0 en true) : en ≠ n := by
  rintro rfl
  unfold EndOk at h
  rw [List.drop_zero] at h
  rcases h with ⟨_, q, e, hq, ha⟩ | ⟨h, _⟩
  · rw [Nat.zero_add] at e hq
    have : q = n := by omega
    subst this
    refine h0 ⟨?_, ?_⟩
    · rw [← fit_iff fMany xs 1 0, decide_eq_true_iff, hq, hl, Nat.zero_add]
    · rw [List.take_of_length_le (by rw [hl]; exact Nat.le_refl _)] at ha; exact ha
  · cases h

set_option maxRecDepth 100000 in
set_option maxHeartbeats 1000000 in
theorem l11Whole_is (A : Option Addr) (n c : Nat) (xs : List R3) (v : Bool) (hv : validF xs = v) (w : World) (ha : Args 3 w A n (rows R3.vs xs)) (hn : n ≤ 60) :
    Calls Tryz.prog 48 #[.slice A n c] w fun e w' => e = .returned (.bool v) ∧ Below w.heap.size w w' := by
  have HL : Hid (xs.length = n) := by have := ha.1; rw [rows_len R3.vs_len] at this; unfold Hid; omega
  by_cases hn0 : n = 0
  · have HV : Hid (false = v) := by
      unfold Hid; rw [← hv]; symm; rw [Bool.eq_false_iff]; intro h
      have := (validF_iff xs).1 h
      have := fit_ne fMany xs 0 this.2.1
      have := HL.out
      omega
    have e0 : ((n : Int) == 0) = true := by simp [hn0]
    clear hv hn0
    go_enter Tryz.func48, Tryz.ntmps48
    go_wp2
    go_ret
    exact ⟨ret_bool HV.out, Below.refl _ _⟩
  have e0 : ((n : Int) == 0) = false := by simp; omega
  have HE := Lib.hid (l11End_any A n c 0 0 rfl xs w ha (by omega) (Nat.zero_le _))
  by_cases hflat : fit fMany 1 xs = true ∧ xs.all fOkN = true
  rotate_left
  · have HV : Hid (false = v) := by
      unfold Hid; rw [← hv]; symm; rw [Bool.eq_false_iff]; intro h
      have := (validF_iff xs).1 h
      exact hflat ⟨this.2.1, this.2.2.1⟩
    have HFL := Lib.hid hflat
    clear hv hflat hn0
    go_enter Tryz.func48, Tryz.ntmps48
    go_wp2_with fail
    refine HE.out.mono ?_
    rintro e w1 ⟨⟨en, ok, rfl, hen⟩, b1⟩
    cases ok with
    | false =>
      clear hen
      go_wp2
      go_ret
      exact ⟨ret_bool HV.out, b1⟩
    | true =>
      have e1 : (en != (n : Int)) = true := by simpa using end_not HL.out HFL.out hen
      clear hen
      go_wp2
      go_ret
      exact ⟨ret_bool HV.out, b1⟩
  have HFIT := Lib.hid hflat.1
  have HOK := Lib.hid hflat.2
  have HVI := Lib.hid (validF_iff xs)
  have HV := Lib.hid hv
  clear hv hflat
  go_enter Tryz.func48, Tryz.ntmps48
  go_wp2_with fail
  refine HE.out.mono ?_
  rintro e w1 ⟨⟨en, ok, rfl, hen⟩, b1⟩
  obtain ⟨rfl, rfl⟩ := end_flat HL.out HFIT.out HOK.out hen
  have e1 : ((n : Int) != (n : Int)) = false := by simp
  clear hen
  go_wp2
  go_loopw [5] (fun i wr => ∃ k : Nat, k ≤ n ∧ i = .int .i64 k ∧ Below w.heap.size w wr ∧ Hid (∀ j, j < k → fFit xs j = true)) (fun i _ => n - (intOf i).toNat)
  case atStart => exact ⟨0, Nat.zero_le _, rfl, b1, by intro j hj; omega⟩
  case round =>
    obtain ⟨k, hk, rfl, hB, HA⟩ := hrel
    by_cases hlt : k < n
    · obtain ⟨b, off, rfl, hs⟩ := ha.sl hlt
      obtain ⟨x, HX⟩ := hget HL hlt
      obtain ⟨bb, hbb⟩ := fit_next HFIT.out HX.out
      have HBB := Lib.hid hbb
      clear hbb
      rcases Bool.eq_false_or_eq_true (fFit xs k) with hf | hf
      · have HA2 : Hid (∀ j, j < k + 1 → fFit xs j = true) := by
          intro j hj
          by_cases ej : j = k
          · subst ej; exact hf
          · exact HA.out j (by omega)
        have HF := Lib.hid hf
        clear hf
        go_wp2_with fail
        refine (l11Fits_is b off n c k xs x HX.out true HF.out HOK.out bb HBB.out _ (hs.below' hB) HL.out (by omega)).mono ?_
        rintro e w2 ⟨rfl, b2⟩
        go_wp2
        go_roundw
        case rel => exact ⟨k + 1, by omega, by go_num, below_step hB b2, HA2⟩
        case measure => simp [intOf]; omega
      · have HVF : Hid (false = v) := by
          unfold Hid; rw [← HV.out]; symm; rw [Bool.eq_false_iff]; intro h
          have := (HVI.out.1 h).2.2.2 k (by have := HL.out; omega)
          rw [hf] at this; cases this
        have HF := Lib.hid hf
        clear hf
        go_wp2_with fail
        refine (l11Fits_is b off n c k xs x HX.out false HF.out HOK.out bb HBB.out _ (hs.below' hB) HL.out (by omega)).mono ?_
        rintro e w2 ⟨rfl, b2⟩
        go_wp2
        go_ret
        exact ⟨ret_bool HVF.out, below_step hB b2⟩
    · have HVT : Hid (true = v) := by
        unfold Hid; rw [← HV.out]; symm
        have := HL.out
        exact HVI.out.2 ⟨by omega, HFIT.out, HOK.out, fun j hj => HA.out j (by omega)⟩
      go_wp2
      go_ret
      exact ⟨ret_bool HVT.out, hB⟩

theorem l11Is_is (A : Option Addr) (n c : Nat) (xs : List R3) (v : Bool) (hv : validF xs = v) (w : World) (ha : Args 3 w A n (rows R3.vs xs)) (hn : n ≤ 1048576) :
    Calls Tryz.prog 32 #[.slice A n c] w fun e w' => e = .returned (.bool v) ∧ Below w.heap.size w w' := by
  have HL : Hid (xs.length = n) := by have := ha.1; rw [rows_len R3.vs_len] at this; unfold Hid; omega
  by_cases h60 : n ≤ 60
  rotate_left
  · have HV : Hid (false = v) := by
      unfold Hid; rw [← hv]; symm; rw [Bool.eq_false_iff]; intro h
      have := (validF_iff xs).1 h
      have := HL.out
      omega
    clear hv
    go_enter Tryz.func32, Tryz.ntmps32
    go_wp2
    go_ret
    exact ⟨ret_bool HV.out, Below.refl _ _⟩
  have HV := Lib.hid hv
  clear hv
  go_enter Tryz.func32, Tryz.ntmps32
  go_wp2_with fail
  refine (l11Whole_is A n c xs v HV.out _ ha h60).mono ?_
  rintro e w1 ⟨rfl, b1⟩
  go_wp2
  go_ret
  exact ⟨rfl, b1⟩
end Go.Proofs.YtkiaclajjlidoaaGreatDoor

/- Loop programs of recursive functions, the reference's side: words, the kinds 0, 1, 2. -/
namespace Go.Proofs.YtkiaclajjlidoaaGreatDoor
open Go.RowKit
set_option linter.all false

def part3 (T : List R3) (k m : Nat) : List R3 := (T.drop k).take m
theorem part3_cons {T : List R3} {k m : Nat} {x : R3} (hx : T[k]? = some x) : part3 T k (m + 1) = x :: part3 T (k + 1) m := by unfold part3; rw [drop_at hx, List.take_succ_cons]
theorem part3_take {T : List R3} {k m q : Nat} (h : q ≤ m) : (part3 T k m).take q = part3 T k q := by unfold part3; rw [List.take_take, Nat.min_eq_left h]
theorem part3_drop {T : List R3} {k m q : Nat} : (part3 T k m).drop q = part3 T (k + q) (m - q) := by unfold part3; rw [List.drop_take, List.drop_drop]
theorem part3_len {T : List R3} {k m : Nat} (h : k + m ≤ T.length) : (part3 T k m).length = m := by unfold part3; rw [List.length_take, List.length_drop]; omega
theorem tPosAt_ext {α : Type} (fol : α → Nat) (l : List α) : ∀ a k q m : Nat, tPosAt fol a k (l.take m) = ((k + q : Nat) : Int) → tPosAt fol a k l = ((k + q : Nat) : Int) := by
  induction l with
  | nil => intro a k q m h; rw [List.take_nil] at h; exact h
  | cons x l ih =>
    intro a k q m h
    cases a with
    | zero => rw [tPosAt_zero] at h ⊢; exact h
    | succ a =>
      cases m with
      | zero => rw [List.take_zero, tPosAt_none] at h; omega
      | succ m =>
        rw [List.take_succ_cons, tPosAt_succ] at h
        rw [tPosAt_succ]
        have hq : 1 ≤ q := by
          rcases tPosAt_shift fol (l.take m) (a + fol x) (k + 1) 0 with ⟨h1, _⟩ | ⟨q', h1, _⟩
          · rw [h1] at h; omega
          · rw [h1] at h; omega
        obtain ⟨q', rfl⟩ : ∃ q', q = q' + 1 := ⟨q - 1, by omega⟩
        rw [ih _ (k + 1) q' m (by rw [h]; congr 1; omega)]
        congr 1; omega
theorem poss_cut (T : List R3) : ∀ (st : List Int) (k m : Nat), k + m ≤ T.length → fRun st (part3 T k m) = some [] → ∀ (i : Nat), i < st.length → ∃ p len, (poss st.length k (T.drop k))[i]? = some p ∧ (cut st.length (part3 T k m))[i]? = some (part3 T p len) ∧ p + len ≤ k + m ∧ k ≤ p := by
  intro st
  induction st with
  | nil => intro k m _ _ i hi; simp at hi
  | cons a st ih =>
    intro k m hk h i hi
    obtain ⟨h1, h2, h3, h4, h5, h6⟩ := fRun_one h
    rw [part3_len hk] at h1
    have he : (tPosAt fMany 1 0 (T.drop k)).toNat = endL (part3 T k m) := by
      have := tPosAt_ext fMany (T.drop k) 1 0 (endL (part3 T k m)) m (by rw [Nat.zero_add]; exact h3)
      rw [this, Nat.zero_add]; simp
    rw [List.length_cons, poss, cut, he, List.drop_drop]
    rw [part3_drop] at h6
    cases i with
    | zero => exact ⟨k, endL (part3 T k m), rfl, by rw [List.getElem?_cons_zero, part3_take h1], by omega, Nat.le_refl _⟩
    | succ i =>
      rw [List.getElem?_cons_succ, List.getElem?_cons_succ, part3_drop]
      obtain ⟨p, len, g1, g2, g3, g4⟩ := ih (k + endL (part3 T k m)) (m - endL (part3 T k m)) (by omega) h6 i (by simpa using hi)
      exact ⟨p, len, g1, g2, by omega, by omega⟩

/-- Behind l11Parts: the box of the node, the places of the parts. -/
structure FSt (w0 : World) (bx g : Nat) (x : R3) (ps : List Nat) (w1 : World) : Prop where
  c0 : w1.cell? ⟨bx, 0, none⟩ = some (.int .i64 x.a)
  c1 : w1.cell? ⟨bx, 1, none⟩ = some (.int .i64 x.b)
  c2 : w1.cell? ⟨bx, 2, none⟩ = some (.int .i64 x.c)
  row : Sl w1 g 0 (ps.map fun p : Nat => Value.int .i64 p)
theorem FSt.below {w0 w1 w2 : World} {bx g : Nat} {x : R3} {ps : List Nat} (h : FSt w0 bx g x ps w1) (hb : Below w1.heap.size w1 w2) : FSt w0 bx g x ps w2 :=
  ⟨cell_step h.c0 hb, cell_step h.c1 hb, cell_step h.c2 hb, h.row.below' hb⟩
theorem FSt.at {w0 w1 : World} {bx g : Nat} {x : R3} {ps : List Nat} (h : FSt w0 bx g x ps w1) {j p : Nat} (hp : ps[j]? = some p) : w1.cell? ⟨g, j, none⟩ = some (.int .i64 (p : Int)) := by
  have := h.row.at (j := j) (u := .int .i64 (p : Int)) (by rw [List.getElem?_map, hp]; rfl)
  rw [Nat.zero_add] at this; exact this
end Go.Proofs.YtkiaclajjlidoaaGreatDoor

/- Loop programs of recursive functions, the reference's side: the kind 4. -/
namespace Go.Proofs.YtkiaclajjlidoaaGreatDoor
open Go.RowKit
set_option linter.all false

theorem sl_tail {w : World} {ba offa o' : Nat} {xs : List Int} {na : Nat} (h : Sl w ba offa (xs.map (Value.int .i64))) (hl : xs.length = na) (ho : na - 1 = 0 ∨ o' = offa + 1 * 1) : Sl w ba o' ((xs.drop 1).map (Value.int .i64)) := by
  refine ⟨h.1, fun j u hu => ?_⟩
  have hj : j < na - 1 := by have := (List.getElem?_eq_some_iff.1 hu).1; rw [List.length_map, List.length_drop, hl] at this; exact this
  have ho2 : o' = offa + 1 := by rcases ho with h0 | h0 <;> omega
  subst ho2
  have := h.at (j := j + 1) (u := u) (by rw [List.getElem?_map] at hu ⊢; rw [List.getElem?_drop] at hu; rw [← hu, Nat.add_comm])
  rw [show offa + 1 + j = offa + (j + 1) by omega]
  exact this
theorem own_capL {w : World} {base : Nat} {e : TypeId} {size n : Nat} {v : Value} {xs : List Value} (h : w.ownsRow base e size v n xs) : ∀ A c, v = .slice A n c → n ≤ c := by
  intro A c hv
  rcases h.2 with ⟨h0, h1⟩ | ⟨g, cap, cur, h0, _, _, h1, _⟩
  · omega
  · rw [h0] at hv; injection hv with _ _ h3; omega
theorem own_laid' {w w1 : World} {e : TypeId} {s n : Nat} {cs : Array Value} (hw : w1 = w.alloc (.cells cs e)) (h : cs.size = n * s) (hm : n ≤ maxLen) : w1.ownsRow w.heap.size e s (.slice (some ⟨w.heap.size, 0, none⟩) n n) n cs.toList := by rw [hw]; exact own_laid w e s n cs h hm
theorem one_app {xs ys : List Value} (h : ∀ u ∈ xs, u.oneCell' = true) (k : ∀ u ∈ ys, u.oneCell' = true) : ∀ u ∈ xs ++ ys, u.oneCell' = true := by
  intro u hu; rcases List.mem_append.1 hu with h1 | h1
  · exact h u h1
  · exact k u h1
theorem one_of_all {xs : List Value} (h : xs.all (fun u => u.oneCell') = true) : ∀ u ∈ xs, u.oneCell' = true := fun u hu => List.all_eq_true.1 h u hu
/-- A part of a function, where it begins and what it is. -/
theorem part_of {T : List R3} {x : R3} {l : List R3} {ps : List Nat} {k m : Nat} (hok : fOkN x = true) (hrun : fRun (fFols x) l = some []) (hl : l = part3 T (k + 1) m)
    (hpc : ∀ i, i < fMany x → ∃ p len, ps[i]? = some p ∧ (cut (fMany x) l)[i]? = some (part3 T p len) ∧ p + len ≤ k + 1 + m ∧ k + 1 ≤ p) {i : Nat} {a : Int} (ha : (fFols x)[i]? = some a) :
    ∃ p len, Hid (ps[i]? = some p) ∧ (cut (fMany x) l).getD i [] = part3 T p len ∧ p + len ≤ k + 1 + m ∧ k + 1 ≤ p ∧ len ≤ m ∧ fRun [a] (part3 T p len) = some [] ∧ 0 < len := by
  have hi : i < fMany x := by rw [← fFols_len hok]; exact (List.getElem?_eq_some_iff.1 ha).1
  obtain ⟨p, len, h1, h2, h3, h4⟩ := hpc i hi
  obtain ⟨q, g1, g2, g3, _⟩ := part_at hok hrun ha
  rw [h2] at g1
  injection g1 with g1
  subst g1
  refine ⟨p, len, h1, g2, h3, h4, by omega, g3, ?_⟩
  rcases Nat.eq_zero_or_pos len with h0 | h0
  · subst h0; rw [part3, List.take_zero, fRun_none] at g3; cases g3
  · exact h0
end Go.Proofs.YtkiaclajjlidoaaGreatDoor

/- Loop programs of recursive functions, the program's side: command, zero, inc, assign, looped. -/
namespace Go.Proofs.YtkiaclajjlidoaaGreatDoor
open Go.RowKit
set_option linter.all false
end Go.Proofs.YtkiaclajjlidoaaGreatDoor

/- slices.Repeat of one element: elements int64. -/
namespace Go.Proofs.YtkiaclajjlidoaaGreatDoor
open Go.RowKit
set_option linter.all false

theorem oneI_len (x : Int) : (oneI x).length = 1 := rfl
theorem one_rows_Int (xs : List Int) : ∀ u ∈ rows oneI xs, u.oneCell' = true := by rw [rows_oneI]; exact one_ints .i64 xs
theorem made_zero1 (m : Nat) : madeCells (Value.cells (.int .i64 0)) (m * 1) = (rows oneI (List.replicate m (0 : Int))).toArray := by
  apply Array.ext
  · rw [size_madeCells]; simp [rows_len oneI_len]
  · intro i h1 h2
    have hi : i < m := by have hs := h1; rw [size_madeCells] at hs; omega
    have e1 : (madeCells (Value.cells (.int .i64 0)) (m * 1))[i] = .int .i64 0 := by have hm : i % 1 = 0 := Nat.mod_one i; simp [madeCells, Value.cells, hm]
    have e2 : (rows oneI (List.replicate m (0 : Int)))[i]? = some (.int .i64 0) := by
      have hx : (List.replicate m (0 : Int))[i]? = some 0 := by simp [hi]
      have hr := rows_at oneI_len hx (j := 0) (by omega)
      rw [show i * 1 + 0 = i by omega] at hr
      rw [hr]; rfl
    rw [e1]
    simp only [List.getElem_toArray]
    exact (List.getElem?_eq_some_iff.1 e2).2.symm

theorem mulOneInt_any (m : Nat) (w : World) (hm : m ≤ 1048576) : Calls Tryz.prog 97 #[.int .u64 1, .int .u64 (m : Int)] w fun e w' => e = .returned (.tuple #[.int .u64 0, .int .u64 (m : Int)]) ∧ w = w' := by
  have h := Any.bits_Mul Tryz.layMul 1 m (by omega) (by omega) w
  refine h.mono ?_
  rintro e w' ⟨rfl, rfl⟩
  have h1 : 1 * m / 18446744073709551616 = 0 := by omega
  have h2 : 1 * m % 18446744073709551616 = m := by omega
  rw [h1, h2]
  exact ⟨rfl, rfl⟩

/-- n times app, the rest zeros. -/
def partInt (app : Int) (n m : Nat) : List Value := rows oneI (List.replicate n app ++ List.replicate (m - n) (0 : Int))
theorem partInt_len (app : Int) (n m : Nat) (h : n ≤ m) : (partInt app n m).length = m * 1 := by
  unfold partInt; rw [rows_len oneI_len]; simp; omega
theorem partInt_copy' (app : Int) (n k m : Nat) (h : n + k ≤ m) : (partInt app n m).take (n * 1) ++ rows oneI (List.replicate k app) ++ (partInt app n m).drop (n * 1 + (rows oneI (List.replicate k app)).length) = partInt app (n + k) m := by
  unfold partInt
  have hl : (rows oneI (List.replicate k app)).length = k * 1 := by rw [rows_len oneI_len]; simp
  rw [hl, show n * 1 + k * 1 = (n + k) * 1 by omega, rows_take oneI_len, rows_drop oneI_len, ← rows_app, ← rows_app]
  congr 1
  rw [List.take_append_of_le_length (by simp), List.take_of_length_le (by simp)]
  rw [List.drop_append, List.drop_of_length_le (by simp)]
  simp only [List.length_replicate, List.nil_append, List.drop_replicate]
  rw [List.replicate_append_replicate]
  congr 2
  omega
theorem partInt_copy (app : Int) (n k m : Nat) (h : n + k ≤ m) : (partInt app n m).take n ++ rows oneI (List.replicate k app) ++ (partInt app n m).drop (n + (rows oneI (List.replicate k app)).length) = partInt app (n + k) m := by
  have := partInt_copy' app n k m h
  rwa [Nat.mul_one] at this
theorem partInt_at (app : Int) (n m : Nat) {w : World} {g : Nat} (h : w.heap[g]? = some (.cells (partInt app n m).toArray 2 (0, 0))) (k : Nat) (hk : k ≤ n) : ∀ j v, (rows oneI (List.replicate k app))[j]? = some v → w.cell? ((⟨g, 0, none⟩ : Addr).add j) = some v := by
  intro j v hv
  rw [addr_add, Nat.zero_add]
  have hj : j < k * 1 := by have := (List.getElem?_eq_some_iff.1 hv).1; rw [rows_len oneI_len] at this; simpa using this
  have h2 : (partInt app n m)[j]? = some v := by
    unfold partInt
    rw [rows_app, List.getElem?_append_left (by rw [rows_len oneI_len]; simp; omega)]
    have : List.replicate n app = List.replicate k app ++ List.replicate (n - k) app := by rw [List.replicate_append_replicate]; congr 1; omega
    rw [this, rows_app, List.getElem?_append_left (by rw [rows_len oneI_len]; simp; omega)]
    exact hv
  rw [cell_of_heap h]
  simpa using h2

set_option maxRecDepth 100000 in
set_option maxHeartbeats 1000000 in
theorem repeatInt_any (b off c m : Nat) (app : Int) (w : World) (hs : Sl w b off (rows oneI [app])) (hm : m ≤ 1048576) :
    Calls Tryz.prog 96 #[.slice (some ⟨b, off, none⟩) 1 c, .int .i64 m] w fun e w' => ∃ v, e = .returned v ∧ w'.ownsRow w.heap.size 2 1 v m (rows oneI (List.replicate m app)) ∧ Below w.heap.size w w' := by
  have hp0 : rows oneI (List.replicate m (0 : Int)) = partInt app 0 m := by unfold partInt; simp
  have hmk := fun W => run_make_rows (P := Tryz.prog) 101 2 _ 1 8 Tryz.underlying101 infoInt64S .i64 .i64 m (by omega) (by omega) W
  simp only [made_zero1, hp0] at hmk
  clear hp0
  have HMU := Lib.hid (mulOneInt_any m)
  have HI : Hid ((Tryz.prog.info? 2).map (·.size) = some 1) := by unfold Hid; obtain ⟨i, h1, _, h3, _⟩ := info_parts infoInt64S; rw [h1]; simp [h3]
  obtain ⟨k1, HK, hk1, hk2, hk3⟩ : ∃ k1, Hid (Nat.min 1 m = k1) ∧ k1 ≤ 1 ∧ k1 ≤ m ∧ (0 < m → 0 < k1) := ⟨Nat.min 1 m, rfl, Nat.min_le_left _ _, Nat.min_le_right _ _, fun h => by show 0 < min 1 m; omega⟩
  have HLN : Hid (∀ k, (rows oneI (List.replicate k app)).length = k * 1) := by intro k; rw [rows_len oneI_len]; simp
  have HPL : Hid (∀ k, k ≤ m → (partInt app k m).length = m * 1) := fun k h => partInt_len app k m h
  have HONE : Hid (∀ k, ∀ u ∈ rows oneI (List.replicate k app), u.oneCell' = true) := fun k => one_rows_Int _
  have HSRC : Hid (∀ W : World, Below w.heap.size w W → ∀ j v, (rows oneI (List.replicate k1 app))[j]? = some v → W.cell? ((⟨b, off, none⟩ : Addr).add j) = some v) := by
    intro W hW j v hv
    rw [addr_add]
    refine (hs.below' hW).at ?_
    have h01 : k1 = 0 ∨ k1 = 1 := by omega
    rcases h01 with rfl | rfl
    · simp [rows] at hv
    · exact hv
  have hb0 := laid_below w (.cells (partInt app 0 m).toArray 2)
  go_enter Tryz.func96, Tryz.ntmps96
  go_wp2_with fail
  refine (HMU.out _ hm).mono ?_
  rintro e w1 ⟨rfl, hw1⟩
  subst hw1
  clear HMU
  go_wp2_with (refine wpList_copy_rows (o := ⟨some 33, _, _, _, _, _⟩) rfl (.tmp 31) (.tmp 32) 101 101 rfl 2 Tryz.underlying101 HI.out w.heap.size 0 m m ⟨b, off, none⟩ 1 c rfl rfl (partInt app 0 m) 2 (heap_alloc_new _ _) k1 HK.out (rows oneI (List.replicate k1 app)) (HLN.out k1) (HSRC.out _ hb0) (by rw [HLN.out, HPL.out 0 (by omega)]; omega) (HONE.out k1) w.heap.size w hb0 (Nat.le_refl _) ?_; intro w2 HG2 hB2; clear hmk)
  rw [partInt_copy app 0 k1 m (by omega), Nat.zero_add] at HG2
  go_loopw [8] (fun i wr => ∃ n, n ≤ m ∧ (0 < m → 0 < n) ∧ i = .int .i64 (n : Nat) ∧ Below w.heap.size w wr ∧ Hid (wr.heap[w.heap.size]? = some (.cells (partInt app n m).toArray 2 (0, 0)))) (fun i _ => m - (intOf i).toNat)
  case atStart => exact ⟨k1, hk2, hk3, rfl, hB2, HG2⟩
  case round =>
    obtain ⟨n, hn, hn0, rfl, hB, HG⟩ := hrel
    clear HG2 hB2 hk3
    by_cases hlt : n < m
    · have hn1 : 0 < n := hn0 (by omega)
      obtain ⟨o', ho', hsl⟩ := run_slice_tailR (P := Tryz.prog) 101 2 Tryz.underlying101 infoInt64S w.heap.size 0 m m n (n : Int) rfl (by omega) (by omega)
      have ho2 : o' = n := by omega
      rw [ho2] at hsl
      clear ho2 ho' hn0
      obtain ⟨k2, HK2, hk4, hk5, hk6⟩ : ∃ k2, Hid (Nat.min n (m - n) = k2) ∧ k2 ≤ n ∧ n + k2 ≤ m ∧ 0 < k2 := ⟨Nat.min n (m - n), rfl, Nat.min_le_left _ _, by have : Nat.min n (m - n) ≤ m - n := Nat.min_le_right _ _; omega, by show 0 < min n (m - n); omega⟩
      have e1 : (n : Int) ≤ (m : Int) := by omega
      have e2 : 0 ≤ (n : Int) := by omega
      have w9 : IntKind.i64.wrap ((n : Int) + (k2 : Int)) = (n : Int) + (k2 : Int) := IntWalk.i64_in _ (by omega)
      go_wp2
      go_region_held3 (fun _ => True) (trivial) ((refine step_copy_rows (by rfl) _ _ _ _ (by rfl) 2 Tryz.underlying101 HI.out w.heap.size n (m - n) (m - n) ⟨w.heap.size, 0, none⟩ n m (by rfl) (by rfl) (partInt app n m) 2 (by exact HG.out) k2 HK2.out (rows oneI (List.replicate k2 app)) (HLN.out k2) (by exact partInt_at app n m HG.out k2 hk4) (by rw [HLN.out, HPL.out n (by omega)]; omega) (HONE.out k2) w.heap.size w (by exact hB.drew) (Nat.le_refl _) ?_; intro w3 HG3 hB3))
      all_goals
        rw [partInt_copy app n k2 m hk5] at HG3
        clear w9
        go_wp2
        go_roundw
        case rel => exact ⟨n + k2, hk5, by omega, by go_num, hB3, HG3⟩
        case measure => simp [intOf]; omega
    · obtain rfl : m = n := by omega
      have hown := own_of_block (s := 1) (n := m) HG.out (Nat.le_refl w.heap.size) (HPL.out m (Nat.le_refl _)) (Nat.le_refl _) (by unfold maxLen; omega)
      have hpm : partInt app m m = rows oneI (List.replicate m app) := by unfold partInt; simp
      rw [List.take_of_length_le (by rw [HPL.out m (Nat.le_refl _)]; exact Nat.le_refl _), hpm] at hown
      go_wp2
      go_ret
      exact ⟨_, rfl, hown, hB⟩
end Go.Proofs.YtkiaclajjlidoaaGreatDoor

/- Library functions on rows of Func: IndexFunc, ContainsFunc with whatever function value, Clone; size. -/
namespace Go.Proofs.YtkiaclajjlidoaaGreatDoor
open Go.RowKit
set_option linter.all false

theorem one_rows_Func (xs : List R3) : ∀ u ∈ rows R3.vs xs, u.oneCell' = true := by
  intro u hu
  simp only [rows, List.mem_flatMap, R3.vs] at hu
  obtain ⟨x, _, hu⟩ := hu
  simp at hu
  rcases hu with rfl | rfl | rfl <;> rfl

set_option maxRecDepth 100000 in
theorem sizeOf_Func_any (A : Option Addr) (n c : Nat) (w : World) : Calls Tryz.prog 57 #[.slice A n c] w fun e w' => e = .returned (.int .i64 n) ∧ w = w' := by
  go_enter Tryz.func57, Tryz.ntmps57
  go_wp2
  go_ret
  exact ⟨rfl, rfl⟩

end Go.Proofs.YtkiaclajjlidoaaGreatDoor

/- Recursive functions, the program's side: followers, funcEnd, isFunc, ValidFunc. -/
namespace Go.Proofs.YtkiaclajjlidoaaGreatDoor
open Go.RowKit
set_option linter.all false

theorem fFols_rep (b : Int) (k : Nat) (c : Int) (h : c = (k : Int)) : (fFols ⟨3, b, c⟩).map (Value.int .i64) = [Value.int .i64 c] ++ rows oneI (List.replicate k b) := by
  rw [fFols_3 rfl, rows_oneI]; subst h; simp

def Fols3Ok (b : Int) (k : Nat) (w : World) (e : Ending) (w' : World) : Prop := (∃ A c', e = .returned (.slice A (1 + k) c') ∧ Args 1 w' A (1 + k) ([Value.int .i64 k] ++ rows oneI (List.replicate k b))) ∧ Below w.heap.size w w'
set_option maxRecDepth 100000 in
set_option maxHeartbeats 1000000 in
theorem followers3_any (b : Int) (k : Nat) (w : World) (hk : 1 ≤ k) (hk4 : k ≤ 4) :
    Calls Tryz.prog 78 #[.agg #[.int .i64 3, .int .i64 b, .int .i64 k]] w (Fols3Ok b k w) := by
  obtain ⟨w0, HW0, B0, y0⟩ := al1 w (.cells #[.int .i64 3, .int .i64 b, .int .i64 k] 60)
  have n1 : w0.cell? ⟨w.heap.size, 1, none⟩ = some (.int .i64 b) := by rw [cell_of_heap y0]; rfl
  have n2 : w0.cell? ⟨w.heap.size, 2, none⟩ = some (.int .i64 k) := by rw [cell_of_heap y0]; rfl
  clear y0
  go_enter Tryz.func78, Tryz.ntmps78
  go_wp2_with fail
  rw [← HW0.out]
  refine region_facts (by kernel_rfl) [kcst (.pointer (some ⟨w.heap.size, 2, none⟩)), kcst (.int .i64 k), ksl 1 [.int .i64 k], kcst (.pointer (some ⟨w.heap.size, 1, none⟩)), kcst (.int .i64 b), ksl 1 (rows oneI [b]), kcst (.pointer (some ⟨w.heap.size, 2, none⟩)), kcst (.int .i64 k), karg 1 k (rows oneI (List.replicate k b)), karg 1 (1 + k) ([Value.int .i64 k] ++ rows oneI (List.replicate k b)), karg 1 (1 + k) ([Value.int .i64 k] ++ rows oneI (List.replicate k b))] [7, 8, 9, 10, 11, 12, 13, 14, 15, 16, 2] (by kernel_rfl) ?_ ?_
  · refine ⟨?_, ?_, ?_, ?_, ?_, ?_, ?_, ?_, ?_, ?_, ?_, trivial⟩
    · intro a W hB hin haft K hK
      have h1 : a.tmps[1]?.getD undef = .pointer (some ⟨w.heap.size, 0, none⟩) := kev (hin 1 (by decide))
      clear haft hin
      unfold Oper.wp
      go_simp
      exact hK _ _ rfl (Below.refl _ _)
    · intro a W hB hin haft K hK
      have h7 : a.tmps[7]?.getD undef = .pointer (some ⟨w.heap.size, 2, none⟩) := kev (haft ⟨0, .data⟩ (by simp) rfl 7 rfl)
      have k1 := cell_step (by exact n2) hB
      clear haft hin
      unfold Oper.wp
      go_simp
      exact hK _ _ rfl (Below.refl _ _)
    · intro a W hB hin haft K hK
      have h8 : a.tmps[8]?.getD undef = .int .i64 k := kev (haft ⟨1, .data⟩ (by simp) rfl 8 rfl)
      clear haft hin
      unfold Oper.wp
      go_simp
      exact hK _ _ ⟨_, rfl, sl_laid W _ _⟩ (laid_below _ _)
    · intro a W hB hin haft K hK
      have h1 : a.tmps[1]?.getD undef = .pointer (some ⟨w.heap.size, 0, none⟩) := kev (hin 1 (by decide))
      clear haft hin
      unfold Oper.wp
      go_simp
      exact hK _ _ rfl (Below.refl _ _)
    · intro a W hB hin haft K hK
      have h10 : a.tmps[10]?.getD undef = .pointer (some ⟨w.heap.size, 1, none⟩) := kev (haft ⟨3, .data⟩ (by simp) rfl 10 rfl)
      have k1 := cell_step (by exact n1) hB
      clear haft hin
      unfold Oper.wp
      go_simp
      exact hK _ _ rfl (Below.refl _ _)
    · intro a W hB hin haft K hK
      have h11 : a.tmps[11]?.getD undef = .int .i64 b := kev (haft ⟨4, .data⟩ (by simp) rfl 11 rfl)
      clear haft hin
      unfold Oper.wp
      go_simp
      exact hK _ _ ⟨_, rfl, sl_laid W _ _⟩ (laid_below _ _)
    · intro a W hB hin haft K hK
      have h1 : a.tmps[1]?.getD undef = .pointer (some ⟨w.heap.size, 0, none⟩) := kev (hin 1 (by decide))
      clear haft hin
      unfold Oper.wp
      go_simp
      exact hK _ _ rfl (Below.refl _ _)
    · intro a W hB hin haft K hK
      have h13 : a.tmps[13]?.getD undef = .pointer (some ⟨w.heap.size, 2, none⟩) := kev (haft ⟨6, .data⟩ (by simp) rfl 13 rfl)
      have k1 := cell_step (by exact n2) hB
      clear haft hin
      unfold Oper.wp
      go_simp
      exact hK _ _ rfl (Below.refl _ _)
    · intro a W hB hin haft K hK
      obtain ⟨g, hg, hsl⟩ := haft ⟨5, .data⟩ (by simp) rfl 12 rfl
      have h12 := kev hg
      have h14 : a.tmps[14]?.getD undef = .int .i64 k := kev (haft ⟨7, .data⟩ (by simp) rfl 14 rfl)
      clear hg
      clear haft hin
      unfold Oper.wp
      go_simp
      refine (repeatInt_any g 0 1 k b _ hsl (by omega)).mono ?_
      rintro z w' ⟨v, rfl, own, hb⟩
      obtain ⟨A, c', rfl⟩ := own_form own
      exact hK _ _ ⟨A, c', rfl, args_of_own own⟩ hb
    · intro a W hB hin haft K hK
      obtain ⟨g, hg, hsl⟩ := haft ⟨2, .data⟩ (by simp) rfl 9 rfl
      obtain ⟨A, c', hx, hA⟩ := haft ⟨8, .data⟩ (by simp) rfl 15 rfl
      obtain ⟨b2, o2, rfl, hs2⟩ := hA.sl (k := 0) (by omega)
      refine op_append _ _ _ rfl Tryz.underlying101 infoInt64S rfl (by omega) hg hsl rfl hx hs2 hA.1 (one_rows_Int _) (by unfold maxLen; omega) (by omega) ?_
      intro A3 c3 w' hA3 hb
      exact hK _ _ ⟨A3, c3, rfl, hA3⟩ hb
    · intro a W hB hin haft K hK
      obtain ⟨A, c', hx, hA⟩ := haft ⟨9, .data⟩ (by simp) rfl 16 rfl
      have h16 := kev hx
      clear hx
      clear haft hin
      unfold Oper.wp
      go_simp
      exact hK _ _ ⟨A, c', rfl, hA⟩ (Below.refl _ _)
  · intro a W hB hdf hsz hin hf
    obtain ⟨A, c', hx, hA⟩ := hf 10 2 rfl
    have h2 := kev hx
    clear hin hf hx
    go_wp2
    refine bodyPost_ret (v := .slice A (1 + k) c') (by simp [results, Tryz.results78, go_sem, h2]) hdf ?_
    exact ⟨⟨A, c', rfl, hA⟩, below_step B0 hB⟩

/-- What followers gives. -/
def FolsOk (x : R3) (w : World) (e : Ending) (w' : World) : Prop := (∃ A c', e = .returned (.slice A (fMany x) c') ∧ Args 1 w' A (fMany x) ((fFols x).map (Value.int .i64))) ∧ Below w.heap.size w w'

set_option maxRecDepth 100000 in
set_option maxHeartbeats 1000000 in
theorem followers_any (x : R3) (hok : fOkN x = true) (w : World) :
    Calls Tryz.prog 78 #[.agg #[.int .i64 x.a, .int .i64 x.b, .int .i64 x.c]] w (FolsOk x w) := by
  have hx := (fOkN_iff x).1 hok
  obtain ⟨a, b, c⟩ := x
  simp only at hx ⊢
  by_cases a3 : a = 3
  · subst a3
    obtain ⟨k, hk⟩ : ∃ k : Nat, c = (k : Int) := ⟨c.toNat, by omega⟩
    subst hk
    refine (followers3_any b k w (by omega) (by omega)).mono ?_
    rintro e w' ⟨⟨A, c', rfl, hA⟩, hb⟩
    have hm : fMany ⟨3, b, (k : Int)⟩ = 1 + k := by rw [fMany_3 rfl]; simp only; omega
    exact ⟨⟨A, c', by rw [hm], by rw [hm, fFols_rep b k _ rfl]; exact hA⟩, hb⟩
  have e3 : (a == 3) = false := by simpa using a3
  obtain ⟨w0, HW0, B0, y0⟩ := al1 w (.cells #[.int .i64 a, .int .i64 b, .int .i64 c] 60)
  have B1 := HW0.out ▸ B0
  clear HW0 y0
  by_cases a4 : a = 4
  · subst a4
    have hm : fMany ⟨4, b, c⟩ = 2 := fMany_4 rfl
    have hf : (fFols ⟨4, b, c⟩).map (Value.int .i64) = [.int .i64 (b - 1), .int .i64 (b + 1)] := by rw [fFols_4 rfl]; rfl
    have HM := Lib.hid hm; have HF := Lib.hid hf
    have hb1 : 1 ≤ b := by omega
    have hb3 : b ≤ 3 := by omega
    clear hm hf hx hok a3
    go_enter Tryz.func78, Tryz.ntmps78
    go_wp2
    go_ret
    refine ⟨⟨some ⟨w.heap.size + 1, 0, none⟩, 2, by rw [HM.out]; rfl, ?_⟩, below_step B1 (laid_below _ _)⟩
    rw [HM.out, HF.out]
    exact Args.of_sl (b := w.heap.size + 1) (by have := sl_laid (w.alloc (.cells #[.int .i64 4, .int .i64 b, .int .i64 c] 60)) #[.int .i64 (b - 1), .int .i64 (b + 1)] 2; simpa using this) rfl
  by_cases a5 : a = 5
  · subst a5
    have hm : fMany ⟨5, b, c⟩ = 1 := fMany_5 rfl
    have hf : (fFols ⟨5, b, c⟩).map (Value.int .i64) = [.int .i64 (b + 1)] := by rw [fFols_5 rfl]; rfl
    have HM := Lib.hid hm; have HF := Lib.hid hf
    have hb1 : 0 ≤ b := by omega
    have hb3 : b ≤ 3 := by omega
    clear hm hf hx hok a3 a4
    go_enter Tryz.func78, Tryz.ntmps78
    go_wp2
    go_ret
    refine ⟨⟨some ⟨w.heap.size + 1, 0, none⟩, 1, by rw [HM.out]; rfl, ?_⟩, below_step B1 (laid_below _ _)⟩
    rw [HM.out, HF.out]
    exact Args.of_sl (b := w.heap.size + 1) (by have := sl_laid (w.alloc (.cells #[.int .i64 5, .int .i64 b, .int .i64 c] 60)) #[.int .i64 (b + 1)] 2; simpa using this) rfl
  have hm : fMany ⟨a, b, c⟩ = 0 := fMany_0 a3 a4 a5
  have hf : fFols ⟨a, b, c⟩ = [] := fFols_0 a3 a4 a5
  have HM := Lib.hid hm; have HF := Lib.hid hf
  have e4 : (a == 4) = false := by simpa using a4
  have e5 : (a == 5) = false := by simpa using a5
  clear hm hf hx hok a3 a4 a5
  go_enter Tryz.func78, Tryz.ntmps78
  go_wp2
  go_ret
  refine ⟨⟨none, 0, by rw [HM.out]; rfl, ?_⟩, B1⟩
  rw [HM.out, HF.out]
  exact Args.of_nil _ _ _
end Go.Proofs.YtkiaclajjlidoaaGreatDoor

/- Recursive functions, the program's side: funcEnd, isFunc, ValidFunc. -/
namespace Go.Proofs.YtkiaclajjlidoaaGreatDoor
open Go.RowKit
set_option linter.all false

/-- Where the function at place k ends. -/
def FEnd (xs : List R3) (n k : Nat) (a z : Int) : Prop := (z = -1 ∧ fRun [a] (xs.drop k) = none) ∨ ∃ q : Nat, z = ((k + q : Nat) : Int) ∧ 0 < q ∧ k + q ≤ n ∧ fRun [a] (xs.drop k) = some (xs.drop (k + q))
def FEndOk (xs : List R3) (n k : Nat) (a : Int) (w : World) (e : Ending) (w' : World) : Prop := (∃ z : Int, e = .returned (.int .i64 z) ∧ FEnd xs n k a z) ∧ Below w.heap.size w w'
theorem fRun_step {xs : List R3} {n en q : Nat} {f : Int} {fs : List Int} {T : Option (List R3)} (hT : T = fRun (f :: fs) (xs.drop en)) (h : fRun [f] (xs.drop en) = some (xs.drop (en + q))) : T = fRun fs (xs.drop (en + q)) := by
  rw [hT, show f :: fs = [f] ++ fs from rfl, fRun_app, h]; rfl
theorem fRun_fail {xs : List R3} {en : Nat} {f : Int} {fs : List Int} {T : Option (List R3)} (hT : T = fRun (f :: fs) (xs.drop en)) (h : fRun [f] (xs.drop en) = none) : T = none := by
  rw [hT, show f :: fs = [f] ++ fs from rfl, fRun_app, h]; rfl
theorem FEnd.no {xs : List R3} {n k : Nat} {a : Int} (h : fRun [a] (xs.drop k) = none) : FEnd xs n k a (-1) := .inl ⟨rfl, h⟩
theorem fFols_le {x : R3} (h : fOkN x = true) : ∀ a ∈ fFols x, a ≤ 5 := by
  have := (fOkN_iff x).1 h
  intro a ha
  unfold fFols at ha
  split at ha
  · rcases List.mem_cons.1 ha with rfl | ha
    · omega
    · have := List.eq_of_mem_replicate ha; omega
  · split at ha
    · simp at ha; omega
    · split at ha
      · simp at ha; omega
      · simp at ha

set_option maxRecDepth 100000 in
set_option maxHeartbeats 1000000 in
theorem funcEnd_any (A : Option Addr) (n c : Nat) (xs : List R3) (hl : xs.length = n) (hn : n ≤ 1048576) (N : Nat) : ∀ (k : Nat) (kk a : Int) (w : World), kk = (k : Int) → n - k < N → k ≤ n → -1 ≤ a → a ≤ 5 → Args 3 w A n (rows R3.vs xs) →
    Calls Tryz.prog 77 #[.slice A n c, .int .i64 kk, .int .i64 a] w (FEndOk xs n k a w) := by
  have HL := Lib.hid hl; clear hl
  induction N with
  | zero => intro k kk a w _ hN; omega
  | succ N ih =>
  intro k kk a w hkk hN hk ha0 ha5 hA
  subst hkk
  have IH := Lib.hid ih; clear ih
  have hk0 : (0 : Int) ≤ (k : Int) := by omega
  by_cases hlt : k < n
  rotate_left
  · have hge : (n : Int) ≤ (k : Int) := by omega
    have HF : Hid (fRun [a] (xs.drop k) = none) := by unfold Hid; rw [List.drop_of_length_le (by have := HL.out; omega), fRun_none]
    go_enter Tryz.func77, Tryz.ntmps77
    go_wp2
    go_ret
    exact ⟨⟨_, rfl, FEnd.no HF.out⟩, Below.refl _ _⟩
  obtain ⟨b, off, rfl, hs⟩ := hA.sl hlt
  obtain ⟨x, HX⟩ := hget HL hlt
  obtain ⟨p0, p1, p2⟩ := hs.rec3 HX.out
  have HD : Hid (xs.drop k = x :: xs.drop (k + 1)) := drop_at HX.out
  have hlt' : (k : Int) < (n : Int) := by omega
  by_cases hbad : 0 ≤ a ∧ x.b ≠ a
  · have e1 : (x.b != a) = true := by simpa using hbad.2
    have ha : 0 ≤ a := hbad.1
    have HF : Hid (fRun [a] (xs.drop k) = none) := by unfold Hid; rw [HD.out, fRun_bad (fun h => by rcases h.1 with h1 | h1; omega; exact hbad.2 h1)]
    clear hbad
    go_enter Tryz.func77, Tryz.ntmps77
    go_wp2
    go_ret
    exact ⟨⟨_, rfl, FEnd.no HF.out⟩, Below.refl _ _⟩
  have hgood : a < 0 ∨ x.b = a := by
    by_cases h1 : a < 0
    · exact .inl h1
    · refine .inr ?_
      by_cases h2 : x.b = a
      · exact h2
      · exact absurd ⟨by omega, h2⟩ hbad
  clear hbad
  rcases Bool.eq_false_or_eq_true (fOkN x) with hok | hok
  rotate_left
  · have HF : Hid (fRun [a] (xs.drop k) = none) := by unfold Hid; rw [HD.out, fRun_bad (fun h => by rw [hok] at h; simp at h)]
    have HOK := Lib.hid hok
    clear hok
    rcases hgood with h1 | h1
    · go_enter Tryz.func77, Tryz.ntmps77
      go_wp2_with fail
      refine (validNode_is x false HOK.out _).mono ?_
      rintro e w1 ⟨rfl, b1⟩
      go_wp2
      go_ret
      exact ⟨⟨_, rfl, FEnd.no HF.out⟩, b1⟩
    · have e1 : (x.b != a) = false := by simpa using h1
      clear h1
      by_cases h2 : a < 0
      all_goals
        go_enter Tryz.func77, Tryz.ntmps77
        go_wp2_with fail
        refine (validNode_is x false HOK.out _).mono ?_
        rintro e w1 ⟨rfl, b1⟩
        go_wp2
        go_ret
        exact ⟨⟨_, rfl, FEnd.no HF.out⟩, b1⟩
  have HOK := Lib.hid hok
  have HR0 : Hid (fRun [a] (xs.drop k) = fRun (fFols x) (xs.drop (k + 1))) := by unfold Hid; rw [HD.out, fRun_cons ⟨hgood, hok⟩, List.append_nil]
  have hm5 := fMany_le hok
  have HP := Lib.hid (fFols_pos hok)
  have HLE := Lib.hid (fFols_le hok)
  have HFL := Lib.hid (fFols_len hok)
  obtain ⟨m, hm⟩ : ∃ m, m = fMany x := ⟨_, rfl⟩
  rw [← hm] at hm5 HFL
  have HM := Lib.hid hm
  clear hok hm
  have hway : a < 0 ∨ (0 ≤ a ∧ (x.b != a) = false) := by
    rcases hgood with h1 | h1
    · exact .inl h1
    · by_cases h2 : a < 0
      · exact .inl h2
      · exact .inr ⟨by omega, by simpa using h1⟩
  clear hgood
  rcases hway with h1 | ⟨h1, h2⟩
  all_goals
    go_enter Tryz.func77, Tryz.ntmps77
    go_wp2_with fail
    refine (validNode_is x true HOK.out _).mono ?_
    rintro e w1 ⟨rfl, b1⟩
    obtain ⟨r0, r1, r2⟩ := (hs.below' b1).rec3 HX.out
    go_wp2_with fail
    refine (followers_any x HOK.out _).mono ?_
    rintro e w2 ⟨⟨A2, c2, rfl, hA2⟩, b2⟩
    rw [← HM.out] at hA2 ⊢
    have B2 := below_step b1 b2
    have ha2 := arg_args hA2
    clear r0 r1 r2 b1 b2 hA2 p0 p1 p2
    go_wp2
    go_loopw [7, 47] (fun z i wr => ∃ j en : Nat, j ≤ m ∧ i = .int .i64 j ∧ z = .int .i64 en ∧ k + 1 ≤ en ∧ en ≤ n ∧ Below w2.heap.size w2 wr ∧ Hid (fRun [a] (xs.drop k) = fRun ((fFols x).drop j) (xs.drop en))) (fun _ i _ => m - (intOf i).toNat)
    case atStart => exact ⟨0, k + 1, Nat.zero_le _, rfl, by go_num, Nat.le_refl _, by omega, Below.refl _ _, HR0.out⟩
    case round =>
      obtain ⟨j, en, hj, rfl, rfl, hen1, hen2, hB, HR⟩ := hrel
      by_cases hjm : j < m
      · obtain ⟨f, HFJ⟩ := hget HFL hjm
        obtain ⟨g, off2, rfl, hsf⟩ := (ha2.below hB).sl hjm
        have hcell := hsf.at (j := j) (u := .int .i64 f) (by rw [List.getElem?_map, HFJ.out]; rfl)
        have HRJ : Hid (fRun [a] (xs.drop k) = fRun (f :: (fFols x).drop (j + 1)) (xs.drop en)) := by unfold Hid; rw [HR.out, drop_at HFJ.out]
        have hf0 := HP.out f (List.mem_of_getElem? HFJ.out)
        have hf5 := HLE.out f (List.mem_of_getElem? HFJ.out)
        have HAW := Lib.hid (hA.below (below_step B2 hB))
        go_wp2_with fail
        refine (IH.out en en f _ rfl (by omega) hen2 (by omega) hf5 HAW.out).mono ?_
        rintro e w3 ⟨⟨z, rfl, hz⟩, b3⟩
        have B3 := below_step hB b3
        clear hcell b3
        rcases hz with ⟨rfl, hno⟩ | ⟨q, rfl, hq, hqn, hyes⟩
        · have HN := Lib.hid (fRun_fail HRJ.out hno)
          clear hno
          go_wp2
          go_ret
          exact ⟨⟨_, rfl, FEnd.no HN.out⟩, below_step B2 B3⟩
        · have HY := Lib.hid (fRun_step (n := n) HRJ.out hyes)
          clear hyes
          have hnn : ¬ (((en + q : Nat) : Int) < 0) := by omega
          go_wp2
          go_roundw
          case rel => exact ⟨j + 1, en + q, by omega, by go_num, rfl, by omega, hqn, B3, HY⟩
          case measure => simp [intOf]; omega
      · have HE : Hid (fRun [a] (xs.drop k) = some (xs.drop en)) := by unfold Hid; rw [HR.out, List.drop_of_length_le (by have := HFL.out; omega), fRun_nil]
        go_wp2
        go_ret
        refine ⟨⟨_, rfl, .inr ⟨en - k, ?_, by omega, by omega, ?_⟩⟩, below_step B2 hB⟩
        · rw [Nat.add_sub_cancel' (by omega : k ≤ en)]
        · rw [Nat.add_sub_cancel' (by omega : k ≤ en)]; exact HE.out

theorem FEnd.at0 {xs : List R3} {n : Nat} {z : Int} (hl : xs.length = n) (h : FEnd xs n 0 (-1) z) : decide (z = (n : Int)) = decide (fRun [-1] xs = some []) := by
  rcases h with ⟨rfl, h⟩ | ⟨q, rfl, h1, h2, h⟩
  · rw [List.drop_zero] at h; rw [h]; simp <;> omega
  · rw [List.drop_zero, Nat.zero_add] at h
    rw [h, Nat.zero_add]
    have : xs.drop q = [] ↔ n ≤ q := by rw [List.drop_eq_nil_iff, hl]
    rw [decide_eq_decide]
    constructor
    · intro e; rw [Option.some.injEq, this]; omega
    · intro e; rw [Option.some.injEq, this] at e; omega

theorem isFunc_is (A : Option Addr) (n c : Nat) (xs : List R3) (v : Bool) (hv : decide (fRun [-1] xs = some []) = v) (w : World) (ha : Args 3 w A n (rows R3.vs xs)) (hn : n ≤ 1048576) :
    Calls Tryz.prog 58 #[.slice A n c] w fun e w' => e = .returned (.bool v) ∧ Below w.heap.size w w' := by
  have HL : Hid (xs.length = n) := by have := ha.1; rw [rows_len R3.vs_len] at this; unfold Hid; omega
  have HV := Lib.hid hv; clear hv
  have HFE := Lib.hid (funcEnd_any A n c xs HL.out hn (n + 1) 0 0 (-1) w rfl (by omega) (Nat.zero_le _) (by omega) (by omega) ha)
  go_enter Tryz.func58, Tryz.ntmps58
  go_wp2_with fail
  refine HFE.out.mono ?_
  rintro e w1 ⟨⟨z, rfl, hz⟩, b1⟩
  have e1 : (z == (n : Int)) = v := by rw [← HV.out, ← FEnd.at0 HL.out hz]; rfl
  clear hz
  go_wp2
  go_ret
  exact ⟨rfl, b1⟩

theorem validFunc_is (A : Option Addr) (n c : Nat) (xs : List R3) (v : Bool) (hv : validF xs = v) (w : World) (ha : Args 3 w A n (rows R3.vs xs)) (hn : n ≤ 1048576) :
    Calls Tryz.prog 35 #[.slice A n c] w fun e w' => e = .returned (.bool v) ∧ Below w.heap.size w w' := by
  have HL : Hid (xs.length = n) := by have := ha.1; rw [rows_len R3.vs_len] at this; unfold Hid; omega
  rcases Bool.eq_false_or_eq_true (inB n 1 60) with h | h
  rotate_left
  · have HV : Hid (v = false) := by unfold Hid; rw [← hv, validF, HL.out, h]; rfl
    have H1 := Lib.hid h; clear h hv
    go_enter Tryz.func35, Tryz.ntmps35
    go_wp2_with fail
    refine (sizeOf_Func_any _ _ _ _).mono ?_
    rintro e w1 ⟨rfl, rfl⟩
    go_wp2_with fail
    refine (within_is _ _ _ false H1.out _).mono ?_
    rintro e w1 ⟨rfl, rfl⟩
    go_wp2
    go_ret
    exact ⟨ret_bool HV.out.symm, Below.refl _ _⟩
  have HV : Hid (decide (fRun [-1] xs = some []) = v) := by unfold Hid; rw [← hv, validF, HL.out, h]; rfl
  have H1 := Lib.hid h; clear h hv
  go_enter Tryz.func35, Tryz.ntmps35
  go_wp2_with fail
  refine (sizeOf_Func_any _ _ _ _).mono ?_
  rintro e w1 ⟨rfl, rfl⟩
  go_wp2_with fail
  refine (within_is _ _ _ true H1.out _).mono ?_
  rintro e w1 ⟨rfl, rfl⟩
  go_wp2_with fail
  refine (isFunc_is A n c xs v HV.out _ ha hn).mono ?_
  rintro e w1 ⟨rfl, b1⟩
  go_wp2
  go_ret
  exact ⟨rfl, b1⟩
end Go.Proofs.YtkiaclajjlidoaaGreatDoor

/- Loop programs: which are valid. Contracts of isVariable, isLoop, validLoops, ValidLoop and of the reference's l17Var, l17IsLoop, l17Part, l17Is, ValidLoop. -/
namespace Go.Proofs.YtkiaclajjlidoaaGreatDoor
open Go.RowKit
set_option linter.all false

def isLp (x : R3) : Bool := decide (x.a = 3) || decide (x.a = 4)
/-- A loop program is valid, d more bodies may lie one in another. -/
def vl (d : Nat) : List R3 → Bool
  | [] => true
  | x :: l => inB x.b 0 15 && (if isLp x then decide (0 < d) && inB x.c 0 l.length && vl (d - 1) (l.take x.c.toNat) && vl d (l.drop x.c.toNat)
      else if x.a = 2 then inB x.c 0 15 && vl d l else (decide (x.a = 0) || decide (x.a = 1)) && decide (x.c = 0) && vl d l)
  termination_by l => l.length
  decreasing_by all_goals simp_wf; try omega
theorem vl_nil (d : Nat) : vl d [] = true := by rw [vl]
theorem vl_cons (d : Nat) (x : R3) (l : List R3) : vl d (x :: l) = (inB x.b 0 15 && (if isLp x then decide (0 < d) && inB x.c 0 l.length && vl (d - 1) (l.take x.c.toNat) && vl d (l.drop x.c.toNat)
      else if x.a = 2 then inB x.c 0 15 && vl d l else (decide (x.a = 0) || decide (x.a = 1)) && decide (x.c = 0) && vl d l)) := by rw [vl]
def validL (xs : List R3) : Bool := decide (xs.length ≤ 150) && vl 7 xs

theorem vl_no1 {d : Nat} {x : R3} {l : List R3} (h : inB x.b 0 15 = false) : vl d (x :: l) = false := by rw [vl_cons, h]; rfl
theorem vl_lp {d : Nat} {x : R3} {l : List R3} (h : inB x.b 0 15 = true) (h2 : isLp x = true) : vl d (x :: l) = (decide (0 < d) && inB x.c 0 l.length && vl (d - 1) (l.take x.c.toNat) && vl d (l.drop x.c.toNat)) := by
  rw [vl_cons, h, h2]; simp
theorem vl_cp {d : Nat} {x : R3} {l : List R3} (h : inB x.b 0 15 = true) (h2 : isLp x = false) (h3 : x.a = 2) : vl d (x :: l) = (inB x.c 0 15 && vl d l) := by
  rw [vl_cons, h, h2]; simp [h3]
theorem vl_el {d : Nat} {x : R3} {l : List R3} (h : inB x.b 0 15 = true) (h2 : isLp x = false) (h3 : x.a ≠ 2) : vl d (x :: l) = ((decide (x.a = 0) || decide (x.a = 1)) && decide (x.c = 0) && vl d l) := by
  rw [vl_cons, h, h2]; simp [h3]

/-- The part from i up to t. -/
def seg {α : Type} (xs : List α) (i t : Nat) : List α := (xs.drop i).take (t - i)
theorem seg_at {α : Type} {xs : List α} {i t : Nat} {x : α} (h : xs[i]? = some x) (hit : i < t) : seg xs i t = x :: seg xs (i + 1) t := by
  unfold seg
  rw [drop_at h, show t - i = (t - (i + 1)) + 1 by omega, List.take_succ_cons]
theorem seg_len {α : Type} {xs : List α} {i t : Nat} (h : t ≤ xs.length) : (seg xs i t).length = t - i := by
  unfold seg; rw [List.length_take, List.length_drop]; omega
theorem seg_end {α : Type} {xs : List α} {i t : Nat} (h : t ≤ i) : seg xs i t = [] := by
  unfold seg; rw [show t - i = 0 by omega, List.take_zero]
theorem seg_all {α : Type} (xs : List α) : seg xs 0 xs.length = xs := by simp [seg]
theorem seg_take {α : Type} (xs : List α) (i t m : Nat) (h : i + m ≤ t) : (seg xs i t).take m = seg xs i (i + m) := by
  unfold seg; rw [List.take_take, show i + m - i = m by omega, Nat.min_eq_left (by omega)]
theorem seg_drop {α : Type} (xs : List α) (i t m : Nat) : (seg xs i t).drop m = seg xs (i + m) t := by
  unfold seg; rw [List.drop_take, List.drop_drop, show t - i - m = t - (i + m) by omega]
theorem vl_bad {d : Nat} {x : R3} {l : List R3} (h : inB x.a 0 4 = false) : vl d (x :: l) = false := by
  rw [inB_false] at h
  rw [vl_cons]
  have h1 : isLp x = false := by unfold isLp; simp; omega
  rw [h1]
  simp [show ¬ x.a = 2 by omega, show ¬ x.a = 0 by omega, show ¬ x.a = 1 by omega]

end Go.Proofs.YtkiaclajjlidoaaGreatDoor

/- The loop program of a recursive function: the plain law that both sides answer. -/
namespace Go.Proofs.YtkiaclajjlidoaaGreatDoor
set_option linter.all false

theorem lpF_pos : ∀ (N : Nat) (p : List R3) (a : Int) (xs : List Int) (o u : Int), fRun [a] p = some [] → p.length ≤ N → 0 < (lpF N p xs o u).length
  | 0, p, a, xs, o, u, h, hp => by
    obtain rfl : p = [] := List.eq_nil_of_length_eq_zero (by omega)
    rw [fRun_none] at h; cases h
  | N + 1, [], a, xs, o, u, h, hp => by rw [fRun_none] at h; cases h
  | N + 1, x :: l, a, xs, o, u, h, hp => by
    obtain ⟨hok, _, hrun⟩ := parts_of h
    have hc := (fOkN_iff x).1 hok
    have h6 : x.a = 0 ∨ x.a = 1 ∨ x.a = 2 ∨ x.a = 3 ∨ x.a = 4 ∨ x.a = 5 := by omega
    rcases h6 with h0 | h0 | h0 | h0 | h0 | h0
    · rw [lp0 h0]; simp
    · rw [lp1 h0]; simp
    · rw [lp2 h0]; simp
    · obtain ⟨k, hk⟩ : ∃ k : Nat, x.c = (k : Int) := ⟨x.c.toNat, by omega⟩
      rw [lp3 h0 hk, List.length_append]
      obtain ⟨q, g1, g2, g3, g4⟩ := part_at (i := 0) (a := x.c) hok hrun (by rw [fFols_3 h0]; rfl)
      rw [g2]
      have := lpF_pos N q x.c (vars o k) o (o + k) g3 (by simp at hp; omega)
      have := lpF_pos N q x.c (vars u k) o (u + k) g3 (by simp at hp; omega)
      omega
    · rw [lp4 h0 rfl rfl]; simp; omega
    · rw [lp5 h0 rfl]; simp

/-- The first node's arity. -/
def ar0 (f : List R3) : Nat := (f.headD ⟨0, 0, 0⟩).b.toNat
def lpOf (f : List R3) : List R3 := lpF f.length f (vars 0 (ar0 f)) (ar0 f) ((ar0 f : Int) + 1)
def loopF (f : List R3) : List R3 × Int := if validF f = true then (if validL (lpOf f) = true then (lpOf f, 0) else ([], 5)) else ([], 1)
theorem loopF_1 {f : List R3} (h : validF f = false) : loopF f = ([], 1) := by unfold loopF; rw [h]; rfl
theorem loopF_5 {f : List R3} (h : validF f = true) (k : validL (lpOf f) = false) : loopF f = ([], 5) := by unfold loopF; rw [h, k]; rfl
theorem loopF_0 {f : List R3} (h : validF f = true) (k : validL (lpOf f) = true) : loopF f = (lpOf f, 0) := by unfold loopF; rw [h, k]; rfl
/-- What a valid function shows of itself. -/
theorem validF_head {f : List R3} (h : validF f = true) : ∃ x l, f = x :: l ∧ f.length ≤ 60 ∧ x.b = (ar0 f : Int) ∧ ar0 f ≤ 4 ∧ fRun [(ar0 f : Int)] f = some [] ∧ f.all fOkN = true ∧ fit fMany 1 f = true := by
  obtain ⟨h1, h2, h3, h4⟩ := (validF_iff f).1 h
  unfold validF at h
  rw [Bool.and_eq_true, inB_iff, decide_eq_true_eq] at h
  obtain ⟨⟨h5, h6⟩, h7⟩ := h
  cases f with
  | nil => simp at h5
  | cons x l =>
    obtain ⟨hok, _, hrun⟩ := parts_of h7
    have hc := (fOkN_iff x).1 hok
    have hb : x.b = ((ar0 (x :: l) : Nat) : Int) := by unfold ar0; simp only [List.headD_cons]; omega
    refine ⟨x, l, rfl, h1, hb, by omega, ?_, h3, h2⟩
    rw [fRun_cons ⟨.inr hb, hok⟩, List.append_nil]
    exact hrun
theorem lpOf_len {f : List R3} (h : validF f = true) : (lpOf f).length ≤ 480 ∧ 0 < (lpOf f).length := by
  obtain ⟨x, l, _, h1, h2, h3, h4, h5, h6⟩ := validF_head h
  have := lpF_len f.length f (vars 0 (ar0 f)) (ar0 f) ((ar0 f : Int) + 1)
  exact ⟨by unfold lpOf; omega, lpF_pos _ _ _ _ _ _ h4 (Nat.le_refl _)⟩
theorem bndLoopOfFunc0 (f : List R3) (_h : f.length ≤ 1048576) : (loopF f).1.length ≤ 1048576 := by
  by_cases h : validF f = true
  · have := (lpOf_len h).1
    cases k : validL (lpOf f) with
    | true => rw [loopF_0 h k]; simp only; omega
    | false => rw [loopF_5 h k]; simp
  · rw [loopF_1 (by simpa using h)]; simp
end Go.Proofs.YtkiaclajjlidoaaGreatDoor

/- Loop programs of recursive functions, the program's side: partsAt. -/
namespace Go.Proofs.YtkiaclajjlidoaaGreatDoor
open Go.RowKit
set_option linter.all false

theorem infoFuncsE : (Tryz.prog.info? 37).map (fun i => (i.zero, i.size, i.bytes)) = some (some (.slice none 0 0), 1, 24) := by kernel_rfl
/-- Slices of one block that read as the parts of a function. -/
def PartsV (w : World) (b : Nat) (ps : List (List R3)) (vs : List Value) : Prop := vs.length = ps.length ∧ ∀ (i : Nat) (p : List R3), ps[i]? = some p → ∃ o c, vs[i]? = some (.slice (some ⟨b, o, none⟩) p.length c) ∧ p.length ≤ c ∧ Sl w b o (rows R3.vs p)
theorem PartsV.snoc {w : World} {b : Nat} {ps : List (List R3)} {vs : List Value} (h : PartsV w b ps vs) {p : List R3} {o c : Nat} (hc : p.length ≤ c) (hs : Sl w b o (rows R3.vs p)) : PartsV w b (ps ++ [p]) (vs ++ [.slice (some ⟨b, o, none⟩) p.length c]) := by
  refine ⟨by simp [h.1], fun i q hq => ?_⟩
  rcases Nat.lt_or_ge i ps.length with hi | hi
  · rw [List.getElem?_append_left hi] at hq
    obtain ⟨o', c', h1, h2, h3⟩ := h.2 i q hq
    exact ⟨o', c', by rw [List.getElem?_append_left (by rw [h.1]; exact hi)]; exact h1, h2, h3⟩
  · rw [List.getElem?_append_right hi] at hq
    obtain ⟨rfl, rfl⟩ : i = ps.length ∧ p = q := by
      have h0 := (List.getElem?_eq_some_iff.1 hq).1
      simp at h0
      have h2 : i = ps.length := by omega
      subst h2
      simp at hq
      exact ⟨rfl, hq⟩
    exact ⟨o, c, by rw [List.getElem?_append_right (by rw [h.1]; exact Nat.le_refl _), h.1]; simp, hc, hs⟩
theorem cut_at {M t : Nat} {l r : List R3} (ht : t < M) (h : (cut M l).drop t = cut (M - t) r) : (cut M l)[t]? = some (r.take (endL r)) ∧ (cut M l).drop (t + 1) = cut (M - (t + 1)) (r.drop (endL r)) := by
  obtain ⟨d, hd⟩ : ∃ d, M - t = d + 1 := ⟨M - t - 1, by omega⟩
  rw [hd, cut] at h
  have h1 : (cut M l)[t]? = some (r.take (endL r)) := by
    have := congrArg (fun z => z[0]?) h
    simpa [List.getElem?_drop] using this
  refine ⟨h1, ?_⟩
  rw [show M - (t + 1) = d by omega]
  have := congrArg (fun z => z.drop 1) h
  simpa [List.drop_drop, Nat.add_comm] using this
theorem sl_part {w : World} {b off k q : Nat} {T : List R3} (h : Sl w b off (rows R3.vs T)) (hk : k + q ≤ T.length) : Sl w b (off + k * 3) (rows R3.vs ((T.drop k).take q)) := by
  refine ⟨h.1, fun j u hu => ?_⟩
  have e : T = T.take k ++ ((T.drop k).take q ++ (T.drop k).drop q) := by rw [List.take_append_drop, List.take_append_drop]
  have h2 : (rows R3.vs T)[k * 3 + j]? = some u := by
    rw [e, rows_app, List.getElem?_append_right (by rw [rows_len R3.vs_len, List.length_take]; omega), rows_len R3.vs_len, List.length_take, Nat.min_eq_left (by omega), rows_app, List.getElem?_append_left]
    · rw [show k * 3 + j - k * 3 = j by omega]; exact hu
    · have := (List.getElem?_eq_some_iff.1 hu).1; omega
  have := h.at h2
  rw [← Nat.add_assoc] at this
  exact this

theorem funcEnd_wild (b off n c : Nat) (T : List R3) (hl : T.length = n) (hn : n ≤ 1048576) (k : Nat) (a : Int) (st : List Int) (h : fRun (a :: st) (T.drop k) = some []) (hk : k ≤ n) (w : World) (hs : Sl w b off (rows R3.vs T)) (q : Nat) (hq : q = endL (T.drop k)) :
    Calls Tryz.prog 77 #[.slice (some ⟨b, off, none⟩) n c, .int .i64 (k : Int), .int .i64 (-1)] w fun e w' => e = .returned (.int .i64 ((k + q : Nat) : Int)) ∧ Below w.heap.size w w' := by
  obtain ⟨h1, h2, h3, h4, h5, h6⟩ := fRun_one h
  refine (funcEnd_any (some ⟨b, off, none⟩) n c T hl hn (n + 1) k k (-1) w rfl (by omega) hk (by omega) (by omega) (Args.of_sl hs (by rw [rows_len R3.vs_len, hl]))).mono ?_
  rintro e w' ⟨⟨z, rfl, hz⟩, hb⟩
  refine ⟨?_, hb⟩
  have hw := fRun_wild h4
  rcases hz with ⟨_, h0⟩ | ⟨q', rfl, _, hq2, h0⟩
  · rw [h0] at hw; cases hw
  · rw [h0] at hw
    injection hw with hw
    have hlen := congrArg List.length hw
    rw [List.drop_drop, List.length_drop, List.length_drop] at hlen
    rw [List.length_drop] at h1
    have : q' = q := by rw [hq]; omega
    rw [this]

set_option maxRecDepth 100000 in
set_option maxHeartbeats 1000000 in
theorem partsAt_any (b off n c : Nat) (T : List R3) (x : R3) (l : List R3) (hT : T = x :: l) (hl : T.length = n) (hn60 : n ≤ 60) (hc : n ≤ c) (hok : fOkN x = true) (hrun : fRun (fFols x) l = some []) (w : World) (hs : Sl w b off (rows R3.vs T)) :
    Calls Tryz.prog 59 #[.slice (some ⟨b, off, none⟩) n c, .int .i64 0] w fun e w' => ∃ v vs, e = .returned v ∧ w'.ownsRow w.heap.size 37 1 v (fMany x) vs ∧ PartsV w b (cut (fMany x) l) vs ∧ Below w.heap.size w w' := by
  have HL := Lib.hid hl
  have hfl := fFols_len hok
  have hM := fMany_le hok
  have hx0 : T[0]? = some x := by rw [hT]; rfl
  have hd1 : T.drop 1 = l := by rw [hT]; rfl
  have hn1 : 0 < n := by rw [← hl, hT]; simp
  have HF := Lib.hid (followers_any x hok)
  obtain ⟨M, hMM⟩ : ∃ M, M = fMany x := ⟨_, rfl⟩
  rw [← hMM] at hfl hM ⊢
  obtain ⟨p0, p1, p2⟩ := hs.rec3 hx0
  rw [Nat.zero_mul, Nat.add_zero] at p0 p1 p2
  have HFO : Hid (∀ W, Calls Tryz.prog 78 #[.agg #[.int .i64 x.a, .int .i64 x.b, .int .i64 x.c]] W fun e w' => (∃ A c', e = .returned (.slice A M c')) ∧ Below W.heap.size W w') := by
    intro W
    refine (followers_any x hok W).mono ?_
    rintro e w' ⟨⟨A, c', rfl, _⟩, hb⟩
    exact ⟨⟨A, c', by rw [hMM]⟩, hb⟩
  have HR := Lib.hid hrun
  have HD := Lib.hid hd1
  have HFL := Lib.hid hfl
  have B0 := laid_below w (.cells #[] 37)
  have own0 := own_empty w 37 1
  have q0 := cell_step (by exact p0) B0
  have q1 := cell_step (by exact p1) B0
  have q2 := cell_step (by exact p2) B0
  have hn1' : (0 : Int) < (n : Int) := by omega
  clear hT hl hfl hd1 hx0 HF hrun hMM hok p0 p1 p2
  go_enter Tryz.func59, Tryz.ntmps59
  go_wp2_with fail
  refine (HFO.out _).mono ?_
  rintro e w1 ⟨⟨A, c', rfl⟩, b1⟩
  have own1 := own_below' own0 b1
  have B1 := below_step B0 b1
  clear q0 q1 q2 own0 B0 b1
  go_wp2_with fail
  go_loopw [5, 6, 17] (fun vo kf i wr => ∃ t k : Nat, t ≤ M ∧ k ≤ n ∧ i = .int .i64 (t : Nat) ∧ kf = .int .i64 (k : Nat) ∧ Hid (fRun ((fFols x).drop t) (T.drop k) = some []) ∧ Hid ((cut M l).drop t = cut (M - t) (T.drop k)) ∧ (∃ A c vs, vo = .slice A t c ∧ Hid (wr.ownsRow w.heap.size 37 1 (.slice A t c) t vs) ∧ Hid (PartsV w b ((cut M l).take t) vs)) ∧ Below w.heap.size w wr) (fun _ _ i _ => M - (intOf i).toNat)
  case atStart => exact ⟨0, 1, by omega, by omega, rfl, rfl, by unfold Hid; rw [List.drop_zero, HD.out]; exact HR.out, by unfold Hid; rw [List.drop_zero, HD.out]; rfl, ⟨_, _, _, rfl, own1, ⟨rfl, by simp⟩⟩, B1⟩
  case round =>
    obtain ⟨t, k, ht, hk, rfl, rfl, HRR, HCC, ⟨A2, c2, vs, rfl, ho, HPV⟩, hB⟩ := hrel
    clear own1 B1
    by_cases hlt : t < M
    · obtain ⟨a, ha⟩ : ∃ a, (fFols x)[t]? = some a := ⟨_, List.getElem?_eq_getElem (by rw [HFL.out]; exact hlt)⟩
      have hr := HRR.out
      rw [drop_at ha] at hr
      obtain ⟨h1, h2, h3, h4, h5, h6⟩ := fRun_one hr
      obtain ⟨hc1, hc2⟩ := cut_at hlt HCC.out
      obtain ⟨q, hq⟩ : ∃ q, q = endL (T.drop k) := ⟨_, rfl⟩
      have HE := Lib.hid (fun W (hW : Below w.heap.size w W) => funcEnd_wild b off n c T HL.out (by omega) k a _ hr hk W (hs.below' hW) q hq)
      rw [← hq] at h1 h2 h6 hc1 hc2
      rw [List.length_drop, HL.out] at h1
      obtain ⟨o', ho', hsl⟩ := run_slice_part (P := Tryz.prog) 37 60 Tryz.underlying37 infoFunc b off n c k q (k : Int) ((k + q : Nat) : Int) rfl rfl (by omega)
      have ho2 : o' = off + k * 3 := by omega
      have hpl : ((T.drop k).take q).length = q := by rw [List.length_take, List.length_drop, HL.out]; omega
      have HPV' : Hid (PartsV w b ((cut M l).take (t + 1)) (vs ++ [.slice (some ⟨b, o', none⟩) q (c - k)])) := by
        have := HPV.out.snoc (p := (T.drop k).take q) (o := off + k * 3) (c := c - k) (by omega) (sl_part hs (by rw [HL.out]; omega))
        rw [hpl] at this
        unfold Hid; rw [List.take_add_one, hc1, ho2]; exact this
      have HRR' : Hid (fRun ((fFols x).drop (t + 1)) (T.drop (k + q)) = some []) := by unfold Hid; rw [List.drop_drop] at h6; exact h6
      have HCC' : Hid ((cut M l).drop (t + 1) = cut (M - (t + 1)) (T.drop (k + q))) := by unfold Hid; rw [List.drop_drop] at hc2; exact hc2
      have hkq : k + q ≤ n := by omega
      clear h1 h2 h3 h4 h5 h6 hc1 hc2 hq hr ha ho' ho2 hpl HRR HCC HPV
      obtain ⟨kq, hkq'⟩ : ∃ kq, kq = k + q := ⟨_, rfl⟩
      rw [← hkq'] at HE HRR' HCC' hkq hsl
      have h1i : (k : Int) ≤ (kq : Int) := by omega
      have h2i : (kq : Int) ≤ (c : Int) := by omega
      clear hkq'
      go_wp2_with fail
      refine (HE.out _ hB).mono ?_
      rintro e w2 ⟨rfl, b2⟩
      have ob := own_below' ho.out b2
      have B2 := below_step hB b2
      go_wp2_with (at_builtin; refine wpList_app rfl _ _ _ rfl Tryz.underlying84 infoFuncsE rfl (by omega) w w2 ob B2 rfl 1 #[.slice (some ⟨b, o', none⟩) q (c - k)] rfl (laid_below _ _) (heap_alloc_new _ _) rfl (by simp [Value.oneCell']) (by omega) (by unfold maxLen; omega) (by omega) ?_; intro g cap w3 own3 B3)
      go_roundw
      case rel => exact ⟨t + 1, kq, hlt, hkq, by go_num, rfl, HRR', HCC', ⟨_, _, _, rfl, own3, HPV'⟩, B3⟩
      case measure => simp [intOf]; omega
    · obtain rfl : t = M := by omega
      have HPV' : Hid (PartsV w b (cut t l) vs) := by have := HPV.out; rw [List.take_of_length_le (by rw [cut_len]; exact Nat.le_refl _)] at this; exact this
      go_wp2
      go_ret
      exact ⟨_, _, rfl, ho.out, HPV'.out, hB⟩
end Go.Proofs.YtkiaclajjlidoaaGreatDoor

/- CombToLam: what it gives; the reference's. -/
namespace Go.Proofs.YtkiaclajjlidoaaGreatDoor
open Go.RowKit
set_option linter.all false

theorem validC_le {xs : List R2} (h : validC xs = true) : 1 ≤ xs.length ∧ xs.length ≤ 400 := by
  unfold validC at h
  have := (inB_iff _ _ _).1 (Bool.and_eq_true _ _ ▸ h).1
  omega
theorem flatStep {α β : Type} (f : α → List β) {xs : List α} {k : Nat} {x : α} (h : xs[k]? = some x) : (xs.take (k + 1)).flatMap f = (xs.take k).flatMap f ++ f x := by
  rw [List.take_add_one, h]; simp
theorem flatLen {α β : Type} (f : α → List β) (m : Nat) (h : ∀ x, (f x).length ≤ m) (xs : List α) : (xs.flatMap f).length ≤ m * xs.length := by
  induction xs with
  | nil => simp
  | cons x l ih => rw [List.flatMap_cons, List.length_append, List.length_cons, Nat.mul_succ]; have := h x; omega

def txS : List UInt8 := [94, 94, 94, 40, 40, 50, 32, 48, 41, 32, 40, 49, 32, 48, 41, 41]
def txK : List UInt8 := [94, 94, 49]
def txI : List UInt8 := [94, 48]
set_option maxRecDepth 100000 in
theorem txS_ok : txOkB txS = true := by decide
theorem txK_ok : txOkB txK = true := by decide
theorem txI_ok : txOkB txI = true := by decide
/-- The terms of the combinators, by kind. -/
def ctlT (a : Int) : List R2 := if a = 0 then [⟨2, 0⟩] else if a = 1 then (tmOf txS).flat else if a = 2 then (tmOf txK).flat else (tmOf txI).flat
/-- What an element becomes. -/
def ctlE (x : R2) : List R2 := if x.a = 4 then [⟨0, x.b⟩] else ctlT x.a
def fitL (ys : List R2) : List R2 × Int := if validT ys = true then (ys, 0) else ([], 5)
/-- What CombToLam gives. -/
def combLam (xs : List R2) : List R2 × Int := if validC xs = true then fitL (xs.flatMap ctlE) else ([], 1)
theorem fitL_len (ys : List R2) : (fitL ys).1.length ≤ 400 := by
  unfold fitL
  split
  · rename_i h
    unfold validT at h
    rw [Bool.and_eq_true] at h
    have := (inB_iff _ _ _).1 h.1
    show ys.length ≤ 400
    omega
  · simp
theorem fitL_yes {ys : List R2} (h : validT ys = true) : fitL ys = (ys, 0) := by unfold fitL; rw [if_pos h]
theorem fitL_no {ys : List R2} (h : validT ys = false) : fitL ys = ([], 5) := by unfold fitL; rw [if_neg (by rw [h]; decide)]
theorem bndCombToLam0 (xs : List R2) (h : xs.length ≤ 1048576) : (combLam xs).1.length ≤ 1048576 := by
  unfold combLam
  split
  · have := fitL_len (xs.flatMap ctlE); omega
  · simp
theorem tm_len {l : List UInt8} (h : txOkB l = true) : (tmOf l).flat.length ≤ 60 := by
  have h1 := TxOk.of h
  have h2 := (tmOf l).text_len.2
  rw [h1.text] at h2
  have := h1.len
  omega
theorem ctlT_len (a : Int) : (ctlT a).length ≤ 60 := by
  unfold ctlT
  split
  · simp
  split
  · exact tm_len txS_ok
  split
  · exact tm_len txK_ok
  · exact tm_len txI_ok
theorem ctlE_len (x : R2) : (ctlE x).length ≤ 60 := by
  unfold ctlE
  split
  · simp
  · exact ctlT_len _
theorem validC_kind {xs : List R2} (h : validC xs = true) {x : R2} (hx : x ∈ xs) : x.a = 0 ∨ x.a = 1 ∨ x.a = 2 ∨ x.a = 3 ∨ x.a = 4 := by
  unfold validC at h
  simp only [Bool.and_eq_true] at h
  have h1 := List.all_eq_true.1 h.2.1 x hx
  unfold kOk at h1
  simp only [Bool.and_eq_true] at h1
  have := (inB_iff _ _ _).1 h1.1.1
  omega
theorem one_rows_Lam' (t : List R2) : ∀ u ∈ rows R2.vs t, u.oneCell' = true := by
  intro u hu
  unfold rows at hu
  obtain ⟨x, _, hx⟩ := List.mem_flatMap.1 hu
  simp [R2.vs] at hx
  rcases hx with rfl | rfl <;> rfl

theorem l12Fit_any (B n c : Nat) (A : Option Addr) (xs : List R2) (w : World) (hown : w.ownsRow B 45 2 (.slice A n c) n (rows R2.vs xs)) (hn : n ≤ 1048576) :
    Calls Tryz.prog 22 #[.slice A n c] w fun e w' => ∃ v, e = .returned (.tuple #[v, .int .i64 (fitL xs).2]) ∧ w'.ownsRow B 45 2 v (fitL xs).1.length (rows R2.vs (fitL xs).1) ∧ Below w.heap.size w w' := by
  have HL : Hid (xs.length = n) := by have := hown.1; rw [rows_len R2.vs_len] at this; unfold Hid; omega
  have HA := Lib.hid ((Src.of_own hown).args)
  have HO := Lib.hid hown
  clear hown
  rcases Bool.eq_false_or_eq_true (validT xs) with h | h
  · have HF := Lib.hid (fitL_yes h)
    have HV := Lib.hid (l12Is_is A n c xs true h w HA.out hn)
    clear h
    go_enter Tryz.func22, Tryz.ntmps22
    go_wp2_with fail
    refine HV.out.mono ?_
    rintro e w1 ⟨rfl, rfl⟩
    go_wp2_with fail
    go_ret2
    rw [HF.out]
    exact ⟨_, rfl, by show World.ownsRow _ _ _ _ _ xs.length _; rw [HL.out]; exact HO.out, Below.refl _ _⟩
  · have HF := Lib.hid (fitL_no h)
    have HV := Lib.hid (l12Is_is A n c xs false h w HA.out hn)
    clear h
    go_enter Tryz.func22, Tryz.ntmps22
    go_wp2_with fail
    refine HV.out.mono ?_
    rintro e w1 ⟨rfl, rfl⟩
    go_wp2_with fail
    go_ret2
    rw [HF.out]
    exact ⟨_, rfl, World.ownsRow_nil _ _ _ _, Below.refl _ _⟩
theorem checkedLam_any (B n c : Nat) (A : Option Addr) (xs : List R2) (w : World) (hown : w.ownsRow B 45 2 (.slice A n c) n (rows R2.vs xs)) (hn : n ≤ 1048576) :
    Calls Tryz.prog 26 #[.slice A n c] w fun e w' => ∃ v, e = .returned (.tuple #[v, .int .i64 (fitL xs).2]) ∧ w'.ownsRow B 45 2 v (fitL xs).1.length (rows R2.vs (fitL xs).1) ∧ Below w.heap.size w w' := by
  have HL : Hid (xs.length = n) := by have := hown.1; rw [rows_len R2.vs_len] at this; unfold Hid; omega
  have HA := Lib.hid ((Src.of_own hown).args)
  have HO := Lib.hid hown
  clear hown
  rcases Bool.eq_false_or_eq_true (validT xs) with h | h
  · have HF := Lib.hid (fitL_yes h)
    have HV := Lib.hid (validLam_is A n c xs true h w HA.out hn)
    clear h
    go_enter Tryz.func26, Tryz.ntmps26
    go_wp2_with fail
    refine HV.out.mono ?_
    rintro e w1 ⟨rfl, hb⟩
    go_wp2_with fail
    go_ret2
    rw [HF.out]
    exact ⟨_, rfl, by show World.ownsRow _ _ _ _ _ xs.length _; rw [HL.out]; exact own_below' HO.out hb, hb⟩
  · have HF := Lib.hid (fitL_no h)
    have HV := Lib.hid (validLam_is A n c xs false h w HA.out hn)
    clear h
    go_enter Tryz.func26, Tryz.ntmps26
    go_wp2_with fail
    refine HV.out.mono ?_
    rintro e w1 ⟨rfl, hb⟩
    go_wp2_with fail
    go_ret2
    rw [HF.out]
    exact ⟨_, rfl, World.ownsRow_nil _ _ _ _, hb⟩

def CtSt (w : World) (xs : List R2) (k : Nat) (V : Value) (W : World) : Prop :=
  W.ownsRow w.heap.size 45 2 V ((xs.take k).flatMap ctlE).length (rows R2.vs ((xs.take k).flatMap ctlE)) ∧ Below w.heap.size w W
theorem CtSt.put {w : World} {xs : List R2} {k m : Nat} {V V2 : Value} {W W1 W2 : World} {x : R2} (h : CtSt w xs k V W) (hb : Below W.heap.size W W1) (hx : xs[k]? = some x) {ys : List R2} (he : ctlE x = ys) (hm : ((xs.take k).flatMap ctlE).length = m)
    {q : Nat} (hq : ys.length = q) (own : W2.ownsRow w.heap.size 45 2 V2 (m + q) (rows R2.vs ((xs.take k).flatMap ctlE) ++ rows R2.vs ys)) (hg : W1.grownBy W2 V.ownBlock) : CtSt w xs (k + 1) V2 W2 := by
  subst he
  refine ⟨?_, grown_below (below_step h.2 hb) (own_below' h.1 hb) (Nat.le_refl _) hg⟩
  rw [flatStep ctlE hx, List.length_append, rows_app, hm, hq]; exact own

set_option maxRecDepth 100000 in
set_option maxHeartbeats 4000000 in
theorem specCombToLam_any (b off n c : Nat) (xs : List R2) (w : World) (hs : Sl w b off (rows R2.vs xs)) (hl : xs.length = n) (hn : n ≤ 1048576) (hc : n ≤ c) (hf : ∀ x ∈ xs, x.wf) :
    Calls Tryz.prog 6 #[.slice (some ⟨b, off, none⟩) n c] w fun e w' => ∃ v, e = .returned (.tuple #[v, .int .i64 (combLam xs).2]) ∧ w'.ownsRow w.heap.size 45 2 v (combLam xs).1.length (rows R2.vs (combLam xs).1) ∧ Below w.heap.size w w' := by
  have HA := Lib.hid (Args.of_sl hs (n := n) (by rw [rows_len R2.vs_len, hl]))
  have HL := Lib.hid hl
  rcases Bool.eq_false_or_eq_true (validC xs) with hv | hv
  rotate_left
  · have HF : Hid (combLam xs = ([], 1)) := by unfold Hid combLam; rw [if_neg (by rw [hv]; decide)]
    have HV := Lib.hid hv
    clear hv hl hf hs
    go_enter Tryz.func6, Tryz.ntmps6
    go_wp2_with fail
    refine (l12Comb_is _ n c xs false HV.out _ HA.out hn).mono ?_
    rintro e w1 ⟨rfl, rfl⟩
    go_wp2_with fail
    go_ret2
    rw [HF.out]
    exact ⟨_, rfl, World.ownsRow_nil _ _ _ _, Below.refl _ _⟩
  have HF : Hid (combLam xs = fitL (xs.flatMap ctlE)) := by unfold Hid combLam; rw [if_pos hv]
  have hn4 : n ≤ 400 := by have := validC_le hv; omega
  have HV := Lib.hid hv
  have HS := Lib.hid hs
  clear hv hl hf hs
  go_enter Tryz.func6, Tryz.ntmps6
  go_wp2_with fail
  refine (l12Comb_is _ n c xs true HV.out _ HA.out hn).mono ?_
  rintro e w1 ⟨rfl, rfl⟩
  obtain ⟨w2, HW2, b2, x2⟩ := al1 w (.cells #[] 45)
  have HM0 : Hid (CtSt w xs 0 (.slice (some ⟨w.heap.size, 0, none⟩) 0 0) w2) := by
    refine ⟨?_, b2⟩
    have := own_of_block (n := 0) (cap := 0) (s := 2) (xs := []) (base := w.heap.size) x2 (Nat.le_refl _) rfl (Nat.le_refl _) (Nat.zero_le _)
    rw [List.take_nil] at this
    exact this
  clear x2 b2
  go_wp2_with fail
  rw [← HW2.out]
  go_loopw [4, 5] (fun o i wr => ∃ (k : Nat) (V : Value), V = o ∧ i = .int .i64 (k : Int) ∧ k ≤ n ∧ Hid (CtSt w xs k V wr)) (fun _ i _ => n - (intOf i).toNat)
  case atStart => exact ⟨0, _, rfl, rfl, by omega, HM0⟩
  case round =>
    obtain ⟨k, V, rfl, rfl, hk, HM⟩ := hrel
    clear HM0
    obtain ⟨m, hm⟩ : ∃ m, ((xs.take k).flatMap ctlE).length = m := ⟨_, rfl⟩
    have HMM := Lib.hid hm
    have hm3 : m ≤ 24000 := by
      have := flatLen ctlE 60 ctlE_len (xs.take k)
      rw [List.length_take] at this
      omega
    have own := HM.out.1
    rw [hm] at own
    obtain ⟨AV, cV, hAV⟩ := own_form own
    subst hAV
    clear hm
    by_cases hkn : k < n
    · have hkI : (k : Int) < (n : Int) := by omega
      obtain ⟨x, HX⟩ := hget HL hkn
      have hkind := validC_kind HV.out (List.mem_of_getElem? HX.out)
      obtain ⟨p0, p1⟩ := (HS.out.below' HM.out.2).rec2 HX.out
      obtain ⟨xa, xb⟩ := x
      have hw1 : IntKind.i64.wrap ((k : Int) + 1) = (k : Int) + 1 := IntWalk.i64_in _ (by omega)
      have hB := HM.out.2
      dsimp only at hkind p0 p1
      rcases hkind with rfl | rfl | rfl | rfl | rfl
      · have HE : Hid (ctlE ⟨0, xb⟩ = [⟨2, 0⟩]) := by unfold Hid ctlE; rw [if_neg (by simp)]; rfl
        obtain ⟨w3, HW3, b3, x3⟩ := al1 wr (.cells #[.int .i64 2, .int .i64 0] 45)
        have HB3 := Lib.hid b3
        have own3 := own_below' own b3
        have hbz := (below_step hB b3).size
        have src3 : Src 2 w3 (.slice (some ⟨wr.heap.size, 0, none⟩) 1 1) 1 (rows R2.vs [⟨2, 0⟩]) := Src.of_own (own_of_block (n := 1) (cap := 1) (s := 2) (xs := [.int .i64 2, .int .i64 0]) (base := 0) x3 (by omega) rfl (by omega) (by unfold maxLen; omega))
        clear b3 x3 own hB
        go_wp2_with (at_builtin; rw [← HW3.out]; refine wpList_appx rfl _ _ _ rfl Tryz.underlying24 infoLam rfl (by omega) w.heap.size own3 hbz rfl src3 rfl (one_rows_Lam' _) (by unfold maxLen; omega) (by omega) ?_; intro V5 w5 own5 hg5 hnil5)
        have HM5 : Hid (CtSt w xs (k + 1) V5 w5) := HM.out.put HB3.out HX.out HE.out HMM.out rfl own5 hg5
        clear own3 own5 hg5 hnil5 src3
        go_roundw
        case rel => exact ⟨k + 1, _, rfl, by go_num, by omega, HM5⟩
        case measure => first | (simp [intOf]; done) | (simp [intOf]; omega)
      · have HE : Hid (ctlE ⟨1, xb⟩ = (tmOf txS).flat) := by unfold Hid ctlE; rw [if_neg (by simp)]; rfl
        obtain ⟨q, hq⟩ : ∃ q, (tmOf txS).flat.length = q := ⟨_, rfl⟩
        have hq6 : q ≤ 60 := by rw [← hq]; exact tm_len txS_ok
        have HRD := Lib.hid (l12Read_text ⟨#[94, 94, 94, 40, 40, 50, 32, 48, 41, 32, 40, 49, 32, 48, 41, 41]⟩ txS (tmOf txS) rfl (TxOk.of txS_ok))
        rw [hq] at HRD
        have HQ := Lib.hid hq
        have HOWN := Lib.hid own
        clear own hB hq
        go_wp2_with fail
        refine (HRD.out _).mono ?_
        rintro e w3 ⟨v3, rfl, ow3, b3⟩
        have HB3 := Lib.hid b3
        have own3 := own_below' HOWN.out b3
        have src3 := Src.of_own ow3
        have hbz := (below_step HM.out.2 b3).size
        obtain ⟨A3, c3, rfl⟩ := own_form ow3
        clear b3 ow3
        go_wp2_with (at_builtin; refine wpList_appx rfl _ _ _ rfl Tryz.underlying24 infoLam rfl (by omega) w.heap.size own3 hbz rfl src3 rfl (one_rows_Lam' _) (by unfold maxLen; omega) (by omega) ?_; intro V5 w5 own5 hg5 hnil5)
        have HM5 : Hid (CtSt w xs (k + 1) V5 w5) := HM.out.put HB3.out HX.out HE.out HMM.out HQ.out own5 hg5
        clear own3 own5 hg5 hnil5 src3
        go_roundw
        case rel => exact ⟨k + 1, _, rfl, by go_num, by omega, HM5⟩
        case measure => first | (simp [intOf]; done) | (simp [intOf]; omega)
      · have HE : Hid (ctlE ⟨2, xb⟩ = (tmOf txK).flat) := by unfold Hid ctlE; rw [if_neg (by simp)]; rfl
        obtain ⟨q, hq⟩ : ∃ q, (tmOf txK).flat.length = q := ⟨_, rfl⟩
        have hq6 : q ≤ 60 := by rw [← hq]; exact tm_len txK_ok
        have HRD := Lib.hid (l12Read_text ⟨#[94, 94, 49]⟩ txK (tmOf txK) rfl (TxOk.of txK_ok))
        rw [hq] at HRD
        have HQ := Lib.hid hq
        have HOWN := Lib.hid own
        clear own hB hq
        go_wp2_with fail
        refine (HRD.out _).mono ?_
        rintro e w3 ⟨v3, rfl, ow3, b3⟩
        have HB3 := Lib.hid b3
        have own3 := own_below' HOWN.out b3
        have src3 := Src.of_own ow3
        have hbz := (below_step HM.out.2 b3).size
        obtain ⟨A3, c3, rfl⟩ := own_form ow3
        clear b3 ow3
        go_wp2_with (at_builtin; refine wpList_appx rfl _ _ _ rfl Tryz.underlying24 infoLam rfl (by omega) w.heap.size own3 hbz rfl src3 rfl (one_rows_Lam' _) (by unfold maxLen; omega) (by omega) ?_; intro V5 w5 own5 hg5 hnil5)
        have HM5 : Hid (CtSt w xs (k + 1) V5 w5) := HM.out.put HB3.out HX.out HE.out HMM.out HQ.out own5 hg5
        clear own3 own5 hg5 hnil5 src3
        go_roundw
        case rel => exact ⟨k + 1, _, rfl, by go_num, by omega, HM5⟩
        case measure => first | (simp [intOf]; done) | (simp [intOf]; omega)
      · have HE : Hid (ctlE ⟨3, xb⟩ = (tmOf txI).flat) := by unfold Hid ctlE; rw [if_neg (by simp)]; rfl
        obtain ⟨q, hq⟩ : ∃ q, (tmOf txI).flat.length = q := ⟨_, rfl⟩
        have hq6 : q ≤ 60 := by rw [← hq]; exact tm_len txI_ok
        have HRD := Lib.hid (l12Read_text ⟨#[94, 48]⟩ txI (tmOf txI) rfl (TxOk.of txI_ok))
        rw [hq] at HRD
        have HQ := Lib.hid hq
        have HOWN := Lib.hid own
        clear own hB hq
        go_wp2_with fail
        refine (HRD.out _).mono ?_
        rintro e w3 ⟨v3, rfl, ow3, b3⟩
        have HB3 := Lib.hid b3
        have own3 := own_below' HOWN.out b3
        have src3 := Src.of_own ow3
        have hbz := (below_step HM.out.2 b3).size
        obtain ⟨A3, c3, rfl⟩ := own_form ow3
        clear b3 ow3
        go_wp2_with (at_builtin; refine wpList_appx rfl _ _ _ rfl Tryz.underlying24 infoLam rfl (by omega) w.heap.size own3 hbz rfl src3 rfl (one_rows_Lam' _) (by unfold maxLen; omega) (by omega) ?_; intro V5 w5 own5 hg5 hnil5)
        have HM5 : Hid (CtSt w xs (k + 1) V5 w5) := HM.out.put HB3.out HX.out HE.out HMM.out HQ.out own5 hg5
        clear own3 own5 hg5 hnil5 src3
        go_roundw
        case rel => exact ⟨k + 1, _, rfl, by go_num, by omega, HM5⟩
        case measure => first | (simp [intOf]; done) | (simp [intOf]; omega)
      · have HE : Hid (ctlE ⟨4, xb⟩ = [⟨0, xb⟩]) := by unfold Hid ctlE; rw [if_pos rfl]
        obtain ⟨w3, HW3, b3, x3⟩ := al1 wr (.cells #[.int .i64 0, .int .i64 xb] 45)
        have HB3 := Lib.hid b3
        have own3 := own_below' own b3
        have hbz := (below_step hB b3).size
        have src3 : Src 2 w3 (.slice (some ⟨wr.heap.size, 0, none⟩) 1 1) 1 (rows R2.vs [⟨0, xb⟩]) := Src.of_own (own_of_block (n := 1) (cap := 1) (s := 2) (xs := [.int .i64 0, .int .i64 xb]) (base := 0) x3 (by omega) rfl (by omega) (by unfold maxLen; omega))
        clear b3 x3 own hB
        go_wp2_with (at_builtin; rw [← HW3.out]; refine wpList_appx rfl _ _ _ rfl Tryz.underlying24 infoLam rfl (by omega) w.heap.size own3 hbz rfl src3 rfl (one_rows_Lam' _) (by unfold maxLen; omega) (by omega) ?_; intro V5 w5 own5 hg5 hnil5)
        have HM5 : Hid (CtSt w xs (k + 1) V5 w5) := HM.out.put HB3.out HX.out HE.out HMM.out rfl own5 hg5
        clear own3 own5 hg5 hnil5 src3
        go_roundw
        case rel => exact ⟨k + 1, _, rfl, by go_num, by omega, HM5⟩
        case measure => first | (simp [intOf]; done) | (simp [intOf]; omega)
    · obtain rfl : k = n := by omega
      have hkI : ¬ (k : Int) < (k : Int) := by omega
      have HE : Hid (xs.take k = xs) := List.take_of_length_le (Nat.le_of_eq HL.out)
      have HB := Lib.hid HM.out.2
      have HO : Hid (wr.ownsRow w.heap.size 45 2 (.slice AV m cV) m (rows R2.vs (xs.flatMap ctlE))) := by rw [HE.out] at own; exact own
      clear own
      go_wp2_with fail
      refine (l12Fit_any w.heap.size m cV AV _ wr HO.out (by omega)).mono ?_
      rintro e w3 ⟨v, rfl, own3, b3⟩
      have HO3 := Lib.hid own3
      clear own3
      go_wp2_with fail
      go_ret2
      rw [HF.out]
      exact ⟨_, rfl, HO3.out, below_step HB.out b3⟩
end Go.Proofs.YtkiaclajjlidoaaGreatDoor
