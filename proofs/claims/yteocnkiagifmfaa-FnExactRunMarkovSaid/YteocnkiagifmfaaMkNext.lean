/- StepMarkov and RunMarkov of the program. -/
import Derived.Test.YteocnkiagifmfaaMkSpec
import Derived.Test.YteocnkiagifmfaaApplyRw
namespace Go.Proofs.Yteocnkiagifmfaa
open Go.RowKit
set_option linter.all false

/-- The next word and the rule; -1 where no rule occurs. -/
def nextMk (xs : List DMarkovRule) (w : List Int) : List Int × Int :=
  match xs[(ruleMk w 0 xs).1.toNat]? with
  | some r => if (ruleMk w 0 xs).1 < 0 then ([], -1) else (putL w (ruleMk w 0 xs).2 r.f0.length r.f1, (ruleMk w 0 xs).1)
  | none => ([], -1)
theorem nextMk_none {xs : List DMarkovRule} {w : List Int} {a : Nat} (h : ruleMk w 0 xs = (-1, a)) : nextMk xs w = ([], -1) := by
  unfold nextMk
  rw [h]
  split
  · rw [if_pos (by omega)]
  · rfl
theorem nextMk_some {xs : List DMarkovRule} {w : List Int} {i a : Nat} {r : DMarkovRule} (hr : xs[i]? = some r) (h : ruleMk w 0 xs = ((i : Int), a)) : nextMk xs w = (putL w a r.f0.length r.f1, (i : Int)) := by
  unfold nextMk
  rw [h]
  simp only [Int.toNat_natCast, hr]
  rw [if_neg (by omega)]
theorem starts_nil (p : List Int) : startsB [] 0 p = decide (p.length = 0) := by
  unfold startsB
  cases p with
  | nil => rfl
  | cons a l => simp
theorem findMk_nil (r : DMarkovRule) : findMk r [] = if r.f0.length = 0 then 0 else -1 := by
  by_cases h : r.f0.length = 0
  · rw [if_pos h]
    exact findMk_yes (k := 0) (Nat.le_refl _) (by rw [starts_nil, decide_eq_true h]) (by intro j hj; omega)
  · rw [if_neg h]
    refine findMk_no fun j hj => ?_
    obtain rfl : j = 0 := by simp at hj; omega
    rw [starts_nil, decide_eq_false h]

set_option maxRecDepth 100000 in
set_option maxHeartbeats 2000000 in
theorem implNextMk_sl (b off n c : Nat) (es : List EMarkovRule) (xs : List DMarkovRule) (b1 o1 n1 c1 : Nat) (x : List Int) (w : World) (hs : Sl w b off (rows EMarkovRule.vs es)) (hr : RcsMarkovRule w es) (hd : es.map (·.d) = xs) (hl : xs.length = n) (hn : n ≤ 1048576) (ht : sumMarkovRule xs ≤ 1048576) (hs1 : Sl w b1 o1 (x.map (.int .i64))) (hl1 : x.length = n1) (hn1 : n1 ≤ 1048576) (hc1 : n1 ≤ c1) :
    Calls Try.prog 99 #[.slice (some ⟨b, off, none⟩) n c, .slice (some ⟨b1, o1, none⟩) n1 c1] w fun e w' => ∃ v, e = .returned (.tuple #[v, .int .i64 (nextMk xs x).2]) ∧
      w'.ownsRow w.heap.size 2 1 v (nextMk xs x).1.length ((nextMk xs x).1.map (.int .i64)) ∧ Below w.heap.size w w' := by
  have HL := Lib.hid hl; have HD := Lib.hid hd; have HT := Lib.hid ht
  have HE : Hid (es.length = n) := by unfold Hid; rw [← hl, ← hd, List.length_map]
  have HL1 := Lib.hid hl1
  clear hl hd ht hl1
  go_enter Try.func99, Try.ntmps99
  go_wp2_with fail
  go_loopw [11] (fun i wo => ∃ k : Nat, k ≤ n ∧ i = .int .i64 k ∧ Below w.heap.size w wo ∧ Hid (∀ j r, j < k → xs[j]? = some r → findMk r x = -1)) (fun i _ => n - (intOf i).toNat)
  case atStart => exact ⟨0, Nat.zero_le _, rfl, Below.refl _ _, by intro j x hj; omega⟩
  case round =>
    obtain ⟨k, hk, rfl, hB, HR⟩ := hrel
    obtain ⟨wo, rfl⟩ : ∃ wo, wo = wr := ⟨_, rfl⟩
    by_cases hlt : k < n
    rotate_left
    · have HF : Hid (nextMk xs x = ([], -1)) := by
        refine nextMk_none (a := 0) (ruleMk_none ?_); intro j r hj; exact HR.out j r (by have := (List.getElem?_eq_some_iff.1 hj).1; have := HL.out; omega) hj
      go_wp2_with fail
      go_ret2
      exact ⟨_, ends2 (by rw [HF.out]), by rw [HF.out]; exact World.ownsRow_nil _ _ _ _, hB⟩
    obtain ⟨e, HX⟩ := hget HE hlt
    have HXD : Hid (xs[k]? = some e.d) := by unfold Hid; rw [← HD.out, List.getElem?_map, HX.out]; rfl
    have hwl : wlMarkovRule e.d ≤ 1048576 := Nat.le_trans (sumMarkovRule_at HXD.out) HT.out
    obtain ⟨⟨g0, eu0, s0⟩, ⟨g1, eu1, s1⟩, -⟩ := (hr.below hB).at (List.mem_of_getElem? HX.out)
    have p0 : wo.cell? ⟨b, off + k * 3, none⟩ = some e.u0 := Sl.rec (f := EMarkovRule.vs) (s := 3) (fun _ => rfl) (hs.below' hB) HX.out (j := 0) rfl
    have p1 : wo.cell? ⟨b, off + k * 3 + 1, none⟩ = some e.u1 := Sl.rec (f := EMarkovRule.vs) (s := 3) (fun _ => rfl) (hs.below' hB) HX.out (j := 1) rfl
    have p2 : wo.cell? ⟨b, off + k * 3 + 2, none⟩ = some (.bool e.d.f2) := Sl.rec (f := EMarkovRule.vs) (s := 3) (fun _ => rfl) (hs.below' hB) HX.out (j := 2) rfl
    rw [eu0] at p0
    rw [eu1] at p1
    clear eu0 eu1
    obtain ⟨⟨f0, f1, f2⟩, u0, u1⟩ := e
    dsimp only at p0 p1 p2 s0 s1 hwl HXD
    simp only [wlMarkovRule] at hwl
    obtain ⟨m0, hm0⟩ : ∃ q, q = f0.length := ⟨_, rfl⟩
    obtain ⟨m1, hm1⟩ : ∃ q, q = f1.length := ⟨_, rfl⟩
    rw [← hm0] at p0 hwl
    rw [← hm1] at p1 hwl
    have HM0 := Lib.hid hm0.symm
    have HM1 := Lib.hid hm1.symm
    clear hm0 hm1
    obtain ⟨w0, HW0, B0, x0⟩ := al1 wo (.cells #[.slice (some ⟨g0, 0, none⟩) m0 m0, .slice (some ⟨g1, 0, none⟩) m1 m1, .bool f2] 124)
    have HX0 := Lib.hid x0; clear x0
    have hB0 := below_step hB B0
    clear hs hr
    go_wp2_with fail
    rw [← HW0.out]
    go_loopw [8] (fun i wr => ∃ a : Nat, a ≤ n1 + 1 ∧ i = .int .i64 a ∧ Below w0.heap.size w0 wr ∧ Hid (∀ j, j < a → startsB x j f0 = false)) (fun i _ => n1 + 2 - (intOf i).toNat)
    case atStart => exact ⟨0, Nat.zero_le _, rfl, Below.refl _ _, by intro j hj; omega⟩
    case round =>
      obtain ⟨a, ha, rfl, hBi, HS⟩ := hrel
      have HX1 := Lib.hid ((hBi.block _ (heap_lt HX0.out)).trans HX0.out)
      have hB1 := below_step hB0 hBi
      by_cases hle : a ≤ n1
      rotate_left
      · have HNO : Hid (findMk ⟨f0, f1, f2⟩ x = -1) := findMk_no (fun j hj => HS.out j (by have := HL1.out; omega))
        go_wp2_with fail
        go_roundw
        case rel => exact ⟨k + 1, by omega, by go_num, hB1, by
          intro j r hj hr2
          by_cases ej : j = k
          · subst ej; rw [HXD.out] at hr2; injection hr2 with hr2; subst hr2; exact HNO.out
          · exact HR.out j r (by omega) hr2⟩
        case measure => simp [intOf]; omega
      have hs1i := hs1.below' hB1
      have s0i := s0.below' (below_step B0 hBi)
      have s1i := s1.below' (below_step B0 hBi)
      have k0 : wr.cell? ⟨wo.heap.size, 0, none⟩ = some (.slice (some ⟨g0, 0, none⟩) m0 m0) := by rw [cell_of_heap HX1.out]; rfl
      have k1 : wr.cell? ⟨wo.heap.size, 1, none⟩ = some (.slice (some ⟨g1, 0, none⟩) m1 m1) := by rw [cell_of_heap HX1.out]; rfl
      rcases Bool.eq_false_or_eq_true (startsB x a f0) with hst | hst
      rotate_left
      · have HT : Hid (startsB (x.drop a) 0 f0 = false) := by unfold Hid; rw [starts_drop _ _ _ (by have := HL1.out; omega)]; exact hst
        have HS2 : Hid (∀ j, j < a + 1 → startsB x j f0 = false) := by
          intro j hj
          by_cases ej : j = a
          · subst ej; exact hst
          · exact HS.out j (by omega)
        clear hst
        by_cases hck : c1 = a
        · have HD0 : Hid (x.drop a = []) := by unfold Hid; exact List.drop_of_length_le (by have := HL1.out; omega)
          subst hck
          have hsd : Sl wr b1 o1 ((x.drop c1).map (.int .i64)) := by rw [HD0.out]; exact Sl.empty hs1i.1
          have HLD : Hid ((x.drop c1).length = 0) := by unfold Hid; rw [HD0.out]; rfl
          have i1 : (c1 : Int) ≤ (c1 : Int) := by omega
          have i2 : (c1 : Int) ≤ (n1 : Int) := by omega
          have i5 : 0 ≤ (c1 : Int) := by omega
          go_wp2_with fail
          go_quiet ((go_at_call 158; exact quiet_q (begins_is _ _ _ _ (x.drop c1) g0 0 m0 m0 f0 false HT.out _ (by exact hsd) HLD.out (by omega) (by exact s0i) HM0.out (by omega) (by omega))))
          go_wp2_with fail
          go_roundw
          case rel => exact ⟨c1 + 1, by omega, by go_num, below_drewN hBi nq, HS2.out⟩
          case measure => simp [intOf]; omega
        · have hac : a < c1 := by omega
          have hsd := hs1i.from a
          have HLD : Hid ((x.drop a).length = n1 - a) := by have := HL1.out; unfold Hid; simp; omega
          have i1 : (a : Int) ≤ (c1 : Int) := by omega
          have i2 : (a : Int) ≤ (n1 : Int) := by omega
          have i5 : 0 ≤ (a : Int) := by omega
          go_wp2_with fail
          go_quiet ((go_at_call 158; exact quiet_q (begins_is _ _ _ _ (x.drop a) g0 0 m0 m0 f0 false HT.out _ (by exact hsd) HLD.out (by omega) (by exact s0i) HM0.out (by omega) (by omega))))
          go_wp2_with fail
          go_roundw
          case rel => exact ⟨a + 1, by omega, by go_num, below_drewN hBi nq, HS2.out⟩
          case measure => simp [intOf]; omega
      have HT : Hid (startsB (x.drop a) 0 f0 = true) := by unfold Hid; rw [starts_drop _ _ _ (by have := HL1.out; omega)]; exact hst
      have hkm := starts_le hst
      rw [HL1.out, HM0.out] at hkm
      have HYES : Hid (findMk ⟨f0, f1, f2⟩ x = a) := findMk_yes (by have := HL1.out; omega) hst HS.out
      have HF : Hid (nextMk xs x = (putL x a m0 f1, (k : Int))) := by
        have h := ruleMk_found (k := 0) HR.out HXD.out HYES.out
        rw [Nat.zero_add] at h
        unfold Hid; rw [nextMk_some HXD.out h]; show (putL x a f0.length f1, _) = _; rw [HM0.out]
      have HPL : Hid ((putL x a m0 f1).length = n1 - m0 + m1) := by unfold Hid; rw [putL_length _ _ _ _ (by have := HL1.out; omega), HL1.out, HM1.out]
      clear hst
      by_cases hck : c1 = a
      · have HD0 : Hid (x.drop a = []) := by unfold Hid; exact List.drop_of_length_le (by have := HL1.out; omega)
        subst hck
        have hsd : Sl wr b1 o1 ((x.drop c1).map (.int .i64)) := by rw [HD0.out]; exact Sl.empty hs1i.1
        have HLD : Hid ((x.drop c1).length = 0) := by unfold Hid; rw [HD0.out]; rfl
        have i1 : (c1 : Int) ≤ (c1 : Int) := by omega
        have i2 : (c1 : Int) ≤ (n1 : Int) := by omega
        have i5 : 0 ≤ (c1 : Int) := by omega
        go_wp2_with fail
        go_quiet ((go_at_call 158; exact quiet_q (begins_is _ _ _ _ (x.drop c1) g0 0 m0 m0 f0 true HT.out _ (by exact hsd) HLD.out (by omega) (by exact s0i) HM0.out (by omega) (by omega))))
        have hbq : Below wr.heap.size wr (wr.drewN nq) := below_drewN (Below.refl _ _) nq
        have hBq := below_step hB1 hbq
        have hs1q := hs1i.below' hbq
        have s1q := s1i.below' hbq
        have k0q : (wr.drewN nq).cell? ⟨wo.heap.size, 0, none⟩ = some (.slice (some ⟨g0, 0, none⟩) m0 m0) := k0
        have k1q : (wr.drewN nq).cell? ⟨wo.heap.size, 1, none⟩ = some (.slice (some ⟨g1, 0, none⟩) m1 m1) := k1
        clear k0 k1 hs1i s0i s1i hsd
        generalize wr.drewN nq = wq at *
        go_wp2_with fail
        refine (replaced_any b1 o1 n1 c1 x c1 m0 g1 0 m1 m1 f1 _ hs1q HL1.out (by omega) s1q HM1.out (by omega) hkm hc1).mono ?_
        rintro e w3 ⟨v, rfl, hown, hB3⟩
        have hB4 := below_step hBq hB3
        have hown2 := own_base hown hBq.size
        obtain ⟨A, d, rfl⟩ := own_form hown2
        clear hown hB3
        go_wp2_with fail
        go_ret2
        exact ⟨_, ends2 (by rw [HF.out]), own_res (by rw [HF.out]) HPL.out hown2, hB4⟩
      · have hac : a < c1 := by omega
        have hsd := hs1i.from a
        have HLD : Hid ((x.drop a).length = n1 - a) := by have := HL1.out; unfold Hid; simp; omega
        have i1 : (a : Int) ≤ (c1 : Int) := by omega
        have i2 : (a : Int) ≤ (n1 : Int) := by omega
        have i5 : 0 ≤ (a : Int) := by omega
        go_wp2_with fail
        go_quiet ((go_at_call 158; exact quiet_q (begins_is _ _ _ _ (x.drop a) g0 0 m0 m0 f0 true HT.out _ (by exact hsd) HLD.out (by omega) (by exact s0i) HM0.out (by omega) (by omega))))
        have hbq : Below wr.heap.size wr (wr.drewN nq) := below_drewN (Below.refl _ _) nq
        have hBq := below_step hB1 hbq
        have hs1q := hs1i.below' hbq
        have s1q := s1i.below' hbq
        have k0q : (wr.drewN nq).cell? ⟨wo.heap.size, 0, none⟩ = some (.slice (some ⟨g0, 0, none⟩) m0 m0) := k0
        have k1q : (wr.drewN nq).cell? ⟨wo.heap.size, 1, none⟩ = some (.slice (some ⟨g1, 0, none⟩) m1 m1) := k1
        clear k0 k1 hs1i s0i s1i hsd
        generalize wr.drewN nq = wq at *
        go_wp2_with fail
        refine (replaced_any b1 o1 n1 c1 x a m0 g1 0 m1 m1 f1 _ hs1q HL1.out (by omega) s1q HM1.out (by omega) hkm hc1).mono ?_
        rintro e w3 ⟨v, rfl, hown, hB3⟩
        have hB4 := below_step hBq hB3
        have hown2 := own_base hown hBq.size
        obtain ⟨A, d, rfl⟩ := own_form hown2
        clear hown hB3
        go_wp2_with fail
        go_ret2
        exact ⟨_, ends2 (by rw [HF.out]), own_res (by rw [HF.out]) HPL.out hown2, hB4⟩

set_option maxRecDepth 100000 in
set_option maxHeartbeats 2000000 in
theorem implNextMk_nil (b off n c : Nat) (es : List EMarkovRule) (xs : List DMarkovRule) (w : World) (hs : Sl w b off (rows EMarkovRule.vs es)) (hr : RcsMarkovRule w es) (hd : es.map (·.d) = xs) (hl : xs.length = n) (hn : n ≤ 1048576) (ht : sumMarkovRule xs ≤ 1048576) :
    Calls Try.prog 99 #[.slice (some ⟨b, off, none⟩) n c, .slice none 0 0] w fun e w' => ∃ v, e = .returned (.tuple #[v, .int .i64 (nextMk xs []).2]) ∧
      w'.ownsRow w.heap.size 2 1 v (nextMk xs []).1.length ((nextMk xs []).1.map (.int .i64)) ∧ Below w.heap.size w w' := by
  have HL := Lib.hid hl; have HD := Lib.hid hd; have HT := Lib.hid ht
  have HE : Hid (es.length = n) := by unfold Hid; rw [← hl, ← hd, List.length_map]
  clear hl hd ht
  go_enter Try.func99, Try.ntmps99
  go_wp2_with fail
  go_loopw [11] (fun i wo => ∃ k : Nat, k ≤ n ∧ i = .int .i64 k ∧ Below w.heap.size w wo ∧ Hid (∀ j r, j < k → xs[j]? = some r → findMk r [] = -1)) (fun i _ => n - (intOf i).toNat)
  case atStart => exact ⟨0, Nat.zero_le _, rfl, Below.refl _ _, by intro j x hj; omega⟩
  case round =>
    obtain ⟨k, hk, rfl, hB, HR⟩ := hrel
    obtain ⟨wo, rfl⟩ : ∃ wo, wo = wr := ⟨_, rfl⟩
    by_cases hlt : k < n
    rotate_left
    · have HF : Hid (nextMk xs [] = ([], -1)) := by
        refine nextMk_none (a := 0) (ruleMk_none ?_); intro j r hj; exact HR.out j r (by have := (List.getElem?_eq_some_iff.1 hj).1; have := HL.out; omega) hj
      go_wp2_with fail
      go_ret2
      exact ⟨_, ends2 (by rw [HF.out]), by rw [HF.out]; exact World.ownsRow_nil _ _ _ _, hB⟩
    obtain ⟨e, HX⟩ := hget HE hlt
    have HXD : Hid (xs[k]? = some e.d) := by unfold Hid; rw [← HD.out, List.getElem?_map, HX.out]; rfl
    have hwl : wlMarkovRule e.d ≤ 1048576 := Nat.le_trans (sumMarkovRule_at HXD.out) HT.out
    obtain ⟨⟨g0, eu0, s0⟩, ⟨g1, eu1, s1⟩, -⟩ := (hr.below hB).at (List.mem_of_getElem? HX.out)
    have p0 : wo.cell? ⟨b, off + k * 3, none⟩ = some e.u0 := Sl.rec (f := EMarkovRule.vs) (s := 3) (fun _ => rfl) (hs.below' hB) HX.out (j := 0) rfl
    have p1 : wo.cell? ⟨b, off + k * 3 + 1, none⟩ = some e.u1 := Sl.rec (f := EMarkovRule.vs) (s := 3) (fun _ => rfl) (hs.below' hB) HX.out (j := 1) rfl
    have p2 : wo.cell? ⟨b, off + k * 3 + 2, none⟩ = some (.bool e.d.f2) := Sl.rec (f := EMarkovRule.vs) (s := 3) (fun _ => rfl) (hs.below' hB) HX.out (j := 2) rfl
    rw [eu0] at p0
    rw [eu1] at p1
    clear eu0 eu1
    obtain ⟨⟨f0, f1, f2⟩, u0, u1⟩ := e
    dsimp only at p0 p1 p2 s0 s1 hwl HXD
    simp only [wlMarkovRule] at hwl
    obtain ⟨m0, hm0⟩ : ∃ q, q = f0.length := ⟨_, rfl⟩
    obtain ⟨m1, hm1⟩ : ∃ q, q = f1.length := ⟨_, rfl⟩
    rw [← hm0] at p0 hwl
    rw [← hm1] at p1 hwl
    have HM0 := Lib.hid hm0.symm
    have HM1 := Lib.hid hm1.symm
    clear hm0 hm1
    obtain ⟨w0, HW0, B0, x0⟩ := al1 wo (.cells #[.slice (some ⟨g0, 0, none⟩) m0 m0, .slice (some ⟨g1, 0, none⟩) m1 m1, .bool f2] 124)
    have HX0 := Lib.hid x0; clear x0
    have hB0 := below_step hB B0
    clear hs hr
    go_wp2_with fail
    rw [← HW0.out]
    go_loopw [8] (fun i wr => ∃ a : Nat, a ≤ 1 ∧ i = .int .i64 a ∧ Below w0.heap.size w0 wr ∧ Hid (a = 1 → m0 ≠ 0)) (fun i _ => 2 - (intOf i).toNat)
    case atStart => exact ⟨0, Nat.zero_le _, rfl, Below.refl _ _, by intro h; omega⟩
    case round =>
      obtain ⟨a, ha, rfl, hBi, HS⟩ := hrel
      have HX1 := Lib.hid ((hBi.block _ (heap_lt HX0.out)).trans HX0.out)
      have hB1 := below_step hB0 hBi
      by_cases hle : a = 0
      rotate_left
      · have hm0 : m0 ≠ 0 := HS.out (by omega)
        obtain rfl : a = 1 := by omega
        have HNO : Hid (findMk ⟨f0, f1, f2⟩ [] = -1) := by unfold Hid; rw [findMk_nil]; show (if f0.length = 0 then _ else _) = _; rw [HM0.out, if_neg hm0]
        clear hm0
        go_wp2_with fail
        go_roundw
        case rel => exact ⟨k + 1, by omega, by go_num, hB1, by
          intro j r hj hr2
          by_cases ej : j = k
          · subst ej; rw [HXD.out] at hr2; injection hr2 with hr2; subst hr2; exact HNO.out
          · exact HR.out j r (by omega) hr2⟩
        case measure => simp [intOf]; omega
      subst hle
      have s1i := s1.below' (below_step B0 hBi)
      have k0 : wr.cell? ⟨wo.heap.size, 0, none⟩ = some (.slice (some ⟨g0, 0, none⟩) m0 m0) := by rw [cell_of_heap HX1.out]; rfl
      have k1 : wr.cell? ⟨wo.heap.size, 1, none⟩ = some (.slice (some ⟨g1, 0, none⟩) m1 m1) := by rw [cell_of_heap HX1.out]; rfl
      by_cases hm0 : m0 = 0
      rotate_left
      · have HM := Lib.hid hm0
        clear hm0
        go_wp2_with fail
        go_quiet ((go_at_call 158; exact quiet_q (begins_nil g0 0 m0 m0 _ (by omega) false (decide_eq_false HM.out))))
        go_wp2_with fail
        go_roundw
        case rel => exact ⟨1, by omega, by go_num, below_drewN hBi nq, fun _ => HM.out⟩
        case measure => simp [intOf]
      have HYES : Hid (findMk ⟨f0, f1, f2⟩ [] = (0 : Nat)) := by unfold Hid; rw [findMk_nil]; show (if f0.length = 0 then _ else _) = _; rw [HM0.out, if_pos hm0]; rfl
      subst hm0
      have HF : Hid (nextMk xs [] = (f1, (k : Int))) := by
        have h := ruleMk_found (k := 0) HR.out HXD.out HYES.out
        rw [Nat.zero_add] at h
        unfold Hid; rw [nextMk_some HXD.out h]; show (putL [] 0 f0.length f1, _) = _; unfold putL; simp
      go_wp2_with fail
      go_quiet ((go_at_call 158; exact quiet_q (begins_nil g0 0 0 0 _ (by omega) true rfl)))
      have hbq : Below wr.heap.size wr (wr.drewN nq) := below_drewN (Below.refl _ _) nq
      have hBq := below_step hB1 hbq
      have s1q := s1i.below' hbq
      have k0q : (wr.drewN nq).cell? ⟨wo.heap.size, 0, none⟩ = some (.slice (some ⟨g0, 0, none⟩) 0 0) := k0
      have k1q : (wr.drewN nq).cell? ⟨wo.heap.size, 1, none⟩ = some (.slice (some ⟨g1, 0, none⟩) m1 m1) := k1
      clear k0 k1 s1i
      generalize wr.drewN nq = wq at *
      go_wp2_with fail
      refine (replaced_nil g1 0 m1 m1 f1 _ s1q HM1.out (by omega)).mono ?_
      rintro e w3 ⟨v, rfl, hown, hB3⟩
      have hB4 := below_step hBq hB3
      have hown2 := own_base hown hBq.size
      obtain ⟨A, d, rfl⟩ := own_form hown2
      clear hown hB3
      go_wp2_with fail
      go_ret2
      exact ⟨_, ends2 (by rw [HF.out]), own_res (by rw [HF.out]) HM1.out hown2, hB4⟩

theorem implNextMk_any (b off n c : Nat) (es : List EMarkovRule) (xs : List DMarkovRule) (v0 : Value) (n1 : Nat) (x : List Int) (w : World) (hs : Sl w b off (rows EMarkovRule.vs es)) (hr : RcsMarkovRule w es) (hd : es.map (·.d) = xs) (hl : xs.length = n) (hn : n ≤ 1048576) (ht : sumMarkovRule xs ≤ 1048576) (B : Nat) (hown : w.ownsRow B 2 1 v0 n1 (x.map (.int .i64))) (hn1 : n1 ≤ 1048576) :
    Calls Try.prog 99 #[.slice (some ⟨b, off, none⟩) n c, v0] w fun e w' => ∃ v, e = .returned (.tuple #[v, .int .i64 (nextMk xs x).2]) ∧
      w'.ownsRow w.heap.size 2 1 v (nextMk xs x).1.length ((nextMk xs x).1.map (.int .i64)) ∧ Below w.heap.size w w' := by
  have hl1 : x.length = n1 := by have := hown.1; rw [List.length_map] at this; omega
  rcases own_cases hown with ⟨rfl, rfl⟩ | ⟨g, d, rfl, hcap⟩
  · obtain rfl : x = [] := List.eq_nil_of_length_eq_zero hl1
    exact implNextMk_nil b off n c es xs w hs hr hd hl hn ht
  · exact implNextMk_sl b off n c es xs g 0 n1 d x w hs hr hd hl hn ht (sl_of_own hown) hl1 hn1 hcap
end Go.Proofs.Yteocnkiagifmfaa
