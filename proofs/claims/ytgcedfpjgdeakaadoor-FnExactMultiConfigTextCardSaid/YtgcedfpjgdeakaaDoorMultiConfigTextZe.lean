/- The law FnExactMultiConfigText returns true for every input, and each argument reads afterwards as before: the proof, part 5. No conditions. -/
import Derived.Test.YtgcedfpjgdeakaaDoorMultiConfigTextZd
import Derived.Deep.DeepCutAuto
/- Valid rules and tapes of machines with several tapes, by the program: slices.Compare, compareMultiRules, validSide, validTape. -/
namespace Go.Proofs.YtgcedfpjgdeakaaDoor
open Go.RowKit
set_option linter.all false

def cmpC (x y : Int) : Int := if x < y then -1 else if y < x then 1 else 0
theorem isNaN_any (x : Int) (w : World) : Calls Tryd.prog 138 #[.int .i64 x] w fun e w' => e = .returned (.bool false) ∧ w = w' := by
  have h : (x != x) = false := by simp
  go_enter Tryd.func138, Tryd.ntmps138
  go_wp2_with fail
  go_ret
  exact ⟨rfl, rfl⟩
theorem cmpCompare_any (x y z : Int) (hz : cmpC x y = z) (w : World) : Calls Tryd.prog 123 #[.int .i64 x, .int .i64 y] w fun e w' => e = .returned (.int .i64 z) ∧ w = w' := by
  rcases Int.lt_trichotomy x y with h | h | h
  · have HF : Hid (z = -1) := by unfold Hid; rw [← hz]; exact if_pos h
    clear hz
    go_enter Tryd.func123, Tryd.ntmps123
    go_wp2_with (go_at_call 138; refine (isNaN_any _ _).mono ?_; rintro e w' ⟨rfl, rfl⟩)
    go_ret
    exact ⟨ret_int HF.out.symm, rfl⟩
  · have HF : Hid (z = 0) := by unfold Hid; rw [← hz]; unfold cmpC; rw [if_neg (by omega), if_neg (by omega)]
    subst h
    clear hz
    go_enter Tryd.func123, Tryd.ntmps123
    go_wp2_with (go_at_call 138; refine (isNaN_any _ _).mono ?_; rintro e w' ⟨rfl, rfl⟩)
    go_ret
    exact ⟨ret_int HF.out.symm, rfl⟩
  · have HF : Hid (z = 1) := by unfold Hid; rw [← hz]; unfold cmpC; rw [if_neg (by omega), if_pos h]
    have h2 : ¬ x < y := by omega
    clear hz
    go_enter Tryd.func123, Tryd.ntmps123
    go_wp2_with (go_at_call 138; refine (isNaN_any _ _).mono ?_; rintro e w' ⟨rfl, rfl⟩)
    go_ret
    exact ⟨ret_int HF.out.symm, rfl⟩

set_option maxRecDepth 100000 in
set_option maxHeartbeats 1000000 in
theorem slicesCompare_is (ba oa na ca bb ob nb cb : Nat) (a b : List Int) (z : Int) (hz : cmpI a b = z) (w : World) (ha : Sl w ba oa (a.map (.int .i64))) (hb : Sl w bb ob (b.map (.int .i64)))
    (la : a.length = na) (lb : b.length = nb) (hna : na ≤ 1048576) (hnb : nb ≤ 1048576) :
    Calls Tryd.prog 105 #[.slice (some ⟨ba, oa, none⟩) na ca, .slice (some ⟨bb, ob, none⟩) nb cb] w fun e w' => e = .returned (.int .i64 z) ∧ w = w' := by
  have HA := Lib.hid la; have HB := Lib.hid lb; have HZ := Lib.hid hz
  clear la lb hz
  go_enter Tryd.func105, Tryd.ntmps105
  go_wp2_with fail
  go_loop [11] (fun i => ∃ k : Nat, k ≤ na ∧ k ≤ nb ∧ i = .int .i64 k ∧ Hid (cmpI (a.drop k) (b.drop k) = z)) (fun i => na - (intOf i).toNat)
  case atStart => exact ⟨0, Nat.zero_le _, Nat.zero_le _, rfl, HZ.out⟩
  case round =>
    obtain ⟨k, hka, hkb, rfl, HR⟩ := hrel
    by_cases h1 : k < na
    · obtain ⟨x, HX, hx⟩ := map_at (Value.int .i64) a (k := k) (by have := HA.out; omega)
      have hca := ha.at hx
      by_cases h2 : k < nb
      · obtain ⟨y, HY, hy⟩ := map_at (Value.int .i64) b (k := k) (by have := HB.out; omega)
        have hcb := hb.at hy
        have HS := Lib.hid (cmpI_step HX.out HY.out)
        have h2I : (k : Int) < (nb : Int) := by omega
        have h2J : ¬ (nb : Int) ≤ (k : Int) := by omega
        clear hx hy
        obtain ⟨c, hc⟩ : ∃ c, cmpC x y = c := ⟨_, rfl⟩
        have HCC := Lib.hid (cmpCompare_any x y c hc)
        by_cases h0 : c = 0
        · have HF : Hid (cmpI (a.drop (k + 1)) (b.drop (k + 1)) = z) := by
            unfold Hid
            rw [← HR.out, HS.out]
            rw [h0] at hc
            unfold cmpC at hc
            split at hc
            · omega
            · rename_i h3
              split at hc
              · omega
              · rename_i h4; rw [if_neg h3, if_neg h4]
          have hne : (c != 0) = false := by simpa using h0
          clear hc h0
          go_wp2_with fail
          refine (HCC.out _).mono ?_
          rintro e w' ⟨rfl, rfl⟩
          go_wp2_with fail
          go_round
          case rel => exact ⟨k + 1, by omega, by omega, by go_num, HF⟩
          case measure => simp [intOf]; omega
        · have HF : Hid (z = c) := by
            unfold Hid
            rw [← HR.out, HS.out, ← hc]
            unfold cmpC
            split
            · rfl
            · rename_i h3
              split
              · rfl
              · rename_i h4
                exact absurd (by rw [← hc]; unfold cmpC; rw [if_neg h3, if_neg h4]) h0
          have hne : (c != 0) = true := by simpa using h0
          clear hc h0
          go_wp2_with fail
          refine (HCC.out _).mono ?_
          rintro e w' ⟨rfl, rfl⟩
          go_wp2_with fail
          go_ret
          exact ⟨ret_int HF.out.symm, rfl⟩
      · have HE := Lib.hid (cmpI_end a b k (by have := HB.out; omega) (by have := HA.out; omega) (by have := HB.out; omega))
        have HF : Hid (z = 1) := by unfold Hid; rw [← HR.out, HE.out, HA.out, HB.out, if_neg (by omega), if_pos (by omega)]
        have h2J : (nb : Int) ≤ (k : Int) := by omega
        clear hx
        go_wp2_with fail
        go_ret
        exact ⟨ret_int HF.out.symm, rfl⟩
    · have HE := Lib.hid (cmpI_end a b k (by have := HA.out; omega) (by have := HA.out; omega) (by have := HB.out; omega))
      by_cases h3 : na < nb
      · have HF : Hid (z = -1) := by unfold Hid; rw [← HR.out, HE.out, HA.out, HB.out, if_pos h3]
        have h3I : (na : Int) < (nb : Int) := by omega
        obtain rfl : k = na := by omega
        go_wp2_with fail
        go_ret
        exact ⟨ret_int HF.out.symm, rfl⟩
      · have HF : Hid (z = 0) := by unfold Hid; rw [← HR.out, HE.out, HA.out, HB.out, if_neg h3, if_neg (by omega)]
        obtain rfl : k = na := by omega
        obtain rfl : k = nb := by omega
        go_wp2_with fail
        go_ret
        exact ⟨ret_int HF.out.symm, rfl⟩

def mrCmp (a b : DMultiRule) : Int := if a.f0 = b.f0 then cmpI a.f1 b.f1 else if a.f0 < b.f0 then -1 else 1
theorem mrCmp_before (a b : DMultiRule) : decide (0 ≤ mrCmp a b) = !mrBefore a b := by
  unfold mrCmp mrBefore
  by_cases h : a.f0 = b.f0
  · rw [if_pos h, decide_eq_true h, decide_eq_false (show ¬ a.f0 < b.f0 by omega), Bool.false_or, Bool.true_and]
    by_cases h2 : cmpI a.f1 b.f1 < 0
    · rw [decide_eq_true h2, decide_eq_false (by omega)]; rfl
    · rw [decide_eq_false h2, decide_eq_true (by omega)]; rfl
  · rw [if_neg h, decide_eq_false h, Bool.false_and, Bool.or_false]
    by_cases h2 : a.f0 < b.f0
    · rw [if_pos h2, decide_eq_true h2]; rfl
    · rw [if_neg h2, decide_eq_false h2]; rfl

set_option maxRecDepth 100000 in
set_option maxHeartbeats 1000000 in
theorem compareMultiRules_is (x y : Int) (A B : DMultiRule) (g1 g2 l1 l2 : Nat) (u2 u3 v2 v3 : Value) (p q z : Int) (hz : mrCmp A B = z) (hx : A.f0 = x) (hy : B.f0 = y) (w : World)
    (hs1 : Sl w g1 0 (A.f1.map (.int .i64))) (hs2 : Sl w g2 0 (B.f1.map (.int .i64))) (hl1 : A.f1.length = l1) (hl2 : B.f1.length = l2) (hb1 : l1 ≤ 1048576) (hb2 : l2 ≤ 1048576) :
    Calls Tryd.prog 84 #[.agg #[.int .i64 x, .slice (some ⟨g1, 0, none⟩) l1 l1, u2, u3, .int .i64 p], .agg #[.int .i64 y, .slice (some ⟨g2, 0, none⟩) l2 l2, v2, v3, .int .i64 q]] w fun e w' => e = .returned (.int .i64 z) ∧ Below w.heap.size w w' := by
  obtain ⟨w1, HW1, B1, x1, y1⟩ := al2 w (.cells #[.int .i64 x, .slice (some ⟨g1, 0, none⟩) l1 l1, u2, u3, .int .i64 p] 90) (.cells #[.int .i64 y, .slice (some ⟨g2, 0, none⟩) l2 l2, v2, v3, .int .i64 q] 90)
  have c0 : w1.cell? ⟨w.heap.size, 0, none⟩ = some (.int .i64 x) := by rw [cell_of_heap x1]; rfl
  have c1 : w1.cell? ⟨w.heap.size, 1, none⟩ = some (.slice (some ⟨g1, 0, none⟩) l1 l1) := by rw [cell_of_heap x1]; rfl
  have d0 : w1.cell? ⟨w.heap.size + 1, 0, none⟩ = some (.int .i64 y) := by rw [cell_of_heap y1]; rfl
  have d1 : w1.cell? ⟨w.heap.size + 1, 1, none⟩ = some (.slice (some ⟨g2, 0, none⟩) l2 l2) := by rw [cell_of_heap y1]; rfl
  have S1 := Lib.hid (hs1.below' B1); have S2 := Lib.hid (hs2.below' B1)
  have HL1 := Lib.hid hl1; have HL2 := Lib.hid hl2
  have HBW := Lib.hid B1
  have e0 : ∀ k, k < 5 → (wA : World) → True := fun _ _ _ => trivial
  clear hs1 hs2 hl1 hl2 x1 y1 B1 e0
  by_cases h : x = y
  · have HF : Hid (cmpI A.f1 B.f1 = z) := by unfold Hid; rw [← hz]; unfold mrCmp; rw [if_pos (by rw [hx, hy, h])]
    have hne : (x != y) = false := by simpa using h
    clear hz hx hy h
    go_enter Tryd.func84, Tryd.ntmps84
    go_upto_region 1 with fail
    rw [← HW1.out]
    go_wp2_with fail
    refine (slicesCompare_is g1 0 l1 l1 g2 0 l2 l2 A.f1 B.f1 z HF.out w1 S1.out S2.out HL1.out HL2.out hb1 hb2).mono ?_
    rintro e w' ⟨rfl, rfl⟩
    go_wp2_with fail
    go_ret
    exact ⟨rfl, HBW.out⟩
  · have hne : (x != y) = true := by simpa using h
    by_cases h2 : x < y
    · have HF : Hid (z = -1) := by unfold Hid; rw [← hz]; unfold mrCmp; rw [if_neg (by rw [hx, hy]; exact h), if_pos (by rw [hx, hy]; exact h2)]
      clear hz hx hy h
      go_enter Tryd.func84, Tryd.ntmps84
      go_upto_region 1 with fail
      rw [← HW1.out]
      go_wp2_with fail
      go_ret
      exact ⟨ret_int HF.out.symm, HBW.out⟩
    · have HF : Hid (z = 1) := by unfold Hid; rw [← hz]; unfold mrCmp; rw [if_neg (by rw [hx, hy]; exact h), if_neg (by rw [hx, hy]; exact h2)]
      clear hz hx hy h
      go_enter Tryd.func84, Tryd.ntmps84
      go_upto_region 1 with fail
      rw [← HW1.out]
      go_wp2_with fail
      go_ret
      exact ⟨ret_int HF.out.symm, HBW.out⟩

set_option maxRecDepth 100000 in
set_option maxHeartbeats 1000000 in
theorem validSide_is (b n c : Nat) (xs : List Int) (S : Int) (v : Bool) (hv : sideOk S xs = v) (w : World) (hs : Sl w b 0 (xs.map (.int .i64))) (hl : xs.length = n) (hn : n ≤ 1048576) (hS : 2 ≤ S ∧ S ≤ 3) :
    Calls Tryd.prog 86 #[.slice (some ⟨b, 0, none⟩) n c, .int .i64 S, .int .i64 200] w fun e w' => e = .returned (.bool v) ∧ w = w' := by
  have HL := Lib.hid hl
  have hwS : IntKind.i64.wrap (S - 1) = S - 1 := IntWalk.i64_in _ (by omega)
  by_cases h2 : n ≤ 200
  rotate_left
  · have HF : Hid (v = false) := by unfold Hid; rw [← hv]; unfold sideOk; rw [hl, decide_eq_false h2, Bool.false_and]
    have hI : decide ((n : Int) ≤ 200) = false := decide_eq_false (by omega)
    have hI2 : ¬ (n : Int) ≤ 200 := by omega
    clear hv hl
    go_enter Tryd.func86, Tryd.ntmps86
    go_wp2_with fail
    refine (size_int64_any _ _ _ _).mono ?_
    rintro e w' ⟨rfl, rfl⟩
    go_wp2_with fail
    go_ret
    exact ⟨ret_bool HF.out.symm, rfl⟩
  have hI2 : (n : Int) ≤ 200 := by omega
  cases ha : xs.all (inB · 0 (S - 1)) with
  | false =>
    have HF : Hid (v = false) := by unfold Hid; rw [← hv]; unfold sideOk; rw [ha]; simp
    have HALL := Lib.hid ha
    clear hv hl ha
    go_enter Tryd.func86, Tryd.ntmps86
    go_wp2_with fail
    refine (size_int64_any _ _ _ _).mono ?_
    rintro e w' ⟨rfl, rfl⟩
    go_wp2_with fail
    refine (allWithin_is b 0 n c xs 0 (S - 1) false HALL.out _ hs HL.out (by omega)).mono ?_
    rintro e w' ⟨rfl, rfl⟩
    go_wp2_with fail
    go_ret
    exact ⟨ret_bool HF.out.symm, rfl⟩
  | true =>
    have HALL := Lib.hid ha
    have HV : Hid (v = decide (xs.length = 0 ∨ xs.getLastD 0 ≠ 0)) := by unfold Hid; rw [← hv]; exact sideOk_of (by omega) ha
    clear hv hl ha
    rcases Nat.eq_zero_or_pos n with h0 | h0
    · have HF : Hid (v = true) := by unfold Hid; rw [HV.out]; exact decide_eq_true (.inl (by rw [HL.out]; exact h0))
      subst h0
      go_enter Tryd.func86, Tryd.ntmps86
      go_wp2_with fail
      refine (size_int64_any _ _ _ _).mono ?_
      rintro e w' ⟨rfl, rfl⟩
      go_wp2_with fail
      refine (allWithin_is b 0 0 c xs 0 (S - 1) true HALL.out _ hs HL.out (by omega)).mono ?_
      rintro e w' ⟨rfl, rfl⟩
      go_wp2_with fail
      go_ret
      exact ⟨ret_bool HF.out.symm, rfl⟩
    · obtain ⟨p, hp⟩ : ∃ p, n = p + 1 := ⟨n - 1, by omega⟩
      obtain ⟨y, HY, hy⟩ := map_at (Value.int .i64) xs (k := p) (by have := HL.out; omega)
      have hcb := hs.at hy
      rw [Nat.zero_add] at hcb
      have HF : Hid (v = (y != 0)) := by
        unfold Hid
        rw [HV.out, getLastD_at HY.out (by rw [HL.out, hp])]
        by_cases hy0 : y = 0
        · rw [decide_eq_false (by intro e; rcases e with e | e; · have := HL.out; omega
                                  · exact e hy0)]; simp [hy0]
        · rw [decide_eq_true (.inr hy0)]; simp [hy0]
      have HSL := Lib.hid hs
      clear hy HV h0 hs
      subst hp
      have hz : ((p : Int) + 1 == 0) = false := by rw [beq_eq_false_iff_ne]; omega
      have hwp : IntKind.i64.wrap (p : Int) = (p : Int) := IntWalk.i64_in _ (by omega)
      go_enter Tryd.func86, Tryd.ntmps86
      go_wp2_with fail
      refine (size_int64_any _ _ _ _).mono ?_
      rintro e w' ⟨rfl, rfl⟩
      go_wp2_with fail
      refine (allWithin_is b 0 (p + 1) c xs 0 (S - 1) true HALL.out _ HSL.out HL.out (by omega)).mono ?_
      rintro e w' ⟨rfl, rfl⟩
      go_wp2_with fail
      go_ret
      exact ⟨ret_bool HF.out.symm, rfl⟩

set_option maxRecDepth 100000 in
set_option maxHeartbeats 1000000 in
theorem validTape_is (t s q : Int) (gr n c g1 g2 l1 l2 : Nat) (x : DTape) (v : Bool) (hv : tpOk s x = v) (w : World) (hs1 : Sl w g1 0 (x.f0.map (.int .i64))) (hs2 : Sl w g2 0 (x.f1.map (.int .i64))) (hl1 : x.f0.length = l1) (hl2 : x.f1.length = l2) (hb1 : l1 ≤ 1048576) (hb2 : l2 ≤ 1048576) (hS : 2 ≤ s ∧ s ≤ 3) :
    Calls Tryd.prog 60 #[.agg #[.int .i64 t, .int .i64 s, .int .i64 q, .slice (some ⟨gr, 0, none⟩) n c], .agg #[.slice (some ⟨g1, 0, none⟩) l1 l1, .slice (some ⟨g2, 0, none⟩) l2 l2]] w fun e w' => e = .returned (.bool v) ∧ Below w.heap.size w w' := by
  obtain ⟨w1, HW1, B1, x1, y1⟩ := al2 w (.cells #[.int .i64 t, .int .i64 s, .int .i64 q, .slice (some ⟨gr, 0, none⟩) n c] 39) (.cells #[.slice (some ⟨g1, 0, none⟩) l1 l1, .slice (some ⟨g2, 0, none⟩) l2 l2] 94)
  have c1 : w1.cell? ⟨w.heap.size, 1, none⟩ = some (.int .i64 s) := by rw [cell_of_heap x1]; rfl
  have d0 : w1.cell? ⟨w.heap.size + 1, 0, none⟩ = some (.slice (some ⟨g1, 0, none⟩) l1 l1) := by rw [cell_of_heap y1]; rfl
  have d1 : w1.cell? ⟨w.heap.size + 1, 1, none⟩ = some (.slice (some ⟨g2, 0, none⟩) l2 l2) := by rw [cell_of_heap y1]; rfl
  have S1 := Lib.hid (hs1.below' B1); have S2 := Lib.hid (hs2.below' B1)
  have HL1 := Lib.hid hl1; have HL2 := Lib.hid hl2
  have HBW := Lib.hid B1
  have HSB := Lib.hid hS
  clear hs1 hs2 hl1 hl2 x1 y1 B1 hS
  cases h1 : sideOk s x.f0 with
  | false =>
    have HF : Hid (v = false) := by unfold Hid; rw [← hv]; unfold tpOk; rw [h1]; rfl
    have H1 := Lib.hid h1
    clear hv h1
    go_enter Tryd.func60, Tryd.ntmps60
    go_upto_region 1 with fail
    rw [← HW1.out]
    go_wp2_with fail
    refine (validSide_is g1 l1 l1 x.f0 s false H1.out _ S1.out HL1.out hb1 HSB.out).mono ?_
    rintro e w' ⟨rfl, rfl⟩
    go_wp2_with fail
    go_ret
    exact ⟨ret_bool HF.out.symm, HBW.out⟩
  | true =>
    obtain ⟨r, h2⟩ : ∃ r, sideOk s x.f1 = r := ⟨_, rfl⟩
    have HF : Hid (v = r) := by unfold Hid; rw [← hv]; unfold tpOk; rw [h1, h2]; rfl
    have H1 := Lib.hid h1
    have H2 := Lib.hid h2
    clear hv h1 h2
    go_enter Tryd.func60, Tryd.ntmps60
    go_upto_region 1 with fail
    rw [← HW1.out]
    go_wp2_with fail
    refine (validSide_is g1 l1 l1 x.f0 s true H1.out _ S1.out HL1.out hb1 HSB.out).mono ?_
    rintro e w' ⟨rfl, rfl⟩
    go_wp2_with fail
    refine (validSide_is g2 l2 l2 x.f1 s r H2.out _ S2.out HL2.out hb2 HSB.out).mono ?_
    rintro e w' ⟨rfl, rfl⟩
    go_wp2_with fail
    go_ret
    exact ⟨ret_bool HF.out.symm, HBW.out⟩
end Go.Proofs.YtgcedfpjgdeakaaDoor

/- Valid machines with several tapes, by the program: validMultiRule, ValidMulti. -/
namespace Go.Proofs.YtgcedfpjgdeakaaDoor
open Go.RowKit
set_option linter.all false

/-- A rule's slices in memory. -/
structure RuW (w : World) (g1 g2 g3 l1 l2 l3 : Nat) (r : DMultiRule) : Prop where
  s1 : Sl w g1 0 (r.f1.map (.int .i64))
  s2 : Sl w g2 0 (r.f2.map (.int .i64))
  s3 : Sl w g3 0 (r.f3.map (.int .i64))
  n1 : r.f1.length = l1
  n2 : r.f2.length = l2
  n3 : r.f3.length = l3
theorem RuW.below {w w' : World} {g1 g2 g3 l1 l2 l3 : Nat} {r : DMultiRule} (h : RuW w g1 g2 g3 l1 l2 l3 r) (hb : Below w.heap.size w w') : RuW w' g1 g2 g3 l1 l2 l3 r := ⟨h.s1.below' hb, h.s2.below' hb, h.s3.below' hb, h.n1, h.n2, h.n3⟩

set_option maxRecDepth 100000 in
set_option maxHeartbeats 4000000 in
theorem validMultiRule_is (t s q x y : Int) (gr n c g1 g2 g3 l1 l2 l3 : Nat) (r : DMultiRule) (v : Bool) (hv : mrOk t s q r = v) (w : World) (hr : RuW w g1 g2 g3 l1 l2 l3 r) (hx : r.f0 = x) (hy : r.f4 = y) (hb : l1 ≤ 1048576 ∧ l2 ≤ 1048576 ∧ l3 ≤ 1048576) (hS : 2 ≤ s ∧ s ≤ 3) (hq : 1 ≤ q ∧ q ≤ 16) :
    Calls Tryd.prog 83 #[.agg #[.int .i64 t, .int .i64 s, .int .i64 q, .slice (some ⟨gr, 0, none⟩) n c], .agg #[.int .i64 x, .slice (some ⟨g1, 0, none⟩) l1 l1, .slice (some ⟨g2, 0, none⟩) l2 l2, .slice (some ⟨g3, 0, none⟩) l3 l3, .int .i64 y]] w fun e w' => e = .returned (.bool v) ∧ Below w.heap.size w w' := by
  obtain ⟨w1, HW1, B1, x1, y1⟩ := al2 w (.cells #[.int .i64 t, .int .i64 s, .int .i64 q, .slice (some ⟨gr, 0, none⟩) n c] 39) (.cells #[.int .i64 x, .slice (some ⟨g1, 0, none⟩) l1 l1, .slice (some ⟨g2, 0, none⟩) l2 l2, .slice (some ⟨g3, 0, none⟩) l3 l3, .int .i64 y] 90)
  have c0 : w1.cell? ⟨w.heap.size, 0, none⟩ = some (.int .i64 t) := by rw [cell_of_heap x1]; rfl
  have c1 : w1.cell? ⟨w.heap.size, 1, none⟩ = some (.int .i64 s) := by rw [cell_of_heap x1]; rfl
  have c2 : w1.cell? ⟨w.heap.size, 2, none⟩ = some (.int .i64 q) := by rw [cell_of_heap x1]; rfl
  have d0 : w1.cell? ⟨w.heap.size + 1, 0, none⟩ = some (.int .i64 x) := by rw [cell_of_heap y1]; rfl
  have d1 : w1.cell? ⟨w.heap.size + 1, 1, none⟩ = some (.slice (some ⟨g1, 0, none⟩) l1 l1) := by rw [cell_of_heap y1]; rfl
  have d2 : w1.cell? ⟨w.heap.size + 1, 2, none⟩ = some (.slice (some ⟨g2, 0, none⟩) l2 l2) := by rw [cell_of_heap y1]; rfl
  have d3 : w1.cell? ⟨w.heap.size + 1, 3, none⟩ = some (.slice (some ⟨g3, 0, none⟩) l3 l3) := by rw [cell_of_heap y1]; rfl
  have d4 : w1.cell? ⟨w.heap.size + 1, 4, none⟩ = some (.int .i64 y) := by rw [cell_of_heap y1]; rfl
  have RW := Lib.hid (hr.below B1)
  have HBW := Lib.hid B1
  have hwq : IntKind.i64.wrap (q - 1) = q - 1 := IntWalk.i64_in _ (by omega)
  have hws : IntKind.i64.wrap (s - 1) = s - 1 := IntWalk.i64_in _ (by omega)
  obtain ⟨hb1, hb2, hb3⟩ := hb
  have SZ1 := Lib.hid (fun W => size_int64_any (some ⟨g1, 0, none⟩) l1 l1 W)
  have SZ2 := Lib.hid (fun W => size_int64_any (some ⟨g2, 0, none⟩) l2 l2 W)
  have SZ3 := Lib.hid (fun W => size_int64_any (some ⟨g3, 0, none⟩) l3 l3 W)
  clear hr x1 y1 B1 hS hq
  subst hx; subst hy
  cases h0 : inB r.f0 0 (q - 1) with
  | false =>
    have HF : Hid (v = false) := by unfold Hid; rw [← hv]; unfold mrOk; rw [h0]; simp
    have K := Lib.hid h0
    clear hv h0
    go_enter Tryd.func83, Tryd.ntmps83
    go_upto_region 1 with fail
    rw [← HW1.out]
    go_wp2_with fail
    refine (within_is _ 0 (q - 1) false K.out _).mono ?_
    rintro e w' ⟨rfl, rfl⟩
    go_wp2_with fail
    go_ret
    exact ⟨ret_bool HF.out.symm, HBW.out⟩
  | true =>
  have K0 := Lib.hid h0
  cases h4 : inB r.f4 0 (q - 1) with
  | false =>
    have HF : Hid (v = false) := by unfold Hid; rw [← hv]; unfold mrOk; rw [h0, h4]; simp
    have K := Lib.hid h4
    clear hv h0 h4
    go_enter Tryd.func83, Tryd.ntmps83
    go_upto_region 1 with fail
    rw [← HW1.out]
    go_wp2_with fail
    refine (within_is _ 0 (q - 1) true K0.out _).mono ?_
    rintro e w' ⟨rfl, rfl⟩
    go_wp2_with fail
    refine (within_is _ 0 (q - 1) false K.out _).mono ?_
    rintro e w' ⟨rfl, rfl⟩
    go_wp2_with fail
    go_ret
    exact ⟨ret_bool HF.out.symm, HBW.out⟩
  | true =>
  have K4 := Lib.hid h4
  by_cases hl1 : (l1 : Int) = t
  rotate_left
  · have HF : Hid (v = false) := by
      unfold Hid; rw [← hv]; unfold mrOk rowOk
      rw [RW.out.n1, RW.out.n2, RW.out.n3, decide_eq_false hl1]; simp
    have hne1 : ((l1 : Int) != t) = true := by simpa using hl1
    clear hv h0 h4 hl1
    go_enter Tryd.func83, Tryd.ntmps83
    go_upto_region 1 with fail
    rw [← HW1.out]
    go_wp2_with fail
    refine (within_is _ 0 (q - 1) true K0.out _).mono ?_
    rintro e w' ⟨rfl, rfl⟩
    go_wp2_with fail
    refine (within_is _ 0 (q - 1) true K4.out _).mono ?_
    rintro e w' ⟨rfl, rfl⟩
    go_wp2_with fail
    go_quiet ((go_at_call 103; first | with_reducible exact quiet_eq (SZ1.out _) | with_reducible exact quiet_eq (SZ2.out _) | with_reducible exact quiet_eq (SZ3.out _)))
    have QB : Below w1.heap.size w1 (w1.drewN nq) := below_drewN (Below.refl _ _) nq
    have HBQ := Lib.hid (below_step HBW.out QB)
    have RWQ := Lib.hid (RW.out.below QB)
    go_wp2_with fail
    go_ret
    exact ⟨ret_bool HF.out.symm, HBQ.out⟩
  by_cases hl2 : (l2 : Int) = t
  rotate_left
  · have HF : Hid (v = false) := by
      unfold Hid; rw [← hv]; unfold mrOk rowOk
      rw [RW.out.n1, RW.out.n2, RW.out.n3, decide_eq_false hl2]; simp
    have hne1 : ((l1 : Int) != t) = false := by simpa using hl1
    have hne2 : ((l2 : Int) != t) = true := by simpa using hl2
    clear hv h0 h4 hl1 hl2
    go_enter Tryd.func83, Tryd.ntmps83
    go_upto_region 1 with fail
    rw [← HW1.out]
    go_wp2_with fail
    refine (within_is _ 0 (q - 1) true K0.out _).mono ?_
    rintro e w' ⟨rfl, rfl⟩
    go_wp2_with fail
    refine (within_is _ 0 (q - 1) true K4.out _).mono ?_
    rintro e w' ⟨rfl, rfl⟩
    go_wp2_with fail
    go_quiet ((go_at_call 103; first | with_reducible exact quiet_eq (SZ1.out _) | with_reducible exact quiet_eq (SZ2.out _) | with_reducible exact quiet_eq (SZ3.out _)))
    have QB : Below w1.heap.size w1 (w1.drewN nq) := below_drewN (Below.refl _ _) nq
    have HBQ := Lib.hid (below_step HBW.out QB)
    have RWQ := Lib.hid (RW.out.below QB)
    go_wp2_with fail
    go_ret
    exact ⟨ret_bool HF.out.symm, HBQ.out⟩
  by_cases hl3 : (l3 : Int) = t
  rotate_left
  · have HF : Hid (v = false) := by
      unfold Hid; rw [← hv]; unfold mrOk rowOk
      rw [RW.out.n1, RW.out.n2, RW.out.n3, decide_eq_false hl3]; simp
    have hne1 : ((l1 : Int) != t) = false := by simpa using hl1
    have hne2 : ((l2 : Int) != t) = false := by simpa using hl2
    have hne3 : ((l3 : Int) != t) = true := by simpa using hl3
    clear hv h0 h4 hl1 hl2 hl3
    go_enter Tryd.func83, Tryd.ntmps83
    go_upto_region 1 with fail
    rw [← HW1.out]
    go_wp2_with fail
    refine (within_is _ 0 (q - 1) true K0.out _).mono ?_
    rintro e w' ⟨rfl, rfl⟩
    go_wp2_with fail
    refine (within_is _ 0 (q - 1) true K4.out _).mono ?_
    rintro e w' ⟨rfl, rfl⟩
    go_wp2_with fail
    go_quiet ((go_at_call 103; first | with_reducible exact quiet_eq (SZ1.out _) | with_reducible exact quiet_eq (SZ2.out _) | with_reducible exact quiet_eq (SZ3.out _)))
    have QB : Below w1.heap.size w1 (w1.drewN nq) := below_drewN (Below.refl _ _) nq
    have HBQ := Lib.hid (below_step HBW.out QB)
    have RWQ := Lib.hid (RW.out.below QB)
    go_wp2_with fail
    go_ret
    exact ⟨ret_bool HF.out.symm, HBQ.out⟩
  have hne1 : ((l1 : Int) != t) = false := by simpa using hl1
  have hne2 : ((l2 : Int) != t) = false := by simpa using hl2
  have hne3 : ((l3 : Int) != t) = false := by simpa using hl3
  cases a1 : r.f1.all (inB · 0 (s - 1)) with
  | false =>
    have HF : Hid (v = false) := by unfold Hid; rw [← hv]; unfold mrOk rowOk; rw [a1]; simp
    have A1 := Lib.hid a1
    clear hv h0 h4 hl1 hl2 hl3 a1
    go_enter Tryd.func83, Tryd.ntmps83
    go_upto_region 1 with fail
    rw [← HW1.out]
    go_wp2_with fail
    refine (within_is _ 0 (q - 1) true K0.out _).mono ?_
    rintro e w' ⟨rfl, rfl⟩
    go_wp2_with fail
    refine (within_is _ 0 (q - 1) true K4.out _).mono ?_
    rintro e w' ⟨rfl, rfl⟩
    go_wp2_with fail
    go_quiet ((go_at_call 103; first | with_reducible exact quiet_eq (SZ1.out _) | with_reducible exact quiet_eq (SZ2.out _) | with_reducible exact quiet_eq (SZ3.out _)))
    have QB : Below w1.heap.size w1 (w1.drewN nq) := below_drewN (Below.refl _ _) nq
    have HBQ := Lib.hid (below_step HBW.out QB)
    have RWQ := Lib.hid (RW.out.below QB)
    obtain ⟨wq, hwq2⟩ : ∃ wq, w1.drewN nq = wq := ⟨_, rfl⟩
    have RWQ2 : Hid (RuW wq g1 g2 g3 l1 l2 l3 r) := hwq2 ▸ RWQ
    have HBQ2 : Hid (Below w.heap.size w wq) := hwq2 ▸ HBQ
    have e1 : wq.cell? ⟨w.heap.size, 1, none⟩ = some (.int .i64 s) := hwq2 ▸ c1
    have q1 : wq.cell? ⟨w.heap.size + 1, 1, none⟩ = some (.slice (some ⟨g1, 0, none⟩) l1 l1) := hwq2 ▸ d1
    have q2 : wq.cell? ⟨w.heap.size + 1, 2, none⟩ = some (.slice (some ⟨g2, 0, none⟩) l2 l2) := hwq2 ▸ d2
    have q3 : wq.cell? ⟨w.heap.size + 1, 3, none⟩ = some (.slice (some ⟨g3, 0, none⟩) l3 l3) := hwq2 ▸ d3
    rw [hwq2]
    clear QB RWQ HBQ RW hwq2 c0 c1 c2 d0 d1 d2 d3 d4
    have RW := RWQ2
    go_wp2_with fail
    refine (allWithin_is g1 0 l1 l1 r.f1 0 (s - 1) false A1.out _ RW.out.s1 RW.out.n1 (by omega)).mono ?_
    rintro e w' ⟨rfl, rfl⟩
    go_wp2_with fail
    go_ret
    exact ⟨ret_bool HF.out.symm, HBQ2.out⟩
  | true =>
  have A1 := Lib.hid a1
  cases a2 : r.f2.all (inB · 0 (s - 1)) with
  | false =>
    have HF : Hid (v = false) := by unfold Hid; rw [← hv]; unfold mrOk rowOk; rw [a2]; simp
    have A2 := Lib.hid a2
    clear hv h0 h4 hl1 hl2 hl3 a1 a2
    go_enter Tryd.func83, Tryd.ntmps83
    go_upto_region 1 with fail
    rw [← HW1.out]
    go_wp2_with fail
    refine (within_is _ 0 (q - 1) true K0.out _).mono ?_
    rintro e w' ⟨rfl, rfl⟩
    go_wp2_with fail
    refine (within_is _ 0 (q - 1) true K4.out _).mono ?_
    rintro e w' ⟨rfl, rfl⟩
    go_wp2_with fail
    go_quiet ((go_at_call 103; first | with_reducible exact quiet_eq (SZ1.out _) | with_reducible exact quiet_eq (SZ2.out _) | with_reducible exact quiet_eq (SZ3.out _)))
    have QB : Below w1.heap.size w1 (w1.drewN nq) := below_drewN (Below.refl _ _) nq
    have HBQ := Lib.hid (below_step HBW.out QB)
    have RWQ := Lib.hid (RW.out.below QB)
    obtain ⟨wq, hwq2⟩ : ∃ wq, w1.drewN nq = wq := ⟨_, rfl⟩
    have RWQ2 : Hid (RuW wq g1 g2 g3 l1 l2 l3 r) := hwq2 ▸ RWQ
    have HBQ2 : Hid (Below w.heap.size w wq) := hwq2 ▸ HBQ
    have e1 : wq.cell? ⟨w.heap.size, 1, none⟩ = some (.int .i64 s) := hwq2 ▸ c1
    have q1 : wq.cell? ⟨w.heap.size + 1, 1, none⟩ = some (.slice (some ⟨g1, 0, none⟩) l1 l1) := hwq2 ▸ d1
    have q2 : wq.cell? ⟨w.heap.size + 1, 2, none⟩ = some (.slice (some ⟨g2, 0, none⟩) l2 l2) := hwq2 ▸ d2
    have q3 : wq.cell? ⟨w.heap.size + 1, 3, none⟩ = some (.slice (some ⟨g3, 0, none⟩) l3 l3) := hwq2 ▸ d3
    rw [hwq2]
    clear QB RWQ HBQ RW hwq2 c0 c1 c2 d0 d1 d2 d3 d4
    have RW := RWQ2
    go_wp2_with fail
    refine (allWithin_is g1 0 l1 l1 r.f1 0 (s - 1) true A1.out _ RW.out.s1 RW.out.n1 (by omega)).mono ?_
    rintro e w' ⟨rfl, rfl⟩
    go_wp2_with fail
    refine (allWithin_is g2 0 l2 l2 r.f2 0 (s - 1) false A2.out _ RW.out.s2 RW.out.n2 (by omega)).mono ?_
    rintro e w' ⟨rfl, rfl⟩
    go_wp2_with fail
    go_ret
    exact ⟨ret_bool HF.out.symm, HBQ2.out⟩
  | true =>
  have A2 := Lib.hid a2
  cases a3 : r.f3.all (inB · (-1) 1) with
  | false =>
    have HF : Hid (v = false) := by unfold Hid; rw [← hv]; unfold mrOk rowOk; rw [a3]; simp
    have A3 := Lib.hid a3
    clear hv h0 h4 hl1 hl2 hl3 a1 a2 a3
    go_enter Tryd.func83, Tryd.ntmps83
    go_upto_region 1 with fail
    rw [← HW1.out]
    go_wp2_with fail
    refine (within_is _ 0 (q - 1) true K0.out _).mono ?_
    rintro e w' ⟨rfl, rfl⟩
    go_wp2_with fail
    refine (within_is _ 0 (q - 1) true K4.out _).mono ?_
    rintro e w' ⟨rfl, rfl⟩
    go_wp2_with fail
    go_quiet ((go_at_call 103; first | with_reducible exact quiet_eq (SZ1.out _) | with_reducible exact quiet_eq (SZ2.out _) | with_reducible exact quiet_eq (SZ3.out _)))
    have QB : Below w1.heap.size w1 (w1.drewN nq) := below_drewN (Below.refl _ _) nq
    have HBQ := Lib.hid (below_step HBW.out QB)
    have RWQ := Lib.hid (RW.out.below QB)
    obtain ⟨wq, hwq2⟩ : ∃ wq, w1.drewN nq = wq := ⟨_, rfl⟩
    have RWQ2 : Hid (RuW wq g1 g2 g3 l1 l2 l3 r) := hwq2 ▸ RWQ
    have HBQ2 : Hid (Below w.heap.size w wq) := hwq2 ▸ HBQ
    have e1 : wq.cell? ⟨w.heap.size, 1, none⟩ = some (.int .i64 s) := hwq2 ▸ c1
    have q1 : wq.cell? ⟨w.heap.size + 1, 1, none⟩ = some (.slice (some ⟨g1, 0, none⟩) l1 l1) := hwq2 ▸ d1
    have q2 : wq.cell? ⟨w.heap.size + 1, 2, none⟩ = some (.slice (some ⟨g2, 0, none⟩) l2 l2) := hwq2 ▸ d2
    have q3 : wq.cell? ⟨w.heap.size + 1, 3, none⟩ = some (.slice (some ⟨g3, 0, none⟩) l3 l3) := hwq2 ▸ d3
    rw [hwq2]
    clear QB RWQ HBQ RW hwq2 c0 c1 c2 d0 d1 d2 d3 d4
    have RW := RWQ2
    go_wp2_with fail
    refine (allWithin_is g1 0 l1 l1 r.f1 0 (s - 1) true A1.out _ RW.out.s1 RW.out.n1 (by omega)).mono ?_
    rintro e w' ⟨rfl, rfl⟩
    go_wp2_with fail
    refine (allWithin_is g2 0 l2 l2 r.f2 0 (s - 1) true A2.out _ RW.out.s2 RW.out.n2 (by omega)).mono ?_
    rintro e w' ⟨rfl, rfl⟩
    go_wp2_with fail
    refine (allWithin_is g3 0 l3 l3 r.f3 (-1) 1 false A3.out _ RW.out.s3 RW.out.n3 (by omega)).mono ?_
    rintro e w' ⟨rfl, rfl⟩
    go_wp2_with fail
    go_ret
    exact ⟨ret_bool HF.out.symm, HBQ2.out⟩
  | true =>
  have A3 := Lib.hid a3
  have HF : Hid (v = true) := by unfold Hid; rw [← hv]; unfold mrOk rowOk; rw [h0, h4, RW.out.n1, RW.out.n2, RW.out.n3, decide_eq_true hl1, decide_eq_true hl2, decide_eq_true hl3, a1, a2, a3]; rfl
  clear hv h0 h4 hl1 hl2 hl3 a1 a2 a3
  go_enter Tryd.func83, Tryd.ntmps83
  go_upto_region 1 with fail
  rw [← HW1.out]
  go_wp2_with fail
  refine (within_is _ 0 (q - 1) true K0.out _).mono ?_
  rintro e w' ⟨rfl, rfl⟩
  go_wp2_with fail
  refine (within_is _ 0 (q - 1) true K4.out _).mono ?_
  rintro e w' ⟨rfl, rfl⟩
  go_wp2_with fail
  go_quiet ((go_at_call 103; first | with_reducible exact quiet_eq (SZ1.out _) | with_reducible exact quiet_eq (SZ2.out _) | with_reducible exact quiet_eq (SZ3.out _)))
  have QB : Below w1.heap.size w1 (w1.drewN nq) := below_drewN (Below.refl _ _) nq
  have HBQ := Lib.hid (below_step HBW.out QB)
  have RWQ := Lib.hid (RW.out.below QB)
  obtain ⟨wq, hwq2⟩ : ∃ wq, w1.drewN nq = wq := ⟨_, rfl⟩
  have RWQ2 : Hid (RuW wq g1 g2 g3 l1 l2 l3 r) := hwq2 ▸ RWQ
  have HBQ2 : Hid (Below w.heap.size w wq) := hwq2 ▸ HBQ
  have e1 : wq.cell? ⟨w.heap.size, 1, none⟩ = some (.int .i64 s) := hwq2 ▸ c1
  have q1 : wq.cell? ⟨w.heap.size + 1, 1, none⟩ = some (.slice (some ⟨g1, 0, none⟩) l1 l1) := hwq2 ▸ d1
  have q2 : wq.cell? ⟨w.heap.size + 1, 2, none⟩ = some (.slice (some ⟨g2, 0, none⟩) l2 l2) := hwq2 ▸ d2
  have q3 : wq.cell? ⟨w.heap.size + 1, 3, none⟩ = some (.slice (some ⟨g3, 0, none⟩) l3 l3) := hwq2 ▸ d3
  rw [hwq2]
  clear QB RWQ HBQ RW hwq2 c0 c1 c2 d0 d1 d2 d3 d4
  have RW := RWQ2
  go_wp2_with fail
  refine (allWithin_is g1 0 l1 l1 r.f1 0 (s - 1) true A1.out _ RW.out.s1 RW.out.n1 (by omega)).mono ?_
  rintro e w' ⟨rfl, rfl⟩
  go_wp2_with fail
  refine (allWithin_is g2 0 l2 l2 r.f2 0 (s - 1) true A2.out _ RW.out.s2 RW.out.n2 (by omega)).mono ?_
  rintro e w' ⟨rfl, rfl⟩
  go_wp2_with fail
  refine (allWithin_is g3 0 l3 l3 r.f3 (-1) 1 true A3.out _ RW.out.s3 RW.out.n3 (by omega)).mono ?_
  rintro e w' ⟨rfl, rfl⟩
  go_wp2_with fail
  go_ret
  exact ⟨ret_bool HF.out.symm, HBQ2.out⟩
end Go.Proofs.YtgcedfpjgdeakaaDoor

/- Valid machines with several tapes, by the program: ValidMulti. -/
namespace Go.Proofs.YtgcedfpjgdeakaaDoor
open Go.RowKit
set_option linter.all false

theorem takeD {P : Program} {ops : Array Oper} {Q : Exit → Act → World → Prop} {md : Region.Mode} {S : World → Prop} {i : Nat} {oi : Oper} {d : Option Nat} {v : Value} {fuel : Nat} {listed : Array Bool} {a : Act} {w : World} (hi : ops[i]? = some oi) (hd : oi.dst = d)
    (hs : Region.noSelect ops = true) (hf : Region.free md ops listed i = true) (hr : (Region.ready md ops listed).contains i = true)
    (hQ : ∀ c a w, Q (.panic c) (a.put d v) w → Q (.panic c) a w) (hy : YieldsIf P ops S oi v a) (hS : S w)
    (h : wpAnyH P md ops Q S fuel (listed.setIfInBounds i true) (a.put d v) w) : wpAnyH P md ops Q S (fuel + 1) listed a w := by
  subst hd; exact wpAnyH_take hi hs hf hr hQ hy hS h

/-- The cells of a rule, its slices given. -/
structure MrV (w : World) (g k : Nat) (x : Int) (u1 u2 u3 : Value) (y : Int) : Prop where
  c0 : w.cell? ⟨g, k, none⟩ = some (.int .i64 x)
  c1 : w.cell? ⟨g, k + 1, none⟩ = some u1
  c2 : w.cell? ⟨g, k + 2, none⟩ = some u2
  c3 : w.cell? ⟨g, k + 3, none⟩ = some u3
  c4 : w.cell? ⟨g, k + 4, none⟩ = some (.int .i64 y)
theorem MrV.below {w w' : World} {g k : Nat} {x : Int} {u1 u2 u3 : Value} {y : Int} (h : MrV w g k x u1 u2 u3 y) (hb : Below w.heap.size w w') : MrV w' g k x u1 u2 u3 y :=
  ⟨cell_step h.c0 hb, cell_step h.c1 hb, cell_step h.c2 hb, cell_step h.c3 hb, cell_step h.c4 hb⟩
theorem s9 {W : World} {gm gr gb : Nat} {t s q : Int} {n c : Nat} {es : List EMultiRule} {x y : Int} {u1 u2 u3 : Value} (M : McF W gm gr t s q n c es) (B : MrV W gb 0 x u1 u2 u3 y) :
    W.cell? ⟨gm, 0, none⟩ = some (.int .i64 t) ∧ W.cell? ⟨gm, 1, none⟩ = some (.int .i64 s) ∧ W.cell? ⟨gm, 2, none⟩ = some (.int .i64 q) ∧ W.cell? ⟨gm, 3, none⟩ = some (.slice (some ⟨gr, 0, none⟩) n c) ∧
    W.cell? ⟨gb, 0, none⟩ = some (.int .i64 x) ∧ W.cell? ⟨gb, 1, none⟩ = some u1 ∧ W.cell? ⟨gb, 2, none⟩ = some u2 ∧ W.cell? ⟨gb, 3, none⟩ = some u3 ∧ W.cell? ⟨gb, 4, none⟩ = some (.int .i64 y) :=
  ⟨M.cells.1, M.cells.2.1, M.cells.2.2.1, M.cells.2.2.2, B.c0, B.c1, B.c2, B.c3, B.c4⟩
theorem s14 {W : World} {gm gr gb : Nat} {t s q : Int} {n c k : Nat} {es : List EMultiRule} {x y : Int} {u1 u2 u3 : Value} {x' y' : Int} {u1' u2' u3' : Value} (M : McF W gm gr t s q n c es) (B : MrV W gb 0 x u1 u2 u3 y) (R : MrV W gr k x' u1' u2' u3' y') :
    W.cell? ⟨gm, 0, none⟩ = some (.int .i64 t) ∧ W.cell? ⟨gm, 1, none⟩ = some (.int .i64 s) ∧ W.cell? ⟨gm, 2, none⟩ = some (.int .i64 q) ∧ W.cell? ⟨gm, 3, none⟩ = some (.slice (some ⟨gr, 0, none⟩) n c) ∧
    W.cell? ⟨gb, 0, none⟩ = some (.int .i64 x) ∧ W.cell? ⟨gb, 1, none⟩ = some u1 ∧ W.cell? ⟨gb, 2, none⟩ = some u2 ∧ W.cell? ⟨gb, 3, none⟩ = some u3 ∧ W.cell? ⟨gb, 4, none⟩ = some (.int .i64 y) ∧
    W.cell? ⟨gr, k, none⟩ = some (.int .i64 x') ∧ W.cell? ⟨gr, k + 1, none⟩ = some u1' ∧ W.cell? ⟨gr, k + 2, none⟩ = some u2' ∧ W.cell? ⟨gr, k + 3, none⟩ = some u3' ∧ W.cell? ⟨gr, k + 4, none⟩ = some (.int .i64 y') :=
  ⟨M.cells.1, M.cells.2.1, M.cells.2.2.1, M.cells.2.2.2, B.c0, B.c1, B.c2, B.c3, B.c4, R.c0, R.c1, R.c2, R.c3, R.c4⟩

set_option maxRecDepth 100000 in
set_option maxHeartbeats 8000000 in
theorem validMulti_is (t s q : Int) (gr n c : Nat) (es : List EMultiRule) (ds : List DMultiRule) (v : Bool) (hv : multiOk t s q ds = v) (w : World) (hR : Sl w gr 0 (rows EMultiRule.vs es)) (hRc : RcsMultiRule w es) (hd : es.map (·.d) = ds) (hl : ds.length = n) (hn : n ≤ 1048576) (hlens : lensOk es) :
    Calls Tryd.prog 55 #[.agg #[.int .i64 t, .int .i64 s, .int .i64 q, .slice (some ⟨gr, 0, none⟩) n c]] w fun e w' => e = .returned (.bool v) ∧ Below w.heap.size w w' := by
  obtain ⟨w1, HW1, B1, x1⟩ := al1 w (.cells #[.int .i64 t, .int .i64 s, .int .i64 q, .slice (some ⟨gr, 0, none⟩) n c] 39)
  have M1 : Hid (McF w1 w.heap.size gr t s q n c es) := ⟨x1, hR.below' B1, hRc.below B1⟩
  have HBW := Lib.hid B1
  have HD := Lib.hid hd
  have HLD := Lib.hid hl
  have HLE : Hid (es.length = n) := by unfold Hid; rw [← hl, ← hd, List.length_map]
  have HLENS := Lib.hid hlens
  obtain ⟨m0, m1, m2, m3⟩ := M1.out.cells
  clear hR hRc hd hl hlens x1 B1
  cases h0 : inB t 2 3 with
  | false =>
    have HF : Hid (v = false) := by unfold Hid; rw [← hv]; unfold multiOk; rw [h0]; simp
    have H0 := Lib.hid h0
    clear hv h0
    go_enter Tryd.func55, Tryd.ntmps55
    go_upto_region 1 with fail
    rw [← HW1.out]
    go_wp2_with fail
    refine (within_is t 2 3 false H0.out _).mono ?_
    rintro e w' ⟨rfl, rfl⟩
    go_wp2_with fail
    go_ret
    exact ⟨ret_bool HF.out.symm, HBW.out⟩
  | true =>
  have H0 := Lib.hid h0
  cases h1 : inB s 2 3 with
  | false =>
    have HF : Hid (v = false) := by unfold Hid; rw [← hv]; unfold multiOk; rw [h0, h1]; simp
    have H1 := Lib.hid h1
    clear hv h1
    go_enter Tryd.func55, Tryd.ntmps55
    go_upto_region 1 with fail
    rw [← HW1.out]
    go_wp2_with fail
    refine (within_is t 2 3 true H0.out _).mono ?_
    rintro e w' ⟨rfl, rfl⟩
    go_wp2_with fail
    refine (within_is s 2 3 false H1.out _).mono ?_
    rintro e w' ⟨rfl, rfl⟩
    go_wp2_with fail
    go_ret
    exact ⟨ret_bool HF.out.symm, HBW.out⟩
  | true =>
  have H1 := Lib.hid h1
  cases h2 : inB q 1 16 with
  | false =>
    have HF : Hid (v = false) := by unfold Hid; rw [← hv]; unfold multiOk; rw [h0, h1, h2]; simp
    have H2 := Lib.hid h2
    clear hv h2
    go_enter Tryd.func55, Tryd.ntmps55
    go_upto_region 1 with fail
    rw [← HW1.out]
    go_wp2_with fail
    refine (within_is t 2 3 true H0.out _).mono ?_
    rintro e w' ⟨rfl, rfl⟩
    go_wp2_with fail
    refine (within_is s 2 3 true H1.out _).mono ?_
    rintro e w' ⟨rfl, rfl⟩
    go_wp2_with fail
    refine (within_is q 1 16 false H2.out _).mono ?_
    rintro e w' ⟨rfl, rfl⟩
    go_wp2_with fail
    go_ret
    exact ⟨ret_bool HF.out.symm, HBW.out⟩
  | true =>
  have H2 := Lib.hid h2
  by_cases h60 : n ≤ 60
  rotate_left
  · have HF : Hid (v = false) := by unfold Hid; rw [← hv]; unfold multiOk; rw [h0, h1, h2, HLD.out, decide_eq_false h60]; rfl
    have hI : (60 : Int) < (n : Int) := by omega
    clear hv h0 h1 h2
    go_enter Tryd.func55, Tryd.ntmps55
    go_upto_region 1 with fail
    rw [← HW1.out]
    go_wp2_with fail
    refine (within_is t 2 3 true H0.out _).mono ?_
    rintro e w' ⟨rfl, rfl⟩
    go_wp2_with fail
    refine (within_is s 2 3 true H1.out _).mono ?_
    rintro e w' ⟨rfl, rfl⟩
    go_wp2_with fail
    refine (within_is q 1 16 true H2.out _).mono ?_
    rintro e w' ⟨rfl, rfl⟩
    go_wp2_with fail
    go_ret
    exact ⟨ret_bool HF.out.symm, HBW.out⟩
  have HALL : Hid (v = (List.range n).all (mrAt t s q ds)) := by unfold Hid; rw [← hv]; unfold multiOk; rw [h0, h1, h2, HLD.out, decide_eq_true h60]; rfl
  have hI : ¬ (60 : Int) < (n : Int) := by omega
  have HQB : Hid (1 ≤ q ∧ q ≤ 16) := (inB_iff _ _ _).1 h2
  have HSB : Hid (2 ≤ s ∧ s ≤ 3) := (inB_iff _ _ _).1 h1
  clear hv h0 h1 h2
  go_enter Tryd.func55, Tryd.ntmps55
  go_upto_region 1 with fail
  rw [← HW1.out]
  go_wp2_with fail
  refine (within_is t 2 3 true H0.out _).mono ?_
  rintro e w' ⟨rfl, rfl⟩
  go_wp2_with fail
  refine (within_is s 2 3 true H1.out _).mono ?_
  rintro e w' ⟨rfl, rfl⟩
  go_wp2_with fail
  refine (within_is q 1 16 true H2.out _).mono ?_
  rintro e w' ⟨rfl, rfl⟩
  go_wp2_with fail
  go_loopw [30] (fun i wr => ∃ k : Nat, k ≤ n ∧ i = .int .i64 k ∧ Hid (Below w1.heap.size w1 wr) ∧ Hid (∀ j, j < k → mrAt t s q ds j = true)) (fun i _ => n - (intOf i).toNat)
  case atStart => exact ⟨0, Nat.zero_le _, rfl, Below.refl _ _, by intro j hj; omega⟩
  case round =>
    clear m0 m1 m2 m3
    obtain ⟨k, hk, rfl, HB, HRR⟩ := hrel
    have M := Lib.hid (M1.out.below HB.out)
    obtain ⟨m0, m1, m2, m3⟩ := M.out.cells
    by_cases hlt : k < n
    rotate_left
    · have HF : Hid (v = true) := by
        unfold Hid
        rw [HALL.out, ← HLD.out]
        refine multi_all fun j hj => HRR.out j (by have := HLD.out; omega)
      obtain rfl : k = n := by omega
      have HBZ := Lib.hid (below_step HBW.out HB.out)
      go_wp2_with fail
      go_ret
      exact ⟨ret_bool HF.out.symm, HBZ.out⟩
    obtain ⟨e, he⟩ : ∃ e, es[k]? = some e := ⟨_, List.getElem?_eq_getElem (by have := HLE.out; omega)⟩
    have HE : Hid (ds[k]? = some e.d) := by unfold Hid; rw [← HD.out, List.getElem?_map, he]; rfl
    have hem := List.mem_of_getElem? he
    obtain ⟨hb1, hb2, hb3⟩ := HLENS.out e hem
    obtain ⟨⟨g1, hu1, hs1⟩, ⟨g2, hu2, hs2⟩, ⟨g3, hu3, hs3⟩, -⟩ := M.out.rc.at hem
    obtain ⟨l1, hl1⟩ : ∃ l, e.d.f1.length = l := ⟨_, rfl⟩
    obtain ⟨l2, hl2⟩ : ∃ l, e.d.f2.length = l := ⟨_, rfl⟩
    obtain ⟨l3, hl3⟩ : ∃ l, e.d.f3.length = l := ⟨_, rfl⟩
    rw [hl1] at hu1 hb1; rw [hl2] at hu2 hb2; rw [hl3] at hu3 hb3
    obtain ⟨c0, c1, c2, c3, c4⟩ := mrC_of M.out.rs he
    rw [hu1] at c1; rw [hu2] at c2; rw [hu3] at c3
    obtain ⟨wt, HWT, bt, xt⟩ := al1 wr (.cells #[.int .i64 e.d.f0, (.slice (some ⟨g1, 0, none⟩) l1 l1), (.slice (some ⟨g2, 0, none⟩) l2 l2), (.slice (some ⟨g3, 0, none⟩) l3 l3), .int .i64 e.d.f4] 90)
    have BX : MrV wt wr.heap.size 0 e.d.f0 (.slice (some ⟨g1, 0, none⟩) l1 l1) (.slice (some ⟨g2, 0, none⟩) l2 l2) (.slice (some ⟨g3, 0, none⟩) l3 l3) e.d.f4 := ⟨by rw [cell_of_heap xt]; rfl, by rw [cell_of_heap xt]; rfl, by rw [cell_of_heap xt]; rfl, by rw [cell_of_heap xt]; rfl, by rw [cell_of_heap xt]; rfl⟩
    have MX : McF wt w.heap.size gr t s q n c es := M.out.below bt
    have RW : Hid (RuW wt g1 g2 g3 l1 l2 l3 e.d) := ⟨hs1.below' bt, hs2.below' bt, hs3.below' bt, hl1, hl2, hl3⟩
    have HBT := below_step HB.out bt
    have BR := Below.refl wt.heap.size wt
    obtain ⟨ok, hok⟩ : ∃ ok, mrOk t s q e.d = ok := ⟨_, rfl⟩
    have HVR : Hid (∀ W : World, Below wt.heap.size wt W → Calls Tryd.prog 83 #[.agg #[.int .i64 t, .int .i64 s, .int .i64 q, .slice (some ⟨gr, 0, none⟩) n c], .agg #[.int .i64 e.d.f0, (.slice (some ⟨g1, 0, none⟩) l1 l1), (.slice (some ⟨g2, 0, none⟩) l2 l2), (.slice (some ⟨g3, 0, none⟩) l3 l3), .int .i64 e.d.f4]] W fun z w' => z = .returned (.bool ok) ∧ Below W.heap.size W w') := fun W hW =>
      validMultiRule_is t s q e.d.f0 e.d.f4 gr n c g1 g2 g3 l1 l2 l3 e.d ok hok W (RW.out.below hW) rfl rfl ⟨hb1, hb2, hb3⟩ HSB.out HQB.out
    have hkI : (k : Int) < (n : Int) := by omega
    have HL1 := Lib.hid hl1
    have HB1 := Lib.hid hb1
    have HOK := Lib.hid hok
    have HEE := Lib.hid he
    clear he hem hl1 hl2 hl3 hu1 hu2 hu3 hs1 hs2 hs3 bt xt hok hb1 hb2 hb3
    cases ok with
    | false =>
      have HF : Hid (v = false) := by
        unfold Hid
        rw [HALL.out, ← HLD.out]
        exact multi_no (by have := HLD.out; omega) (mrAt_bad HE.out HOK.out)
      have k1_ : True := trivial
      go_upto_region 6 with fail
      rw [← HWT.out]
      clear m0 m1 m2 m3 c0 c1 c2 c3 c4
      obtain ⟨kc0, kc1, kc2, kc3, kc4, kc5, kc6, kc7, kc8⟩ := s9 MX BX
      refine wp_region_held_drew (S := fun W => W.cell? ⟨w.heap.size, 0, none⟩ = some (.int .i64 t) ∧ W.cell? ⟨w.heap.size, 1, none⟩ = some (.int .i64 s) ∧ W.cell? ⟨w.heap.size, 2, none⟩ = some (.int .i64 q) ∧ W.cell? ⟨w.heap.size, 3, none⟩ = some (.slice (some ⟨gr, 0, none⟩) n c) ∧ W.cell? ⟨wr.heap.size, 0, none⟩ = some (.int .i64 e.d.f0) ∧ W.cell? ⟨wr.heap.size, 1, none⟩ = some (.slice (some ⟨g1, 0, none⟩) l1 l1) ∧ W.cell? ⟨wr.heap.size, 2, none⟩ = some (.slice (some ⟨g2, 0, none⟩) l2 l2) ∧ W.cell? ⟨wr.heap.size, 3, none⟩ = some (.slice (some ⟨g3, 0, none⟩) l3 l3) ∧ W.cell? ⟨wr.heap.size, 4, none⟩ = some (.int .i64 e.d.f4)) (by kernel_rfl) ?_ (fun hHeld => ?_)
      · (try dsimp only); (first | go_keep | exact ⟨kc0, kc1, kc2, kc3, kc4, kc5, kc6, kc7, kc8⟩)
      refine takeD (i := 0) (v := ?_) (d := some 35) rfl rfl (by kernel_rfl) (by kernel_rfl) (by kernel_rfl) (fun _ _ _ h => h) (Or.inl ⟨by kernel_rfl, ?hya0⟩) (by assumption) ?resta0
      case hya0 => first | (intro w hSw; (try dsimp only at hSw); go_simp; done) | (intro w hSw; (try dsimp only at hSw); go_simp; with_reducible rfl)
      (try simp only [Act.put, List.setIfInBounds_toArray, List.set_cons_zero, List.set_cons_succ])
      refine takeD (i := 1) (v := ?_) (d := some 36) rfl rfl (by kernel_rfl) (by kernel_rfl) (by kernel_rfl) (fun _ _ _ h => h) (Or.inl ⟨by kernel_rfl, ?hya1⟩) (by assumption) ?resta1
      case hya1 => first | (intro w hSw; (try dsimp only at hSw); go_simp; done) | (intro w hSw; (try dsimp only at hSw); go_simp; with_reducible rfl)
      (try simp only [Act.put, List.setIfInBounds_toArray, List.set_cons_zero, List.set_cons_succ])
      refine wpAnyH_ready (rs := [2]) (by kernel_rfl) (by simp) ?_
      refine AllReadyH.cons rfl (fun K hK => ?_) AllReadyH.nil
      go_simp
      (have _ := k1_; clear k1_; go_at_call 83; refine (HVR.out _ (by exact BR.drew)).mono ?_; rintro z x1 ⟨rfl, bb⟩; replace bb := below_drew_at bb; replace MX := MX.below bb; replace BX := BX.below bb; replace HBT := below_step HBT bb; replace BR := below_step BR bb; clear bb kc0 kc1 kc2 kc3 kc4 kc5 kc6 kc7 kc8; obtain ⟨kc0, kc1, kc2, kc3, kc4, kc5, kc6, kc7, kc8⟩ := s9 MX BX; have k2_ : True := trivial)
      (try go_wp2_with fail)
      refine hK.out _ _ ?_ (fun hHeld => ?_)
      · (try dsimp only); (first | go_keep | exact ⟨kc0, kc1, kc2, kc3, kc4, kc5, kc6, kc7, kc8⟩)
      clear hK K
      (try simp only [Act.put, List.setIfInBounds_toArray, List.set_cons_zero, List.set_cons_succ])
      refine takeD (i := 3) (v := ?_) (d := some 38) rfl rfl (by kernel_rfl) (by kernel_rfl) (by kernel_rfl) (fun _ _ _ h => h) (Or.inl ⟨by kernel_rfl, ?hya3⟩) (by assumption) ?resta3
      case hya3 => first | (intro w hSw; (try dsimp only at hSw); go_simp; done) | (intro w hSw; (try dsimp only at hSw); go_simp; with_reducible rfl)
      (try simp only [Act.put, List.setIfInBounds_toArray, List.set_cons_zero, List.set_cons_succ])
      refine takeD (i := 4) (v := ?_) (d := some 39) rfl rfl (by kernel_rfl) (by kernel_rfl) (by kernel_rfl) (fun _ _ _ h => h) (Or.inl ⟨by kernel_rfl, ?hya4⟩) (by assumption) ?resta4
      case hya4 => first | (intro w hSw; (try dsimp only at hSw); go_simp; done) | (intro w hSw; (try dsimp only at hSw); go_simp; with_reducible rfl)
      (try simp only [Act.put, List.setIfInBounds_toArray, List.set_cons_zero, List.set_cons_succ])
      refine takeD (i := 5) (v := undef) (d := some 40) rfl rfl (by kernel_rfl) (by kernel_rfl) (by kernel_rfl) (fun _ _ _ h => h) (Or.inr ⟨by kernel_rfl, rfl⟩) (by assumption) ?_
      (try simp only [Act.put, List.setIfInBounds_toArray, List.set_cons_zero, List.set_cons_succ])
      refine takeD (i := 6) (v := undef) (d := some 41) rfl rfl (by kernel_rfl) (by kernel_rfl) (by kernel_rfl) (fun _ _ _ h => h) (Or.inr ⟨by kernel_rfl, rfl⟩) (by assumption) ?_
      (try simp only [Act.put, List.setIfInBounds_toArray, List.set_cons_zero, List.set_cons_succ])
      refine takeD (i := 7) (v := undef) (d := some 42) rfl rfl (by kernel_rfl) (by kernel_rfl) (by kernel_rfl) (fun _ _ _ h => h) (Or.inr ⟨by kernel_rfl, rfl⟩) (by assumption) ?_
      (try simp only [Act.put, List.setIfInBounds_toArray, List.set_cons_zero, List.set_cons_succ])
      refine takeD (i := 8) (v := undef) (d := some 43) rfl rfl (by kernel_rfl) (by kernel_rfl) (by kernel_rfl) (fun _ _ _ h => h) (Or.inr ⟨by kernel_rfl, rfl⟩) (by assumption) ?_
      (try simp only [Act.put, List.setIfInBounds_toArray, List.set_cons_zero, List.set_cons_succ])
      refine takeD (i := 9) (v := undef) (d := some 44) rfl rfl (by kernel_rfl) (by kernel_rfl) (by kernel_rfl) (fun _ _ _ h => h) (Or.inr ⟨by kernel_rfl, rfl⟩) (by assumption) ?_
      (try simp only [Act.put, List.setIfInBounds_toArray, List.set_cons_zero, List.set_cons_succ])
      refine takeD (i := 10) (v := undef) (d := some 45) rfl rfl (by kernel_rfl) (by kernel_rfl) (by kernel_rfl) (fun _ _ _ h => h) (Or.inr ⟨by kernel_rfl, rfl⟩) (by assumption) ?_
      (try simp only [Act.put, List.setIfInBounds_toArray, List.set_cons_zero, List.set_cons_succ])
      refine takeD (i := 11) (v := undef) (d := some 46) rfl rfl (by kernel_rfl) (by kernel_rfl) (by kernel_rfl) (fun _ _ _ h => h) (Or.inr ⟨by kernel_rfl, rfl⟩) (by assumption) ?_
      (try simp only [Act.put, List.setIfInBounds_toArray, List.set_cons_zero, List.set_cons_succ])
      refine takeD (i := 12) (v := undef) (d := some 47) rfl rfl (by kernel_rfl) (by kernel_rfl) (by kernel_rfl) (fun _ _ _ h => h) (Or.inr ⟨by kernel_rfl, rfl⟩) (by assumption) ?_
      (try simp only [Act.put, List.setIfInBounds_toArray, List.set_cons_zero, List.set_cons_succ])
      refine takeD (i := 13) (v := undef) (d := some 48) rfl rfl (by kernel_rfl) (by kernel_rfl) (by kernel_rfl) (fun _ _ _ h => h) (Or.inr ⟨by kernel_rfl, rfl⟩) (by assumption) ?_
      (try simp only [Act.put, List.setIfInBounds_toArray, List.set_cons_zero, List.set_cons_succ])
      refine takeD (i := 14) (v := undef) (d := some 49) rfl rfl (by kernel_rfl) (by kernel_rfl) (by kernel_rfl) (fun _ _ _ h => h) (Or.inr ⟨by kernel_rfl, rfl⟩) (by assumption) ?_
      (try simp only [Act.put, List.setIfInBounds_toArray, List.set_cons_zero, List.set_cons_succ])
      refine takeD (i := 15) (v := undef) (d := some 50) rfl rfl (by kernel_rfl) (by kernel_rfl) (by kernel_rfl) (fun _ _ _ h => h) (Or.inr ⟨by kernel_rfl, rfl⟩) (by assumption) ?_
      (try simp only [Act.put, List.setIfInBounds_toArray, List.set_cons_zero, List.set_cons_succ])
      refine takeD (i := 16) (v := undef) (d := some 51) rfl rfl (by kernel_rfl) (by kernel_rfl) (by kernel_rfl) (fun _ _ _ h => h) (Or.inr ⟨by kernel_rfl, rfl⟩) (by assumption) ?_
      (try simp only [Act.put, List.setIfInBounds_toArray, List.set_cons_zero, List.set_cons_succ])
      refine takeD (i := 17) (v := undef) (d := some 52) rfl rfl (by kernel_rfl) (by kernel_rfl) (by kernel_rfl) (fun _ _ _ h => h) (Or.inr ⟨by kernel_rfl, rfl⟩) (by assumption) ?_
      (try simp only [Act.put, List.setIfInBounds_toArray, List.set_cons_zero, List.set_cons_succ])
      refine takeD (i := 18) (v := ?_) (d := some 53) rfl rfl (by kernel_rfl) (by kernel_rfl) (by kernel_rfl) (fun _ _ _ h => h) (Or.inl ⟨by kernel_rfl, ?hya18⟩) (by assumption) ?resta18
      case hya18 => first | (intro w hSw; (try dsimp only at hSw); go_simp; done) | (intro w hSw; (try dsimp only at hSw); go_simp; with_reducible rfl)
      (try simp only [Act.put, List.setIfInBounds_toArray, List.set_cons_zero, List.set_cons_succ])
      refine wpAnyH_done (by kernel_rfl) ?_ _
      all_goals
        have HBZ := Lib.hid (below_step HBW.out HBT)
        clear MX BX BR HBT kc0 kc1 kc2 kc3 kc4 kc5 kc6 kc7 kc8
        go_wp2_with fail
        go_ret
        exact ⟨ret_bool HF.out.symm, HBZ.out⟩
    | true =>
    rcases Nat.eq_zero_or_pos k with h0 | h0
    · subst h0
      have HAT : Hid (mrAt t s q ds 0 = true) := by unfold Hid; rw [mrAt_zero HE.out]; exact HOK.out
      have k1_ : True := trivial
      go_upto_region 6 with fail
      rw [← HWT.out]
      clear m0 m1 m2 m3 c0 c1 c2 c3 c4
      obtain ⟨kc0, kc1, kc2, kc3, kc4, kc5, kc6, kc7, kc8⟩ := s9 MX BX
      refine wp_region_held_drew (S := fun W => W.cell? ⟨w.heap.size, 0, none⟩ = some (.int .i64 t) ∧ W.cell? ⟨w.heap.size, 1, none⟩ = some (.int .i64 s) ∧ W.cell? ⟨w.heap.size, 2, none⟩ = some (.int .i64 q) ∧ W.cell? ⟨w.heap.size, 3, none⟩ = some (.slice (some ⟨gr, 0, none⟩) n c) ∧ W.cell? ⟨wr.heap.size, 0, none⟩ = some (.int .i64 e.d.f0) ∧ W.cell? ⟨wr.heap.size, 1, none⟩ = some (.slice (some ⟨g1, 0, none⟩) l1 l1) ∧ W.cell? ⟨wr.heap.size, 2, none⟩ = some (.slice (some ⟨g2, 0, none⟩) l2 l2) ∧ W.cell? ⟨wr.heap.size, 3, none⟩ = some (.slice (some ⟨g3, 0, none⟩) l3 l3) ∧ W.cell? ⟨wr.heap.size, 4, none⟩ = some (.int .i64 e.d.f4)) (by kernel_rfl) ?_ (fun hHeld => ?_)
      · (try dsimp only); (first | go_keep | exact ⟨kc0, kc1, kc2, kc3, kc4, kc5, kc6, kc7, kc8⟩)
      refine takeD (i := 0) (v := ?_) (d := some 35) rfl rfl (by kernel_rfl) (by kernel_rfl) (by kernel_rfl) (fun _ _ _ h => h) (Or.inl ⟨by kernel_rfl, ?hyb0⟩) (by assumption) ?restb0
      case hyb0 => first | (intro w hSw; (try dsimp only at hSw); go_simp; done) | (intro w hSw; (try dsimp only at hSw); go_simp; with_reducible rfl)
      (try simp only [Act.put, List.setIfInBounds_toArray, List.set_cons_zero, List.set_cons_succ])
      refine takeD (i := 1) (v := ?_) (d := some 36) rfl rfl (by kernel_rfl) (by kernel_rfl) (by kernel_rfl) (fun _ _ _ h => h) (Or.inl ⟨by kernel_rfl, ?hyb1⟩) (by assumption) ?restb1
      case hyb1 => first | (intro w hSw; (try dsimp only at hSw); go_simp; done) | (intro w hSw; (try dsimp only at hSw); go_simp; with_reducible rfl)
      (try simp only [Act.put, List.setIfInBounds_toArray, List.set_cons_zero, List.set_cons_succ])
      refine wpAnyH_ready (rs := [2]) (by kernel_rfl) (by simp) ?_
      refine AllReadyH.cons rfl (fun K hK => ?_) AllReadyH.nil
      go_simp
      (have _ := k1_; clear k1_; go_at_call 83; refine (HVR.out _ (by exact BR.drew)).mono ?_; rintro z x1 ⟨rfl, bb⟩; replace bb := below_drew_at bb; replace MX := MX.below bb; replace BX := BX.below bb; replace HBT := below_step HBT bb; replace BR := below_step BR bb; clear bb kc0 kc1 kc2 kc3 kc4 kc5 kc6 kc7 kc8; obtain ⟨kc0, kc1, kc2, kc3, kc4, kc5, kc6, kc7, kc8⟩ := s9 MX BX; have k2_ : True := trivial)
      (try go_wp2_with fail)
      refine hK.out _ _ ?_ (fun hHeld => ?_)
      · (try dsimp only); (first | go_keep | exact ⟨kc0, kc1, kc2, kc3, kc4, kc5, kc6, kc7, kc8⟩)
      clear hK K
      (try simp only [Act.put, List.setIfInBounds_toArray, List.set_cons_zero, List.set_cons_succ])
      refine takeD (i := 3) (v := ?_) (d := some 38) rfl rfl (by kernel_rfl) (by kernel_rfl) (by kernel_rfl) (fun _ _ _ h => h) (Or.inl ⟨by kernel_rfl, ?hyb3⟩) (by assumption) ?restb3
      case hyb3 => first | (intro w hSw; (try dsimp only at hSw); go_simp; done) | (intro w hSw; (try dsimp only at hSw); go_simp; with_reducible rfl)
      (try simp only [Act.put, List.setIfInBounds_toArray, List.set_cons_zero, List.set_cons_succ])
      refine takeD (i := 4) (v := ?_) (d := some 39) rfl rfl (by kernel_rfl) (by kernel_rfl) (by kernel_rfl) (fun _ _ _ h => h) (Or.inl ⟨by kernel_rfl, ?hyb4⟩) (by assumption) ?restb4
      case hyb4 => first | (intro w hSw; (try dsimp only at hSw); go_simp; done) | (intro w hSw; (try dsimp only at hSw); go_simp; with_reducible rfl)
      (try simp only [Act.put, List.setIfInBounds_toArray, List.set_cons_zero, List.set_cons_succ])
      refine takeD (i := 5) (v := ?_) (d := some 40) rfl rfl (by kernel_rfl) (by kernel_rfl) (by kernel_rfl) (fun _ _ _ h => h) (Or.inl ⟨by kernel_rfl, ?hyb5⟩) (by assumption) ?restb5
      case hyb5 => first | (intro w hSw; (try dsimp only at hSw); go_simp; done) | (intro w hSw; (try dsimp only at hSw); go_simp; with_reducible rfl)
      (try simp only [Act.put, List.setIfInBounds_toArray, List.set_cons_zero, List.set_cons_succ])
      refine takeD (i := 6) (v := ?_) (d := some 41) rfl rfl (by kernel_rfl) (by kernel_rfl) (by kernel_rfl) (fun _ _ _ h => h) (Or.inl ⟨by kernel_rfl, ?hyb6⟩) (by assumption) ?restb6
      case hyb6 => first | (intro w hSw; (try dsimp only at hSw); go_simp; done) | (intro w hSw; (try dsimp only at hSw); go_simp; with_reducible rfl)
      (try simp only [Act.put, List.setIfInBounds_toArray, List.set_cons_zero, List.set_cons_succ])
      refine takeD (i := 7) (v := ?_) (d := some 42) rfl rfl (by kernel_rfl) (by kernel_rfl) (by kernel_rfl) (fun _ _ _ h => h) (Or.inl ⟨by kernel_rfl, ?hyb7⟩) (by assumption) ?restb7
      case hyb7 => first | (intro w hSw; (try dsimp only at hSw); go_simp; done) | (intro w hSw; (try dsimp only at hSw); go_simp; with_reducible rfl)
      (try simp only [Act.put, List.setIfInBounds_toArray, List.set_cons_zero, List.set_cons_succ])
      refine takeD (i := 8) (v := undef) (d := some 43) rfl rfl (by kernel_rfl) (by kernel_rfl) (by kernel_rfl) (fun _ _ _ h => h) (Or.inr ⟨by kernel_rfl, rfl⟩) (by assumption) ?_
      (try simp only [Act.put, List.setIfInBounds_toArray, List.set_cons_zero, List.set_cons_succ])
      refine takeD (i := 9) (v := undef) (d := some 44) rfl rfl (by kernel_rfl) (by kernel_rfl) (by kernel_rfl) (fun _ _ _ h => h) (Or.inr ⟨by kernel_rfl, rfl⟩) (by assumption) ?_
      (try simp only [Act.put, List.setIfInBounds_toArray, List.set_cons_zero, List.set_cons_succ])
      refine takeD (i := 10) (v := undef) (d := some 45) rfl rfl (by kernel_rfl) (by kernel_rfl) (by kernel_rfl) (fun _ _ _ h => h) (Or.inr ⟨by kernel_rfl, rfl⟩) (by assumption) ?_
      (try simp only [Act.put, List.setIfInBounds_toArray, List.set_cons_zero, List.set_cons_succ])
      refine takeD (i := 11) (v := undef) (d := some 46) rfl rfl (by kernel_rfl) (by kernel_rfl) (by kernel_rfl) (fun _ _ _ h => h) (Or.inr ⟨by kernel_rfl, rfl⟩) (by assumption) ?_
      (try simp only [Act.put, List.setIfInBounds_toArray, List.set_cons_zero, List.set_cons_succ])
      refine takeD (i := 12) (v := undef) (d := some 47) rfl rfl (by kernel_rfl) (by kernel_rfl) (by kernel_rfl) (fun _ _ _ h => h) (Or.inr ⟨by kernel_rfl, rfl⟩) (by assumption) ?_
      (try simp only [Act.put, List.setIfInBounds_toArray, List.set_cons_zero, List.set_cons_succ])
      refine takeD (i := 13) (v := undef) (d := some 48) rfl rfl (by kernel_rfl) (by kernel_rfl) (by kernel_rfl) (fun _ _ _ h => h) (Or.inr ⟨by kernel_rfl, rfl⟩) (by assumption) ?_
      (try simp only [Act.put, List.setIfInBounds_toArray, List.set_cons_zero, List.set_cons_succ])
      refine takeD (i := 14) (v := undef) (d := some 49) rfl rfl (by kernel_rfl) (by kernel_rfl) (by kernel_rfl) (fun _ _ _ h => h) (Or.inr ⟨by kernel_rfl, rfl⟩) (by assumption) ?_
      (try simp only [Act.put, List.setIfInBounds_toArray, List.set_cons_zero, List.set_cons_succ])
      refine takeD (i := 15) (v := undef) (d := some 50) rfl rfl (by kernel_rfl) (by kernel_rfl) (by kernel_rfl) (fun _ _ _ h => h) (Or.inr ⟨by kernel_rfl, rfl⟩) (by assumption) ?_
      (try simp only [Act.put, List.setIfInBounds_toArray, List.set_cons_zero, List.set_cons_succ])
      refine takeD (i := 16) (v := undef) (d := some 51) rfl rfl (by kernel_rfl) (by kernel_rfl) (by kernel_rfl) (fun _ _ _ h => h) (Or.inr ⟨by kernel_rfl, rfl⟩) (by assumption) ?_
      (try simp only [Act.put, List.setIfInBounds_toArray, List.set_cons_zero, List.set_cons_succ])
      refine takeD (i := 17) (v := ?_) (d := some 52) rfl rfl (by kernel_rfl) (by kernel_rfl) (by kernel_rfl) (fun _ _ _ h => h) (Or.inl ⟨by kernel_rfl, ?hyb17⟩) (by assumption) ?restb17
      case hyb17 => first | (intro w hSw; (try dsimp only at hSw); go_simp; done) | (intro w hSw; (try dsimp only at hSw); go_simp; with_reducible rfl)
      (try simp only [Act.put, List.setIfInBounds_toArray, List.set_cons_zero, List.set_cons_succ])
      refine takeD (i := 18) (v := ?_) (d := some 53) rfl rfl (by kernel_rfl) (by kernel_rfl) (by kernel_rfl) (fun _ _ _ h => h) (Or.inl ⟨by kernel_rfl, ?hyb18⟩) (by assumption) ?restb18
      case hyb18 => first | (intro w hSw; (try dsimp only at hSw); go_simp; done) | (intro w hSw; (try dsimp only at hSw); go_simp; with_reducible rfl)
      (try simp only [Act.put, List.setIfInBounds_toArray, List.set_cons_zero, List.set_cons_succ])
      refine wpAnyH_done (by kernel_rfl) ?_ _
      all_goals
        have HBN := Lib.hid HBT
        clear MX BX BR HBT kc0 kc1 kc2 kc3 kc4 kc5 kc6 kc7 kc8
        go_wp2_with fail
        go_roundw
        case rel => exact ⟨1, by omega, rfl, HBN, by
          intro j hj
          obtain rfl : j = 0 := by omega
          exact HAT.out⟩
        case measure => simp [intOf]; omega
    · obtain ⟨p, rfl⟩ : ∃ p, k = p + 1 := ⟨k - 1, by omega⟩
      obtain ⟨e', he'⟩ : ∃ e, es[p]? = some e := ⟨_, List.getElem?_eq_getElem (by have := HLE.out; omega)⟩
      have HE' : Hid (ds[p]? = some e'.d) := by unfold Hid; rw [← HD.out, List.getElem?_map, he']; rfl
      have hem' := List.mem_of_getElem? he'
      obtain ⟨hp1, hp2, hp3⟩ := HLENS.out e' hem'
      obtain ⟨⟨h1, hv1, ht1⟩, ⟨h2, hv2, ht2⟩, ⟨h3, hv3, ht3⟩, -⟩ := MX.rc.at hem'
      obtain ⟨m1', hm1⟩ : ∃ l, e'.d.f1.length = l := ⟨_, rfl⟩
      obtain ⟨m2', hm2⟩ : ∃ l, e'.d.f2.length = l := ⟨_, rfl⟩
      obtain ⟨m3', hm3⟩ : ∃ l, e'.d.f3.length = l := ⟨_, rfl⟩
      rw [hm1] at hv1 hp1; rw [hm2] at hv2; rw [hm3] at hv3
      obtain ⟨d0, d1, d2, d3, d4⟩ := mrC_of MX.rs he'
      rw [hv1] at d1; rw [hv2] at d2; rw [hv3] at d3
      have RX : MrV wt gr (p * 5) e'.d.f0 (.slice (some ⟨h1, 0, none⟩) m1' m1') (.slice (some ⟨h2, 0, none⟩) m2' m2') (.slice (some ⟨h3, 0, none⟩) m3' m3') e'.d.f4 := ⟨d0, d1, d2, d3, d4⟩
      obtain ⟨zc, hzc⟩ : ∃ z, mrCmp e'.d e.d = z := ⟨_, rfl⟩
      have hbe := mrCmp_before e'.d e.d
      rw [hzc] at hbe
      have HT1 := Lib.hid ht1
      have HM1 := Lib.hid hm1
      have HCM : Hid (∀ W : World, Below wt.heap.size wt W → Calls Tryd.prog 84 #[.agg #[.int .i64 e'.d.f0, (.slice (some ⟨h1, 0, none⟩) m1' m1'), (.slice (some ⟨h2, 0, none⟩) m2' m2'), (.slice (some ⟨h3, 0, none⟩) m3' m3'), .int .i64 e'.d.f4], .agg #[.int .i64 e.d.f0, (.slice (some ⟨g1, 0, none⟩) l1 l1), (.slice (some ⟨g2, 0, none⟩) l2 l2), (.slice (some ⟨g3, 0, none⟩) l3 l3), .int .i64 e.d.f4]] W fun z w' => z = .returned (.int .i64 zc) ∧ Below W.heap.size W w') := fun W hW =>
        compareMultiRules_is e'.d.f0 e.d.f0 e'.d e.d h1 g1 m1' l1 _ _ _ _ _ _ zc hzc rfl rfl W (HT1.out.below' hW) (RW.out.s1.below' hW) HM1.out HL1.out hp1 HB1.out
      have hwp : IntKind.i64.wrap (p : Int) = (p : Int) := IntWalk.i64_in _ (by omega)
      have hpos : (0 : Int) < (p : Int) + 1 := by omega
      have hpos0 : (0 : Int) ≤ (p : Int) := by omega
      have hpn : (p : Int) < (n : Int) := by omega
      clear he' hem' hm1 hm2 hm3 hv1 hv2 hv3 ht1 ht2 ht3 hp1 hp2 hp3 d0 d1 d2 d3 d4 hzc
      cases bb9 : mrBefore e'.d e.d with
      | false =>
        rw [bb9] at hbe
        have hdz : decide (0 ≤ zc) = true := hbe
        have hdz2 : (0 : Int) ≤ zc := of_decide_eq_true hbe
        have HF : Hid (v = false) := by
          unfold Hid
          rw [HALL.out, ← HLD.out]
          exact multi_no (j := p + 1) (by have := HLD.out; omega) (by rw [mrAt_succ HE.out HE'.out, HOK.out, bb9]; rfl)
        clear bb9 hbe
        have k1_ : True := trivial
        go_upto_region 6 with fail
        rw [← HWT.out]
        clear m0 m1 m2 m3 c0 c1 c2 c3 c4
        obtain ⟨kc0, kc1, kc2, kc3, kc4, kc5, kc6, kc7, kc8, kc9, kc10, kc11, kc12, kc13⟩ := s14 MX BX RX
        refine wp_region_held_drew (S := fun W => W.cell? ⟨w.heap.size, 0, none⟩ = some (.int .i64 t) ∧ W.cell? ⟨w.heap.size, 1, none⟩ = some (.int .i64 s) ∧ W.cell? ⟨w.heap.size, 2, none⟩ = some (.int .i64 q) ∧ W.cell? ⟨w.heap.size, 3, none⟩ = some (.slice (some ⟨gr, 0, none⟩) n c) ∧ W.cell? ⟨wr.heap.size, 0, none⟩ = some (.int .i64 e.d.f0) ∧ W.cell? ⟨wr.heap.size, 1, none⟩ = some (.slice (some ⟨g1, 0, none⟩) l1 l1) ∧ W.cell? ⟨wr.heap.size, 2, none⟩ = some (.slice (some ⟨g2, 0, none⟩) l2 l2) ∧ W.cell? ⟨wr.heap.size, 3, none⟩ = some (.slice (some ⟨g3, 0, none⟩) l3 l3) ∧ W.cell? ⟨wr.heap.size, 4, none⟩ = some (.int .i64 e.d.f4) ∧ W.cell? ⟨gr, p * 5, none⟩ = some (.int .i64 e'.d.f0) ∧ W.cell? ⟨gr, p * 5 + 1, none⟩ = some (.slice (some ⟨h1, 0, none⟩) m1' m1') ∧ W.cell? ⟨gr, p * 5 + 2, none⟩ = some (.slice (some ⟨h2, 0, none⟩) m2' m2') ∧ W.cell? ⟨gr, p * 5 + 3, none⟩ = some (.slice (some ⟨h3, 0, none⟩) m3' m3') ∧ W.cell? ⟨gr, p * 5 + 4, none⟩ = some (.int .i64 e'.d.f4)) (by kernel_rfl) ?_ (fun hHeld => ?_)
        · (try dsimp only); (first | go_keep | exact ⟨kc0, kc1, kc2, kc3, kc4, kc5, kc6, kc7, kc8, kc9, kc10, kc11, kc12, kc13⟩)
        refine takeD (i := 0) (v := ?_) (d := some 35) rfl rfl (by kernel_rfl) (by kernel_rfl) (by kernel_rfl) (fun _ _ _ h => h) (Or.inl ⟨by kernel_rfl, ?hyc0⟩) (by assumption) ?restc0
        case hyc0 => first | (intro w hSw; (try dsimp only at hSw); go_simp; done) | (intro w hSw; (try dsimp only at hSw); go_simp; with_reducible rfl)
        (try simp only [Act.put, List.setIfInBounds_toArray, List.set_cons_zero, List.set_cons_succ])
        refine takeD (i := 1) (v := ?_) (d := some 36) rfl rfl (by kernel_rfl) (by kernel_rfl) (by kernel_rfl) (fun _ _ _ h => h) (Or.inl ⟨by kernel_rfl, ?hyc1⟩) (by assumption) ?restc1
        case hyc1 => first | (intro w hSw; (try dsimp only at hSw); go_simp; done) | (intro w hSw; (try dsimp only at hSw); go_simp; with_reducible rfl)
        (try simp only [Act.put, List.setIfInBounds_toArray, List.set_cons_zero, List.set_cons_succ])
        refine wpAnyH_ready (rs := [2]) (by kernel_rfl) (by simp) ?_
        refine AllReadyH.cons rfl (fun K hK => ?_) AllReadyH.nil
        go_simp
        (have _ := k1_; clear k1_; go_at_call 83; refine (HVR.out _ (by exact BR.drew)).mono ?_; rintro z x1 ⟨rfl, bb⟩; replace bb := below_drew_at bb; replace MX := MX.below bb; replace BX := BX.below bb; replace RX := RX.below bb; replace HBT := below_step HBT bb; replace BR := below_step BR bb; clear bb kc0 kc1 kc2 kc3 kc4 kc5 kc6 kc7 kc8 kc9 kc10 kc11 kc12 kc13; obtain ⟨kc0, kc1, kc2, kc3, kc4, kc5, kc6, kc7, kc8, kc9, kc10, kc11, kc12, kc13⟩ := s14 MX BX RX; have k2_ : True := trivial)
        (try go_wp2_with fail)
        refine hK.out _ _ ?_ (fun hHeld => ?_)
        · (try dsimp only); (first | go_keep | exact ⟨kc0, kc1, kc2, kc3, kc4, kc5, kc6, kc7, kc8, kc9, kc10, kc11, kc12, kc13⟩)
        clear hK K
        (try simp only [Act.put, List.setIfInBounds_toArray, List.set_cons_zero, List.set_cons_succ])
        refine takeD (i := 3) (v := ?_) (d := some 38) rfl rfl (by kernel_rfl) (by kernel_rfl) (by kernel_rfl) (fun _ _ _ h => h) (Or.inl ⟨by kernel_rfl, ?hyc3⟩) (by assumption) ?restc3
        case hyc3 => first | (intro w hSw; (try dsimp only at hSw); go_simp; done) | (intro w hSw; (try dsimp only at hSw); go_simp; with_reducible rfl)
        (try simp only [Act.put, List.setIfInBounds_toArray, List.set_cons_zero, List.set_cons_succ])
        refine takeD (i := 4) (v := ?_) (d := some 39) rfl rfl (by kernel_rfl) (by kernel_rfl) (by kernel_rfl) (fun _ _ _ h => h) (Or.inl ⟨by kernel_rfl, ?hyc4⟩) (by assumption) ?restc4
        case hyc4 => first | (intro w hSw; (try dsimp only at hSw); go_simp; done) | (intro w hSw; (try dsimp only at hSw); go_simp; with_reducible rfl)
        (try simp only [Act.put, List.setIfInBounds_toArray, List.set_cons_zero, List.set_cons_succ])
        refine takeD (i := 5) (v := ?_) (d := some 40) rfl rfl (by kernel_rfl) (by kernel_rfl) (by kernel_rfl) (fun _ _ _ h => h) (Or.inl ⟨by kernel_rfl, ?hyc5⟩) (by assumption) ?restc5
        case hyc5 => first | (intro w hSw; (try dsimp only at hSw); go_simp; done) | (intro w hSw; (try dsimp only at hSw); go_simp; with_reducible rfl)
        (try simp only [Act.put, List.setIfInBounds_toArray, List.set_cons_zero, List.set_cons_succ])
        refine takeD (i := 6) (v := ?_) (d := some 41) rfl rfl (by kernel_rfl) (by kernel_rfl) (by kernel_rfl) (fun _ _ _ h => h) (Or.inl ⟨by kernel_rfl, ?hyc6⟩) (by assumption) ?restc6
        case hyc6 => first | (intro w hSw; (try dsimp only at hSw); go_simp; done) | (intro w hSw; (try dsimp only at hSw); go_simp; with_reducible rfl)
        (try simp only [Act.put, List.setIfInBounds_toArray, List.set_cons_zero, List.set_cons_succ])
        refine takeD (i := 7) (v := ?_) (d := some 42) rfl rfl (by kernel_rfl) (by kernel_rfl) (by kernel_rfl) (fun _ _ _ h => h) (Or.inl ⟨by kernel_rfl, ?hyc7⟩) (by assumption) ?restc7
        case hyc7 => first | (intro w hSw; (try dsimp only at hSw); go_simp; done) | (intro w hSw; (try dsimp only at hSw); go_simp; with_reducible rfl)
        (try simp only [Act.put, List.setIfInBounds_toArray, List.set_cons_zero, List.set_cons_succ])
        refine takeD (i := 8) (v := ?_) (d := some 43) rfl rfl (by kernel_rfl) (by kernel_rfl) (by kernel_rfl) (fun _ _ _ h => h) (Or.inl ⟨by kernel_rfl, ?hyc8⟩) (by assumption) ?restc8
        case hyc8 => first | (intro w hSw; (try dsimp only at hSw); go_simp; done) | (intro w hSw; (try dsimp only at hSw); go_simp; with_reducible rfl)
        (try simp only [Act.put, List.setIfInBounds_toArray, List.set_cons_zero, List.set_cons_succ])
        refine takeD (i := 9) (v := ?_) (d := some 44) rfl rfl (by kernel_rfl) (by kernel_rfl) (by kernel_rfl) (fun _ _ _ h => h) (Or.inl ⟨by kernel_rfl, ?hyc9⟩) (by assumption) ?restc9
        case hyc9 => first | (intro w hSw; (try dsimp only at hSw); go_simp; done) | (intro w hSw; (try dsimp only at hSw); go_simp; with_reducible rfl)
        (try simp only [Act.put, List.setIfInBounds_toArray, List.set_cons_zero, List.set_cons_succ])
        refine takeD (i := 10) (v := ?_) (d := some 45) rfl rfl (by kernel_rfl) (by kernel_rfl) (by kernel_rfl) (fun _ _ _ h => h) (Or.inl ⟨by kernel_rfl, ?hyc10⟩) (by assumption) ?restc10
        case hyc10 => first | (intro w hSw; (try dsimp only at hSw); go_simp; done) | (intro w hSw; (try dsimp only at hSw); go_simp; with_reducible rfl)
        (try simp only [Act.put, List.setIfInBounds_toArray, List.set_cons_zero, List.set_cons_succ])
        refine takeD (i := 11) (v := ?_) (d := some 46) rfl rfl (by kernel_rfl) (by kernel_rfl) (by kernel_rfl) (fun _ _ _ h => h) (Or.inl ⟨by kernel_rfl, ?hyc11⟩) (by assumption) ?restc11
        case hyc11 => first | (intro w hSw; (try dsimp only at hSw); go_simp; done) | (intro w hSw; (try dsimp only at hSw); go_simp; with_reducible rfl)
        (try simp only [Act.put, List.setIfInBounds_toArray, List.set_cons_zero, List.set_cons_succ])
        refine takeD (i := 12) (v := ?_) (d := some 47) rfl rfl (by kernel_rfl) (by kernel_rfl) (by kernel_rfl) (fun _ _ _ h => h) (Or.inl ⟨by kernel_rfl, ?hyc12⟩) (by assumption) ?restc12
        case hyc12 => first | (intro w hSw; (try dsimp only at hSw); go_simp; done) | (intro w hSw; (try dsimp only at hSw); go_simp; with_reducible rfl)
        (try simp only [Act.put, List.setIfInBounds_toArray, List.set_cons_zero, List.set_cons_succ])
        refine takeD (i := 13) (v := ?_) (d := some 48) rfl rfl (by kernel_rfl) (by kernel_rfl) (by kernel_rfl) (fun _ _ _ h => h) (Or.inl ⟨by kernel_rfl, ?hyc13⟩) (by assumption) ?restc13
        case hyc13 => first | (intro w hSw; (try dsimp only at hSw); go_simp; done) | (intro w hSw; (try dsimp only at hSw); go_simp; with_reducible rfl)
        (try simp only [Act.put, List.setIfInBounds_toArray, List.set_cons_zero, List.set_cons_succ])
        refine takeD (i := 14) (v := ?_) (d := some 49) rfl rfl (by kernel_rfl) (by kernel_rfl) (by kernel_rfl) (fun _ _ _ h => h) (Or.inl ⟨by kernel_rfl, ?hyc14⟩) (by assumption) ?restc14
        case hyc14 => first | (intro w hSw; (try dsimp only at hSw); go_simp; done) | (intro w hSw; (try dsimp only at hSw); go_simp; with_reducible rfl)
        (try simp only [Act.put, List.setIfInBounds_toArray, List.set_cons_zero, List.set_cons_succ])
        refine wpAnyH_ready (rs := [15]) (by kernel_rfl) (by simp) ?_
        refine AllReadyH.cons rfl (fun K hK => ?_) AllReadyH.nil
        go_simp
        (have _ := k2_; clear k2_; go_at_call 84; refine (HCM.out _ (by exact BR)).mono ?_; rintro z x2 ⟨rfl, bb⟩; replace MX := MX.below bb; replace BX := BX.below bb; replace RX := RX.below bb; replace HBT := below_step HBT bb; replace BR := below_step BR bb; clear bb kc0 kc1 kc2 kc3 kc4 kc5 kc6 kc7 kc8 kc9 kc10 kc11 kc12 kc13; obtain ⟨kc0, kc1, kc2, kc3, kc4, kc5, kc6, kc7, kc8, kc9, kc10, kc11, kc12, kc13⟩ := s14 MX BX RX; have k3_ : True := trivial)
        (try go_wp2_with fail)
        refine hK.out _ _ ?_ (fun hHeld => ?_)
        · (try dsimp only); (first | go_keep | exact ⟨kc0, kc1, kc2, kc3, kc4, kc5, kc6, kc7, kc8, kc9, kc10, kc11, kc12, kc13⟩)
        clear hK K
        (try simp only [Act.put, List.setIfInBounds_toArray, List.set_cons_zero, List.set_cons_succ])
        refine takeD (i := 16) (v := ?_) (d := some 51) rfl rfl (by kernel_rfl) (by kernel_rfl) (by kernel_rfl) (fun _ _ _ h => h) (Or.inl ⟨by kernel_rfl, ?hyc16⟩) (by assumption) ?restc16
        case hyc16 => first | (intro w hSw; (try dsimp only at hSw); go_simp; done) | (intro w hSw; (try dsimp only at hSw); go_simp; with_reducible rfl)
        (try simp only [Act.put, List.setIfInBounds_toArray, List.set_cons_zero, List.set_cons_succ])
        refine takeD (i := 17) (v := ?_) (d := some 52) rfl rfl (by kernel_rfl) (by kernel_rfl) (by kernel_rfl) (fun _ _ _ h => h) (Or.inl ⟨by kernel_rfl, ?hyc17⟩) (by assumption) ?restc17
        case hyc17 => first | (intro w hSw; (try dsimp only at hSw); go_simp; done) | (intro w hSw; (try dsimp only at hSw); go_simp; with_reducible rfl)
        (try simp only [Act.put, List.setIfInBounds_toArray, List.set_cons_zero, List.set_cons_succ])
        refine takeD (i := 18) (v := ?_) (d := some 53) rfl rfl (by kernel_rfl) (by kernel_rfl) (by kernel_rfl) (fun _ _ _ h => h) (Or.inl ⟨by kernel_rfl, ?hyc18⟩) (by assumption) ?restc18
        case hyc18 => first | (intro w hSw; (try dsimp only at hSw); go_simp; done) | (intro w hSw; (try dsimp only at hSw); go_simp; with_reducible rfl)
        (try simp only [Act.put, List.setIfInBounds_toArray, List.set_cons_zero, List.set_cons_succ])
        refine wpAnyH_done (by kernel_rfl) ?_ _
        all_goals
          have HBZ := Lib.hid (below_step HBW.out HBT)
          clear MX BX BR HBT RX kc0 kc1 kc2 kc3 kc4 kc5 kc6 kc7 kc8 kc9 kc10 kc11 kc12 kc13
          go_wp2_with fail
          go_ret
          exact ⟨ret_bool HF.out.symm, HBZ.out⟩
      | true =>
        rw [bb9] at hbe
        have hdz : decide (0 ≤ zc) = false := hbe
        have hdz2 : ¬ (0 : Int) ≤ zc := of_decide_eq_false hbe
        have HAT : Hid (mrAt t s q ds (p + 1) = true) := by unfold Hid; rw [mrAt_succ HE.out HE'.out, HOK.out, bb9]; rfl
        clear bb9 hbe
        have k1_ : True := trivial
        go_upto_region 6 with fail
        rw [← HWT.out]
        clear m0 m1 m2 m3 c0 c1 c2 c3 c4
        obtain ⟨kc0, kc1, kc2, kc3, kc4, kc5, kc6, kc7, kc8, kc9, kc10, kc11, kc12, kc13⟩ := s14 MX BX RX
        refine wp_region_held_drew (S := fun W => W.cell? ⟨w.heap.size, 0, none⟩ = some (.int .i64 t) ∧ W.cell? ⟨w.heap.size, 1, none⟩ = some (.int .i64 s) ∧ W.cell? ⟨w.heap.size, 2, none⟩ = some (.int .i64 q) ∧ W.cell? ⟨w.heap.size, 3, none⟩ = some (.slice (some ⟨gr, 0, none⟩) n c) ∧ W.cell? ⟨wr.heap.size, 0, none⟩ = some (.int .i64 e.d.f0) ∧ W.cell? ⟨wr.heap.size, 1, none⟩ = some (.slice (some ⟨g1, 0, none⟩) l1 l1) ∧ W.cell? ⟨wr.heap.size, 2, none⟩ = some (.slice (some ⟨g2, 0, none⟩) l2 l2) ∧ W.cell? ⟨wr.heap.size, 3, none⟩ = some (.slice (some ⟨g3, 0, none⟩) l3 l3) ∧ W.cell? ⟨wr.heap.size, 4, none⟩ = some (.int .i64 e.d.f4) ∧ W.cell? ⟨gr, p * 5, none⟩ = some (.int .i64 e'.d.f0) ∧ W.cell? ⟨gr, p * 5 + 1, none⟩ = some (.slice (some ⟨h1, 0, none⟩) m1' m1') ∧ W.cell? ⟨gr, p * 5 + 2, none⟩ = some (.slice (some ⟨h2, 0, none⟩) m2' m2') ∧ W.cell? ⟨gr, p * 5 + 3, none⟩ = some (.slice (some ⟨h3, 0, none⟩) m3' m3') ∧ W.cell? ⟨gr, p * 5 + 4, none⟩ = some (.int .i64 e'.d.f4)) (by kernel_rfl) ?_ (fun hHeld => ?_)
        · (try dsimp only); (first | go_keep | exact ⟨kc0, kc1, kc2, kc3, kc4, kc5, kc6, kc7, kc8, kc9, kc10, kc11, kc12, kc13⟩)
        refine takeD (i := 0) (v := ?_) (d := some 35) rfl rfl (by kernel_rfl) (by kernel_rfl) (by kernel_rfl) (fun _ _ _ h => h) (Or.inl ⟨by kernel_rfl, ?hyd0⟩) (by assumption) ?restd0
        case hyd0 => first | (intro w hSw; (try dsimp only at hSw); go_simp; done) | (intro w hSw; (try dsimp only at hSw); go_simp; with_reducible rfl)
        (try simp only [Act.put, List.setIfInBounds_toArray, List.set_cons_zero, List.set_cons_succ])
        refine takeD (i := 1) (v := ?_) (d := some 36) rfl rfl (by kernel_rfl) (by kernel_rfl) (by kernel_rfl) (fun _ _ _ h => h) (Or.inl ⟨by kernel_rfl, ?hyd1⟩) (by assumption) ?restd1
        case hyd1 => first | (intro w hSw; (try dsimp only at hSw); go_simp; done) | (intro w hSw; (try dsimp only at hSw); go_simp; with_reducible rfl)
        (try simp only [Act.put, List.setIfInBounds_toArray, List.set_cons_zero, List.set_cons_succ])
        refine wpAnyH_ready (rs := [2]) (by kernel_rfl) (by simp) ?_
        refine AllReadyH.cons rfl (fun K hK => ?_) AllReadyH.nil
        go_simp
        (have _ := k1_; clear k1_; go_at_call 83; refine (HVR.out _ (by exact BR.drew)).mono ?_; rintro z x1 ⟨rfl, bb⟩; replace bb := below_drew_at bb; replace MX := MX.below bb; replace BX := BX.below bb; replace RX := RX.below bb; replace HBT := below_step HBT bb; replace BR := below_step BR bb; clear bb kc0 kc1 kc2 kc3 kc4 kc5 kc6 kc7 kc8 kc9 kc10 kc11 kc12 kc13; obtain ⟨kc0, kc1, kc2, kc3, kc4, kc5, kc6, kc7, kc8, kc9, kc10, kc11, kc12, kc13⟩ := s14 MX BX RX; have k2_ : True := trivial)
        (try go_wp2_with fail)
        refine hK.out _ _ ?_ (fun hHeld => ?_)
        · (try dsimp only); (first | go_keep | exact ⟨kc0, kc1, kc2, kc3, kc4, kc5, kc6, kc7, kc8, kc9, kc10, kc11, kc12, kc13⟩)
        clear hK K
        (try simp only [Act.put, List.setIfInBounds_toArray, List.set_cons_zero, List.set_cons_succ])
        refine takeD (i := 3) (v := ?_) (d := some 38) rfl rfl (by kernel_rfl) (by kernel_rfl) (by kernel_rfl) (fun _ _ _ h => h) (Or.inl ⟨by kernel_rfl, ?hyd3⟩) (by assumption) ?restd3
        case hyd3 => first | (intro w hSw; (try dsimp only at hSw); go_simp; done) | (intro w hSw; (try dsimp only at hSw); go_simp; with_reducible rfl)
        (try simp only [Act.put, List.setIfInBounds_toArray, List.set_cons_zero, List.set_cons_succ])
        refine takeD (i := 4) (v := ?_) (d := some 39) rfl rfl (by kernel_rfl) (by kernel_rfl) (by kernel_rfl) (fun _ _ _ h => h) (Or.inl ⟨by kernel_rfl, ?hyd4⟩) (by assumption) ?restd4
        case hyd4 => first | (intro w hSw; (try dsimp only at hSw); go_simp; done) | (intro w hSw; (try dsimp only at hSw); go_simp; with_reducible rfl)
        (try simp only [Act.put, List.setIfInBounds_toArray, List.set_cons_zero, List.set_cons_succ])
        refine takeD (i := 5) (v := ?_) (d := some 40) rfl rfl (by kernel_rfl) (by kernel_rfl) (by kernel_rfl) (fun _ _ _ h => h) (Or.inl ⟨by kernel_rfl, ?hyd5⟩) (by assumption) ?restd5
        case hyd5 => first | (intro w hSw; (try dsimp only at hSw); go_simp; done) | (intro w hSw; (try dsimp only at hSw); go_simp; with_reducible rfl)
        (try simp only [Act.put, List.setIfInBounds_toArray, List.set_cons_zero, List.set_cons_succ])
        refine takeD (i := 6) (v := ?_) (d := some 41) rfl rfl (by kernel_rfl) (by kernel_rfl) (by kernel_rfl) (fun _ _ _ h => h) (Or.inl ⟨by kernel_rfl, ?hyd6⟩) (by assumption) ?restd6
        case hyd6 => first | (intro w hSw; (try dsimp only at hSw); go_simp; done) | (intro w hSw; (try dsimp only at hSw); go_simp; with_reducible rfl)
        (try simp only [Act.put, List.setIfInBounds_toArray, List.set_cons_zero, List.set_cons_succ])
        refine takeD (i := 7) (v := ?_) (d := some 42) rfl rfl (by kernel_rfl) (by kernel_rfl) (by kernel_rfl) (fun _ _ _ h => h) (Or.inl ⟨by kernel_rfl, ?hyd7⟩) (by assumption) ?restd7
        case hyd7 => first | (intro w hSw; (try dsimp only at hSw); go_simp; done) | (intro w hSw; (try dsimp only at hSw); go_simp; with_reducible rfl)
        (try simp only [Act.put, List.setIfInBounds_toArray, List.set_cons_zero, List.set_cons_succ])
        refine takeD (i := 8) (v := ?_) (d := some 43) rfl rfl (by kernel_rfl) (by kernel_rfl) (by kernel_rfl) (fun _ _ _ h => h) (Or.inl ⟨by kernel_rfl, ?hyd8⟩) (by assumption) ?restd8
        case hyd8 => first | (intro w hSw; (try dsimp only at hSw); go_simp; done) | (intro w hSw; (try dsimp only at hSw); go_simp; with_reducible rfl)
        (try simp only [Act.put, List.setIfInBounds_toArray, List.set_cons_zero, List.set_cons_succ])
        refine takeD (i := 9) (v := ?_) (d := some 44) rfl rfl (by kernel_rfl) (by kernel_rfl) (by kernel_rfl) (fun _ _ _ h => h) (Or.inl ⟨by kernel_rfl, ?hyd9⟩) (by assumption) ?restd9
        case hyd9 => first | (intro w hSw; (try dsimp only at hSw); go_simp; done) | (intro w hSw; (try dsimp only at hSw); go_simp; with_reducible rfl)
        (try simp only [Act.put, List.setIfInBounds_toArray, List.set_cons_zero, List.set_cons_succ])
        refine takeD (i := 10) (v := ?_) (d := some 45) rfl rfl (by kernel_rfl) (by kernel_rfl) (by kernel_rfl) (fun _ _ _ h => h) (Or.inl ⟨by kernel_rfl, ?hyd10⟩) (by assumption) ?restd10
        case hyd10 => first | (intro w hSw; (try dsimp only at hSw); go_simp; done) | (intro w hSw; (try dsimp only at hSw); go_simp; with_reducible rfl)
        (try simp only [Act.put, List.setIfInBounds_toArray, List.set_cons_zero, List.set_cons_succ])
        refine takeD (i := 11) (v := ?_) (d := some 46) rfl rfl (by kernel_rfl) (by kernel_rfl) (by kernel_rfl) (fun _ _ _ h => h) (Or.inl ⟨by kernel_rfl, ?hyd11⟩) (by assumption) ?restd11
        case hyd11 => first | (intro w hSw; (try dsimp only at hSw); go_simp; done) | (intro w hSw; (try dsimp only at hSw); go_simp; with_reducible rfl)
        (try simp only [Act.put, List.setIfInBounds_toArray, List.set_cons_zero, List.set_cons_succ])
        refine takeD (i := 12) (v := ?_) (d := some 47) rfl rfl (by kernel_rfl) (by kernel_rfl) (by kernel_rfl) (fun _ _ _ h => h) (Or.inl ⟨by kernel_rfl, ?hyd12⟩) (by assumption) ?restd12
        case hyd12 => first | (intro w hSw; (try dsimp only at hSw); go_simp; done) | (intro w hSw; (try dsimp only at hSw); go_simp; with_reducible rfl)
        (try simp only [Act.put, List.setIfInBounds_toArray, List.set_cons_zero, List.set_cons_succ])
        refine takeD (i := 13) (v := ?_) (d := some 48) rfl rfl (by kernel_rfl) (by kernel_rfl) (by kernel_rfl) (fun _ _ _ h => h) (Or.inl ⟨by kernel_rfl, ?hyd13⟩) (by assumption) ?restd13
        case hyd13 => first | (intro w hSw; (try dsimp only at hSw); go_simp; done) | (intro w hSw; (try dsimp only at hSw); go_simp; with_reducible rfl)
        (try simp only [Act.put, List.setIfInBounds_toArray, List.set_cons_zero, List.set_cons_succ])
        refine takeD (i := 14) (v := ?_) (d := some 49) rfl rfl (by kernel_rfl) (by kernel_rfl) (by kernel_rfl) (fun _ _ _ h => h) (Or.inl ⟨by kernel_rfl, ?hyd14⟩) (by assumption) ?restd14
        case hyd14 => first | (intro w hSw; (try dsimp only at hSw); go_simp; done) | (intro w hSw; (try dsimp only at hSw); go_simp; with_reducible rfl)
        (try simp only [Act.put, List.setIfInBounds_toArray, List.set_cons_zero, List.set_cons_succ])
        refine wpAnyH_ready (rs := [15]) (by kernel_rfl) (by simp) ?_
        refine AllReadyH.cons rfl (fun K hK => ?_) AllReadyH.nil
        go_simp
        (have _ := k2_; clear k2_; go_at_call 84; refine (HCM.out _ (by exact BR)).mono ?_; rintro z x2 ⟨rfl, bb⟩; replace MX := MX.below bb; replace BX := BX.below bb; replace RX := RX.below bb; replace HBT := below_step HBT bb; replace BR := below_step BR bb; clear bb kc0 kc1 kc2 kc3 kc4 kc5 kc6 kc7 kc8 kc9 kc10 kc11 kc12 kc13; obtain ⟨kc0, kc1, kc2, kc3, kc4, kc5, kc6, kc7, kc8, kc9, kc10, kc11, kc12, kc13⟩ := s14 MX BX RX; have k3_ : True := trivial)
        (try go_wp2_with fail)
        refine hK.out _ _ ?_ (fun hHeld => ?_)
        · (try dsimp only); (first | go_keep | exact ⟨kc0, kc1, kc2, kc3, kc4, kc5, kc6, kc7, kc8, kc9, kc10, kc11, kc12, kc13⟩)
        clear hK K
        (try simp only [Act.put, List.setIfInBounds_toArray, List.set_cons_zero, List.set_cons_succ])
        refine takeD (i := 16) (v := ?_) (d := some 51) rfl rfl (by kernel_rfl) (by kernel_rfl) (by kernel_rfl) (fun _ _ _ h => h) (Or.inl ⟨by kernel_rfl, ?hyd16⟩) (by assumption) ?restd16
        case hyd16 => first | (intro w hSw; (try dsimp only at hSw); go_simp; done) | (intro w hSw; (try dsimp only at hSw); go_simp; with_reducible rfl)
        (try simp only [Act.put, List.setIfInBounds_toArray, List.set_cons_zero, List.set_cons_succ])
        refine takeD (i := 17) (v := ?_) (d := some 52) rfl rfl (by kernel_rfl) (by kernel_rfl) (by kernel_rfl) (fun _ _ _ h => h) (Or.inl ⟨by kernel_rfl, ?hyd17⟩) (by assumption) ?restd17
        case hyd17 => first | (intro w hSw; (try dsimp only at hSw); go_simp; done) | (intro w hSw; (try dsimp only at hSw); go_simp; with_reducible rfl)
        (try simp only [Act.put, List.setIfInBounds_toArray, List.set_cons_zero, List.set_cons_succ])
        refine takeD (i := 18) (v := ?_) (d := some 53) rfl rfl (by kernel_rfl) (by kernel_rfl) (by kernel_rfl) (fun _ _ _ h => h) (Or.inl ⟨by kernel_rfl, ?hyd18⟩) (by assumption) ?restd18
        case hyd18 => first | (intro w hSw; (try dsimp only at hSw); go_simp; done) | (intro w hSw; (try dsimp only at hSw); go_simp; with_reducible rfl)
        (try simp only [Act.put, List.setIfInBounds_toArray, List.set_cons_zero, List.set_cons_succ])
        refine wpAnyH_done (by kernel_rfl) ?_ _
        all_goals
          have HBN := Lib.hid HBT
          clear MX BX BR HBT RX kc0 kc1 kc2 kc3 kc4 kc5 kc6 kc7 kc8 kc9 kc10 kc11 kc12 kc13
          go_wp2_with fail
          go_roundw
          case rel => exact ⟨p + 1 + 1, by omega, by go_num, HBN, by
            intro j hj
            by_cases ej : j = p + 1
            · rw [ej]; exact HAT.out
            · exact HRR.out j (by omega)⟩
          case measure => simp [intOf]; omega
end Go.Proofs.YtgcedfpjgdeakaaDoor
