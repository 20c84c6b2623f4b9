/- The law FnExactStepCost returns true for every input, and each argument reads afterwards as before: the proof, part 7. No conditions. -/
import Derived.Test.YtdnkkmmkkfbhhaaStepCostZf
import Derived.StillTailTactics
import Derived.Deep.DeepCutAuto
import Derived.ProofKit
import Derived.OpenShut
import Derived.ShutString
import Derived.ChangeOld
import Derived.Deep.Slices
import Derived.Deep.Fields
import Derived.ChangeSame
/- StepCost of the program. -/
namespace Go.Proofs.Ytdnkkmmkkfbhhaa
open Go.RowKit
set_option linter.all false

set_option maxRecDepth 100000 in
set_option maxHeartbeats 4000000 in
theorem implStepCost_any (S Q : Int) (g0 n0 c0 : Nat) (rs : List R3) (q : Int) (g1 n1 c1 : Nat) (l : List Int) (g2 n2 c2 : Nat) (r : List Int) (w : World) (wS : Wf64 S) (wQ : Wf64 Q) (h0 : Sl w g0 0 (rows R3.vs rs)) (l0 : rs.length = n0) (b0 : n0 ≤ 1048576) (d0 : n0 ≤ c0) (wq : Wf64 q) (h1 : Sl w g1 0 (l.map (Value.int .i64))) (l1 : l.length = n1) (b1 : n1 ≤ 1048576) (d1 : n1 ≤ c1) (h2 : Sl w g2 0 (r.map (Value.int .i64))) (l2 : r.length = n2) (b2 : n2 ≤ 1048576) (d2 : n2 ≤ c2) :
    Calls Try.prog 9 #[.agg #[.int .i64 S, .int .i64 Q, .slice (some ⟨g0, 0, none⟩) n0 c0], .agg #[.int .i64 q, .slice (some ⟨g1, 0, none⟩) n1 c1, .slice (some ⟨g2, 0, none⟩) n2 c2]] w fun e w' => e = .returned (.tuple #[.int .i64 (stepCost S Q rs q l r).1, .int .i64 (stepCost S Q rs q l r).2]) ∧ Below w.heap.size w w' := by
  obtain ⟨w2, HW2, B2, x2, y2⟩ := al2 w (.cells #[.int .i64 S, .int .i64 Q, .slice (some ⟨g0, 0, none⟩) n0 c0] 34) (.cells #[.int .i64 q, .slice (some ⟨g1, 0, none⟩) n1 c1, .slice (some ⟨g2, 0, none⟩) n2 c2] 36)
  have m0 : w2.cell? ⟨w.heap.size, 0, none⟩ = some (.int .i64 S) := by rw [cell_of_heap x2]; rfl
  have m1 : w2.cell? ⟨w.heap.size, 1, none⟩ = some (.int .i64 Q) := by rw [cell_of_heap x2]; rfl
  have m2 : w2.cell? ⟨w.heap.size, 2, none⟩ = some (.slice (some ⟨g0, 0, none⟩) n0 c0) := by rw [cell_of_heap x2]; rfl
  have k0 : w2.cell? ⟨w.heap.size + 1, 0, none⟩ = some (.int .i64 q) := by rw [cell_of_heap y2]; rfl
  have k1 : w2.cell? ⟨w.heap.size + 1, 1, none⟩ = some (.slice (some ⟨g1, 0, none⟩) n1 c1) := by rw [cell_of_heap y2]; rfl
  have k2 : w2.cell? ⟨w.heap.size + 1, 2, none⟩ = some (.slice (some ⟨g2, 0, none⟩) n2 c2) := by rw [cell_of_heap y2]; rfl
  have HS0 := Lib.hid (h0.below' B2)
  have H1 := Lib.hid (h1.below' B2); have H2 := Lib.hid (h2.below' B2)
  have HB2 := Lib.hid B2; have L0 := Lib.hid l0; have L1 := Lib.hid l1; have L2 := Lib.hid l2
  have M0 := Lib.hid m0; have M1 := Lib.hid m1; have M2 := Lib.hid m2; have K0 := Lib.hid k0; have K1 := Lib.hid k1; have K2 := Lib.hid k2
  obtain ⟨v, hv⟩ : ∃ v, (validMach S Q rs && goodB S Q q l r) = v := ⟨_, rfl⟩
  have HVC := Lib.hid (validConfig_is S Q g0 n0 c0 rs q g1 n1 c1 l g2 n2 c2 r v hv w2 HS0.out l0 b0 H1.out l1 b1 H2.out l2 b2)
  have HV := Lib.hid hv
  clear x2 y2 B2 h0 h1 h2 l0 l1 l2 wS wQ wq d0 d1 d2 hv m0 m1 m2 k0 k1 k2
  go_enter Try.func9, Try.ntmps9
  go_upto_region 1 with fail
  rw [← HW2.out]
  have m0 := M0.out; have m1 := M1.out; have m2 := M2.out; have k0 := K0.out; have k1 := K1.out; have k2 := K2.out
  go_wp2_with fail
  refine HVC.out.mono ?_
  rintro e w3 ⟨rfl, b3⟩
  have HB3 := Lib.hid b3
  cases v with
  | false =>
    have HF := Lib.hid (stepCost_bad HV.out)
    have HBX := Lib.hid (below_step HB2.out b3)
    clear b3 m0 m1 m2 k0 k1 k2
    go_wp2
    go_ret2
    exact ⟨by rw [HF.out]; rfl, HBX.out⟩
  | true =>
    have hvv := HV.out
    rw [Bool.and_eq_true] at hvv
    obtain ⟨s, nq, k, G⟩ := good_of hvv.1 hvv.2
    have HF := Lib.hid (stepCost_good' hvv.1 hvv.2 G)
    have e1 := G.hS; have e2 := G.hQ; have e3 := G.hq
    subst e1 e2 e3
    have HGG := Lib.hid G
    have hs := G.s2; have hs6 := G.s6
    replace m0 := cell_step m0 b3; replace m1 := cell_step m1 b3; replace m2 := cell_step m2 b3
    clear b3 hvv G k0 k1 k2
    have HMP := Lib.hid (machineToProgram_any s nq g0 n0 c0 rs w3 (HS0.out.below' HB3.out) L0.out (by omega) hs6 (by have h1 := HGG.out.len; have h2 := L0.out; omega) HGG.out.q1 HGG.out.ok)
    go_wp2_with fail
    refine HMP.out.mono ?_
    rintro e w4 ⟨⟨u1, u2, rfl⟩, b4⟩
    have HB4 := Lib.hid (below_step HB3.out b4)
    clear b4 m0 m1 m2
    by_cases h4 : 400 < secTot s rs nq
    · have hc : codeOf (secTot s rs nq) = 5 := if_pos h4
      rw [hc]
      have HFB : Hid (stepCost s nq rs k l r = (0, 5)) := by have := HF.out; rw [decide_eq_false (by omega), Bool.false_and] at this; exact this
      have HBX := Lib.hid (below_step HB2.out HB4.out)
      clear hc
      go_wp2
      go_ret2
      exact ⟨by rw [HFB.out]; rfl, HBX.out⟩
    · have hc : codeOf (secTot s rs nq) = 0 := if_neg h4
      rw [hc]
      have hF := HF.out
      rw [decide_eq_true (by omega), Bool.true_and] at hF
      have HF2 := Lib.hid hF
      have HA1 : Hid (Arg w4 (some ⟨g1, 0, none⟩) n1 (l.map (Value.int .i64))) := arg_sl (H1.out.below' HB4.out) (by rw [List.length_map]; exact L1.out)
      have HA2 : Hid (Arg w4 (some ⟨g2, 0, none⟩) n2 (r.map (Value.int .i64))) := arg_sl (H2.out.below' HB4.out) (by rw [List.length_map]; exact L2.out)
      have m0 := cell_step M0.out HB4.out; have m1 := cell_step M1.out HB4.out; have m2 := cell_step M2.out HB4.out
      have k0 := cell_step K0.out HB4.out; have k1 := cell_step K1.out HB4.out; have k2 := cell_step K2.out HB4.out
      clear hc hF
      rcases Bool.eq_false_or_eq_true (okOf (tapeN s l) && okOf (tapeN s r)) with hb | hb
      · have hbb := hb
        rw [Bool.and_eq_true] at hbb
        obtain ⟨a, ha⟩ := okOf_some hbb.1
        obtain ⟨b, hb2⟩ := okOf_some hbb.2
        have hr := HGG.out.rule b
        have HFB : Hid (stepCost s nq rs k l r = (((costM s (ruleAt rs s k (b % s)) a b : Nat) : Int), 0)) := by have := HF2.out; rw [hb, ha, hb2] at this; exact this
        have HA := Lib.hid ha; have HB := Lib.hid hb2; have HR := Lib.hid hr
        have hn : nq * s ≤ 6000 := Nat.le_trans (Nat.mul_le_mul HGG.out.q1 HGG.out.s6) (by omega)
        clear hb hbb ha hb2 hr
        go_wp2_with fail
        refine (stepCost_good s nq g0 n0 c0 k rs _ _ n1 c1 _ n2 c2 l r a b w4 HA1.out HA2.out b1 b2 (by omega) hs6 HGG.out.dl HGG.out.dr HA.out HB.out (HS0.out.below' HB4.out) (by have h1 := HGG.out.len; have h2 := L0.out; omega) L0.out (by have h1 := HGG.out.kq; have h2 := HGG.out.q1; omega) HR.out.1 HR.out.2).mono ?_
        rintro e w5 ⟨rfl, b5⟩
        have HBX := Lib.hid (below_step HB2.out (below_step HB4.out b5))
        clear b5 m0 m1 m2 k0 k1 k2
        go_wp2
        go_ret2
        exact ⟨by rw [HFB.out]; rfl, HBX.out⟩
      · have HFB : Hid (stepCost s nq rs k l r = (0, 5)) := by have := HF2.out; rw [hb] at this; exact this
        have hno : tapeN s l = none ∨ tapeN s r = none := by
          cases ha : tapeN s l with
          | none => exact .inl rfl
          | some a =>
            cases hb2 : tapeN s r with
            | none => exact .inr rfl
            | some b => rw [ha, hb2] at hb; cases hb
        have HNO := Lib.hid hno
        clear hb hno
        go_wp2_with fail
        refine (stepCost_full s nq g0 n0 c0 k _ n1 c1 _ n2 c2 l r w4 HA1.out HA2.out b1 b2 (by omega) hs6 HGG.out.dl HGG.out.dr HNO.out).mono ?_
        rintro e w5 ⟨rfl, b5⟩
        have HBX := Lib.hid (below_step HB2.out (below_step HB4.out b5))
        clear b5 m0 m1 m2 k0 k1 k2
        go_wp2
        go_ret2
        exact ⟨by rw [HFB.out]; rfl, HBX.out⟩
end Go.Proofs.Ytdnkkmmkkfbhhaa

/- Contracts of the laws' helpers on []int64, in one form: copy, compare, size, mark, look at the marks. -/
namespace Go.Proofs.Ytdnkkmmkkfbhhaa
open Go.RowKit
set_option linter.all false

theorem inToInt64S (A : Option Addr) (n c : Nat) (t : List Int) (w : World) (ha : Args 1 w A n (rows oneI t)) (hn : n ≤ 1048576) :
    Calls Try.prog 20 #[.slice A n c] w fun e w' => e = .returned (.slice (some ⟨w.heap.size, 0, none⟩) n n) ∧ w'.ownsRow w.heap.size 2 1 (.slice (some ⟨w.heap.size, 0, none⟩) n n) n (rows oneI t) ∧ Below w.heap.size w w' := by
  rw [rows_oneI] at ha ⊢; exact toInt64S_any A n c t w (arg_args ha) hn

theorem inEqInt64S (A B : Option Addr) (n m c d : Nat) (x y : List Int) (v : Bool) (hv : decide (x = y) = v) (w : World) (ha : Args 1 w A n (rows oneI x)) (hb : Args 1 w B m (rows oneI y)) (hn : n ≤ 4194304) (hm : m ≤ 4194304) :
    Calls Try.prog 25 #[.slice A n c, .slice B m d] w fun e w' => e = .returned (.bool v) ∧ Below w.heap.size w w' := by
  rw [rows_oneI] at ha hb
  have h := eqInt64S_any A B n m c d x y w (arg_args ha) (arg_args hb) hn hm
  rw [hv] at h
  exact h.mono fun e w' ⟨h1, q, h2⟩ => ⟨h1, quiet_below h2⟩

theorem inSzInt64S (A : Option Addr) (n c : Nat) (left : Int) (w : World) (h0 : 0 ≤ left) (h1 : left ≤ 1048576) (hn : n ≤ 9223372036854775807) :
    Calls Try.prog 13 #[.slice A n c, .int .i64 left] w fun e w' => (∃ z : Int, e = .returned (.int .i64 z) ∧ SzOut n left z) ∧ w = w' := by
  by_cases h : (n : Int) ≤ left
  · have h' : ¬ left - (n : Int) < 0 := by omega
    go_enter Try.func13, Try.ntmps13
    go_wp2
    go_ret
    exact ⟨⟨_, rfl, .inl ⟨h, rfl⟩⟩, rfl⟩
  · have h' : left - (n : Int) < 0 := by omega
    go_enter Try.func13, Try.ntmps13
    go_wp2
    go_ret
    exact ⟨⟨_, rfl, .inr ⟨by omega, rfl⟩⟩, rfl⟩

end Go.Proofs.Ytdnkkmmkkfbhhaa

/- Contracts of the laws' helpers on one Machine: copy, compare with a copy, size, mark, look at the marks. -/
namespace Go.Proofs.Ytdnkkmmkkfbhhaa
open Go.RowKit
set_option linter.all false

theorem quiet_q_belowMachine {w w' : World} (h : ∃ q, w' = w.drewN q) : Below w.heap.size w w' := by obtain ⟨q, hq⟩ := h; exact quiet_below hq

set_option maxRecDepth 100000 in
set_option maxHeartbeats 1000000 in
theorem toMachineO_any (f0 : Int) (f1 : Int) (A2 : Option Addr) (n2 c2 : Nat) (x2 : List R3) (w : World) (h2 : Args 3 w A2 n2 (rows R3.vs x2)) (s2 : n2 ≤ 1048576) :
    Calls Try.prog 7 #[.agg #[.int .i64 f0, .int .i64 f1, .slice A2 n2 c2]] w fun z w' => (∃ (g2 e2 : Nat), z = .returned (.agg #[.int .i64 f0, .int .i64 f1, .slice (some ⟨g2, 0, none⟩) n2 n2]) ∧ w.heap.size ≤ g2 ∧ g2 ≤ e2 ∧ e2 ≤ w'.heap.size ∧ Held g2 e2 (Flat g2 e2 59 3 (.slice (some ⟨g2, 0, none⟩) n2 n2) n2 (rows R3.vs x2)) w') ∧ Below w.heap.size w w' := by
  obtain ⟨w0, HW0, B0, hx0, y0, z0, sz0⟩ := al3 w (.cells #[.int .i64 f0, .int .i64 f1, .slice A2 n2 c2] 24) (.cells #[.int .i64 0, .int .i64 0, .slice none 0 0] 34) (.cells #[.int .i64 f0, .int .i64 f1, .slice none 0 0] 34)
  have L0 : w.heap.size + 1 + 1 + 1 ≤ w0.heap.size := by omega
  go_enter Try.func7, Try.ntmps7
  go_wp2_with fail
  rw [← HW0.out]
  refine (toRuleS_any A2 n2 c2 x2 _ (h2.below B0) s2).mono ?_
  rintro z w1a ⟨rfl, own2, b2⟩
  have B0a := below_step B0 b2
  have hx0a := (b2.block _ (heap_lt hx0)).trans hx0
  have y0a := (b2.block _ (heap_lt y0)).trans y0
  have z0a := (b2.block _ (heap_lt z0)).trans z0
  have bz2 := b2.size
  have H2_0a := flat_of_own own2
  obtain ⟨g2, hg2⟩ : ∃ g : Nat, g = w0.heap.size := ⟨_, rfl⟩
  obtain ⟨e2, he92⟩ : ∃ e : Nat, e = w1a.heap.size := ⟨_, rfl⟩
  rw [← hg2, ← he92] at H2_0a
  rw [← hg2]
  have LG2 : w.heap.size + 1 + 1 + 1 ≤ g2 := by omega
  have GE2 : g2 ≤ e2 := by omega
  have EW2 : e2 = w1a.heap.size := he92
  clear hg2
  obtain ⟨w1, HW1, B1, hx1, y1, z1, H2_1, SZ1⟩ : ∃ w1, Hid (w1 = (w1a.setCell ⟨w.heap.size + 1 + 1, 2, none⟩ (.slice (some ⟨g2, 0, none⟩) n2 n2))) ∧ Below w.heap.size w w1 ∧ w1.heap[w.heap.size]? = some (.cells #[.int .i64 f0, .int .i64 f1, .slice A2 n2 c2] 24 (0, 0)) ∧ w1.heap[w.heap.size + 1]? = some (.cells #[.int .i64 0, .int .i64 0, .slice none 0 0] 34 (0, 0)) ∧ w1.heap[w.heap.size + 1 + 1]? = some (.cells #[.int .i64 f0, .int .i64 f1, .slice (some ⟨g2, 0, none⟩) n2 n2] 34 (0, 0)) ∧ Held g2 e2 (Flat g2 e2 59 3 (.slice (some ⟨g2, 0, none⟩) n2 n2) n2 (rows R3.vs x2)) w1 ∧ w1a.heap.size = w1.heap.size := by
    refine ⟨_, rfl, ?_, ?_, ?_, ?_, ?_, ?_⟩
    · exact (B0a.setCell (p := ⟨w.heap.size + 1 + 1, 2, none⟩) (by simp; omega) _)
    · exact (heap_set_other hx0a ⟨w.heap.size + 1 + 1, 2, none⟩ (by dsimp only; omega) _)
    · exact (heap_set_other y0a ⟨w.heap.size + 1 + 1, 2, none⟩ (by dsimp only; omega) _)
    · exact (heap_set z0a (.slice (some ⟨g2, 0, none⟩) n2 n2))
    · exact H2_0a.far ((Touch.refl (w.heap.size + 1 + 1) (w.heap.size + 1 + 1 + 1) w1a).setCell (p := ⟨w.heap.size + 1 + 1, 2, none⟩) ⟨by simp, by simp⟩ _) (.inr LG2)
    · simp [World.setCell]
  have kz0 : w1a.frozen? ⟨w.heap.size + 1 + 1, 0, none⟩ = false := frozen_of_heap z0a
  have ez0_2 : ∃ u, w1a.cell? ⟨w.heap.size + 1 + 1, 2, none⟩ = some u := ⟨_, by rw [cell_of_heap z0a]; rfl⟩
  obtain ⟨oz0_2, ez0_2⟩ := ez0_2
  have fz0_2 : w1a.frozen? ⟨w.heap.size + 1 + 1, 2, none⟩ = false := frozen_of_heap z0a
  clear HW0 hx0 y0 z0 hx0a own2 H2_0a  
  have lz0 : w1a.cell? ⟨w.heap.size + 1 + 1, 0, none⟩ = some (.int .i64 f0) := by rw [cell_of_heap z0a]; rfl
  have ly0 : w1a.cell? ⟨w.heap.size + 1, 0, none⟩ = some (.int .i64 0) := by rw [cell_of_heap y0a]; rfl
  have fy0 : w1a.frozen? ⟨w.heap.size + 1, 0, none⟩ = false := frozen_of_heap y0a
  have lz1 : w1a.cell? ⟨w.heap.size + 1 + 1, 1, none⟩ = some (.int .i64 f1) := by rw [cell_of_heap z0a]; rfl
  have ly1 : w1a.cell? ⟨w.heap.size + 1, 1, none⟩ = some (.int .i64 0) := by rw [cell_of_heap y0a]; rfl
  have fy1 : w1a.frozen? ⟨w.heap.size + 1, 1, none⟩ = false := frozen_of_heap y0a
  have ly2 : w1a.cell? ⟨w.heap.size + 1, 2, none⟩ = some (.slice none 0 0) := by rw [cell_of_heap y0a]; rfl
  have fy2 : w1a.frozen? ⟨w.heap.size + 1, 2, none⟩ = false := frozen_of_heap y0a
  clear y0a z0a
  go_wp2
  refine bodyPost_ret (v := .agg #[.int .i64 f0, .int .i64 f1, .slice (some ⟨g2, 0, none⟩) n2 n2]) (by simp [results, Try.results7, go_sem, ly0, ly1, ly2]) rfl ?_
  rw [← HW1.out]
  refine ⟨⟨g2, e2, rfl, by omega, GE2, ?_, ?_⟩, ?_⟩
  · simp [World.setCell]; omega
  · exact H2_1.far ((((Touch.refl (w.heap.size + 1) (w.heap.size + 1 + 1) w1).setCell (p := ⟨w.heap.size + 1, 0, none⟩) ⟨by simp, by simp⟩ _).setCell (p := ⟨w.heap.size + 1, 1, none⟩) ⟨by simp, by simp⟩ _).setCell (p := ⟨w.heap.size + 1, 2, none⟩) ⟨by simp, by simp⟩ _) (.inr (by omega))
  · exact (((B1.setCell (p := ⟨w.heap.size + 1, 0, none⟩) (by simp) _).setCell (p := ⟨w.heap.size + 1, 1, none⟩) (by simp) _).setCell (p := ⟨w.heap.size + 1, 2, none⟩) (by simp) _)

set_option maxRecDepth 100000 in
set_option maxHeartbeats 1000000 in
theorem szMachineO_any (f0 : Int) (f1 : Int) (A2 : Option Addr) (n2 c2 : Nat) (x2 : List R3) (left : Int) (w : World) (h2 : Args 3 w A2 n2 (rows R3.vs x2)) (hl0 : 0 ≤ left) (hl1 : left ≤ 1048576) (u2 : n2 ≤ 9223372036854775807) :
    Calls Try.prog 4 #[.agg #[.int .i64 f0, .int .i64 f1, .slice A2 n2 c2], .int .i64 left] w fun z w' => (∃ q : Int, z = .returned (.int .i64 q) ∧ SzOut ((n2)) left q) ∧ Below w.heap.size w w' := by
  obtain ⟨w0, HW0, B0, hx0⟩ := al1 w (.cells #[.int .i64 f0, .int .i64 f1, .slice A2 n2 c2] 24)
  by_cases y2 : (n2 : Int) ≤ left
  rotate_left
  · have Y := Lib.hid y2
    go_enter Try.func4, Try.ntmps4
    have lx2 : w0.cell? ⟨w.heap.size, 2, none⟩ = some (.slice A2 n2 c2) := by rw [cell_of_heap hx0]; rfl
    go_wp2_with fail
    rw [← HW0.out]
    refine (szRuleS_any A2 n2 c2 (left) _ (by omega) (by omega) (by omega)).mono ?_
    rintro z w' ⟨he, rfl⟩
    obtain ⟨q2, hq9⟩ : ∃ q : Int, q = (if (n2 : Int) ≤ left then left - n2 else -1) := ⟨_, rfl⟩
    rw [← hq9] at he
    subst he
    have hq2 : SzOut n2 (left) q2 := by unfold SzOut; rw [hq9]; split <;> omega
    clear hq9
    unfold SzOut at hq2
    obtain rfl : q2 = -1 := by omega
    go_wp2_with fail
    go_ret
    exact ⟨⟨_, rfl, szOut_no (by omega)⟩, B0⟩
  go_enter Try.func4, Try.ntmps4
  have lx2 : w0.cell? ⟨w.heap.size, 2, none⟩ = some (.slice A2 n2 c2) := by rw [cell_of_heap hx0]; rfl
  go_wp2_with fail
  rw [← HW0.out]
  refine (szRuleS_any A2 n2 c2 (left) _ (by omega) (by omega) (by omega)).mono ?_
  rintro z w' ⟨he, rfl⟩
  obtain ⟨q2, hq9⟩ : ∃ q : Int, q = (if (n2 : Int) ≤ left then left - n2 else -1) := ⟨_, rfl⟩
  rw [← hq9] at he
  subst he
  have hq2 : SzOut n2 (left) q2 := by unfold SzOut; rw [hq9]; split <;> omega
  clear hq9
  unfold SzOut at hq2
  obtain rfl : q2 = left - (n2 : Int) := by omega
  have nn2 : ¬ left - (n2 : Int) < 0 := by omega
  clear hq2
  go_wp2_with fail
  go_ret
  exact ⟨⟨_, rfl, szOut_yes (by omega) (by omega)⟩, B0⟩

theorem szMachineO_is (f0 : Int) (f1 : Int) (A2 : Option Addr) (n2 c2 : Nat) (x2 : List R3) (left r : Nat) (w : World) (h2 : Args 3 w A2 n2 (rows R3.vs x2)) (hr : r + ((n2)) = left) (hl1 : left ≤ 1048576) (u2 : n2 ≤ 9223372036854775807) :
    Calls Try.prog 4 #[.agg #[.int .i64 f0, .int .i64 f1, .slice A2 n2 c2], .int .i64 left] w fun z w' => z = .returned (.int .i64 r) ∧ Below w.heap.size w w' := by
  refine (szMachineO_any f0 f1 A2 n2 c2 x2 left w h2 (by omega) (by omega) u2).mono ?_
  rintro z w' ⟨⟨q, rfl, hq⟩, hb⟩
  unfold SzOut at hq
  obtain rfl : q = (r : Int) := by omega
  exact ⟨rfl, hb⟩
theorem szMachineO_not (f0 : Int) (f1 : Int) (A2 : Option Addr) (n2 c2 : Nat) (x2 : List R3) (left : Nat) (w : World) (h2 : Args 3 w A2 n2 (rows R3.vs x2)) (hr : left < (n2)) (hl1 : left ≤ 1048576) (u2 : n2 ≤ 9223372036854775807) :
    Calls Try.prog 4 #[.agg #[.int .i64 f0, .int .i64 f1, .slice A2 n2 c2], .int .i64 left] w fun z w' => z = .returned (.int .i64 (-1)) ∧ Below w.heap.size w w' := by
  refine (szMachineO_any f0 f1 A2 n2 c2 x2 left w h2 (by omega) (by omega) u2).mono ?_
  rintro z w' ⟨⟨q, rfl, hq⟩, hb⟩
  unfold SzOut at hq
  obtain rfl : q = -1 := by omega
  exact ⟨rfl, hb⟩

set_option maxRecDepth 100000 in
set_option maxHeartbeats 1000000 in
theorem eqMachineO_same (f0 : Int) (f1 : Int) (A2 A2b : Option Addr) (n2 c2 c2b : Nat) (x2 : List R3) (w : World) (h2 : Args 3 w A2 n2 (rows R3.vs x2)) (h2b : Args 3 w A2b n2 (rows R3.vs x2)) (s2 : n2 ≤ 4194304) :
    Calls Try.prog 10 #[.agg #[.int .i64 f0, .int .i64 f1, .slice A2 n2 c2], .agg #[.int .i64 f0, .int .i64 f1, .slice A2b n2 c2b]] w fun z w' => z = .returned (.bool true) ∧ Below w.heap.size w w' := by
  obtain ⟨w0, HW0, B0, hx0, y0⟩ := al2 w (.cells #[.int .i64 f0, .int .i64 f1, .slice A2 n2 c2] 34) (.cells #[.int .i64 f0, .int .i64 f1, .slice A2b n2 c2b] 34)
  have E2 := fun W hA hB => eqRuleS_any A2 A2b n2 n2 c2 c2b x2 x2 W hA hB s2 s2
  rw [decide_eq_true (rfl : x2 = x2)] at E2
  have HE2 := Lib.hid E2; clear E2
  go_enter Try.func10, Try.ntmps10
  have lx0 : w0.cell? ⟨w.heap.size, 0, none⟩ = some (.int .i64 f0) := by rw [cell_of_heap hx0]; rfl
  have ly0 : w0.cell? ⟨w.heap.size + 1, 0, none⟩ = some (.int .i64 f0) := by rw [cell_of_heap y0]; rfl
  have lx1 : w0.cell? ⟨w.heap.size, 1, none⟩ = some (.int .i64 f1) := by rw [cell_of_heap hx0]; rfl
  have ly1 : w0.cell? ⟨w.heap.size + 1, 1, none⟩ = some (.int .i64 f1) := by rw [cell_of_heap y0]; rfl
  have lx2 : w0.cell? ⟨w.heap.size, 2, none⟩ = some (.slice A2 n2 c2) := by rw [cell_of_heap hx0]; rfl
  have ly2 : w0.cell? ⟨w.heap.size + 1, 2, none⟩ = some (.slice A2b n2 c2b) := by rw [cell_of_heap y0]; rfl
  go_wp2_with fail
  rw [← HW0.out]
  refine (HE2.out _ (h2.below B0) (h2b.below B0)).mono ?_
  rintro e w1 ⟨rfl, b1⟩
  have B1 := below_step B0 b1
  have hx1 := (b1.block _ (heap_lt hx0)).trans hx0
  have y1 := (b1.block _ (heap_lt y0)).trans y0
  clear lx0 ly0
  clear lx1 ly1
  clear lx2 ly2
  go_wp2_with fail
  go_ret
  exact ⟨rfl, B1⟩

end Go.Proofs.Ytdnkkmmkkfbhhaa

/- Contracts of the laws' helpers on one Config: copy, compare with a copy, size, mark, look at the marks. -/
namespace Go.Proofs.Ytdnkkmmkkfbhhaa
open Go.RowKit
set_option linter.all false

theorem quiet_q_belowConfig {w w' : World} (h : ∃ q, w' = w.drewN q) : Below w.heap.size w w' := by obtain ⟨q, hq⟩ := h; exact quiet_below hq

set_option maxRecDepth 100000 in
set_option maxHeartbeats 1000000 in
theorem toConfigO_any (f0 : Int) (A1 : Option Addr) (n1 c1 : Nat) (x1 : List Int) (A2 : Option Addr) (n2 c2 : Nat) (x2 : List Int) (w : World) (h1 : Arg w A1 n1 (x1.map (Value.int .i64))) (h2 : Arg w A2 n2 (x2.map (Value.int .i64))) (s1 : n1 ≤ 1048576) (s2 : n2 ≤ 1048576) :
    Calls Try.prog 8 #[.agg #[.int .i64 f0, .slice A1 n1 c1, .slice A2 n2 c2]] w fun z w' => (∃ (g1 e1 : Nat) (g2 e2 : Nat), z = .returned (.agg #[.int .i64 f0, .slice (some ⟨g1, 0, none⟩) n1 n1, .slice (some ⟨g2, 0, none⟩) n2 n2]) ∧ w.heap.size ≤ g1 ∧ g1 ≤ e1 ∧ e1 ≤ g2 ∧ g2 ≤ e2 ∧ e2 ≤ w'.heap.size ∧ Held g1 e1 (Flat g1 e1 2 1 (.slice (some ⟨g1, 0, none⟩) n1 n1) n1 (x1.map (Value.int .i64))) w' ∧ Held g2 e2 (Flat g2 e2 2 1 (.slice (some ⟨g2, 0, none⟩) n2 n2) n2 (x2.map (Value.int .i64))) w') ∧ Below w.heap.size w w' := by
  obtain ⟨w0, HW0, B0, hx0, y0, z0, sz0⟩ := al3 w (.cells #[.int .i64 f0, .slice A1 n1 c1, .slice A2 n2 c2] 27) (.cells #[.int .i64 0, .slice none 0 0, .slice none 0 0] 36) (.cells #[.int .i64 f0, .slice none 0 0, .slice none 0 0] 36)
  have L0 : w.heap.size + 1 + 1 + 1 ≤ w0.heap.size := by omega
  go_enter Try.func8, Try.ntmps8
  go_wp2_with fail
  rw [← HW0.out]
  refine (toInt64S_any A1 n1 c1 x1 _ (h1.below B0) s1).mono ?_
  rintro z w1a ⟨rfl, own1, b1⟩
  have B0a := below_step B0 b1
  have hx0a := (b1.block _ (heap_lt hx0)).trans hx0
  have y0a := (b1.block _ (heap_lt y0)).trans y0
  have z0a := (b1.block _ (heap_lt z0)).trans z0
  have bz1 := b1.size
  have H1_0a := flat_of_own own1
  obtain ⟨g1, hg1⟩ : ∃ g : Nat, g = w0.heap.size := ⟨_, rfl⟩
  obtain ⟨e1, he91⟩ : ∃ e : Nat, e = w1a.heap.size := ⟨_, rfl⟩
  rw [← hg1, ← he91] at H1_0a
  rw [← hg1]
  have LG1 : w.heap.size + 1 + 1 + 1 ≤ g1 := by omega
  have GE1 : g1 ≤ e1 := by omega
  have EW1 : e1 = w1a.heap.size := he91
  clear hg1
  obtain ⟨w1, HW1, B1, hx1, y1, z1, H1_1, SZ1⟩ : ∃ w1, Hid (w1 = (w1a.setCell ⟨w.heap.size + 1 + 1, 1, none⟩ (.slice (some ⟨g1, 0, none⟩) n1 n1))) ∧ Below w.heap.size w w1 ∧ w1.heap[w.heap.size]? = some (.cells #[.int .i64 f0, .slice A1 n1 c1, .slice A2 n2 c2] 27 (0, 0)) ∧ w1.heap[w.heap.size + 1]? = some (.cells #[.int .i64 0, .slice none 0 0, .slice none 0 0] 36 (0, 0)) ∧ w1.heap[w.heap.size + 1 + 1]? = some (.cells #[.int .i64 f0, .slice (some ⟨g1, 0, none⟩) n1 n1, .slice none 0 0] 36 (0, 0)) ∧ Held g1 e1 (Flat g1 e1 2 1 (.slice (some ⟨g1, 0, none⟩) n1 n1) n1 (x1.map (Value.int .i64))) w1 ∧ w1a.heap.size = w1.heap.size := by
    refine ⟨_, rfl, ?_, ?_, ?_, ?_, ?_, ?_⟩
    · exact (B0a.setCell (p := ⟨w.heap.size + 1 + 1, 1, none⟩) (by simp; omega) _)
    · exact (heap_set_other hx0a ⟨w.heap.size + 1 + 1, 1, none⟩ (by dsimp only; omega) _)
    · exact (heap_set_other y0a ⟨w.heap.size + 1 + 1, 1, none⟩ (by dsimp only; omega) _)
    · exact (heap_set z0a (.slice (some ⟨g1, 0, none⟩) n1 n1))
    · exact H1_0a.far ((Touch.refl (w.heap.size + 1 + 1) (w.heap.size + 1 + 1 + 1) w1a).setCell (p := ⟨w.heap.size + 1 + 1, 1, none⟩) ⟨by simp, by simp⟩ _) (.inr LG1)
    · simp [World.setCell]
  have kz0 : w1a.frozen? ⟨w.heap.size + 1 + 1, 0, none⟩ = false := frozen_of_heap z0a
  have ez0_1 : ∃ u, w1a.cell? ⟨w.heap.size + 1 + 1, 1, none⟩ = some u := ⟨_, by rw [cell_of_heap z0a]; rfl⟩
  obtain ⟨oz0_1, ez0_1⟩ := ez0_1
  have fz0_1 : w1a.frozen? ⟨w.heap.size + 1 + 1, 1, none⟩ = false := frozen_of_heap z0a
  have cx0_2 : w1a.cell? ⟨w.heap.size, 2, none⟩ = some (.slice A2 n2 c2) := by rw [cell_of_heap hx0a]; rfl
  clear HW0 hx0 y0 z0 hx0a own1 H1_0a  y0a z0a
  go_wp2_with fail
  rw [← HW1.out]
  refine (toInt64S_any A2 n2 c2 x2 _ (h2.below B1) s2).mono ?_
  rintro z w2a ⟨rfl, own2, b2⟩
  have B1a := below_step B1 b2
  have hx1a := (b2.block _ (heap_lt hx1)).trans hx1
  have y1a := (b2.block _ (heap_lt y1)).trans y1
  have z1a := (b2.block _ (heap_lt z1)).trans z1
  have bz2 := b2.size
  have H2_1a := flat_of_own own2
  have H1_1a := H1_1.below b2
  obtain ⟨g2, hg2⟩ : ∃ g : Nat, g = w1.heap.size := ⟨_, rfl⟩
  obtain ⟨e2, he92⟩ : ∃ e : Nat, e = w2a.heap.size := ⟨_, rfl⟩
  rw [← hg2, ← he92] at H2_1a
  rw [← hg2]
  have LG2 : w.heap.size + 1 + 1 + 1 ≤ g2 := by omega
  have GE2 : g2 ≤ e2 := by omega
  have EW2 : e2 = w2a.heap.size := he92
  have EG2 : e1 ≤ g2 := by omega
  clear hg2
  obtain ⟨w2, HW2, B2, hx2, y2, z2, H1_2, H2_2, SZ2⟩ : ∃ w2, Hid (w2 = (w2a.setCell ⟨w.heap.size + 1 + 1, 2, none⟩ (.slice (some ⟨g2, 0, none⟩) n2 n2))) ∧ Below w.heap.size w w2 ∧ w2.heap[w.heap.size]? = some (.cells #[.int .i64 f0, .slice A1 n1 c1, .slice A2 n2 c2] 27 (0, 0)) ∧ w2.heap[w.heap.size + 1]? = some (.cells #[.int .i64 0, .slice none 0 0, .slice none 0 0] 36 (0, 0)) ∧ w2.heap[w.heap.size + 1 + 1]? = some (.cells #[.int .i64 f0, .slice (some ⟨g1, 0, none⟩) n1 n1, .slice (some ⟨g2, 0, none⟩) n2 n2] 36 (0, 0)) ∧ Held g1 e1 (Flat g1 e1 2 1 (.slice (some ⟨g1, 0, none⟩) n1 n1) n1 (x1.map (Value.int .i64))) w2 ∧ Held g2 e2 (Flat g2 e2 2 1 (.slice (some ⟨g2, 0, none⟩) n2 n2) n2 (x2.map (Value.int .i64))) w2 ∧ w2a.heap.size = w2.heap.size := by
    refine ⟨_, rfl, ?_, ?_, ?_, ?_, ?_, ?_, ?_⟩
    · exact (B1a.setCell (p := ⟨w.heap.size + 1 + 1, 2, none⟩) (by simp; omega) _)
    · exact (heap_set_other hx1a ⟨w.heap.size + 1 + 1, 2, none⟩ (by dsimp only; omega) _)
    · exact (heap_set_other y1a ⟨w.heap.size + 1 + 1, 2, none⟩ (by dsimp only; omega) _)
    · exact (heap_set z1a (.slice (some ⟨g2, 0, none⟩) n2 n2))
    · exact H1_1a.far ((Touch.refl (w.heap.size + 1 + 1) (w.heap.size + 1 + 1 + 1) w2a).setCell (p := ⟨w.heap.size + 1 + 1, 2, none⟩) ⟨by simp, by simp⟩ _) (.inr LG1)
    · exact H2_1a.far ((Touch.refl (w.heap.size + 1 + 1) (w.heap.size + 1 + 1 + 1) w2a).setCell (p := ⟨w.heap.size + 1 + 1, 2, none⟩) ⟨by simp, by simp⟩ _) (.inr LG2)
    · simp [World.setCell]
  have kz1 : w2a.frozen? ⟨w.heap.size + 1 + 1, 0, none⟩ = false := frozen_of_heap z1a
  have ez1_2 : ∃ u, w2a.cell? ⟨w.heap.size + 1 + 1, 2, none⟩ = some u := ⟨_, by rw [cell_of_heap z1a]; rfl⟩
  obtain ⟨oz1_2, ez1_2⟩ := ez1_2
  have fz1_2 : w2a.frozen? ⟨w.heap.size + 1 + 1, 2, none⟩ = false := frozen_of_heap z1a
  clear HW1 hx1 y1 z1 hx1a own2 H1_1a H2_1a H1_1 
  have lz0 : w2a.cell? ⟨w.heap.size + 1 + 1, 0, none⟩ = some (.int .i64 f0) := by rw [cell_of_heap z1a]; rfl
  have ly0 : w2a.cell? ⟨w.heap.size + 1, 0, none⟩ = some (.int .i64 0) := by rw [cell_of_heap y1a]; rfl
  have fy0 : w2a.frozen? ⟨w.heap.size + 1, 0, none⟩ = false := frozen_of_heap y1a
  have lz1 : w2a.cell? ⟨w.heap.size + 1 + 1, 1, none⟩ = some (.slice (some ⟨g1, 0, none⟩) n1 n1) := by rw [cell_of_heap z1a]; rfl
  have ly1 : w2a.cell? ⟨w.heap.size + 1, 1, none⟩ = some (.slice none 0 0) := by rw [cell_of_heap y1a]; rfl
  have fy1 : w2a.frozen? ⟨w.heap.size + 1, 1, none⟩ = false := frozen_of_heap y1a
  have ly2 : w2a.cell? ⟨w.heap.size + 1, 2, none⟩ = some (.slice none 0 0) := by rw [cell_of_heap y1a]; rfl
  have fy2 : w2a.frozen? ⟨w.heap.size + 1, 2, none⟩ = false := frozen_of_heap y1a
  clear y1a z1a
  go_wp2
  refine bodyPost_ret (v := .agg #[.int .i64 f0, .slice (some ⟨g1, 0, none⟩) n1 n1, .slice (some ⟨g2, 0, none⟩) n2 n2]) (by simp [results, Try.results8, go_sem, ly0, ly1, ly2]) rfl ?_
  rw [← HW2.out]
  refine ⟨⟨g1, e1, g2, e2, rfl, by omega, GE1, EG2, GE2, ?_, ?_, ?_⟩, ?_⟩
  · simp [World.setCell]; omega
  · exact H1_2.far ((((Touch.refl (w.heap.size + 1) (w.heap.size + 1 + 1) w2).setCell (p := ⟨w.heap.size + 1, 0, none⟩) ⟨by simp, by simp⟩ _).setCell (p := ⟨w.heap.size + 1, 1, none⟩) ⟨by simp, by simp⟩ _).setCell (p := ⟨w.heap.size + 1, 2, none⟩) ⟨by simp, by simp⟩ _) (.inr (by omega))
  · exact H2_2.far ((((Touch.refl (w.heap.size + 1) (w.heap.size + 1 + 1) w2).setCell (p := ⟨w.heap.size + 1, 0, none⟩) ⟨by simp, by simp⟩ _).setCell (p := ⟨w.heap.size + 1, 1, none⟩) ⟨by simp, by simp⟩ _).setCell (p := ⟨w.heap.size + 1, 2, none⟩) ⟨by simp, by simp⟩ _) (.inr (by omega))
  · exact (((B2.setCell (p := ⟨w.heap.size + 1, 0, none⟩) (by simp) _).setCell (p := ⟨w.heap.size + 1, 1, none⟩) (by simp) _).setCell (p := ⟨w.heap.size + 1, 2, none⟩) (by simp) _)

set_option maxRecDepth 100000 in
set_option maxHeartbeats 1000000 in
theorem szConfigO_any (f0 : Int) (A1 : Option Addr) (n1 c1 : Nat) (x1 : List Int) (A2 : Option Addr) (n2 c2 : Nat) (x2 : List Int) (left : Int) (w : World) (h1 : Arg w A1 n1 (x1.map (Value.int .i64))) (h2 : Arg w A2 n2 (x2.map (Value.int .i64))) (hl0 : 0 ≤ left) (hl1 : left ≤ 1048576) (u1 : n1 ≤ 9223372036854775807) (u2 : n2 ≤ 9223372036854775807) :
    Calls Try.prog 5 #[.agg #[.int .i64 f0, .slice A1 n1 c1, .slice A2 n2 c2], .int .i64 left] w fun z w' => (∃ q : Int, z = .returned (.int .i64 q) ∧ SzOut ((n1) + (n2)) left q) ∧ Below w.heap.size w w' := by
  obtain ⟨w0, HW0, B0, hx0⟩ := al1 w (.cells #[.int .i64 f0, .slice A1 n1 c1, .slice A2 n2 c2] 27)
  by_cases y1 : (n1 : Int) ≤ left
  rotate_left
  · have Y := Lib.hid y1
    go_enter Try.func5, Try.ntmps5
    have lx1 : w0.cell? ⟨w.heap.size, 1, none⟩ = some (.slice A1 n1 c1) := by rw [cell_of_heap hx0]; rfl
    go_wp2_with fail
    rw [← HW0.out]
    refine (inSzInt64S A1 n1 c1 (left) _ (by omega) (by omega) (by omega)).mono ?_
    rintro z w' ⟨⟨q1, rfl, hq1⟩, rfl⟩
    unfold SzOut at hq1
    obtain rfl : q1 = -1 := by omega
    go_wp2_with fail
    go_ret
    exact ⟨⟨_, rfl, szOut_no (by omega)⟩, B0⟩
  by_cases y2 : (n1 : Int) + (n2 : Int) ≤ left
  rotate_left
  · have Y := Lib.hid y2
    go_enter Try.func5, Try.ntmps5
    have lx1 : w0.cell? ⟨w.heap.size, 1, none⟩ = some (.slice A1 n1 c1) := by rw [cell_of_heap hx0]; rfl
    go_wp2_with fail
    rw [← HW0.out]
    refine (inSzInt64S A1 n1 c1 (left) _ (by omega) (by omega) (by omega)).mono ?_
    rintro z w' ⟨⟨q1, rfl, hq1⟩, rfl⟩
    unfold SzOut at hq1
    obtain rfl : q1 = left - (n1 : Int) := by omega
    have nn1 : ¬ left - (n1 : Int) < 0 := by omega
    clear hq1
    have lx2 : w0.cell? ⟨w.heap.size, 2, none⟩ = some (.slice A2 n2 c2) := by rw [cell_of_heap hx0]; rfl
    go_wp2_with fail
    refine (inSzInt64S A2 n2 c2 (left - (n1 : Int)) _ (by omega) (by omega) (by omega)).mono ?_
    rintro z w' ⟨⟨q2, rfl, hq2⟩, rfl⟩
    unfold SzOut at hq2
    obtain rfl : q2 = -1 := by omega
    go_wp2_with fail
    go_ret
    exact ⟨⟨_, rfl, szOut_no (by omega)⟩, B0⟩
  go_enter Try.func5, Try.ntmps5
  have lx1 : w0.cell? ⟨w.heap.size, 1, none⟩ = some (.slice A1 n1 c1) := by rw [cell_of_heap hx0]; rfl
  go_wp2_with fail
  rw [← HW0.out]
  refine (inSzInt64S A1 n1 c1 (left) _ (by omega) (by omega) (by omega)).mono ?_
  rintro z w' ⟨⟨q1, rfl, hq1⟩, rfl⟩
  unfold SzOut at hq1
  obtain rfl : q1 = left - (n1 : Int) := by omega
  have nn1 : ¬ left - (n1 : Int) < 0 := by omega
  clear hq1
  have lx2 : w0.cell? ⟨w.heap.size, 2, none⟩ = some (.slice A2 n2 c2) := by rw [cell_of_heap hx0]; rfl
  go_wp2_with fail
  refine (inSzInt64S A2 n2 c2 (left - (n1 : Int)) _ (by omega) (by omega) (by omega)).mono ?_
  rintro z w' ⟨⟨q2, rfl, hq2⟩, rfl⟩
  unfold SzOut at hq2
  obtain rfl : q2 = left - (n1 : Int) - (n2 : Int) := by omega
  have nn2 : ¬ left - (n1 : Int) - (n2 : Int) < 0 := by omega
  clear hq2
  go_wp2_with fail
  go_ret
  exact ⟨⟨_, rfl, szOut_yes (by omega) (by omega)⟩, B0⟩

theorem szConfigO_is (f0 : Int) (A1 : Option Addr) (n1 c1 : Nat) (x1 : List Int) (A2 : Option Addr) (n2 c2 : Nat) (x2 : List Int) (left r : Nat) (w : World) (h1 : Arg w A1 n1 (x1.map (Value.int .i64))) (h2 : Arg w A2 n2 (x2.map (Value.int .i64))) (hr : r + ((n1) + (n2)) = left) (hl1 : left ≤ 1048576) (u1 : n1 ≤ 9223372036854775807) (u2 : n2 ≤ 9223372036854775807) :
    Calls Try.prog 5 #[.agg #[.int .i64 f0, .slice A1 n1 c1, .slice A2 n2 c2], .int .i64 left] w fun z w' => z = .returned (.int .i64 r) ∧ Below w.heap.size w w' := by
  refine (szConfigO_any f0 A1 n1 c1 x1 A2 n2 c2 x2 left w h1 h2 (by omega) (by omega) u1 u2).mono ?_
  rintro z w' ⟨⟨q, rfl, hq⟩, hb⟩
  unfold SzOut at hq
  obtain rfl : q = (r : Int) := by omega
  exact ⟨rfl, hb⟩
theorem szConfigO_not (f0 : Int) (A1 : Option Addr) (n1 c1 : Nat) (x1 : List Int) (A2 : Option Addr) (n2 c2 : Nat) (x2 : List Int) (left : Nat) (w : World) (h1 : Arg w A1 n1 (x1.map (Value.int .i64))) (h2 : Arg w A2 n2 (x2.map (Value.int .i64))) (hr : left < (n1) + (n2)) (hl1 : left ≤ 1048576) (u1 : n1 ≤ 9223372036854775807) (u2 : n2 ≤ 9223372036854775807) :
    Calls Try.prog 5 #[.agg #[.int .i64 f0, .slice A1 n1 c1, .slice A2 n2 c2], .int .i64 left] w fun z w' => z = .returned (.int .i64 (-1)) ∧ Below w.heap.size w w' := by
  refine (szConfigO_any f0 A1 n1 c1 x1 A2 n2 c2 x2 left w h1 h2 (by omega) (by omega) u1 u2).mono ?_
  rintro z w' ⟨⟨q, rfl, hq⟩, hb⟩
  unfold SzOut at hq
  obtain rfl : q = -1 := by omega
  exact ⟨rfl, hb⟩

set_option maxRecDepth 100000 in
set_option maxHeartbeats 1000000 in
theorem eqConfigO_same (f0 : Int) (A1 A1b : Option Addr) (n1 c1 c1b : Nat) (x1 : List Int) (A2 A2b : Option Addr) (n2 c2 c2b : Nat) (x2 : List Int) (w : World) (h1 : Arg w A1 n1 (x1.map (Value.int .i64))) (h1b : Arg w A1b n1 (x1.map (Value.int .i64))) (h2 : Arg w A2 n2 (x2.map (Value.int .i64))) (h2b : Arg w A2b n2 (x2.map (Value.int .i64))) (s1 : n1 ≤ 4194304) (s2 : n2 ≤ 4194304) :
    Calls Try.prog 11 #[.agg #[.int .i64 f0, .slice A1 n1 c1, .slice A2 n2 c2], .agg #[.int .i64 f0, .slice A1b n1 c1b, .slice A2b n2 c2b]] w fun z w' => z = .returned (.bool true) ∧ Below w.heap.size w w' := by
  obtain ⟨w0, HW0, B0, hx0, y0⟩ := al2 w (.cells #[.int .i64 f0, .slice A1 n1 c1, .slice A2 n2 c2] 36) (.cells #[.int .i64 f0, .slice A1b n1 c1b, .slice A2b n2 c2b] 36)
  have E1 := fun W hA hB => eqInt64S_any A1 A1b n1 n1 c1 c1b x1 x1 W hA hB s1 s1
  rw [decide_eq_true (rfl : x1 = x1)] at E1
  have HE1 := Lib.hid E1; clear E1
  have E2 := fun W hA hB => eqInt64S_any A2 A2b n2 n2 c2 c2b x2 x2 W hA hB s2 s2
  rw [decide_eq_true (rfl : x2 = x2)] at E2
  have HE2 := Lib.hid E2; clear E2
  go_enter Try.func11, Try.ntmps11
  have lx0 : w0.cell? ⟨w.heap.size, 0, none⟩ = some (.int .i64 f0) := by rw [cell_of_heap hx0]; rfl
  have ly0 : w0.cell? ⟨w.heap.size + 1, 0, none⟩ = some (.int .i64 f0) := by rw [cell_of_heap y0]; rfl
  have lx1 : w0.cell? ⟨w.heap.size, 1, none⟩ = some (.slice A1 n1 c1) := by rw [cell_of_heap hx0]; rfl
  have ly1 : w0.cell? ⟨w.heap.size + 1, 1, none⟩ = some (.slice A1b n1 c1b) := by rw [cell_of_heap y0]; rfl
  go_wp2_with fail
  rw [← HW0.out]
  refine (HE1.out _ (h1.below B0) (h1b.below B0)).mono ?_
  rintro e w1 ⟨rfl, hq⟩
  have b1 := quiet_q_belowConfig hq
  clear hq
  have B1 := below_step B0 b1
  have hx1 := (b1.block _ (heap_lt hx0)).trans hx0
  have y1 := (b1.block _ (heap_lt y0)).trans y0
  clear lx0 ly0
  clear lx1 ly1
  have lx2 : w1.cell? ⟨w.heap.size, 2, none⟩ = some (.slice A2 n2 c2) := by rw [cell_of_heap hx1]; rfl
  have ly2 : w1.cell? ⟨w.heap.size + 1, 2, none⟩ = some (.slice A2b n2 c2b) := by rw [cell_of_heap y1]; rfl
  go_wp2_with fail
  refine (HE2.out _ (h2.below B1) (h2b.below B1)).mono ?_
  rintro e w2 ⟨rfl, hq⟩
  have b2 := quiet_q_belowConfig hq
  clear hq
  have B2 := below_step B1 b2
  have hx2 := (b2.block _ (heap_lt hx1)).trans hx1
  have y2 := (b2.block _ (heap_lt y1)).trans y1
  clear lx2 ly2
  go_wp2_with fail
  go_ret
  exact ⟨rfl, B2⟩

end Go.Proofs.Ytdnkkmmkkfbhhaa

/- The walk of the law FnExactStepCost: it returns true, whatever the arguments, and writes nothing that was there. -/
namespace Go.Proofs.Ytdnkkmmkkfbhhaa
open Go.RowKit
set_option linter.all false

set_option maxRecDepth 100000 in
set_option maxHeartbeats 8000000 in
theorem walkStepCost (f0_0 : Int) (f0_1 : Int) (A0_2 : Option Addr) (n0_2 c0_2 : Nat) (x0_2 : List R3) (f1_0 : Int) (A1_1 : Option Addr) (n1_1 c1_1 : Nat) (x1_1 : List Int) (A1_2 : Option Addr) (n1_2 c1_2 : Nat) (x1_2 : List Int) (w : World) (w0_0 : Wf64 f0_0) (w0_1 : Wf64 f0_1) (h0_2 : Args 3 w A0_2 n0_2 (rows R3.vs x0_2)) (m0_2 : n0_2 ≤ maxLen) (w0_2 : ∀ x ∈ x0_2, x.wf) (w1_0 : Wf64 f1_0) (h1_1 : Arg w A1_1 n1_1 (x1_1.map (Value.int .i64))) (m1_1 : n1_1 ≤ maxLen) (w1_1 : Wf64s x1_1) (h1_2 : Arg w A1_2 n1_2 (x1_2.map (Value.int .i64))) (m1_2 : n1_2 ≤ maxLen) (w1_2 : Wf64s x1_2) :
    Calls Try.prog 3 #[.agg #[.int .i64 f0_0, .int .i64 f0_1, .slice A0_2 n0_2 c0_2], .agg #[.int .i64 f1_0, .slice A1_1 n1_1 c1_1, .slice A1_2 n1_2 c1_2]] w fun e w' => e = .returned (.bool true) ∧ Below w.heap.size w w' := by
  unfold maxLen at m0_2
  unfold maxLen at m1_1
  unfold maxLen at m1_2
  obtain ⟨w0, HW0, B0, x0, y0⟩ := al2 w (.cells #[.int .i64 f0_0, .int .i64 f0_1, .slice A0_2 n0_2 c0_2] 24) (.cells #[.int .i64 f1_0, .slice A1_1 n1_1 c1_1, .slice A1_2 n1_2 c1_2] 27)
  have bx0_0 := box_held x0
  have bx1_0 := box_held y0
  have szx0 := heap_lt y0
  clear x0 y0
  have H0_2 : Hid (x0_2.length = n0_2) := by have := h0_2.1; rw [rows_len R3.vs_len] at this; unfold Hid; omega
  have H1_1 : Hid (x1_1.length = n1_1) := by have := h1_1.1; rw [List.length_map] at this; exact this
  have H1_2 : Hid (x1_2.length = n1_2) := by have := h1_2.1; rw [List.length_map] at this; exact this
  by_cases z0 : (n0_2) ≤ 1048576
  rotate_left
  · go_enter Try.func3, Try.ntmps3
    have lbx0_0 : w0.cell? ⟨w.heap.size, 0, none⟩ = some (.int .i64 f0_0) := by rw [cell_of_heap bx0_0.is]; rfl
    have lbx0_1 : w0.cell? ⟨w.heap.size, 1, none⟩ = some (.int .i64 f0_1) := by rw [cell_of_heap bx0_0.is]; rfl
    have lbx0_2 : w0.cell? ⟨w.heap.size, 2, none⟩ = some (.slice A0_2 n0_2 c0_2) := by rw [cell_of_heap bx0_0.is]; rfl
    go_wp2_with fail
    rw [← HW0.out]
    refine (szMachineO_not f0_0 f0_1 A0_2 n0_2 c0_2 x0_2 1048576 _ (h0_2.below B0) (by omega) (by omega) (by omega)).mono ?_
    rintro e w1 ⟨rfl, b1⟩
    clear lbx0_0 lbx0_1 lbx0_2
    go_wp2_with fail
    go_ret
    exact ⟨rfl, below_step B0 b1⟩
  obtain ⟨r'0, R0⟩ : ∃ r' : Nat, Hid (r' + ((n0_2)) = 1048576) := ⟨1048576 - ((n0_2)), by unfold Hid; omega⟩
  have q0 : r'0 ≤ 1048576 := by have := R0.out; omega
  have s0_2 : n0_2 ≤ 1048576 := by omega
  by_cases z1 : (n1_1) + (n1_2) ≤ r'0
  rotate_left
  · go_enter Try.func3, Try.ntmps3
    have lbx0_0 : w0.cell? ⟨w.heap.size, 0, none⟩ = some (.int .i64 f0_0) := by rw [cell_of_heap bx0_0.is]; rfl
    have lbx0_1 : w0.cell? ⟨w.heap.size, 1, none⟩ = some (.int .i64 f0_1) := by rw [cell_of_heap bx0_0.is]; rfl
    have lbx0_2 : w0.cell? ⟨w.heap.size, 2, none⟩ = some (.slice A0_2 n0_2 c0_2) := by rw [cell_of_heap bx0_0.is]; rfl
    go_wp2_with fail
    rw [← HW0.out]
    refine (szMachineO_is f0_0 f0_1 A0_2 n0_2 c0_2 x0_2 1048576 r'0 _ (h0_2.below B0) R0.out (by omega) (by omega)).mono ?_
    rintro e w1 ⟨rfl, b1⟩
    clear lbx0_0 lbx0_1 lbx0_2
    have B1 := below_step B0 b1
    have sz1 := b1.size
    have bx0_1 := bx0_0.below b1
    clear bx0_0
    have bx1_1 := bx1_0.below b1
    clear bx1_0
    have lbx1_0 : w1.cell? ⟨(w.heap.size + 1), 0, none⟩ = some (.int .i64 f1_0) := by rw [cell_of_heap bx1_1.is]; rfl
    have lbx1_1 : w1.cell? ⟨(w.heap.size + 1), 1, none⟩ = some (.slice A1_1 n1_1 c1_1) := by rw [cell_of_heap bx1_1.is]; rfl
    have lbx1_2 : w1.cell? ⟨(w.heap.size + 1), 2, none⟩ = some (.slice A1_2 n1_2 c1_2) := by rw [cell_of_heap bx1_1.is]; rfl
    go_wp2_with fail
    refine (szConfigO_not f1_0 A1_1 n1_1 c1_1 x1_1 A1_2 n1_2 c1_2 x1_2 r'0 _ (h1_1.below B1) (h1_2.below B1) (by omega) (by omega) (by omega) (by omega)).mono ?_
    rintro e w2 ⟨rfl, b2⟩
    clear lbx1_0 lbx1_1 lbx1_2
    go_wp2_with fail
    go_ret
    exact ⟨rfl, below_step B1 b2⟩
  obtain ⟨r'1, R1⟩ : ∃ r' : Nat, Hid (r' + ((n1_1) + (n1_2)) = r'0) := ⟨r'0 - ((n1_1) + (n1_2)), by unfold Hid; omega⟩
  have q1 : r'1 ≤ 1048576 := by have := R1.out; omega
  have s1_1 : n1_1 ≤ 1048576 := by omega
  have s1_2 : n1_2 ≤ 1048576 := by omega
  have Z0 := Lib.hid z0; clear z0
  have Z1 := Lib.hid z1; clear z1
  go_enter Try.func3, Try.ntmps3
  have lbx0_0 : w0.cell? ⟨w.heap.size, 0, none⟩ = some (.int .i64 f0_0) := by rw [cell_of_heap bx0_0.is]; rfl
  have lbx0_1 : w0.cell? ⟨w.heap.size, 1, none⟩ = some (.int .i64 f0_1) := by rw [cell_of_heap bx0_0.is]; rfl
  have lbx0_2 : w0.cell? ⟨w.heap.size, 2, none⟩ = some (.slice A0_2 n0_2 c0_2) := by rw [cell_of_heap bx0_0.is]; rfl
  go_wp2_with fail
  rw [← HW0.out]
  refine (szMachineO_is f0_0 f0_1 A0_2 n0_2 c0_2 x0_2 1048576 r'0 _ (h0_2.below B0) R0.out (by omega) (by omega)).mono ?_
  rintro e w1 ⟨rfl, b1⟩
  clear lbx0_0 lbx0_1 lbx0_2
  have B1 := below_step B0 b1
  have sz1 := b1.size
  have bx0_1 := bx0_0.below b1
  clear bx0_0
  have bx1_1 := bx1_0.below b1
  clear bx1_0
  have lbx1_0 : w1.cell? ⟨(w.heap.size + 1), 0, none⟩ = some (.int .i64 f1_0) := by rw [cell_of_heap bx1_1.is]; rfl
  have lbx1_1 : w1.cell? ⟨(w.heap.size + 1), 1, none⟩ = some (.slice A1_1 n1_1 c1_1) := by rw [cell_of_heap bx1_1.is]; rfl
  have lbx1_2 : w1.cell? ⟨(w.heap.size + 1), 2, none⟩ = some (.slice A1_2 n1_2 c1_2) := by rw [cell_of_heap bx1_1.is]; rfl
  go_wp2_with fail
  refine (szConfigO_is f1_0 A1_1 n1_1 c1_1 x1_1 A1_2 n1_2 c1_2 x1_2 r'0 r'1 _ (h1_1.below B1) (h1_2.below B1) R1.out (by omega) (by omega) (by omega)).mono ?_
  rintro e w2 ⟨rfl, b2⟩
  clear lbx1_0 lbx1_1 lbx1_2
  have B2 := below_step B1 b2
  have sz2 := b2.size
  have bx0_2 := bx0_1.below b2
  clear bx0_1
  have bx1_2 := bx1_1.below b2
  clear bx1_1
  have a0 : w2.cell? ⟨w.heap.size, 0, none⟩ = some (.int .i64 f0_0) := by rw [cell_of_heap bx0_2.is]; rfl
  have a1 : w2.cell? ⟨w.heap.size, 1, none⟩ = some (.int .i64 f0_1) := by rw [cell_of_heap bx0_2.is]; rfl
  have a2 : w2.cell? ⟨w.heap.size, 2, none⟩ = some (.slice A0_2 n0_2 c0_2) := by rw [cell_of_heap bx0_2.is]; rfl
  have a3 : w2.cell? ⟨w.heap.size + 1, 0, none⟩ = some (.int .i64 f1_0) := by rw [cell_of_heap bx1_2.is]; rfl
  have a4 : w2.cell? ⟨w.heap.size + 1, 1, none⟩ = some (.slice A1_1 n1_1 c1_1) := by rw [cell_of_heap bx1_2.is]; rfl
  have a5 : w2.cell? ⟨w.heap.size + 1, 2, none⟩ = some (.slice A1_2 n1_2 c1_2) := by rw [cell_of_heap bx1_2.is]; rfl
  have BX := B2
  have U0 := bx0_2
  have U1 := bx1_2
  clear bx0_2 bx1_2
  have nr1 : ¬ (r'1 : Int) < 0 := by omega
  go_upto_region 8 with fail
  refine wp_region_held_drew (S := fun W => W.cell? ⟨w.heap.size, 0, none⟩ = some (.int .i64 f0_0) ∧ W.cell? ⟨w.heap.size, 1, none⟩ = some (.int .i64 f0_1) ∧ W.cell? ⟨w.heap.size, 2, none⟩ = some (.slice A0_2 n0_2 c0_2) ∧ W.cell? ⟨w.heap.size + 1, 0, none⟩ = some (.int .i64 f1_0) ∧ W.cell? ⟨w.heap.size + 1, 1, none⟩ = some (.slice A1_1 n1_1 c1_1) ∧ W.cell? ⟨w.heap.size + 1, 2, none⟩ = some (.slice A1_2 n1_2 c1_2)) (by kernel_rfl) ?_ (fun hHeld => ?_)
  · (try dsimp only); (first | go_keep | exact ⟨a0, a1, a2, a3, a4, a5⟩)
  refine takeD (i := 0) (v := ?_) (d := some 23) rfl rfl (by kernel_rfl) (by kernel_rfl) (by kernel_rfl) (fun _ _ _ h => h) (Or.inl ⟨by kernel_rfl, ?hy0⟩) (by assumption) ?rest0
  case hy0 => first | (intro w hSw; (try dsimp only at hSw); go_simp; done) | (intro w hSw; (try dsimp only at hSw); go_simp; with_reducible rfl)
  (try simp only [Act.put, List.setIfInBounds_toArray, List.set_cons_zero, List.set_cons_succ])
  refine takeD (i := 2) (v := ?_) (d := some 25) rfl rfl (by kernel_rfl) (by kernel_rfl) (by kernel_rfl) (fun _ _ _ h => h) (Or.inl ⟨by kernel_rfl, ?hy2⟩) (by assumption) ?rest2
  case hy2 => first | (intro w hSw; (try dsimp only at hSw); go_simp; done) | (intro w hSw; (try dsimp only at hSw); go_simp; with_reducible rfl)
  (try simp only [Act.put, List.setIfInBounds_toArray, List.set_cons_zero, List.set_cons_succ])
  refine wpAnyH_ready (rs := [1]) (by kernel_rfl) (by simp) ?_
  refine AllReadyH.cons rfl (fun K hK => ?_) AllReadyH.nil
  go_simp
  (go_at_call 7; refine (toMachineO_any f0_0 f0_1 A0_2 n0_2 c0_2 x0_2 _ (h0_2.below BX.drew) s0_2).mono ?_; rintro e y1 ⟨⟨ga0_2, ea0_2, rfl, loa0_2, gea0_2, lea0, pa0⟩, bb⟩; replace bb := below_drew_at bb; replace BX := below_step BX bb; replace U0 := U0.below bb; replace U1 := U1.below bb; replace a0 := cell_step (by exact a0) bb; replace a1 := cell_step (by exact a1) bb; replace a2 := cell_step (by exact a2) bb; replace a3 := cell_step (by exact a3) bb; replace a4 := cell_step (by exact a4) bb; replace a5 := cell_step (by exact a5) bb; clear bb)
  (try go_wp2_with fail)
  refine hK.out _ _ ?_ (fun hHeld => ?_)
  · (try dsimp only); (first | go_keep | exact ⟨a0, a1, a2, a3, a4, a5⟩)
  clear hK K
  (try simp only [Act.put, List.setIfInBounds_toArray, List.set_cons_zero, List.set_cons_succ])
  refine wpAnyH_ready (rs := [3]) (by kernel_rfl) (by simp) ?_
  refine AllReadyH.cons rfl (fun K hK => ?_) AllReadyH.nil
  go_simp
  (go_at_call 8; refine (toConfigO_any f1_0 A1_1 n1_1 c1_1 x1_1 A1_2 n1_2 c1_2 x1_2 _ (h1_1.below BX) (h1_2.below BX) s1_1 s1_2).mono ?_; rintro e y2 ⟨⟨ga1_1, ea1_1, ga1_2, ea1_2, rfl, loa1_1, gea1_1, loa1_2, gea1_2, lea1, pa1, pa2⟩, bb⟩; replace BX := below_step BX bb; replace U0 := U0.below bb; replace U1 := U1.below bb; replace pa0 := pa0.below bb; replace a0 := cell_step (by exact a0) bb; replace a1 := cell_step (by exact a1) bb; replace a2 := cell_step (by exact a2) bb; replace a3 := cell_step (by exact a3) bb; replace a4 := cell_step (by exact a4) bb; replace a5 := cell_step (by exact a5) bb; clear bb)
  (try go_wp2_with fail)
  refine hK.out _ _ ?_ (fun hHeld => ?_)
  · (try dsimp only); (first | go_keep | exact ⟨a0, a1, a2, a3, a4, a5⟩)
  clear hK K
  (try simp only [Act.put, List.setIfInBounds_toArray, List.set_cons_zero, List.set_cons_succ])
  refine wpAnyH_ready (rs := [4]) (by kernel_rfl) (by simp) ?_
  refine AllReadyH.cons rfl (fun K hK => ?_) AllReadyH.nil
  go_simp
  (go_at_call 6; refine (specStepCost_any f0_0 f0_1 ga0_2 n0_2 n0_2 x0_2 f1_0 ga1_1 n1_1 n1_1 x1_1 ga1_2 n1_2 n1_2 x1_2 _ w0_0 w0_1 (sl_of_own pa0.is.own) H0_2.out s0_2 (Nat.le_refl _) w1_0 (sl_of_own pa1.is.own) H1_1.out s1_1 (Nat.le_refl _) (sl_of_own pa2.is.own) H1_2.out s1_2 (Nat.le_refl _)).mono ?_; rintro e w5 ⟨rfl, bb⟩; replace BX := below_step BX bb; replace U0 := U0.below bb; replace U1 := U1.below bb; clear pa0 pa1 pa2; replace a0 := cell_step (by exact a0) bb; replace a1 := cell_step (by exact a1) bb; replace a2 := cell_step (by exact a2) bb; replace a3 := cell_step (by exact a3) bb; replace a4 := cell_step (by exact a4) bb; replace a5 := cell_step (by exact a5) bb; clear bb)
  (try go_wp2_with fail)
  refine hK.out _ _ ?_ (fun hHeld => ?_)
  · (try dsimp only); (first | go_keep | exact ⟨a0, a1, a2, a3, a4, a5⟩)
  clear hK K
  (try simp only [Act.put, List.setIfInBounds_toArray, List.set_cons_zero, List.set_cons_succ])
  refine takeD (i := 5) (v := ?_) (d := some 22) rfl rfl (by kernel_rfl) (by kernel_rfl) (by kernel_rfl) (fun _ _ _ h => h) (Or.inl ⟨by kernel_rfl, ?hy5⟩) (by assumption) ?rest5
  case hy5 => first | (intro w hSw; (try dsimp only at hSw); go_simp; done) | (intro w hSw; (try dsimp only at hSw); go_simp; with_reducible rfl)
  (try simp only [Act.put, List.setIfInBounds_toArray, List.set_cons_zero, List.set_cons_succ])
  refine takeD (i := 6) (v := ?_) (d := some 28) rfl rfl (by kernel_rfl) (by kernel_rfl) (by kernel_rfl) (fun _ _ _ h => h) (Or.inl ⟨by kernel_rfl, ?hy6⟩) (by assumption) ?rest6
  case hy6 => first | (intro w hSw; (try dsimp only at hSw); go_simp; done) | (intro w hSw; (try dsimp only at hSw); go_simp; with_reducible rfl)
  (try simp only [Act.put, List.setIfInBounds_toArray, List.set_cons_zero, List.set_cons_succ])
  refine takeD (i := 7) (v := ?_) (d := some 29) rfl rfl (by kernel_rfl) (by kernel_rfl) (by kernel_rfl) (fun _ _ _ h => h) (Or.inl ⟨by kernel_rfl, ?hy7⟩) (by assumption) ?rest7
  case hy7 => first | (intro w hSw; (try dsimp only at hSw); go_simp; done) | (intro w hSw; (try dsimp only at hSw); go_simp; with_reducible rfl)
  (try simp only [Act.put, List.setIfInBounds_toArray, List.set_cons_zero, List.set_cons_succ])
  refine takeD (i := 8) (v := ?_) (d := some 6) rfl rfl (by kernel_rfl) (by kernel_rfl) (by kernel_rfl) (fun _ _ _ h => h) (Or.inl ⟨by kernel_rfl, ?hy8⟩) (by assumption) ?rest8
  case hy8 => first | (intro w hSw; (try dsimp only at hSw); go_simp; done) | (intro w hSw; (try dsimp only at hSw); go_simp; with_reducible rfl)
  (try simp only [Act.put, List.setIfInBounds_toArray, List.set_cons_zero, List.set_cons_succ])
  refine takeD (i := 9) (v := ?_) (d := some 7) rfl rfl (by kernel_rfl) (by kernel_rfl) (by kernel_rfl) (fun _ _ _ h => h) (Or.inl ⟨by kernel_rfl, ?hy9⟩) (by assumption) ?rest9
  case hy9 => first | (intro w hSw; (try dsimp only at hSw); go_simp; done) | (intro w hSw; (try dsimp only at hSw); go_simp; with_reducible rfl)
  (try simp only [Act.put, List.setIfInBounds_toArray, List.set_cons_zero, List.set_cons_succ])
  refine wpAnyH_done (by kernel_rfl) ?_ _
  have B5 := BX
  have bx0_5 := U0
  have bx1_5 := U1
  clear BX U0 U1 a0 a1 a2 a3 a4 a5
  have lbx0_0 : w5.cell? ⟨w.heap.size, 0, none⟩ = some (.int .i64 f0_0) := by rw [cell_of_heap bx0_5.is]; rfl
  have lbx0_1 : w5.cell? ⟨w.heap.size, 1, none⟩ = some (.int .i64 f0_1) := by rw [cell_of_heap bx0_5.is]; rfl
  have lbx0_2 : w5.cell? ⟨w.heap.size, 2, none⟩ = some (.slice A0_2 n0_2 c0_2) := by rw [cell_of_heap bx0_5.is]; rfl
  go_wp2_with fail
  refine (toMachineO_any f0_0 f0_1 A0_2 n0_2 c0_2 x0_2 _ (h0_2.below B5) s0_2).mono ?_
  rintro e w6 ⟨⟨gx0_2, ex0_2, rfl, lox0_2, gex0_2, lex0, px0_2_6⟩, b6⟩
  clear lbx0_0 lbx0_1 lbx0_2
  have B6 := below_step B5 b6
  have sz6 := b6.size
  have bx0_6 := bx0_5.below b6
  clear bx0_5
  have bx1_6 := bx1_5.below b6
  clear bx1_5
  obtain ⟨w7, HW7, b7, y7⟩ := al1 w6 (.cells #[.int .i64 f0_0, .int .i64 f0_1, .slice (some ⟨gx0_2, 0, none⟩) n0_2 n0_2] 34)
  have B7 := below_step B6 b7
  have sz7 := b7.size
  have bx0_7 := bx0_6.below b7
  clear bx0_6
  have bx1_7 := bx1_6.below b7
  clear bx1_6
  have px0_2_7 := px0_2_6.below b7
  clear px0_2_6
  have z0_7 := box_held y7
  have szy7 := heap_lt y7
  clear y7
  have lbx1_0 : (w6.alloc (.cells #[.int .i64 f0_0, .int .i64 f0_1, .slice (some ⟨gx0_2, 0, none⟩) n0_2 n0_2] 34)).cell? ⟨(w.heap.size + 1), 0, none⟩ = some (.int .i64 f1_0) := by rw [← HW7.out, cell_of_heap bx1_7.is]; rfl
  have lbx1_1 : (w6.alloc (.cells #[.int .i64 f0_0, .int .i64 f0_1, .slice (some ⟨gx0_2, 0, none⟩) n0_2 n0_2] 34)).cell? ⟨(w.heap.size + 1), 1, none⟩ = some (.slice A1_1 n1_1 c1_1) := by rw [← HW7.out, cell_of_heap bx1_7.is]; rfl
  have lbx1_2 : (w6.alloc (.cells #[.int .i64 f0_0, .int .i64 f0_1, .slice (some ⟨gx0_2, 0, none⟩) n0_2 n0_2] 34)).cell? ⟨(w.heap.size + 1), 2, none⟩ = some (.slice A1_2 n1_2 c1_2) := by rw [← HW7.out, cell_of_heap bx1_7.is]; rfl
  go_wp2_with fail
  rw [← HW7.out]
  refine (toConfigO_any f1_0 A1_1 n1_1 c1_1 x1_1 A1_2 n1_2 c1_2 x1_2 _ (h1_1.below B7) (h1_2.below B7) s1_1 s1_2).mono ?_
  rintro e w8 ⟨⟨gx1_1, ex1_1, gx1_2, ex1_2, rfl, lox1_1, gex1_1, lox1_2, gex1_2, lex1, px1_1_8, px1_2_8⟩, b8⟩
  clear lbx1_0 lbx1_1 lbx1_2
  have B8 := below_step B7 b8
  have sz8 := b8.size
  have bx0_8 := bx0_7.below b8
  clear bx0_7
  have bx1_8 := bx1_7.below b8
  clear bx1_7
  have px0_2_8 := px0_2_7.below b8
  clear px0_2_7
  have z0_8 := z0_7.below b8
  clear z0_7
  obtain ⟨w9, HW9, b9, y9⟩ := al1 w8 (.cells #[.int .i64 f1_0, .slice (some ⟨gx1_1, 0, none⟩) n1_1 n1_1, .slice (some ⟨gx1_2, 0, none⟩) n1_2 n1_2] 36)
  have B9 := below_step B8 b9
  have sz9 := b9.size
  have bx0_9 := bx0_8.below b9
  clear bx0_8
  have bx1_9 := bx1_8.below b9
  clear bx1_8
  have px0_2_9 := px0_2_8.below b9
  clear px0_2_8
  have z0_9 := z0_8.below b9
  clear z0_8
  have px1_1_9 := px1_1_8.below b9
  clear px1_1_8
  have px1_2_9 := px1_2_8.below b9
  clear px1_2_8
  have z1_9 := box_held y9
  have szy9 := heap_lt y9
  clear y9
  have lz0_0 : (w8.alloc (.cells #[.int .i64 f1_0, .slice (some ⟨gx1_1, 0, none⟩) n1_1 n1_1, .slice (some ⟨gx1_2, 0, none⟩) n1_2 n1_2] 36)).cell? ⟨w6.heap.size, 0, none⟩ = some (.int .i64 f0_0) := by rw [← HW9.out, cell_of_heap z0_9.is]; rfl
  have lz0_1 : (w8.alloc (.cells #[.int .i64 f1_0, .slice (some ⟨gx1_1, 0, none⟩) n1_1 n1_1, .slice (some ⟨gx1_2, 0, none⟩) n1_2 n1_2] 36)).cell? ⟨w6.heap.size, 1, none⟩ = some (.int .i64 f0_1) := by rw [← HW9.out, cell_of_heap z0_9.is]; rfl
  have lz0_2 : (w8.alloc (.cells #[.int .i64 f1_0, .slice (some ⟨gx1_1, 0, none⟩) n1_1 n1_1, .slice (some ⟨gx1_2, 0, none⟩) n1_2 n1_2] 36)).cell? ⟨w6.heap.size, 2, none⟩ = some (.slice (some ⟨gx0_2, 0, none⟩) n0_2 n0_2) := by rw [← HW9.out, cell_of_heap z0_9.is]; rfl
  have lz1_0 : (w8.alloc (.cells #[.int .i64 f1_0, .slice (some ⟨gx1_1, 0, none⟩) n1_1 n1_1, .slice (some ⟨gx1_2, 0, none⟩) n1_2 n1_2] 36)).cell? ⟨w8.heap.size, 0, none⟩ = some (.int .i64 f1_0) := by rw [← HW9.out, cell_of_heap z1_9.is]; rfl
  have lz1_1 : (w8.alloc (.cells #[.int .i64 f1_0, .slice (some ⟨gx1_1, 0, none⟩) n1_1 n1_1, .slice (some ⟨gx1_2, 0, none⟩) n1_2 n1_2] 36)).cell? ⟨w8.heap.size, 1, none⟩ = some (.slice (some ⟨gx1_1, 0, none⟩) n1_1 n1_1) := by rw [← HW9.out, cell_of_heap z1_9.is]; rfl
  have lz1_2 : (w8.alloc (.cells #[.int .i64 f1_0, .slice (some ⟨gx1_1, 0, none⟩) n1_1 n1_1, .slice (some ⟨gx1_2, 0, none⟩) n1_2 n1_2] 36)).cell? ⟨w8.heap.size, 2, none⟩ = some (.slice (some ⟨gx1_2, 0, none⟩) n1_2 n1_2) := by rw [← HW9.out, cell_of_heap z1_9.is]; rfl
  go_wp2_with fail
  rw [← HW9.out]
  refine (implStepCost_any f0_0 f0_1 gx0_2 n0_2 n0_2 x0_2 f1_0 gx1_1 n1_1 n1_1 x1_1 gx1_2 n1_2 n1_2 x1_2 _ w0_0 w0_1 (sl_of_own px0_2_9.is.own) H0_2.out s0_2 (Nat.le_refl _) w1_0 (sl_of_own px1_1_9.is.own) H1_1.out s1_1 (Nat.le_refl _) (sl_of_own px1_2_9.is.own) H1_2.out s1_2 (Nat.le_refl _)).mono ?_
  rintro e w10 ⟨rfl, b10⟩
  clear lz0_0 lz0_1 lz0_2 lz1_0 lz1_1 lz1_2
  have B10 := below_step B9 b10
  have sz10 := b10.size
  have bx0_10 := bx0_9.below b10
  clear bx0_9
  have bx1_10 := bx1_9.below b10
  clear bx1_9
  have px0_2_10 := px0_2_9.below b10
  clear px0_2_9
  have z0_10 := z0_9.below b10
  clear z0_9
  have px1_1_10 := px1_1_9.below b10
  clear px1_1_9
  have px1_2_10 := px1_2_9.below b10
  clear px1_2_9
  have z1_10 := z1_9.below b10
  clear z1_9
  have lz0_0 : w10.cell? ⟨w6.heap.size, 0, none⟩ = some (.int .i64 f0_0) := by rw [cell_of_heap z0_10.is]; rfl
  have lz0_1 : w10.cell? ⟨w6.heap.size, 1, none⟩ = some (.int .i64 f0_1) := by rw [cell_of_heap z0_10.is]; rfl
  have lz0_2 : w10.cell? ⟨w6.heap.size, 2, none⟩ = some (.slice (some ⟨gx0_2, 0, none⟩) n0_2 n0_2) := by rw [cell_of_heap z0_10.is]; rfl
  have lbx0_0 : w10.cell? ⟨w.heap.size, 0, none⟩ = some (.int .i64 f0_0) := by rw [cell_of_heap bx0_10.is]; rfl
  have lbx0_1 : w10.cell? ⟨w.heap.size, 1, none⟩ = some (.int .i64 f0_1) := by rw [cell_of_heap bx0_10.is]; rfl
  have lbx0_2 : w10.cell? ⟨w.heap.size, 2, none⟩ = some (.slice A0_2 n0_2 c0_2) := by rw [cell_of_heap bx0_10.is]; rfl
  go_wp2_with fail
  go_region_held3 (fun W => W.cell? ⟨w6.heap.size, 0, none⟩ = some (.int .i64 f0_0) ∧ W.cell? ⟨w6.heap.size, 1, none⟩ = some (.int .i64 f0_1) ∧ W.cell? ⟨w6.heap.size, 2, none⟩ = some (.slice (some ⟨gx0_2, 0, none⟩) n0_2 n0_2) ∧ W.cell? ⟨w.heap.size, 0, none⟩ = some (.int .i64 f0_0) ∧ W.cell? ⟨w.heap.size, 1, none⟩ = some (.int .i64 f0_1) ∧ W.cell? ⟨w.heap.size, 2, none⟩ = some (.slice A0_2 n0_2 c0_2)) (first | go_keep | exact ⟨r11_0, r11_1, r11_2, r11_3, r11_4, r11_5⟩ | exact ⟨s11_0, s11_1, s11_2, s11_3, s11_4, s11_5⟩)
    ((first
      | (go_at_call 7; refine (toMachineO_any f0_0 f0_1 A0_2 n0_2 c0_2 x0_2 _ (h0_2.below (B10.drew)) s0_2).mono ?_; rintro e w11 ⟨⟨gt0_2, et0_2, rfl, lot0_2, get0_2, let0, pt0_2_11⟩, b11'⟩; have b11 := below_drew_at b11'; have r11_0 := cell_step (by exact lz0_0) b11; have r11_1 := cell_step (by exact lz0_1) b11; have r11_2 := cell_step (by exact lz0_2) b11; have r11_3 := cell_step (by exact lbx0_0) b11; have r11_4 := cell_step (by exact lbx0_1) b11; have r11_5 := cell_step (by exact lbx0_2) b11)
      | (go_at_call 10; refine (eqMachineO_same f0_0 f0_1 _ _ n0_2 _ _ x0_2 _ (args_of_own ((px0_2_10.below b11).is.own)) (args_of_own pt0_2_11.is.own) (by omega)).mono ?_; rintro e w12 ⟨rfl, b12⟩; have s11_0 := cell_step (by exact r11_0) b12; have s11_1 := cell_step (by exact r11_1) b12; have s11_2 := cell_step (by exact r11_2) b12; have s11_3 := cell_step (by exact r11_3) b12; have s11_4 := cell_step (by exact r11_4) b12; have s11_5 := cell_step (by exact r11_5) b12)))
  all_goals
    have b9 := below_step b11 b12
    clear r11_0 r11_1 r11_2 r11_3 r11_4 r11_5 s11_0 s11_1 s11_2 s11_3 s11_4 s11_5 pt0_2_11 b11' lz0_0 lz0_1 lz0_2 lbx0_0 lbx0_1 lbx0_2 lot0_2 get0_2 let0
    have B12 := below_step B10 b9
    have sz12 := b9.size
    have bx0_12 := bx0_10.below b9
    clear bx0_10
    have bx1_12 := bx1_10.below b9
    clear bx1_10
    have px0_2_12 := px0_2_10.below b9
    clear px0_2_10
    have z0_12 := z0_10.below b9
    clear z0_10
    have px1_1_12 := px1_1_10.below b9
    clear px1_1_10
    have px1_2_12 := px1_2_10.below b9
    clear px1_2_10
    have z1_12 := z1_10.below b9
    clear z1_10
    clear b9
    have lz1_0 : w12.cell? ⟨w8.heap.size, 0, none⟩ = some (.int .i64 f1_0) := by rw [cell_of_heap z1_12.is]; rfl
    have lz1_1 : w12.cell? ⟨w8.heap.size, 1, none⟩ = some (.slice (some ⟨gx1_1, 0, none⟩) n1_1 n1_1) := by rw [cell_of_heap z1_12.is]; rfl
    have lz1_2 : w12.cell? ⟨w8.heap.size, 2, none⟩ = some (.slice (some ⟨gx1_2, 0, none⟩) n1_2 n1_2) := by rw [cell_of_heap z1_12.is]; rfl
    have lbx1_0 : w12.cell? ⟨(w.heap.size + 1), 0, none⟩ = some (.int .i64 f1_0) := by rw [cell_of_heap bx1_12.is]; rfl
    have lbx1_1 : w12.cell? ⟨(w.heap.size + 1), 1, none⟩ = some (.slice A1_1 n1_1 c1_1) := by rw [cell_of_heap bx1_12.is]; rfl
    have lbx1_2 : w12.cell? ⟨(w.heap.size + 1), 2, none⟩ = some (.slice A1_2 n1_2 c1_2) := by rw [cell_of_heap bx1_12.is]; rfl
    go_wp2_with fail
    go_region_held3 (fun W => W.cell? ⟨w8.heap.size, 0, none⟩ = some (.int .i64 f1_0) ∧ W.cell? ⟨w8.heap.size, 1, none⟩ = some (.slice (some ⟨gx1_1, 0, none⟩) n1_1 n1_1) ∧ W.cell? ⟨w8.heap.size, 2, none⟩ = some (.slice (some ⟨gx1_2, 0, none⟩) n1_2 n1_2) ∧ W.cell? ⟨(w.heap.size + 1), 0, none⟩ = some (.int .i64 f1_0) ∧ W.cell? ⟨(w.heap.size + 1), 1, none⟩ = some (.slice A1_1 n1_1 c1_1) ∧ W.cell? ⟨(w.heap.size + 1), 2, none⟩ = some (.slice A1_2 n1_2 c1_2)) (first | go_keep | exact ⟨r13_0, r13_1, r13_2, r13_3, r13_4, r13_5⟩ | exact ⟨s13_0, s13_1, s13_2, s13_3, s13_4, s13_5⟩)
      ((first
        | (go_at_call 8; refine (toConfigO_any f1_0 A1_1 n1_1 c1_1 x1_1 A1_2 n1_2 c1_2 x1_2 _ (h1_1.below (B12.drew)) (h1_2.below (B12.drew)) s1_1 s1_2).mono ?_; rintro e w13 ⟨⟨gt1_1, et1_1, gt1_2, et1_2, rfl, lot1_1, get1_1, lot1_2, get1_2, let1, pt1_1_13, pt1_2_13⟩, b13'⟩; have b13 := below_drew_at b13'; have r13_0 := cell_step (by exact lz1_0) b13; have r13_1 := cell_step (by exact lz1_1) b13; have r13_2 := cell_step (by exact lz1_2) b13; have r13_3 := cell_step (by exact lbx1_0) b13; have r13_4 := cell_step (by exact lbx1_1) b13; have r13_5 := cell_step (by exact lbx1_2) b13)
        | (go_at_call 11; refine (eqConfigO_same f1_0 _ _ n1_1 _ _ x1_1 _ _ n1_2 _ _ x1_2 _ (arg_of_own ((px1_1_12.below b13).is.own)) (arg_of_own pt1_1_13.is.own) (arg_of_own ((px1_2_12.below b13).is.own)) (arg_of_own pt1_2_13.is.own) (by omega) (by omega)).mono ?_; rintro e w14 ⟨rfl, b14⟩; have s13_0 := cell_step (by exact r13_0) b14; have s13_1 := cell_step (by exact r13_1) b14; have s13_2 := cell_step (by exact r13_2) b14; have s13_3 := cell_step (by exact r13_3) b14; have s13_4 := cell_step (by exact r13_4) b14; have s13_5 := cell_step (by exact r13_5) b14)))
    all_goals
      have b9 := below_step b13 b14
      clear r13_0 r13_1 r13_2 r13_3 r13_4 r13_5 s13_0 s13_1 s13_2 s13_3 s13_4 s13_5 pt1_1_13 pt1_2_13 b13' lz1_0 lz1_1 lz1_2 lbx1_0 lbx1_1 lbx1_2 lot1_1 get1_1 lot1_2 get1_2 let1
      have B14 := below_step B12 b9
      have sz14 := b9.size
      have bx0_14 := bx0_12.below b9
      clear bx0_12
      have bx1_14 := bx1_12.below b9
      clear bx1_12
      have px0_2_14 := px0_2_12.below b9
      clear px0_2_12
      have z0_14 := z0_12.below b9
      clear z0_12
      have px1_1_14 := px1_1_12.below b9
      clear px1_1_12
      have px1_2_14 := px1_2_12.below b9
      clear px1_2_12
      have z1_14 := z1_12.below b9
      clear z1_12
      clear b9
      go_wp2_with fail
      go_ret
      exact ⟨rfl, B14⟩
end Go.Proofs.Ytdnkkmmkkfbhhaa

/- How the laws' arguments are opened: a slice that came in reads as a list of its elements' cells. -/
namespace Go.Proofs.Ytdnkkmmkkfbhhaa
open Go.ChangeShapes Go.WideShapes Go.ChangeAt Go.RowKit Go.Deep
open Go.ChangeMaps (open_string shut_string)

theorem own : ownKnob Try.prog.godebug = none := by kernel_rfl
theorem laidOut : laidOutB Try.prog = true := by kernel_rfl

theorem list_of_fun {α : Type} (n : Nat) (p : Nat → α → Prop) (h : ∀ i, i < n → ∃ x, p i x) : ∃ xs : List α, xs.length = n ∧ ∀ i x, xs[i]? = some x → p i x := by
  induction n with
  | zero => exact ⟨[], rfl, by simp⟩
  | succ n ih =>
    obtain ⟨xs, hl, hp⟩ := ih (fun i hi => h i (by omega))
    obtain ⟨x, hx⟩ := h n (by omega)
    refine ⟨xs ++ [x], by simp [hl], fun i y hy => ?_⟩
    rw [List.getElem?_append] at hy
    split at hy
    · exact hp i y hy
    · rw [List.getElem?_singleton] at hy
      split at hy
      · injection hy with hy
        subst hy
        obtain rfl : i = n := by omega
        exact hx
      · cases hy

theorem add_none {b off j : Nat} : (⟨b, off, none⟩ : Addr).add j = ⟨b, off + j, none⟩ := by
  unfold Addr.add
  split
  · rename_i h; subst h; rfl
  · rfl

section
variable {H : Type} {enc : TypeId × Value → H} {P : Program} {w : World} {base : Nat} {spare : Nat → Bool} {held : Bool}

/-- A slice of one-cell elements that came in. 'helem' says how an element's cell reads. -/
theorem arg_of_trod {α : Type} (f : α → Value) (ok : α → Prop) {t e : TypeId} {A : Option Addr} {n c : Nat} {d : DataW H} {ps : List MemPlace} (ht : P.underlying t = some (.slice e)) (hC : P.cellsOf e = 1)
    (helem : ∀ fuel cs x, DataW.trod enc P w base spare held fuel e cs = some x → ∃ a, cs = [f a] ∧ ok a)
    (h : DataW.Trod enc P w base spare held t (.slice A n c) d ps) : ∃ xs : List α, Arg w A n (xs.map f) ∧ (∀ x ∈ xs, ok x) ∧ n ≤ maxLen := by
  obtain ⟨fuel, hf⟩ := h
  rcases open_slice ht hf with ⟨h0, _⟩ | ⟨a, len, cap, m, n', D, Pl, hcs, _, hl, hm, hmm, _, hi⟩
  · simp [Value.cells] at h0
    obtain ⟨rfl, rfl, rfl⟩ := h0
    exact ⟨[], Arg.of_nil _ _, by simp, by simp [maxLen]⟩
  · simp [Value.cells] at hcs
    obtain ⟨rfl, rfl, rfl⟩ := hcs
    have hnm : n ≤ m := by rw [hmm]; split <;> omega
    have hex : ∀ i, i < n → ∃ x : α, w.cell? (a.add i) = some (f x) ∧ ok x := by
      intro i hin
      obtain ⟨cs', hc, ht'⟩ := hi i (by omega)
      rw [hC] at hc
      obtain ⟨x, rfl, hok⟩ := helem _ _ _ ht'
      obtain ⟨_, _, hat⟩ := World.cells?_some hc
      refine ⟨x, ?_, hok⟩
      have := hat 0 (by omega)
      simpa [Addr.add] using this
    obtain ⟨xs, hlen, hp⟩ := list_of_fun n _ hex
    refine ⟨xs, ⟨by simp [hlen], ?_⟩, fun x hx => by obtain ⟨i, hi⟩ := List.getElem?_of_mem hx; exact (hp i x hi).2, by omega⟩
    rcases Nat.eq_zero_or_pos n with h0 | h0
    · exact .inl h0
    · obtain ⟨b, off, spot⟩ := a
      obtain ⟨x0, hx0, _⟩ := hex 0 h0
      have hspot : spot = none := by simpa [Addr.add] using World.cell?_spot hx0
      subst hspot
      refine .inr ⟨b, off, rfl, World.block_lt_of_cell? w _ (by simpa [Addr.add] using hx0), fun j u hu => ?_⟩
      rw [List.getElem?_map] at hu
      obtain ⟨x, hx, rfl⟩ := Option.map_eq_some_iff.1 hu
      rw [← add_none]
      exact (hp j x hx).1

theorem arg_bools {t e : TypeId} {A : Option Addr} {n c : Nat} {d : DataW H} {ps : List MemPlace} (ht : P.underlying t = some (.slice e)) (hC : P.cellsOf e = 1) (he : P.underlying e = some .bool)
    (h : DataW.Trod enc P w base spare held t (.slice A n c) d ps) : ∃ xs : List Bool, Arg w A n (xs.map Value.bool) ∧ n ≤ maxLen := by
  obtain ⟨xs, h1, _, h3⟩ := arg_of_trod Value.bool (fun _ => True) ht hC (fun fuel cs x hx => by obtain ⟨b, hb, _⟩ := DataW.trod_bool he hx; exact ⟨b, hb, trivial⟩) h
  exact ⟨xs, h1, h3⟩

theorem arg_ints {k : IntKind} {t e : TypeId} {A : Option Addr} {n c : Nat} {d : DataW H} {ps : List MemPlace} (ht : P.underlying t = some (.slice e)) (hC : P.cellsOf e = 1) (he : P.underlying e = some (.int k))
    (h : DataW.Trod enc P w base spare held t (.slice A n c) d ps) : ∃ xs : List Int, Arg w A n (xs.map (Value.int k)) ∧ (∀ x ∈ xs, (Lit.int k x).wf = true) ∧ n ≤ maxLen :=
  arg_of_trod (Value.int k) (fun x => (Lit.int k x).wf = true) ht hC (fun fuel cs x hx => by obtain ⟨b, hb, _, hw⟩ := DataW.trod_int he hx; exact ⟨b, hb, hw⟩) h

theorem arg_strings {t e : TypeId} {A : Option Addr} {n c : Nat} {d : DataW H} {ps : List MemPlace} (ht : P.underlying t = some (.slice e)) (hC : P.cellsOf e = 1) (he : P.underlying e = some .string)
    (h : DataW.Trod enc P w base spare held t (.slice A n c) d ps) : ∃ xs : List ByteArray, Arg w A n (xs.map Value.string) ∧ (∀ x ∈ xs, x.size ≤ maxLen) ∧ n ≤ maxLen :=
  arg_of_trod Value.string (fun x => x.size ≤ maxLen) ht hC (fun fuel cs x hx => by obtain ⟨b, hb, _, hw⟩ := DataW.trod_string he hx; exact ⟨b, hb, hw⟩) h
end
end Go.Proofs.Ytdnkkmmkkfbhhaa

/- How the laws' arguments that are slices of records of numbers are opened. -/
namespace Go.Proofs.Ytdnkkmmkkfbhhaa
open Go.ChangeShapes Go.WideShapes Go.ChangeAt Go.RowKit Go.Deep
set_option linter.all false

section
variable {H : Type} {enc : TypeId × Value → H} {P : Program} {w : World} {base : Nat} {spare : Nat → Bool} {held : Bool}

theorem args_of_trod {α : Type} (f : α → List Value) (ok : α → Prop) {s : Nat} (hs : ∀ x, (f x).length = s) (hs0 : 0 < s) {t e : TypeId} {A : Option Addr} {n c : Nat} {d : DataW H} {ps : List MemPlace} (ht : P.underlying t = some (.slice e)) (hC : P.cellsOf e = s)
    (helem : ∀ fuel cs x, DataW.trod enc P w base spare held fuel e cs = some x → ∃ a, cs = f a ∧ ok a)
    (h : DataW.Trod enc P w base spare held t (.slice A n c) d ps) : ∃ xs : List α, Args s w A n (rows f xs) ∧ (∀ x ∈ xs, ok x) ∧ n ≤ maxLen := by
  obtain ⟨fuel, hf⟩ := h
  rcases open_slice ht hf with ⟨h0, _⟩ | ⟨a, len, cap, m, n', D, Pl, hcs, _, hl, hm, hmm, _, hi⟩
  · simp [Value.cells] at h0
    obtain ⟨rfl, rfl, rfl⟩ := h0
    exact ⟨[], Args.of_nil _ _ _, by simp, by simp [maxLen]⟩
  · simp [Value.cells] at hcs
    obtain ⟨rfl, rfl, rfl⟩ := hcs
    have hnm : n ≤ m := by rw [hmm]; split <;> omega
    have hex : ∀ i, i < n → ∃ x : α, (∀ j u, (f x)[j]? = some u → w.cell? (a.add (i * s + j)) = some u) ∧ ok x := by
      intro i hin
      obtain ⟨cs', hc, ht'⟩ := hi i (by omega)
      rw [hC] at hc
      obtain ⟨x, rfl, hok⟩ := helem _ _ _ ht'
      obtain ⟨_, _, hat⟩ := World.cells?_some hc
      refine ⟨x, fun j u hu => ?_, hok⟩
      have hj : j < s := by rw [← hs x]; exact (List.getElem?_eq_some_iff.1 hu).1
      have := hat j hj
      rw [← Go.Deep.add_add, this, hu]
    obtain ⟨xs, hlen, hp⟩ := list_of_fun n _ hex
    refine ⟨xs, ⟨by rw [rows_len hs, hlen], ?_⟩, fun x hx => by obtain ⟨i, hi⟩ := List.getElem?_of_mem hx; exact (hp i x hi).2, by omega⟩
    rcases Nat.eq_zero_or_pos n with h0 | h0
    · exact .inl h0
    · obtain ⟨b, off, spot⟩ := a
      obtain ⟨x0, hx0, _⟩ := hex 0 h0
      have hx0' := hx0 0 ((f x0)[0]'(by rw [hs]; exact hs0)) (List.getElem?_eq_getElem _)
      have hspot : spot = none := by simpa [Addr.add] using World.cell?_spot hx0'
      subst hspot
      refine .inr ⟨b, off, rfl, World.block_lt_of_cell? w _ (by simpa [Addr.add] using hx0'), fun j u hu => ?_⟩
      have hjl : j < n * s := by have := (List.getElem?_eq_some_iff.1 hu).1; rw [rows_len hs, hlen] at this; exact this
      have hq : j / s < n := Nat.div_lt_of_lt_mul (by rw [Nat.mul_comm]; exact hjl)
      have hm : j % s < s := Nat.mod_lt _ hs0
      have hjj : j = j / s * s + j % s := by rw [Nat.mul_comm]; exact (Nat.div_add_mod j s).symm
      have hx : xs[j / s]? = some (xs[j / s]'(by omega)) := List.getElem?_eq_getElem _
      rw [hjj, rows_at hs hx hm] at hu
      rw [hjj, ← add_none]
      exact (hp _ _ hx).1 _ _ hu

theorem one_of {n : Nat} {ty : TypeId} {v : Value} {y : DataW H × List MemPlace} (hu : P.underlying ty = some (.int .i64)) (h : DataW.trod enc P w base spare held n ty [v] = some y) : ∃ x : Int, v = .int .i64 x ∧ Wf64 x := by
  obtain ⟨b, hb, _, hw⟩ := DataW.trod_int hu h
  exact ⟨b, by simpa using hb, wf64_of hw⟩

theorem args_recs2 {t e : TypeId} {f0 f1 : Field} {A : Option Addr} {n c : Nat} {d : DataW H} {ps : List MemPlace} (ht : P.underlying t = some (.slice e)) (hC : P.cellsOf e = 2) (he : P.underlying e = some (.struct #[f0, f1])) (hone : oneCellFields P #[f0, f1] = true)
    (h0 : P.underlying f0.type = some (.int .i64)) (h1 : P.underlying f1.type = some (.int .i64)) (h : DataW.Trod enc P w base spare held t (.slice A n c) d ps) : ∃ xs : List R2, Args 2 w A n (rows R2.vs xs) ∧ (∀ x ∈ xs, x.wf) ∧ n ≤ maxLen := by
  refine args_of_trod R2.vs R2.wf R2.vs_len (by omega) ht hC (fun fuel cs x hx => ?_) h
  obtain ⟨xs, n', _, hx', hcl, hlen, hg⟩ := DataW.trod_struct he hx
  obtain ⟨o0, k0⟩ := hone_of hone 0 f0 rfl
  obtain ⟨o1, k1⟩ := hone_of hone 1 f1 rfl
  rw [hC] at hcl
  match cs, hcl with
  | [c0, c1], _ =>
    match xs, hlen with
    | [y0, y1], _ =>
      obtain ⟨a0, rfl, w0⟩ := one_of h0 (by simpa [o0, k0] using hg 0 f0 rfl)
      obtain ⟨a1, rfl, w1⟩ := one_of h1 (by simpa [o1, k1] using hg 1 f1 rfl)
      exact ⟨⟨a0, a1⟩, rfl, w0, w1⟩

theorem args_recs3 {t e : TypeId} {f0 f1 f2 : Field} {A : Option Addr} {n c : Nat} {d : DataW H} {ps : List MemPlace} (ht : P.underlying t = some (.slice e)) (hC : P.cellsOf e = 3) (he : P.underlying e = some (.struct #[f0, f1, f2])) (hone : oneCellFields P #[f0, f1, f2] = true)
    (h0 : P.underlying f0.type = some (.int .i64)) (h1 : P.underlying f1.type = some (.int .i64)) (h2 : P.underlying f2.type = some (.int .i64)) (h : DataW.Trod enc P w base spare held t (.slice A n c) d ps) : ∃ xs : List R3, Args 3 w A n (rows R3.vs xs) ∧ (∀ x ∈ xs, x.wf) ∧ n ≤ maxLen := by
  refine args_of_trod R3.vs R3.wf R3.vs_len (by omega) ht hC (fun fuel cs x hx => ?_) h
  obtain ⟨xs, n', _, hx', hcl, hlen, hg⟩ := DataW.trod_struct he hx
  obtain ⟨o0, k0⟩ := hone_of hone 0 f0 rfl
  obtain ⟨o1, k1⟩ := hone_of hone 1 f1 rfl
  obtain ⟨o2, k2⟩ := hone_of hone 2 f2 rfl
  rw [hC] at hcl
  match cs, hcl with
  | [c0, c1, c2], _ =>
    match xs, hlen with
    | [y0, y1, y2], _ =>
      obtain ⟨a0, rfl, w0⟩ := one_of h0 (by simpa [o0, k0] using hg 0 f0 rfl)
      obtain ⟨a1, rfl, w1⟩ := one_of h1 (by simpa [o1, k1] using hg 1 f1 rfl)
      obtain ⟨a2, rfl, w2⟩ := one_of h2 (by simpa [o2, k2] using hg 2 f2 rfl)
      exact ⟨⟨a0, a1, a2⟩, rfl, w0, w1, w2⟩

theorem args_recs4 {t e : TypeId} {f0 f1 f2 f3 : Field} {A : Option Addr} {n c : Nat} {d : DataW H} {ps : List MemPlace} (ht : P.underlying t = some (.slice e)) (hC : P.cellsOf e = 4) (he : P.underlying e = some (.struct #[f0, f1, f2, f3])) (hone : oneCellFields P #[f0, f1, f2, f3] = true)
    (h0 : P.underlying f0.type = some (.int .i64)) (h1 : P.underlying f1.type = some (.int .i64)) (h2 : P.underlying f2.type = some (.int .i64)) (h3 : P.underlying f3.type = some (.int .i64)) (h : DataW.Trod enc P w base spare held t (.slice A n c) d ps) : ∃ xs : List R4, Args 4 w A n (rows R4.vs xs) ∧ (∀ x ∈ xs, x.wf) ∧ n ≤ maxLen := by
  refine args_of_trod R4.vs R4.wf R4.vs_len (by omega) ht hC (fun fuel cs x hx => ?_) h
  obtain ⟨xs, n', _, hx', hcl, hlen, hg⟩ := DataW.trod_struct he hx
  obtain ⟨o0, k0⟩ := hone_of hone 0 f0 rfl
  obtain ⟨o1, k1⟩ := hone_of hone 1 f1 rfl
  obtain ⟨o2, k2⟩ := hone_of hone 2 f2 rfl
  obtain ⟨o3, k3⟩ := hone_of hone 3 f3 rfl
  rw [hC] at hcl
  match cs, hcl with
  | [c0, c1, c2, c3], _ =>
    match xs, hlen with
    | [y0, y1, y2, y3], _ =>
      obtain ⟨a0, rfl, w0⟩ := one_of h0 (by simpa [o0, k0] using hg 0 f0 rfl)
      obtain ⟨a1, rfl, w1⟩ := one_of h1 (by simpa [o1, k1] using hg 1 f1 rfl)
      obtain ⟨a2, rfl, w2⟩ := one_of h2 (by simpa [o2, k2] using hg 2 f2 rfl)
      obtain ⟨a3, rfl, w3⟩ := one_of h3 (by simpa [o3, k3] using hg 3 f3 rfl)
      exact ⟨⟨a0, a1, a2, a3⟩, rfl, w0, w1, w2, w3⟩
end
end Go.Proofs.Ytdnkkmmkkfbhhaa

/- How the laws' arguments that are slices of slices are opened. -/
namespace Go.Proofs.Ytdnkkmmkkfbhhaa
open Go.ChangeShapes Go.WideShapes Go.ChangeAt Go.RowKit Go.Deep
set_option linter.all false

section
variable {H : Type} {enc : TypeId × Value → H} {P : Program} {w : World} {base : Nat} {spare : Nat → Bool} {held : Bool}

/-- A slice in a cell. -/
theorem slice_cell {α : Type} (f : α → List Value) (ok : α → Prop) {s : Nat} (hs : ∀ x, (f x).length = s) (hs0 : 0 < s) {e e2 : TypeId} (he : P.underlying e = some (.slice e2)) (hC2 : P.cellsOf e2 = s)
    (helem : ∀ fuel cs x, DataW.trod enc P w base spare held fuel e2 cs = some x → ∃ a, cs = f a ∧ ok a) {fuel : Nat} {cs : List Value} {x : DataW H × List MemPlace} (h : DataW.trod enc P w base spare held fuel e cs = some x) :
    ∃ (A : Option Addr) (c : Nat) (t : List α), cs = [.slice A t.length c] ∧ Args s w A t.length (rows f t) ∧ (∀ x ∈ t, ok x) ∧ t.length ≤ maxLen := by
  rcases open_slice he h with ⟨rfl, _⟩ | ⟨a, len, cap, m, n', D, Pl, rfl, _, _, _, _, _, _⟩
  · exact ⟨none, 0, [], rfl, Args.of_nil _ _ _, by simp, by simp [maxLen]⟩
  · obtain ⟨t, ht, hok, hm⟩ := args_of_trod f ok hs hs0 he hC2 helem (A := some a) (n := len) (c := cap) (d := x.1) (ps := x.2) ⟨fuel, h⟩
    have hl : t.length = len := by have := ht.1; rw [rows_len hs] at this; exact Nat.eq_of_mul_eq_mul_right hs0 this
    subst hl
    exact ⟨some a, cap, t, rfl, ht, hok, hm⟩

theorem arg_nested {α : Type} (f : α → List Value) (ok : α → Prop) {s : Nat} (hs : ∀ x, (f x).length = s) (hs0 : 0 < s) {t e e2 : TypeId} {A : Option Addr} {n c : Nat} {d : DataW H} {ps : List MemPlace} (ht : P.underlying t = some (.slice e)) (hC : P.cellsOf e = 1) (he : P.underlying e = some (.slice e2)) (hC2 : P.cellsOf e2 = s)
    (helem : ∀ fuel cs x, DataW.trod enc P w base spare held fuel e2 cs = some x → ∃ a, cs = f a ∧ ok a)
    (h : DataW.Trod enc P w base spare held t (.slice A n c) d ps) : ∃ (vs : List Value) (ts : List (List α)), Arg w A n vs ∧ Ins s f w vs ts ∧ (∀ t ∈ ts, (∀ x ∈ t, ok x) ∧ t.length ≤ maxLen) ∧ n ≤ maxLen := by
  obtain ⟨ps2, h1, h2, h3⟩ := arg_of_trod (α := Value × List α) (fun p => p.1) (fun p => (∃ A c, p.1 = .slice A p.2.length c ∧ Args s w A p.2.length (rows f p.2)) ∧ (∀ x ∈ p.2, ok x) ∧ p.2.length ≤ maxLen) ht hC (fun fuel cs x hx => by
    obtain ⟨A, c, t, rfl, ha, hok, hm⟩ := slice_cell f ok hs hs0 he hC2 helem hx
    exact ⟨(.slice A t.length c, t), rfl, ⟨A, c, rfl, ha⟩, hok, hm⟩) h
  refine ⟨ps2.map (·.1), ps2.map (·.2), h1, ⟨by simp, fun j v t hv ht => ?_⟩, fun t ht => ?_, h3⟩
  · rw [List.getElem?_map] at hv ht
    obtain ⟨p, hp, rfl⟩ := Option.map_eq_some_iff.1 hv
    rw [hp] at ht
    simp at ht
    subst ht
    obtain ⟨⟨A, c, e1, ha⟩, _⟩ := h2 p (List.mem_of_getElem? hp)
    exact ⟨A, c, e1, ha⟩
  · obtain ⟨p, hp, rfl⟩ := List.mem_map.1 ht
    exact (h2 p hp).2

theorem elem_int {e : TypeId} (he : P.underlying e = some (.int .i64)) : ∀ fuel cs x, DataW.trod enc P w base spare held fuel e cs = some x → ∃ a, cs = oneI a ∧ Wf64 a := fun fuel cs x hx => by
  obtain ⟨b, hb, _, hw⟩ := DataW.trod_int he hx
  exact ⟨b, hb, wf64_of hw⟩
theorem elem_bool {e : TypeId} (he : P.underlying e = some .bool) : ∀ fuel cs x, DataW.trod enc P w base spare held fuel e cs = some x → ∃ a, cs = oneB a ∧ True := fun fuel cs x hx => by
  obtain ⟨b, hb, _⟩ := DataW.trod_bool he hx
  exact ⟨b, hb, trivial⟩
theorem elem_rec2 {e : TypeId} {f0 f1 : Field} (hC : P.cellsOf e = 2) (he : P.underlying e = some (.struct #[f0, f1])) (hone : oneCellFields P #[f0, f1] = true)
    (h0 : P.underlying f0.type = some (.int .i64)) (h1 : P.underlying f1.type = some (.int .i64)) : ∀ fuel cs x, DataW.trod enc P w base spare held fuel e cs = some x → ∃ a, cs = R2.vs a ∧ R2.wf a := fun fuel cs x hx => by
  obtain ⟨xs, n', _, hx', hcl, hlen, hg⟩ := DataW.trod_struct he hx
  obtain ⟨o0, k0⟩ := hone_of hone 0 f0 rfl
  obtain ⟨o1, k1⟩ := hone_of hone 1 f1 rfl
  rw [hC] at hcl
  match cs, hcl with
  | [c0, c1], _ =>
    match xs, hlen with
    | [y0, y1], _ =>
      obtain ⟨a0, rfl, w0⟩ := one_of h0 (by simpa [o0, k0] using hg 0 f0 rfl)
      obtain ⟨a1, rfl, w1⟩ := one_of h1 (by simpa [o1, k1] using hg 1 f1 rfl)
      exact ⟨⟨a0, a1⟩, rfl, w0, w1⟩
end
end Go.Proofs.Ytdnkkmmkkfbhhaa

/- How the laws' arguments that are one record are opened. -/
namespace Go.Proofs.Ytdnkkmmkkfbhhaa
open Go.ChangeShapes Go.WideShapes Go.ChangeAt Go.RowKit Go.Deep
set_option linter.all false

section
variable {H : Type} {enc : TypeId × Value → H} {P : Program} {w : World} {base : Nat} {spare : Nat → Bool} {held : Bool}
theorem elem_rec3 {e : TypeId} {f0 f1 f2 : Field} (hC : P.cellsOf e = 3) (he : P.underlying e = some (.struct #[f0, f1, f2])) (hone : oneCellFields P #[f0, f1, f2] = true)
    (h0 : P.underlying f0.type = some (.int .i64)) (h1 : P.underlying f1.type = some (.int .i64)) (h2 : P.underlying f2.type = some (.int .i64)) : ∀ fuel cs x, DataW.trod enc P w base spare held fuel e cs = some x → ∃ a, cs = R3.vs a ∧ R3.wf a := fun fuel cs x hx => by
  obtain ⟨xs, n', _, hx', hcl, hlen, hg⟩ := DataW.trod_struct he hx
  obtain ⟨o0, k0⟩ := hone_of hone 0 f0 rfl
  obtain ⟨o1, k1⟩ := hone_of hone 1 f1 rfl
  obtain ⟨o2, k2⟩ := hone_of hone 2 f2 rfl
  rw [hC] at hcl
  match cs, hcl with
  | [c0, c1, c2], _ =>
    match xs, hlen with
    | [y0, y1, y2], _ =>
      obtain ⟨a0, rfl, w0⟩ := one_of h0 (by simpa [o0, k0] using hg 0 f0 rfl)
      obtain ⟨a1, rfl, w1⟩ := one_of h1 (by simpa [o1, k1] using hg 1 f1 rfl)
      obtain ⟨a2, rfl, w2⟩ := one_of h2 (by simpa [o2, k2] using hg 2 f2 rfl)
      exact ⟨⟨a0, a1, a2⟩, rfl, w0, w1, w2⟩
/-- A slice of slices in a cell. -/
theorem nested_cell {α : Type} (f : α → List Value) (ok : α → Prop) {s : Nat} (hs : ∀ x, (f x).length = s) (hs0 : 0 < s) {t e e2 : TypeId} (ht : P.underlying t = some (.slice e)) (hC : P.cellsOf e = 1) (he : P.underlying e = some (.slice e2)) (hC2 : P.cellsOf e2 = s)
    (helem : ∀ fuel cs x, DataW.trod enc P w base spare held fuel e2 cs = some x → ∃ a, cs = f a ∧ ok a) {fuel : Nat} {cs : List Value} {x : DataW H × List MemPlace} (h : DataW.trod enc P w base spare held fuel t cs = some x) :
    ∃ (A : Option Addr) (n c : Nat) (vs : List Value) (ts : List (List α)), cs = [.slice A n c] ∧ Arg w A n vs ∧ Ins s f w vs ts ∧ (∀ t ∈ ts, (∀ x ∈ t, ok x) ∧ t.length ≤ maxLen) ∧ n ≤ maxLen := by
  rcases open_slice ht h with ⟨rfl, _⟩ | ⟨a, len, cap, m, n', D, Pl, rfl, _, _, _, _, _, _⟩
  · exact ⟨none, 0, 0, [], [], rfl, Arg.of_nil _ _, ⟨rfl, by intro j v t h1; simp at h1⟩, by simp, by simp [maxLen]⟩
  · obtain ⟨vs, ts, h1, h2, h3, h4⟩ := arg_nested f ok hs hs0 ht hC he hC2 helem (A := some a) (n := len) (c := cap) (d := x.1) (ps := x.2) ⟨fuel, h⟩
    exact ⟨some a, len, cap, vs, ts, rfl, h1, h2, h3, h4⟩
theorem oneTag {t e1 e1b e2 : TypeId} {f0 f1 f2 : Field} {v : Value} {d : DataW H} {ps : List MemPlace} (ht : P.underlying t = some (.struct #[f0, f1, f2])) (hC : P.cellsOf t = 3) (hone : oneCellFields P #[f0, f1, f2] = true) (h0 : P.underlying f0.type = some (.int .i64)) (h1 : P.underlying f1.type = some (.slice e1)) (hC1 : P.cellsOf e1 = 1) (g1 : P.underlying e1 = some (.slice e1b)) (hC1b : P.cellsOf e1b = 1) (el1 : ∀ fuel cs x, DataW.trod enc P w base spare held fuel e1b cs = some x → ∃ a : Int, cs = oneI a ∧ Wf64 a) (h2 : P.underlying f2.type = some (.slice e2)) (hC2 : P.cellsOf e2 = 1) (el2 : ∀ fuel cs x, DataW.trod enc P w base spare held fuel e2 cs = some x → ∃ a : Int, cs = oneI a ∧ Wf64 a) {r : Reach} {b0 : Nat} (hw : Value.okWide P w r b0 t v) (h : DataW.Trod enc P w base spare held t v d ps) :
    ∃ (a0 : Int) (A1 : Option Addr) (n1 c1 : Nat) (v1 : List Value) (x1 : List (List Int)) (A2 : Option Addr) (n2 c2 : Nat) (x2 : List Int), v = .agg #[.int .i64 a0, .slice A1 n1 c1, .slice A2 n2 c2] ∧ Wf64 a0 ∧ Arg w A1 n1 v1 ∧ Ins 1 oneI w v1 x1 ∧ n1 ≤ maxLen ∧ (∀ t ∈ x1, (∀ x ∈ t, Wf64 x) ∧ t.length ≤ maxLen) ∧ Arg w A2 n2 (x2.map (Value.int .i64)) ∧ n2 ≤ maxLen ∧ Wf64s x2 := by
  obtain ⟨cs, rfl, hsz⟩ := okWide_struct ht hw
  obtain ⟨fuel, hx⟩ := h
  obtain ⟨xs, n', _, hx', hcl, hlen, hg⟩ := DataW.trod_struct ht hx
  obtain ⟨o0, k0⟩ := hone_of hone 0 f0 rfl
  obtain ⟨o1, k1⟩ := hone_of hone 1 f1 rfl
  obtain ⟨o2, k2⟩ := hone_of hone 2 f2 rfl
  rw [hC] at hsz
  obtain ⟨l⟩ := cs
  match l, hsz with
  | [c0, c1, c2], _ =>
    match xs, hlen with
    | [y0, y1, y2], _ =>
      obtain ⟨a0, rfl, w0⟩ := one_of h0 (by simpa [o0, k0, Value.cells] using hg 0 f0 rfl)
      obtain ⟨A1, n1, q1, v1, x1, hb1, g11, g21, w1, l1⟩ := nested_cell oneI Wf64 (s := 1) (fun _ => rfl) (by omega) h1 hC1 g1 hC1b el1 (by simpa [o1, k1, Value.cells] using hg 1 f1 rfl)
      obtain rfl : c1 = .slice A1 n1 q1 := by simpa using hb1
      obtain ⟨A2, q2, x2, hb2, g12, w2, l2⟩ := slice_cell (s := 1) oneI Wf64 (fun _ => rfl) (by omega) h2 hC2 el2 (by simpa [o2, k2, Value.cells] using hg 2 f2 rfl)
      obtain rfl : c2 = .slice A2 x2.length q2 := by simpa using hb2
      exact ⟨a0, A1, n1, q1, v1, x1, A2, x2.length, q2, x2, rfl, w0, g11, g21, l1, w1, (by rw [← rows_oneI]; exact arg_args g12), l2, w2⟩
theorem oneMachine {t e2 : TypeId} {f0 f1 f2 : Field} {v : Value} {d : DataW H} {ps : List MemPlace} (ht : P.underlying t = some (.struct #[f0, f1, f2])) (hC : P.cellsOf t = 3) (hone : oneCellFields P #[f0, f1, f2] = true) (h0 : P.underlying f0.type = some (.int .i64)) (h1 : P.underlying f1.type = some (.int .i64)) (h2 : P.underlying f2.type = some (.slice e2)) (hC2 : P.cellsOf e2 = 3) (el2 : ∀ fuel cs x, DataW.trod enc P w base spare held fuel e2 cs = some x → ∃ a : R3, cs = R3.vs a ∧ R3.wf a) {r : Reach} {b0 : Nat} (hw : Value.okWide P w r b0 t v) (h : DataW.Trod enc P w base spare held t v d ps) :
    ∃ (a0 : Int) (a1 : Int) (A2 : Option Addr) (n2 c2 : Nat) (x2 : List R3), v = .agg #[.int .i64 a0, .int .i64 a1, .slice A2 n2 c2] ∧ Wf64 a0 ∧ Wf64 a1 ∧ Args 3 w A2 n2 (rows R3.vs x2) ∧ n2 ≤ maxLen ∧ (∀ x ∈ x2, x.wf) := by
  obtain ⟨cs, rfl, hsz⟩ := okWide_struct ht hw
  obtain ⟨fuel, hx⟩ := h
  obtain ⟨xs, n', _, hx', hcl, hlen, hg⟩ := DataW.trod_struct ht hx
  obtain ⟨o0, k0⟩ := hone_of hone 0 f0 rfl
  obtain ⟨o1, k1⟩ := hone_of hone 1 f1 rfl
  obtain ⟨o2, k2⟩ := hone_of hone 2 f2 rfl
  rw [hC] at hsz
  obtain ⟨l⟩ := cs
  match l, hsz with
  | [c0, c1, c2], _ =>
    match xs, hlen with
    | [y0, y1, y2], _ =>
      obtain ⟨a0, rfl, w0⟩ := one_of h0 (by simpa [o0, k0, Value.cells] using hg 0 f0 rfl)
      obtain ⟨a1, rfl, w1⟩ := one_of h1 (by simpa [o1, k1, Value.cells] using hg 1 f1 rfl)
      obtain ⟨A2, q2, x2, hb2, g12, w2, l2⟩ := slice_cell (s := 3) R3.vs R3.wf R3.vs_len (by omega) h2 hC2 el2 (by simpa [o2, k2, Value.cells] using hg 2 f2 rfl)
      obtain rfl : c2 = .slice A2 x2.length q2 := by simpa using hb2
      exact ⟨a0, a1, A2, x2.length, q2, x2, rfl, w0, w1, g12, l2, w2⟩
theorem oneConfig {t e1 e2 : TypeId} {f0 f1 f2 : Field} {v : Value} {d : DataW H} {ps : List MemPlace} (ht : P.underlying t = some (.struct #[f0, f1, f2])) (hC : P.cellsOf t = 3) (hone : oneCellFields P #[f0, f1, f2] = true) (h0 : P.underlying f0.type = some (.int .i64)) (h1 : P.underlying f1.type = some (.slice e1)) (hC1 : P.cellsOf e1 = 1) (el1 : ∀ fuel cs x, DataW.trod enc P w base spare held fuel e1 cs = some x → ∃ a : Int, cs = oneI a ∧ Wf64 a) (h2 : P.underlying f2.type = some (.slice e2)) (hC2 : P.cellsOf e2 = 1) (el2 : ∀ fuel cs x, DataW.trod enc P w base spare held fuel e2 cs = some x → ∃ a : Int, cs = oneI a ∧ Wf64 a) {r : Reach} {b0 : Nat} (hw : Value.okWide P w r b0 t v) (h : DataW.Trod enc P w base spare held t v d ps) :
    ∃ (a0 : Int) (A1 : Option Addr) (n1 c1 : Nat) (x1 : List Int) (A2 : Option Addr) (n2 c2 : Nat) (x2 : List Int), v = .agg #[.int .i64 a0, .slice A1 n1 c1, .slice A2 n2 c2] ∧ Wf64 a0 ∧ Arg w A1 n1 (x1.map (Value.int .i64)) ∧ n1 ≤ maxLen ∧ Wf64s x1 ∧ Arg w A2 n2 (x2.map (Value.int .i64)) ∧ n2 ≤ maxLen ∧ Wf64s x2 := by
  obtain ⟨cs, rfl, hsz⟩ := okWide_struct ht hw
  obtain ⟨fuel, hx⟩ := h
  obtain ⟨xs, n', _, hx', hcl, hlen, hg⟩ := DataW.trod_struct ht hx
  obtain ⟨o0, k0⟩ := hone_of hone 0 f0 rfl
  obtain ⟨o1, k1⟩ := hone_of hone 1 f1 rfl
  obtain ⟨o2, k2⟩ := hone_of hone 2 f2 rfl
  rw [hC] at hsz
  obtain ⟨l⟩ := cs
  match l, hsz with
  | [c0, c1, c2], _ =>
    match xs, hlen with
    | [y0, y1, y2], _ =>
      obtain ⟨a0, rfl, w0⟩ := one_of h0 (by simpa [o0, k0, Value.cells] using hg 0 f0 rfl)
      obtain ⟨A1, q1, x1, hb1, g11, w1, l1⟩ := slice_cell (s := 1) oneI Wf64 (fun _ => rfl) (by omega) h1 hC1 el1 (by simpa [o1, k1, Value.cells] using hg 1 f1 rfl)
      obtain rfl : c1 = .slice A1 x1.length q1 := by simpa using hb1
      obtain ⟨A2, q2, x2, hb2, g12, w2, l2⟩ := slice_cell (s := 1) oneI Wf64 (fun _ => rfl) (by omega) h2 hC2 el2 (by simpa [o2, k2, Value.cells] using hg 2 f2 rfl)
      obtain rfl : c2 = .slice A2 x2.length q2 := by simpa using hb2
      exact ⟨a0, A1, x1.length, q1, x1, A2, x2.length, q2, x2, rfl, w0, (by rw [← rows_oneI]; exact arg_args g11), l1, w1, (by rw [← rows_oneI]; exact arg_args g12), l2, w2⟩
end
end Go.Proofs.Ytdnkkmmkkfbhhaa

/- The law FnExactStepCost returns true for every input, and each argument reads afterwards as before. No conditions. -/
namespace Go.Proofs.Ytdnkkmmkkfbhhaa.lawStepCost
open Go.ChangeShapes Go.WideShapes Go.ChangeAt Go.RowKit Go.Deep

set_option maxRecDepth 100000 in
theorem lifted (os : Os) (started : os.Started) (H : Type) (enc : TypeId × Value → H) :
    ReturnsInHanded {} Try.checked os 3 .any (Rows.fnExactStepCostSpec.pre6 enc Try.prog Try.f3 Rows.fnExactStepCostRow.domain false) (Rows.fnExactStepCostSpec.post enc Try.prog Try.f3 false true false false) := by
  refine returnsInHanded_of_change (C := Try.checked) own started (by kernel_rfl) Try.func3
    (ChangeSpec.witness6 (enc := enc) (C := Try.checked) false ⟨#[], #[.agg #[.int .i64 0, .int .i64 0, .slice none 0 0], .agg #[.int .i64 0, .slice none 0 0, .slice none 0 0]], []⟩ 8 (by kernel_rfl) (by kernel_rfl) (by kernel_rfl) (by kernel_rfl)) ?_
  intro W base args ds gs before hval0 hW hcnd _
  have hval : ∀ (j : Nat) t v, Try.f3.params[j]? = some t → args[j]? = some v → Value.okWide Try.prog W .any base t v := hval0
  have hW' := hW
  obtain ⟨p, q, hA0, hV, rfl, hfz, hnd⟩ := hW
  have hA : DataW.TrodAll enc Try.prog W 0 (fun _ => true) true Try.f3.params.toList args.toList ds p := hA0
  rw [Try.params3] at hA hval
  obtain ⟨v0, vs0, d0, ds0, p0, q0, hargs, rfl, rfl, h0, r0⟩ := trodAll_cons hA
  obtain ⟨v1, vs1, d1, ds1, p1, q1, rfl, rfl, rfl, h1, r1⟩ := trodAll_cons r0
  obtain ⟨rfl, rfl, rfl⟩ := trodAll_nil r1
  obtain rfl : args = #[v0, v1] := by cases args; simp_all
  obtain ⟨rfl, rfl⟩ := trodVars_none hV
  have k0 := h0
  have lt0 : ∀ x ∈ p0, x.block < W.heap.size := by obtain ⟨m, hm⟩ := k0; exact DataW.trod_lt m _ _ _ hm
  obtain ⟨f0_0, f0_1, A0_2, n0_2, c0_2, z0_2, hv0, u0_0, u0_1, g0_2, m0_2, u0_2⟩ := oneMachine Try.underlying24 (by kernel_rfl) (by kernel_rfl) Try.underlying2 Try.underlying2 Try.underlying22 (by kernel_rfl) (elem_rec3 (by kernel_rfl) Try.underlying67 (by kernel_rfl) Try.underlying2 Try.underlying2 Try.underlying2) (hval 0 24 v0 rfl rfl) h0
  subst hv0
  have k1 := h1
  have lt1 : ∀ x ∈ p1, x.block < W.heap.size := by obtain ⟨m, hm⟩ := k1; exact DataW.trod_lt m _ _ _ hm
  obtain ⟨f1_0, A1_1, n1_1, c1_1, z1_1, A1_2, n1_2, c1_2, z1_2, hv1, u1_0, g1_1, m1_1, u1_1, g1_2, m1_2, u1_2⟩ := oneConfig Try.underlying27 (by kernel_rfl) (by kernel_rfl) Try.underlying2 Try.underlying25 (by kernel_rfl) (elem_int Try.underlying2) Try.underlying25 (by kernel_rfl) (elem_int Try.underlying2) (hval 1 27 v1 rfl rfl) h1
  subst hv1
  clear hA0 hval0
  refine (walkStepCost f0_0 f0_1 A0_2 n0_2 c0_2 z0_2 f1_0 A1_1 n1_1 c1_1 z1_1 A1_2 n1_2 c1_2 z1_2 W u0_0 u0_1 g0_2 m0_2 u0_2 u1_0 g1_1 m1_1 u1_1 g1_2 m1_2 u1_2).mono fun e W' ⟨he, bel⟩ => ?_
  subst he
  exact ⟨_, rfl, _, _, _, [], _, [], hW', trodAll_mk1 (shut_bool Try.underlying4 _), (trodAll_cons_mk (Below.trod laidOut (by kernel_rfl) (of_decide_eq_true (by kernel_rfl)) k0 bel lt0) (trodAll_cons_mk (Below.trod laidOut (by kernel_rfl) (of_decide_eq_true (by kernel_rfl)) k1 bel lt1) trodAll_mk0)), rfl, bel.frame _, fun h => by cases h⟩

theorem factA : Try.pinned.checked.prog.funcNamed Rows.fnExactStepCostRow.func = some 3 := by kernel_rfl
theorem factB0 : (Rows.fnExactStepCostRow.wf (OpenSpec.ofChange Rows.fnExactStepCostSpec)) = true := by kernel_rfl
theorem factB3 : (Try.f3.params.all (Try.pinned.checked.prog.readableRec ·)) = true := by kernel_rfl
theorem factB4 : (namedTie Try.pinned.checked.prog Rows.fnExactStepCostRow.named Rows.fnExactStepCostSpec.vars) = true := by kernel_rfl
theorem factB5 : (Rows.fnExactStepCostRow.stops == []) = true := by kernel_rfl
theorem factB7 : (Rows.fnExactStepCostRow.knobs == []) = true := by kernel_rfl
theorem factB9 : (Rows.fnExactStepCostRow.inPlace == Try.pinned.checked.prog.inPlace 3) = true := by kernel_rfl
theorem factB10 : (Rows.fnExactStepCostRow.unfollowed == Try.pinned.checked.prog.unfollowed 3) = true := by kernel_rfl
theorem factB11 : (Rows.fnExactStepCostRow.recurses == Try.pinned.checked.prog.recurses 3) = true := by kernel_rfl
theorem factB12 : (Rows.fnExactStepCostRow.named == Try.pinned.checked.prog.varsNamed 3) = true := by kernel_rfl
theorem factB13 : (Rows.fnExactStepCostRow.maps == (Try.f3.params.toList ++ Rows.fnExactStepCostSpec.plain.varTypes Try.pinned.checked.prog).any (Try.pinned.checked.prog.mapsRec ·)) = true := by kernel_rfl
theorem factB14 : (Rows.fnExactStepCostRow.ifaces == (Try.f3.params.toList ++ Rows.fnExactStepCostSpec.plain.varTypes Try.pinned.checked.prog).any (Try.pinned.checked.prog.ifacesRec ·)) = true := by kernel_rfl
theorem factB15 : (Rows.fnExactStepCostRow.mapsOut == Try.pinned.checked.prog.mapsAmong Try.f3.resultTypes.toList) = true := by kernel_rfl
theorem factB16 : (Rows.fnExactStepCostRow.loops == (Try.f3.params.toList ++ Rows.fnExactStepCostSpec.plain.varTypes Try.pinned.checked.prog).any (Try.pinned.checked.prog.loopsFrom ·)) = true := by kernel_rfl
theorem factB17 : (Rows.fnExactStepCostRow.wideKeys == (Try.f3.params.toList ++ Rows.fnExactStepCostSpec.plain.varTypes Try.pinned.checked.prog ++ Try.f3.resultTypes.toList).any (Try.pinned.checked.prog.wideKeysFrom ·)) = true := by kernel_rfl
theorem factB18 : (Rows.fnExactStepCostSpec.vars.all (Try.pinned.checked.prog.varReadable ·)) = true := by kernel_rfl
theorem factB19 : (Try.f3.resultTypes.all (fun t => Try.pinned.checked.prog.readableRec t && decide (t < Try.pinned.checked.prog.types.size))) = true := by kernel_rfl
theorem factB20 : (Rows.fnExactStepCostRow.ifacesOut == Try.f3.resultTypes.toList.any (Try.pinned.checked.prog.ifacesRec ·)) = true := by kernel_rfl
theorem factB21 : (Rows.fnExactStepCostRow.loopsOut == Try.f3.resultTypes.toList.any (Try.pinned.checked.prog.loopsFrom ·)) = true := by kernel_rfl
theorem factB23 : (Rows.fnExactStepCostRow.shortTexts.isNone) = true := by kernel_rfl
theorem factB28 : (Rows.fnExactStepCostRow.kinds == (if Rows.fnExactStepCostRow.domain.isEmpty then [] else Try.f3.params.toList.map fun t => match Try.pinned.checked.prog.underlying t with | some (.int k) => some k | _ => none)) = true := by kernel_rfl
theorem factB29 : (Rows.fnExactStepCostRow.pinned == Rows.fnExactStepCostRow.pinnedBy) = true := by kernel_rfl
theorem factB30 : (Rows.fnExactStepCostRow.veiled == (Try.f3.params.toList ++ Rows.fnExactStepCostSpec.plain.varTypes Try.pinned.checked.prog ++ Try.f3.resultTypes.toList).any (Try.pinned.checked.prog.veiledRec ·)) = true := by kernel_rfl
theorem factB31 : (Rows.fnExactStepCostRow.veiledFits Try.pinned.checked.prog Try.f3.params.toList (Try.f3.params.toList ++ Rows.fnExactStepCostSpec.plain.varTypes Try.pinned.checked.prog ++ Try.f3.resultTypes.toList)) = true := by kernel_rfl
set_option maxRecDepth 100000 in
theorem factB : joinedFacts Try.pinned.checked.prog 3 Try.f3 Rows.fnExactStepCostSpec Rows.fnExactStepCostRow = true := by
  unfold joinedFacts
  exact (pf.band (pf.band (pf.band (pf.band (pf.band (pf.band (pf.band (pf.band (pf.band (pf.band (pf.band (pf.band (pf.band (pf.band (pf.band (pf.band (pf.band (pf.band (pf.band (pf.band (pf.band (pf.band (pf.band (pf.band (pf.band (pf.band (pf.band (pf.band (pf.band (pf.band (pf.band factB0 pf.laid) pf.mapsRow) factB3) factB4) factB5) pf.stops) factB7) pf.stopKnobs) factB9) factB10) factB11) factB12) factB13) factB14) factB15) factB16) factB17) factB18) factB19) factB20) factB21) (by show (Rows.fnExactStepCostRow.plainKeys == Try.pinned.checked.prog.plainKeys) = true; rw [pf.plainKeys]; kernel_rfl)) factB23) pf.heard) pf.enter) (by show (Rows.fnExactStepCostRow.lifted == Try.pinned.checked.prog.liftsFinal) = true; rw [pf.lifts]; kernel_rfl)) (by show (Try.pinned.checked.prog.make == some Rows.fnExactStepCostRow.make) = true; rw [pf.make]; kernel_rfl)) factB28) factB29) factB30) factB31)
theorem factC : decide (Func.isInstance Try.pinned.checked.prog Try.f3 Rows.fnExactStepCostRow.origin Rows.fnExactStepCostRow.targs) = true := by kernel_rfl
theorem factD : Func.isWrapper Try.pinned.checked.prog Try.f3 Rows.fnExactStepCostRow.wrapper Rows.fnExactStepCostRow.mainSum := by
  unfold Func.isWrapper; first | (rw [if_pos (by decide +kernel)]; kernel_rfl) | (rw [if_neg (by decide +kernel)]; exact ⟨rfl, rfl⟩)

theorem over : Rows.fnExactStepCostRow.holds Try.pinned (OpenSpec.ofChange Rows.fnExactStepCostSpec) :=
  OpenClaim.holds_of_wide 3 Try.f3 rfl rfl rfl rfl rfl rfl rfl ⟨rfl, rfl, rfl, rfl, rfl⟩ rfl rfl rfl rfl rfl factA Try.func3 factB (of_decide_eq_true factC) factD
    (fun os started H enc _ => lifted os started H enc)

/-- The statement. -/
theorem proved : Rows.FnExactStepCostSaid := over
#print axioms proved
end Go.Proofs.Ytdnkkmmkkfbhhaa.lawStepCost
