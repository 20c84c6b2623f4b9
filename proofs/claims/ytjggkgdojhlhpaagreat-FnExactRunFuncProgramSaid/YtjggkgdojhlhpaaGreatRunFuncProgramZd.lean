/- The law FnExactRunFuncProgram returns true for every input, and each argument reads afterwards as before: the proof, part 4. No conditions. -/
import Derived.Test.YtjggkgdojhlhpaaGreatRunFuncProgramZc
import Derived.Test.YtjggkgdojhlhpaaGreatBitsLay
import Derived.Deep.RegionLaw
import Derived.Orders
import Derived.ArgAppend
/- Loop programs: which are valid. Contracts of isVariable, isLoop, validLoops, ValidLoop and of the reference's l17Var, l17IsLoop, l17Part, l17Is, ValidLoop. -/
namespace Go.Proofs.YtjggkgdojhlhpaaGreat
open Go.RowKit
set_option linter.all false

def isLp (x : R3) : Bool := decide (x.a = 3) || decide (x.a = 4)
/-- A loop program is valid, d more bodies may lie one in another. -/
def vl (d : Nat) : List R3 → Bool
  | [] => true
  | x :: l => inB x.b 0 15 && (if isLp x then decide (0 < d) && inB x.c 0 l.length && vl (d - 1) (l.take x.c.toNat) && vl d (l.drop x.c.toNat)
      else if x.a = 2 then inB x.c 0 15 && vl d l else (decide (x.a = 0) || decide (x.a = 1)) && decide (x.c = 0) && vl d l)
  termination_by l => l.length
  decreasing_by all_goals simp_wf; try omega
theorem vl_nil (d : Nat) : vl d [] = true := by rw [vl]
theorem vl_cons (d : Nat) (x : R3) (l : List R3) : vl d (x :: l) = (inB x.b 0 15 && (if isLp x then decide (0 < d) && inB x.c 0 l.length && vl (d - 1) (l.take x.c.toNat) && vl d (l.drop x.c.toNat)
      else if x.a = 2 then inB x.c 0 15 && vl d l else (decide (x.a = 0) || decide (x.a = 1)) && decide (x.c = 0) && vl d l)) := by rw [vl]
def validL (xs : List R3) : Bool := decide (xs.length ≤ 150) && vl 7 xs

theorem isVariable_is (n : Int) (v : Bool) (h : inB n 0 15 = v) (w : World) : Calls Tryz.prog 84 #[.int .i64 n] w fun e w' => e = .returned (.bool v) ∧ w = w' := by
  go_enter Tryz.func84, Tryz.ntmps84
  go_wp2_with (go_at_call 43; refine (within_is _ _ _ v h _).mono ?_; rintro e w' ⟨rfl, rfl⟩)
  go_ret
  exact ⟨rfl, rfl⟩
theorem l17Var_is (n : Int) (v : Bool) (h : inB n 0 15 = v) (w : World) : Calls Tryz.prog 99 #[.int .i64 n] w fun e w' => e = .returned (.bool v) ∧ w = w' := by
  go_enter Tryz.func99, Tryz.ntmps99
  go_wp2_with (go_at_call 36; refine (l00In_is _ _ _ v h _).mono ?_; rintro e w' ⟨rfl, rfl⟩)
  go_ret
  exact ⟨rfl, rfl⟩

theorem isLoop_is (x : R3) (v : Bool) (h : isLp x = v) (w : World) : Calls Tryz.prog 85 #[.agg #[.int .i64 x.a, .int .i64 x.b, .int .i64 x.c]] w fun e w' => e = .returned (.bool v) ∧ Below w.heap.size w w' := by
  subst h
  obtain ⟨a, b, c⟩ := x
  have h0 : Below w.heap.size w (w.alloc (.cells #[.int .i64 a, .int .i64 b, .int .i64 c] 86)) := (Below.refl _ _).alloc (Nat.le_refl _) _
  by_cases h3 : a = 3
  · subst h3
    go_enter Tryz.func85, Tryz.ntmps85
    go_wp2
    go_ret
    exact ⟨rfl, h0⟩
  · by_cases h4 : a = 4
    · subst h4
      go_enter Tryz.func85, Tryz.ntmps85
      go_wp2
      go_ret
      exact ⟨rfl, h0⟩
    · have e3 : (a == 3) = false := by simpa using h3
      have e4 : (a == 4) = false := by simpa using h4
      go_enter Tryz.func85, Tryz.ntmps85
      go_wp2
      go_ret
      exact ⟨ret_bool (by simp [isLp, h3, h4]), h0⟩

theorem l17IsLoop_is (x : R3) (v : Bool) (h : isLp x = v) (g o : Nat) (w : World) (hc : w.cell? ⟨g, o, none⟩ = some (.int .i64 x.a)) : Calls Tryz.prog 100 #[.pointer (some ⟨g, o, none⟩)] w fun e w' => e = .returned (.bool v) ∧ w = w' := by
  subst h
  obtain ⟨a, b, c⟩ := x
  by_cases h3 : a = 3
  · subst h3
    go_enter Tryz.func100, Tryz.ntmps100
    go_wp2
    go_ret
    exact ⟨rfl, rfl⟩
  · by_cases h4 : a = 4
    · subst h4
      go_enter Tryz.func100, Tryz.ntmps100
      go_wp2
      go_ret
      exact ⟨rfl, rfl⟩
    · have e3 : (a == 3) = false := by simpa using h3
      have e4 : (a == 4) = false := by simpa using h4
      go_enter Tryz.func100, Tryz.ntmps100
      go_wp2
      go_ret
      exact ⟨ret_bool (by simp [isLp, h3, h4]), rfl⟩

theorem vl_no1 {d : Nat} {x : R3} {l : List R3} (h : inB x.b 0 15 = false) : vl d (x :: l) = false := by rw [vl_cons, h]; rfl
theorem vl_lp {d : Nat} {x : R3} {l : List R3} (h : inB x.b 0 15 = true) (h2 : isLp x = true) : vl d (x :: l) = (decide (0 < d) && inB x.c 0 l.length && vl (d - 1) (l.take x.c.toNat) && vl d (l.drop x.c.toNat)) := by
  rw [vl_cons, h, h2]; simp
theorem vl_cp {d : Nat} {x : R3} {l : List R3} (h : inB x.b 0 15 = true) (h2 : isLp x = false) (h3 : x.a = 2) : vl d (x :: l) = (inB x.c 0 15 && vl d l) := by
  rw [vl_cons, h, h2]; simp [h3]
theorem vl_el {d : Nat} {x : R3} {l : List R3} (h : inB x.b 0 15 = true) (h2 : isLp x = false) (h3 : x.a ≠ 2) : vl d (x :: l) = ((decide (x.a = 0) || decide (x.a = 1)) && decide (x.c = 0) && vl d l) := by
  rw [vl_cons, h, h2]; simp [h3]

set_option maxRecDepth 100000 in
set_option maxHeartbeats 1000000 in
theorem validLoops_any (d : Nat) : ∀ (A : Option Addr) (n c : Nat) (t : Int) (xs : List R3) (w : World) (ha : Args 3 w A n (rows R3.vs xs)) (hn : n ≤ 1048576) (hc : n ≤ c) (ht : t + d = 7) (ht0 : 0 ≤ t),
    Calls Tryz.prog 62 #[.slice A n c, .int .i64 t] w fun e w' => e = .returned (.bool (vl d xs)) ∧ Below w.heap.size w w' := by
  induction d using Nat.strongRecOn with
  | ind d ih =>
  intro A n c t xs w ha hn hc ht ht0
  have HT := Lib.hid ht; clear ht
  have IH := Lib.hid ih; clear ih
  have HL : Hid (xs.length = n) := by have := ha.1; rw [rows_len R3.vs_len] at this; unfold Hid; omega
  go_enter Tryz.func62, Tryz.ntmps62
  go_wp2
  go_loopw [5] (fun i wr => ∃ k : Nat, k ≤ n ∧ i = .int .i64 k ∧ Below w.heap.size w wr ∧ Hid (vl d xs = vl d (xs.drop k))) (fun i _ => n - (intOf i).toNat)
  case atStart => exact ⟨0, Nat.zero_le _, rfl, Below.refl _ _, rfl⟩
  case round =>
    obtain ⟨k, hk, rfl, hB, HV⟩ := hrel
    by_cases hlt : k < n
    · obtain ⟨b, off, rfl, hs⟩ := ha.sl hlt
      obtain ⟨x, HX⟩ := hget HL hlt
      have HV1 := Lib.hid (HV.out.trans (congrArg (vl d) (drop_at HX.out)))
      obtain ⟨p0, p1, p2⟩ := (hs.below' hB).rec3 HX.out
      have HR : Hid ((xs.drop (k + 1)).length = n - k - 1) := by have := HL.out; unfold Hid; rw [List.length_drop]; omega
      rcases Bool.eq_false_or_eq_true (inB x.b 0 15) with hv | hv
      · have HA := Lib.hid hv; clear hv
        go_wp2_with fail
        refine (isVariable_is _ true HA.out _).mono ?_
        rintro e w1 ⟨rfl, hw⟩
        obtain ⟨c0, c1, c2, hb1⟩ := alloc3 hw
        have hB1 := below_step hB hb1
        clear hw p0 p1 p2 hb1
        rcases Bool.eq_false_or_eq_true (isLp x) with hv | hv
        · have HI := Lib.hid hv; clear hv
          go_wp2_with fail
          refine (isLoop_is x true HI.out _).mono ?_
          rintro e w2 ⟨rfl, hb2⟩
          have d0 := cell_step c0 hb2
          have d2 := cell_step c2 hb2
          have hB2 := below_step hB1 hb2
          clear c0 c1 c2 hb2
          have HV2 := Lib.hid (HV1.out.trans (vl_lp HA.out HI.out)); 
          by_cases hd0 : d = 0
          · have ht7 : 7 ≤ t := by have := HT.out; omega
            subst hd0
            go_wp2
            go_ret
            exact ⟨ret_bool (by rw [HV2.out]; simp), hB2⟩
          · have ht7 : t < 7 := by have := HT.out; omega
            rcases Bool.eq_false_or_eq_true (inB x.c 0 ((n : Int) - k - 1)) with hv | hv
            · have HC := Lib.hid hv
              obtain ⟨xa, xb, xc⟩ := x
              obtain ⟨hc1, hc2⟩ := (inB_iff _ _ _).1 hv
              clear hv
              obtain ⟨m, hm⟩ : ∃ m : Nat, xc = m := ⟨xc.toNat, by simp at hc1; omega⟩
              subst hm
              simp only at hc1 hc2 d2 d0
              have hkm : k + 1 + m ≤ n := by omega
              go_wp2_with fail
              refine (within_is _ _ _ true HC.out _).mono ?_
              rintro e w3 ⟨rfl, rfl⟩
              obtain ⟨o', ho', hsl⟩ := run_slice_part (P := Tryz.prog) 59 86 Tryz.underlying59 infoLoop b off n c (k + 1) m ((k : Int) + 1) ((k : Int) + 1 + m) (by omega) (by omega) (by omega)
              have HS := Lib.hid (args_part R3.vs_len (hs.below' hB2) (k + 1) m ho' (by have := HL.out; omega))
              clear ho'
              have HD : Hid (t + 1 + ((d - 1 : Nat) : Int) = 7) := by have := HT.out; unfold Hid; omega
              have HV3 : Hid (vl d xs = (vl (d - 1) ((xs.drop (k + 1)).take m) && vl d (xs.drop (k + 1 + m)))) := by
                unfold Hid
                have h5 := HC.out
                rw [HV2.out, HR.out]
                rw [show ((n - k - 1 : Nat) : Int) = (n : Int) - k - 1 by omega, h5, decide_eq_true (show 0 < d by omega), Bool.true_and, Bool.true_and, Int.toNat_natCast, List.drop_drop]
              rcases Bool.eq_false_or_eq_true (vl (d - 1) ((xs.drop (k + 1)).take m)) with hv | hv
              · have HW := Lib.hid hv; clear hv
                go_wp2_with fail
                · refine (IH.out (d - 1) (by omega) _ m _ (t + 1) ((xs.drop (k + 1)).take m) _ HS.out (by omega) (by omega) HD.out (by omega)).mono ?_
                  rintro e w3 ⟨he, hb3⟩
                  clear hsl
                  rw [HW.out] at he
                  subst he
                  have e2 := cell_step d2 hb3
                  have hB3 := below_step hB2 hb3
                  clear hb3
                  go_wp2
                  go_roundw
                  case rel => exact ⟨k + 1 + m, by omega, by go_num, hB3, by unfold Hid; rw [HV3.out, HW.out, Bool.true_and]⟩
                  case measure => simp [intOf]; omega
              · have HW := Lib.hid hv; clear hv
                go_wp2_with fail
                · refine (IH.out (d - 1) (by omega) _ m _ (t + 1) ((xs.drop (k + 1)).take m) _ HS.out (by omega) (by omega) HD.out (by omega)).mono ?_
                  rintro e w3 ⟨he, hb3⟩
                  clear hsl
                  rw [HW.out] at he
                  subst he
                  have hB3 := below_step hB2 hb3
                  clear hb3
                  go_wp2
                  go_ret
                  exact ⟨ret_bool (by rw [HV3.out, HW.out, Bool.false_and]), hB3⟩
            · have HC := Lib.hid hv; clear hv
              go_wp2_with fail
              refine (within_is _ _ _ false HC.out _).mono ?_
              rintro e w3 ⟨rfl, rfl⟩
              go_wp2
              go_ret
              refine ⟨ret_bool ?_, hB2⟩
              rw [HV2.out, HR.out]
              have := HC.out
              rw [show ((n - k - 1 : Nat) : Int) = (n : Int) - k - 1 by omega, this]
              simp
        · have HI := Lib.hid hv; clear hv
          go_wp2_with fail
          refine (isLoop_is x false HI.out _).mono ?_
          rintro e w2 ⟨rfl, hb2⟩
          have d0 := cell_step c0 hb2
          have d2 := cell_step c2 hb2
          have hB2 := below_step hB1 hb2
          clear c0 c1 c2 hb2
          by_cases h2 : x.a = 2
          · have HV2 := Lib.hid (HV1.out.trans (vl_cp HA.out HI.out h2))
            rw [h2] at d0
            clear h2
            rcases Bool.eq_false_or_eq_true (inB x.c 0 15) with hv | hv
            · have HC := Lib.hid hv; clear hv
              go_wp2_with fail
              refine (isVariable_is _ true HC.out _).mono ?_
              rintro e w3 ⟨rfl, rfl⟩
              go_wp2
              go_roundw
              case rel => exact ⟨k + 1, by omega, by go_num, hB2, by unfold Hid; rw [HV2.out, HC.out, Bool.true_and]⟩
              case measure => simp [intOf]; omega
            · have HC := Lib.hid hv; clear hv
              go_wp2_with fail
              refine (isVariable_is _ false HC.out _).mono ?_
              rintro e w3 ⟨rfl, rfl⟩
              go_wp2
              go_ret
              exact ⟨ret_bool (by rw [HV2.out, HC.out, Bool.false_and]), hB2⟩
          · have HV2 := Lib.hid (HV1.out.trans (vl_el HA.out HI.out h2))
            have e2 : (x.a == 2) = false := by simpa using h2
            by_cases hc0 : x.c = 0
            · have ec : (x.c != 0) = false := by simpa using hc0
              have HC := Lib.hid hc0; clear hc0
              by_cases ha0 : x.a = 0
              · rw [ha0] at d0
                clear e2 h2
                have HA0 := Lib.hid ha0; clear ha0
                go_wp2
                go_roundw
                case rel => exact ⟨k + 1, by omega, by go_num, hB2, by unfold Hid; rw [HV2.out, HC.out, HA0.out]; simp⟩
                case measure => simp [intOf]; omega
              · by_cases ha1 : x.a = 1
                · rw [ha1] at d0
                  clear e2 h2 ha0
                  have HA0 := Lib.hid ha1; clear ha1
                  go_wp2
                  go_roundw
                  case rel => exact ⟨k + 1, by omega, by go_num, hB2, by unfold Hid; rw [HV2.out, HC.out, HA0.out]; simp⟩
                  case measure => simp [intOf]; omega
                · have e0 : (x.a != 0) = true := by simpa using ha0
                  have e1 : (x.a != 1) = true := by simpa using ha1
                  have HF : Hid ((decide (x.a = 0) || decide (x.a = 1)) = false) := by unfold Hid; simp [ha0, ha1]
                  clear ha0 ha1 h2
                  go_wp2
                  go_ret
                  exact ⟨ret_bool (by rw [HV2.out, HF.out]; simp), hB2⟩
            · have ec : (x.c != 0) = true := by simpa using hc0
              have HC : Hid (decide (x.c = 0) = false) := by unfold Hid; simp [hc0]
              clear hc0
              by_cases ha0 : x.a = 0
              · have e0 : (x.a != 0) = false := by simpa using ha0
                clear h2 ha0
                go_wp2
                go_ret
                exact ⟨ret_bool (by rw [HV2.out, HC.out]; simp), hB2⟩
              · have e0 : (x.a != 0) = true := by simpa using ha0
                by_cases ha1 : x.a = 1
                · have e1 : (x.a != 1) = false := by simpa using ha1
                  clear h2 ha0 ha1
                  go_wp2
                  go_ret
                  exact ⟨ret_bool (by rw [HV2.out, HC.out]; simp), hB2⟩
                · have e1 : (x.a != 1) = true := by simpa using ha1
                  clear h2 ha0 ha1
                  go_wp2
                  go_ret
                  exact ⟨ret_bool (by rw [HV2.out, HC.out]; simp), hB2⟩
      · have HA := Lib.hid hv; clear hv
        go_wp2_with fail
        refine (isVariable_is _ false HA.out _).mono ?_
        rintro e w1 ⟨rfl, hw⟩
        obtain ⟨c0, c1, c2, hb1⟩ := alloc3 hw
        have hB1 := below_step hB hb1
        clear hw p0 p1 p2 hb1
        go_wp2
        go_ret
        exact ⟨ret_bool (by rw [HV1.out, vl_no1 HA.out]), hB1⟩
    · go_wp2
      go_ret
      exact ⟨ret_bool (by rw [HV.out, List.drop_of_length_le (by have := HL.out; omega), vl_nil]), hB⟩

/-- The part from i up to t. -/
def seg {α : Type} (xs : List α) (i t : Nat) : List α := (xs.drop i).take (t - i)
theorem seg_at {α : Type} {xs : List α} {i t : Nat} {x : α} (h : xs[i]? = some x) (hit : i < t) : seg xs i t = x :: seg xs (i + 1) t := by
  unfold seg
  rw [drop_at h, show t - i = (t - (i + 1)) + 1 by omega, List.take_succ_cons]
theorem seg_len {α : Type} {xs : List α} {i t : Nat} (h : t ≤ xs.length) : (seg xs i t).length = t - i := by
  unfold seg; rw [List.length_take, List.length_drop]; omega
theorem seg_end {α : Type} {xs : List α} {i t : Nat} (h : t ≤ i) : seg xs i t = [] := by
  unfold seg; rw [show t - i = 0 by omega, List.take_zero]
theorem seg_all {α : Type} (xs : List α) : seg xs 0 xs.length = xs := by simp [seg]
theorem seg_take {α : Type} (xs : List α) (i t m : Nat) (h : i + m ≤ t) : (seg xs i t).take m = seg xs i (i + m) := by
  unfold seg; rw [List.take_take, show i + m - i = m by omega, Nat.min_eq_left (by omega)]
theorem seg_drop {α : Type} (xs : List α) (i t m : Nat) : (seg xs i t).drop m = seg xs (i + m) t := by
  unfold seg; rw [List.drop_take, List.drop_drop, show t - i - m = t - (i + m) by omega]
theorem vl_bad {d : Nat} {x : R3} {l : List R3} (h : inB x.a 0 4 = false) : vl d (x :: l) = false := by
  rw [inB_false] at h
  rw [vl_cons]
  have h1 : isLp x = false := by unfold isLp; simp; omega
  rw [h1]
  simp [show ¬ x.a = 2 by omega, show ¬ x.a = 0 by omega, show ¬ x.a = 1 by omega]

set_option maxRecDepth 100000 in
set_option maxHeartbeats 1000000 in
theorem l17Part_any (d : Nat) : ∀ (A : Option Addr) (n c fr to : Nat) (t : Int) (xs : List R3) (w : World) (ha : Args 3 w A n (rows R3.vs xs)) (hn : n ≤ 1048576) (hft : fr ≤ to) (hto : to ≤ n) (ht : t + d = 7) (ht0 : 0 ≤ t),
    Calls Tryz.prog 93 #[.slice A n c, .int .i64 fr, .int .i64 to, .int .i64 t] w fun e w' => e = .returned (.bool (vl d (seg xs fr to))) ∧ Below w.heap.size w w' := by
  induction d using Nat.strongRecOn with
  | ind d ih =>
  intro A n c fr to t xs w ha hn hft hto ht ht0
  have HT := Lib.hid ht; clear ht
  have IH := Lib.hid ih; clear ih
  have HL : Hid (xs.length = n) := by have := ha.1; rw [rows_len R3.vs_len] at this; unfold Hid; omega
  go_enter Tryz.func93, Tryz.ntmps93
  go_wp2
  go_loopw [9] (fun i wr => ∃ k : Nat, fr ≤ k ∧ k ≤ to ∧ i = .int .i64 k ∧ Below w.heap.size w wr ∧ Hid (vl d (seg xs fr to) = vl d (seg xs k to))) (fun i _ => to - (intOf i).toNat)
  case atStart => exact ⟨fr, Nat.le_refl _, hft, rfl, Below.refl _ _, rfl⟩
  case round =>
    obtain ⟨k, hfk, hk, rfl, hB, HV⟩ := hrel
    by_cases hlt : k < to
    · obtain ⟨b, off, rfl, hs⟩ := ha.sl (k := k) (by omega)
      obtain ⟨x, HX⟩ := hget (k := k) HL (by omega)
      have HV1 := Lib.hid (HV.out.trans (congrArg (vl d) (seg_at HX.out hlt)))
      obtain ⟨p0, p1, p2⟩ := (hs.below' hB).rec3 HX.out
      have HR : Hid ((seg xs (k + 1) to).length = to - k - 1) := by have := HL.out; unfold Hid; rw [seg_len (by omega)]; omega
      have hkn : k < n := by omega
      rcases Bool.eq_false_or_eq_true (inB x.a 0 4) with hv | hv
      rotate_left
      · have HK := Lib.hid hv; clear hv
        go_wp2_with fail
        refine (l00In_is _ _ _ false HK.out _).mono ?_
        rintro e w1 ⟨rfl, hw⟩
        obtain ⟨c0, c1, c2, hb1⟩ := alloc3 hw
        have hB1 := below_step hB hb1
        clear hw p0 p1 p2 hb1
        go_wp2
        go_ret
        exact ⟨ret_bool (by rw [HV1.out, vl_bad HK.out]), hB1⟩
      have HK := Lib.hid hv; clear hv
      rcases Bool.eq_false_or_eq_true (inB x.b 0 15) with hv | hv
      rotate_left
      · have HA := Lib.hid hv; clear hv
        go_wp2_with fail
        refine (l00In_is _ _ _ true HK.out _).mono ?_
        rintro e w1 ⟨rfl, hw⟩
        obtain ⟨c0, c1, c2, hb1⟩ := alloc3 hw
        have hB1 := below_step hB hb1
        clear hw p0 p1 p2 hb1
        go_wp2_with fail
        refine (l17Var_is _ false HA.out _).mono ?_
        rintro e w2 ⟨rfl, rfl⟩
        go_wp2
        go_ret
        exact ⟨ret_bool (by rw [HV1.out, vl_no1 HA.out]), hB1⟩
      have HA := Lib.hid hv; clear hv
      go_wp2_with fail
      refine (l00In_is _ _ _ true HK.out _).mono ?_
      rintro e w1 ⟨rfl, hw⟩
      obtain ⟨c0, c1, c2, hb1⟩ := alloc3 hw
      have hB1 := below_step hB hb1
      clear hw p0 p1 p2 hb1
      go_wp2_with fail
      refine (l17Var_is _ true HA.out _).mono ?_
      rintro e w2 ⟨rfl, rfl⟩
      by_cases h2 : x.a = 2
      · have HI : Hid (isLp x = false) := by unfold Hid isLp; simp [h2]
        have HV2 := Lib.hid (HV1.out.trans (vl_cp HA.out HI.out h2))
        rw [h2] at c0
        have H2 := Lib.hid h2; clear h2
        rcases Bool.eq_false_or_eq_true (inB x.c 0 15) with hv | hv
        · have HC := Lib.hid hv; clear hv
          go_wp2_with fail
          refine (l17Var_is _ true HC.out _).mono ?_
          rintro e w3 ⟨rfl, rfl⟩
          go_wp2_with fail
          refine (l17IsLoop_is x false HI.out _ _ _ (by rw [H2.out]; exact c0)).mono ?_
          rintro e w3 ⟨rfl, rfl⟩
          go_wp2
          go_roundw
          case rel => exact ⟨k + 1, by omega, by omega, by go_num, hB1, by unfold Hid; rw [HV2.out, HC.out, Bool.true_and]⟩
          case measure => simp [intOf]; omega
        · have HC := Lib.hid hv; clear hv
          go_wp2_with fail
          refine (l17Var_is _ false HC.out _).mono ?_
          rintro e w3 ⟨rfl, rfl⟩
          go_wp2
          go_ret
          exact ⟨ret_bool (by rw [HV2.out, HC.out, Bool.false_and]), hB1⟩
      · rcases Bool.eq_false_or_eq_true (isLp x) with hv | hv
        · have HI := Lib.hid hv
          have HV2 := Lib.hid (HV1.out.trans (vl_lp HA.out HI.out))
          have h34 : 3 ≤ x.a := by unfold isLp at hv; simp at hv; omega
          have e2 : (x.a == 2) = false := by simpa using h2
          have e3 : ¬ x.a < 2 := by omega
          clear hv h2
          by_cases hd0 : d = 0
          · have ht7 : 7 ≤ t := by have := HT.out; omega
            have HD := Lib.hid hd0; clear hd0
            go_wp2_with fail
            refine (l17IsLoop_is x true HI.out _ _ _ c0).mono ?_
            rintro e w3 ⟨rfl, rfl⟩
            go_wp2
            go_ret
            exact ⟨ret_bool (by rw [HV2.out, HD.out]; simp), hB1⟩
          · have ht7 : t < 7 := by have := HT.out; omega
            rcases Bool.eq_false_or_eq_true (inB x.c 0 ((to : Int) - k - 1)) with hv | hv
            · have HC := Lib.hid hv
              obtain ⟨hc1, hc2⟩ := (inB_iff _ _ _).1 hv
              clear hv
              obtain ⟨m, hm⟩ : ∃ m : Nat, x.c = m := ⟨x.c.toNat, by omega⟩
              rw [hm] at c2 hc1 hc2
              have HM := Lib.hid hm; clear hm
              have hkm : k + 1 + m ≤ to := by omega
              go_wp2_with fail
              refine (l17IsLoop_is x true HI.out _ _ _ c0).mono ?_
              rintro e w3 ⟨rfl, rfl⟩
              go_wp2_with fail
              refine (l00In_is _ _ _ true (by rw [← HM.out]; exact HC.out) _).mono ?_
              rintro e w3 ⟨rfl, rfl⟩
              have HS := Lib.hid (ha.below hB1)
              have HD : Hid (t + 1 + ((d - 1 : Nat) : Int) = 7) := by have := HT.out; unfold Hid; omega
              have HV3 : Hid (vl d (seg xs fr to) = (vl (d - 1) (seg xs (k + 1) (k + 1 + m)) && vl d (seg xs (k + 1 + m) to))) := by
                unfold Hid
                have h5 := HC.out
                rw [HV2.out, HR.out]
                rw [show ((to - k - 1 : Nat) : Int) = (to : Int) - k - 1 by omega, h5, decide_eq_true (show 0 < d by omega), Bool.true_and, Bool.true_and, HM.out, Int.toNat_natCast, seg_drop, seg_take _ _ _ _ hkm]
              rcases Bool.eq_false_or_eq_true (vl (d - 1) (seg xs (k + 1) (k + 1 + m))) with hv | hv
              · have HW := Lib.hid hv; clear hv
                go_wp2_with fail
                refine (IH.out (d - 1) (by omega) _ n _ (k + 1) (k + 1 + m) (t + 1) xs _ HS.out (by omega) (by omega) (by omega) HD.out (by omega)).mono ?_
                rintro e w3 ⟨he, hb3⟩
                rw [HW.out] at he
                subst he
                have e2 := cell_step c2 hb3
                have hB3 := below_step hB1 hb3
                clear hb3
                go_wp2
                go_roundw
                case rel => exact ⟨k + 1 + m, by omega, by omega, by go_num, hB3, by unfold Hid; rw [HV3.out, HW.out, Bool.true_and]⟩
                case measure => simp [intOf]; omega
              · have HW := Lib.hid hv; clear hv
                go_wp2_with fail
                refine (IH.out (d - 1) (by omega) _ n _ (k + 1) (k + 1 + m) (t + 1) xs _ HS.out (by omega) (by omega) (by omega) HD.out (by omega)).mono ?_
                rintro e w3 ⟨he, hb3⟩
                rw [HW.out] at he
                subst he
                have hB3 := below_step hB1 hb3
                clear hb3
                go_wp2
                go_ret
                exact ⟨ret_bool (by rw [HV3.out, HW.out, Bool.false_and]), hB3⟩
            · have HC := Lib.hid hv; clear hv
              go_wp2_with fail
              refine (l17IsLoop_is x true HI.out _ _ _ c0).mono ?_
              rintro e w3 ⟨rfl, rfl⟩
              go_wp2_with fail
              refine (l00In_is _ _ _ false HC.out _).mono ?_
              rintro e w3 ⟨rfl, rfl⟩
              go_wp2
              go_ret
              refine ⟨ret_bool ?_, hB1⟩
              rw [HV2.out, HR.out]
              have := HC.out
              rw [show ((to - k - 1 : Nat) : Int) = (to : Int) - k - 1 by omega, this]
              simp
        · have HI := Lib.hid hv
          have HV2 := Lib.hid (HV1.out.trans (vl_el HA.out HI.out h2))
          have h01 : x.a = 0 ∨ x.a = 1 := by
            have := (inB_iff _ _ _).1 HK.out
            unfold isLp at hv; simp at hv; omega
          have e2 : (x.a == 2) = false := by simpa using h2
          have e3 : x.a < 2 := by omega
          have H01 : Hid ((decide (x.a = 0) || decide (x.a = 1)) = true) := by unfold Hid; simpa using h01
          clear hv h2 h01
          by_cases hc0 : x.c = 0
          · have ec : (x.c != 0) = false := by simpa using hc0
            have HC := Lib.hid hc0; clear hc0
            go_wp2_with fail
            refine (l17IsLoop_is x false HI.out _ _ _ c0).mono ?_
            rintro e w3 ⟨rfl, rfl⟩
            go_wp2
            go_roundw
            case rel => exact ⟨k + 1, by omega, by omega, by go_num, hB1, by unfold Hid; rw [HV2.out, HC.out, H01.out]; simp⟩
            case measure => simp [intOf]; omega
          · have ec : (x.c != 0) = true := by simpa using hc0
            have HC : Hid (decide (x.c = 0) = false) := by unfold Hid; simp [hc0]
            clear hc0
            go_wp2
            go_ret
            exact ⟨ret_bool (by rw [HV2.out, HC.out]; simp), hB1⟩
    · go_wp2
      go_ret
      exact ⟨ret_bool (by rw [HV.out, seg_end (by omega), vl_nil]), hB⟩

theorem implValidLoop_is (b off n c : Nat) (xs : List R3) (v : Bool) (hv : validL xs = v) (w : World) (hs : Args 3 w (some ⟨b, off, none⟩) n (rows R3.vs xs)) (hn : n ≤ 1048576) (hc : n ≤ c) :
    Calls Tryz.prog 47 #[.slice (some ⟨b, off, none⟩) n c] w fun e w' => e = .returned (.bool v) ∧ Below w.heap.size w w' := by
  have HL : Hid (xs.length = n) := by have := hs.1; rw [rows_len R3.vs_len] at this; unfold Hid; omega
  subst hv
  by_cases h : n ≤ 150
  · have HV : Hid (validL xs = vl 7 xs) := by unfold Hid validL; rw [HL.out]; simp [h]
    go_enter Tryz.func47, Tryz.ntmps47
    go_wp2_with fail
    refine (validLoops_any 7 _ n c 0 xs _ hs hn hc (by omega) (by omega)).mono ?_
    rintro e w1 ⟨rfl, hb⟩
    go_wp2
    go_ret
    exact ⟨ret_bool HV.out.symm, hb⟩
  · have HV : Hid (validL xs = false) := by unfold Hid validL; rw [HL.out]; simp [h]
    go_enter Tryz.func47, Tryz.ntmps47
    go_wp2
    go_ret
    exact ⟨ret_bool HV.out.symm, Below.refl _ _⟩

theorem l17Is_is (b off n c : Nat) (xs : List R3) (v : Bool) (hv : validL xs = v) (w : World) (hs : Args 3 w (some ⟨b, off, none⟩) n (rows R3.vs xs)) (hn : n ≤ 1048576) :
    Calls Tryz.prog 74 #[.slice (some ⟨b, off, none⟩) n c] w fun e w' => e = .returned (.bool v) ∧ Below w.heap.size w w' := by
  have HL : Hid (xs.length = n) := by have := hs.1; rw [rows_len R3.vs_len] at this; unfold Hid; omega
  subst hv
  by_cases h : n ≤ 150
  · have HV : Hid (validL xs = vl 7 (seg xs 0 n)) := by unfold Hid validL; rw [← HL.out, seg_all, HL.out]; simp [h]
    go_enter Tryz.func74, Tryz.ntmps74
    go_wp2_with fail
    refine (l17Part_any 7 _ n c 0 n 0 xs _ hs hn (by omega) (by omega) (by omega) (by omega)).mono ?_
    rintro e w1 ⟨rfl, hb⟩
    go_wp2
    go_ret
    exact ⟨ret_bool HV.out.symm, hb⟩
  · have HV : Hid (validL xs = false) := by unfold Hid validL; rw [HL.out]; simp [h]
    go_enter Tryz.func74, Tryz.ntmps74
    go_wp2
    go_ret
    exact ⟨ret_bool HV.out.symm, Below.refl _ _⟩

theorem implValidLoop_any (b off n c : Nat) (xs : List R3) (w : World) (hs : Sl w b off (rows R3.vs xs)) (hl : xs.length = n) (hn : n ≤ 1048576) (hc : n ≤ c) (hf : ∀ x ∈ xs, x.wf) :
    Calls Tryz.prog 47 #[.slice (some ⟨b, off, none⟩) n c] w fun e w' => e = .returned (.bool (validL xs)) ∧ Below w.heap.size w w' :=
  implValidLoop_is b off n c xs _ rfl w (Args.of_sl hs (by rw [rows_len R3.vs_len, hl])) hn hc

end Go.Proofs.YtjggkgdojhlhpaaGreat

/- The loop program of a recursive function: the plain law that both sides answer. -/
namespace Go.Proofs.YtjggkgdojhlhpaaGreat
set_option linter.all false

theorem lpF_pos : ∀ (N : Nat) (p : List R3) (a : Int) (xs : List Int) (o u : Int), fRun [a] p = some [] → p.length ≤ N → 0 < (lpF N p xs o u).length
  | 0, p, a, xs, o, u, h, hp => by
    obtain rfl : p = [] := List.eq_nil_of_length_eq_zero (by omega)
    rw [fRun_none] at h; cases h
  | N + 1, [], a, xs, o, u, h, hp => by rw [fRun_none] at h; cases h
  | N + 1, x :: l, a, xs, o, u, h, hp => by
    obtain ⟨hok, _, hrun⟩ := parts_of h
    have hc := (fOkN_iff x).1 hok
    have h6 : x.a = 0 ∨ x.a = 1 ∨ x.a = 2 ∨ x.a = 3 ∨ x.a = 4 ∨ x.a = 5 := by omega
    rcases h6 with h0 | h0 | h0 | h0 | h0 | h0
    · rw [lp0 h0]; simp
    · rw [lp1 h0]; simp
    · rw [lp2 h0]; simp
    · obtain ⟨k, hk⟩ : ∃ k : Nat, x.c = (k : Int) := ⟨x.c.toNat, by omega⟩
      rw [lp3 h0 hk, List.length_append]
      obtain ⟨q, g1, g2, g3, g4⟩ := part_at (i := 0) (a := x.c) hok hrun (by rw [fFols_3 h0]; rfl)
      rw [g2]
      have := lpF_pos N q x.c (vars o k) o (o + k) g3 (by simp at hp; omega)
      have := lpF_pos N q x.c (vars u k) o (u + k) g3 (by simp at hp; omega)
      omega
    · rw [lp4 h0 rfl rfl]; simp; omega
    · rw [lp5 h0 rfl]; simp

/-- The first node's arity. -/
def ar0 (f : List R3) : Nat := (f.headD ⟨0, 0, 0⟩).b.toNat
def lpOf (f : List R3) : List R3 := lpF f.length f (vars 0 (ar0 f)) (ar0 f) ((ar0 f : Int) + 1)
def loopF (f : List R3) : List R3 × Int := if validF f = true then (if validL (lpOf f) = true then (lpOf f, 0) else ([], 5)) else ([], 1)
theorem loopF_1 {f : List R3} (h : validF f = false) : loopF f = ([], 1) := by unfold loopF; rw [h]; rfl
theorem loopF_5 {f : List R3} (h : validF f = true) (k : validL (lpOf f) = false) : loopF f = ([], 5) := by unfold loopF; rw [h, k]; rfl
theorem loopF_0 {f : List R3} (h : validF f = true) (k : validL (lpOf f) = true) : loopF f = (lpOf f, 0) := by unfold loopF; rw [h, k]; rfl
/-- What a valid function shows of itself. -/
theorem validF_head {f : List R3} (h : validF f = true) : ∃ x l, f = x :: l ∧ f.length ≤ 60 ∧ x.b = (ar0 f : Int) ∧ ar0 f ≤ 4 ∧ fRun [(ar0 f : Int)] f = some [] ∧ f.all fOkN = true ∧ fit fMany 1 f = true := by
  obtain ⟨h1, h2, h3, h4⟩ := (validF_iff f).1 h
  unfold validF at h
  rw [Bool.and_eq_true, inB_iff, decide_eq_true_eq] at h
  obtain ⟨⟨h5, h6⟩, h7⟩ := h
  cases f with
  | nil => simp at h5
  | cons x l =>
    obtain ⟨hok, _, hrun⟩ := parts_of h7
    have hc := (fOkN_iff x).1 hok
    have hb : x.b = ((ar0 (x :: l) : Nat) : Int) := by unfold ar0; simp only [List.headD_cons]; omega
    refine ⟨x, l, rfl, h1, hb, by omega, ?_, h3, h2⟩
    rw [fRun_cons ⟨.inr hb, hok⟩, List.append_nil]
    exact hrun
theorem lpOf_len {f : List R3} (h : validF f = true) : (lpOf f).length ≤ 480 ∧ 0 < (lpOf f).length := by
  obtain ⟨x, l, _, h1, h2, h3, h4, h5, h6⟩ := validF_head h
  have := lpF_len f.length f (vars 0 (ar0 f)) (ar0 f) ((ar0 f : Int) + 1)
  exact ⟨by unfold lpOf; omega, lpF_pos _ _ _ _ _ _ h4 (Nat.le_refl _)⟩
theorem bndLoopOfFunc0 (f : List R3) (_h : f.length ≤ 1048576) : (loopF f).1.length ≤ 1048576 := by
  by_cases h : validF f = true
  · have := (lpOf_len h).1
    cases k : validL (lpOf f) with
    | true => rw [loopF_0 h k]; simp only; omega
    | false => rw [loopF_5 h k]; simp
  · rw [loopF_1 (by simpa using h)]; simp
end Go.Proofs.YtjggkgdojhlhpaaGreat

/- Loop programs of recursive functions, the reference's side: all kinds, LoopOfFunc. -/
namespace Go.Proofs.YtjggkgdojhlhpaaGreat
open Go.RowKit
set_option linter.all false

theorem l17Func_any (b off n c : Nat) (T : List R3) (hT : FAll T n) : ∀ N : Nat, LpIH b off n c T N := by
  intro N
  induction N with
  | zero =>
    intro k m kk A na ca xs out v w hkk hm hkm hs hsr hca hna hr
    obtain rfl : m = 0 := by omega
    rw [part3, List.take_zero, fRun_none] at hr; cases hr
  | succ N ih =>
    intro k m kk A na ca xs out v w hkk hm hkm hs hsr hca hna hr hv0 hv
    subst hkk
    cases m with
    | zero => rw [part3, List.take_zero, fRun_none] at hr; cases hr
    | succ m =>
      have hlt : k < T.length := by rw [hT.len]; omega
      obtain ⟨x, hx⟩ : ∃ x, T[k]? = some x := ⟨_, List.getElem?_eq_getElem hlt⟩
      rw [part3_cons hx] at hr ⊢
      obtain ⟨hok, hb, hrun⟩ := parts_of hr
      have hb' : x.b = (xs.length : Int) := by omega
      have hc := (fOkN_iff x).1 hok
      have h6 : (x.a = 0 ∨ x.a = 1 ∨ x.a = 2) ∨ x.a = 3 ∨ x.a = 4 ∨ x.a = 5 := by omega
      rcases h6 with h0 | h0 | h0 | h0
      · exact l17Simple_any b off n c T hT N k m x hx A na ca xs out v w hs hsr.arg hb' hok h0 _
      · exact l17Comp_any b off n c T hT N k m ih (by omega) hkm x hx A na ca xs out v w hs hsr hca hna hb' hok _ rfl hrun hv0 (by omega) h0
      · exact l17Rep_any b off n c T hT N k m ih (by omega) hkm x hx A na ca xs out v w hs hsr hca hna hb' hok _ rfl hrun hv0 (by omega) h0
      · exact l17Min_any b off n c T hT N k m ih (by omega) hkm x hx A na ca xs out v w hs hsr hca hna hb' hok _ rfl hrun hv0 (by omega) h0

set_option maxRecDepth 100000 in
set_option maxHeartbeats 1000000 in
theorem l05First_any (n : Nat) (hn : n ≤ 10) (w : World) :
    Calls Tryz.prog 73 #[.int .i64 n] w fun e w' => ∃ v, e = .returned v ∧ w'.ownsRow w.heap.size 2 1 v n ((vars 0 n).map (Value.int .i64)) ∧ Below w.heap.size w w' := by
  go_enter Tryz.func73, Tryz.ntmps73
  go_wp2_with fail
  go_loopw [3, 4] (fun v i wr => ∃ k : Nat, k ≤ n ∧ i = .int .i64 k ∧ wr.ownsRow w.heap.size 2 1 v k ((vars 0 k).map (.int .i64)) ∧ Below w.heap.size w wr) (fun _ i _ => n - (intOf i).toNat)
  case atStart => exact ⟨0, Nat.zero_le _, rfl, World.ownsRow_made _ #[] 0 (by simp) (by simp [maxLen]) rfl, (Below.refl _ _).alloc (Nat.le_refl _) _⟩
  case round =>
    obtain ⟨k, hk, rfl, hown, hB⟩ := hrel
    by_cases hlt : k < n
    · have HVS : Hid ((vars 0 k).map (Value.int .i64) ++ [.int .i64 (k : Int)] = (vars 0 (k + 1)).map (Value.int .i64)) := by unfold Hid; rw [vars_succ, List.map_append]; simp
      go_wp2_with (at_builtin; refine wpList_app rfl _ _ _ rfl Tryz.underlying23 infoInt64S rfl (by omega) w wr hown hB rfl 1 #[.int .i64 (k : Int)] rfl (laid_below _ _) (heap_alloc_new _ _) rfl (by simp [Value.oneCell']) (by omega) (by unfold maxLen; omega) (by omega) ?_; intro g cap w1 hown1 hB1)
      go_roundw
      case rel => exact ⟨k + 1, by omega, by go_num, by rw [← HVS.out]; exact hown1, hB1⟩
      case measure => simp [intOf]; omega
    · obtain rfl : k = n := by omega
      go_wp2
      go_ret
      exact ⟨_, rfl, hown, hB⟩

set_option maxRecDepth 100000 in
set_option maxHeartbeats 1000000 in
theorem l17OfFunc_any (b off n c : Nat) (f : List R3) (hf : validF f = true) (vb : Bool) (hvb : validL (lpOf f) = vb) (w : World) (hs : Sl w b off (rows R3.vs f)) (hl : f.length = n) :
    Calls Tryz.prog 54 #[.slice (some ⟨b, off, none⟩) n c] w fun e w' => ∃ v, e = .returned (.tuple #[v, .bool vb]) ∧ w'.ownsRow w.heap.size 86 3 v (lpOf f).length (rows R3.vs (lpOf f)) ∧ Below w.heap.size w w' := by
  obtain ⟨x, l, hfx, h60, hb, h4, hr, hok, hfit⟩ := validF_head hf
  obtain ⟨hp1, hp2⟩ := lpOf_len hf
  have hx : f[0]? = some x := by rw [hfx]; rfl
  have hT : FAll f n := ⟨hl, by omega, hok, hfit⟩
  have hn1 : (0 : Int) < (n : Int) := by have := (List.getElem?_eq_some_iff.1 hx).1; omega
  obtain ⟨ar, har⟩ : ∃ ar, ar = ar0 f := ⟨_, rfl⟩
  have HLP : Hid (lpF n f (vars 0 ar) ar ((ar : Int) + 1) = lpOf f) := by unfold Hid lpOf; rw [har, hl]
  rw [← har] at hb h4 hr
  have HIH : Hid (∀ W A1 c1, Below w.heap.size w W → Src 1 W (.slice A1 ar c1) ar ((vars 0 ar).map (Value.int .i64)) → ar ≤ c1 → Calls Tryz.prog 72 #[.slice (some ⟨b, off, none⟩) n c, .int .i64 0, .slice A1 ar c1, .int .i64 (ar : Int), .int .i64 ((ar : Int) + 1)] W (LpOk W (lpOf f))) := by
    intro W A1 c1 hW hA hc
    have := l17Func_any b off n c f hT n 0 n 0 A1 ar c1 (vars 0 ar) ar ((ar : Int) + 1) W rfl (Nat.le_refl _) (by omega) (hs.below' hW) hA hc (by omega) (by rw [vars_len, part3, List.drop_zero, List.take_of_length_le (by omega)]; exact hr) (by omega) (by omega)
    rw [part3, List.drop_zero, List.take_of_length_le (by omega), HLP.out] at this
    exact this
  obtain ⟨p0, p1, p2⟩ := hs.rec3 hx
  rw [Nat.zero_mul, Nat.add_zero] at p0 p1 p2
  rw [hb] at p1
  obtain ⟨L, hL⟩ : ∃ L, L = lpOf f := ⟨_, rfl⟩
  rw [← hL] at HIH hp1 hp2 hvb ⊢
  obtain ⟨a0, ha0⟩ : ∃ a0, a0 = L.length := ⟨_, rfl⟩
  rw [← ha0] at hp1 hp2
  have HA0 := Lib.hid ha0
  have HVB := Lib.hid hvb
  clear hfx hb hr hok hfit hx hT HLP hL ha0 har hvb p0 p2 hl hf h60
  go_enter Tryz.func54, Tryz.ntmps54
  go_wp2_with fail
  refine (l05First_any ar (by omega) _).mono ?_
  rintro e w1 ⟨v1, rfl, own1, b1⟩
  obtain ⟨A1, c1, rfl⟩ := own_form own1
  go_wp2_with fail
  refine (HIH.out _ A1 c1 b1 (Src.of_own own1) (own_capL own1 _ _ rfl)).mono ?_
  rintro e w2 ⟨⟨v2, rfl, own2⟩, b2⟩
  have B2 := below_step b1 b2
  rw [← HA0.out] at own2
  obtain ⟨A2, c2, rfl⟩ := own_form own2
  obtain ⟨g2, rfl, _, _⟩ := own_addr0 own2 hp2
  have hA2 : Args 3 w2 (some ⟨g2, 0, none⟩) a0 (rows R3.vs L) := args_of_own own2
  have b1' := b1.size
  clear own1 b1 p1
  go_wp2_with fail
  refine (l17Is_is g2 0 a0 c2 L vb HVB.out _ hA2 (by omega)).mono ?_
  rintro e w3 ⟨rfl, b3⟩
  have own3 := own_below' own2 b3
  go_wp2
  go_ret2
  rw [← HA0.out]
  exact ⟨_, rfl, own_base own3 b1', below_step B2 b3⟩

set_option maxRecDepth 100000 in
set_option maxHeartbeats 1000000 in
theorem specLoopOfFunc_any (b off n c : Nat) (xs : List R3) (w : World) (hs : Sl w b off (rows R3.vs xs)) (hl : xs.length = n) (hn : n ≤ 1048576) (hc : n ≤ c) (hf : ∀ x ∈ xs, x.wf) :
    Calls Tryz.prog 37 #[.slice (some ⟨b, off, none⟩) n c] w fun e w' => ∃ v, e = .returned (.tuple #[v, .int .i64 (loopF xs).2]) ∧
      w'.ownsRow w.heap.size 86 3 v (loopF xs).1.length (rows R3.vs (loopF xs).1) ∧ Below w.heap.size w w' := by
  have HL := Lib.hid hl
  have HA := Lib.hid (Args.of_sl (n := n) (s := 3) hs (by rw [rows_len R3.vs_len, hl]))
  clear hf
  rcases Bool.eq_false_or_eq_true (validF xs) with hv | hv
  rotate_left
  · have HM := Lib.hid (loopF_1 hv)
    have HV := Lib.hid hv
    clear hv hl
    go_enter Tryz.func37, Tryz.ntmps37
    go_wp2_with fail
    refine (l11Is_is _ n c xs false HV.out _ HA.out hn).mono ?_
    rintro e w1 ⟨rfl, b1⟩
    go_wp2
    go_ret2
    rw [HM.out]
    exact ⟨_, rfl, World.ownsRow_nil _ _ _ _, b1⟩
  rcases Bool.eq_false_or_eq_true (validL (lpOf xs)) with hk | hk
  rotate_left
  · have HM := Lib.hid (loopF_5 hv hk)
    have HV := Lib.hid hv; have HK := Lib.hid hk
    clear hv hl hk
    go_enter Tryz.func37, Tryz.ntmps37
    go_wp2_with fail
    refine (l11Is_is _ n c xs true HV.out _ HA.out hn).mono ?_
    rintro e w1 ⟨rfl, b1⟩
    go_wp2_with fail
    refine (l17OfFunc_any b off n c xs HV.out false HK.out _ (hs.below' b1) HL.out).mono ?_
    rintro e w2 ⟨v2, rfl, own2, b2⟩
    go_wp2
    go_ret2
    rw [HM.out]
    exact ⟨_, rfl, World.ownsRow_nil _ _ _ _, below_step b1 b2⟩
  · have HM := Lib.hid (loopF_0 hv hk)
    have HV := Lib.hid hv; have HK := Lib.hid hk
    clear hv hl hk
    go_enter Tryz.func37, Tryz.ntmps37
    go_wp2_with fail
    refine (l11Is_is _ n c xs true HV.out _ HA.out hn).mono ?_
    rintro e w1 ⟨rfl, b1⟩
    go_wp2_with fail
    refine (l17OfFunc_any b off n c xs HV.out true HK.out _ (hs.below' b1) HL.out).mono ?_
    rintro e w2 ⟨v2, rfl, own2, b2⟩
    go_wp2
    go_ret2
    rw [HM.out]
    exact ⟨_, rfl, own_base own2 b1.size, below_step b1 b2⟩
end Go.Proofs.YtjggkgdojhlhpaaGreat

/- slices.Grow of the nil slice and slices.Concat, elements impl.Loop. -/
namespace Go.Proofs.YtjggkgdojhlhpaaGreat
open Go.RowKit
set_option linter.all false

set_option maxRecDepth 100000 in
theorem growNilLoop_any (n : Nat) (w : World) (hn : n ≤ 8388608) :
    Calls Tryz.prog 96 #[.slice none 0 0, .int .i64 n] w fun e w' => ∃ v, e = .returned v ∧ w'.ownsRow w.heap.size 86 3 v 0 [] ∧ Below w.heap.size w w' ∧ (v = .slice none 0 0 → n = 0) := by
  obtain ⟨i0, hi, hz0, hz1, hz2⟩ := info_parts infoLoop
  rcases Nat.eq_zero_or_pos n with h0 | h0
  · subst h0
    clear hi hz0 hz1 hz2
    go_enter Tryz.func96, Tryz.ntmps96
    go_wp2_with fail
    go_ret
    exact ⟨_, rfl, World.ownsRow_nil _ _ _ _, Below.refl _ _, fun _ => by first | rfl | trivial⟩
  · have happ := Lib.run_append_nil_zeros (P := Tryz.prog) w 59 3 59 86 i0 (Value.agg #[.int .i64 0, .int .i64 0, .int .i64 0]) .i64 .i64 Tryz.underlying59 Tryz.underlying3 hi hz0 n h0 (by omega) (by omega) (by rw [hz2]; omega)
    have hge := grownCap_ge w n 0 86
    have hle := grownCap_le_maxLen w n 0 86 (by unfold maxLen; omega)
    generalize grownCap w n 0 86 = cap at *
    have HP := Lib.hid happ
    have hzs : ∀ k, (Builtin.zeroCells (Value.cells (Value.agg #[.int .i64 0, .int .i64 0, .int .i64 0])) n ++ Builtin.zeroCells (Value.cells (Value.agg #[.int .i64 0, .int .i64 0, .int .i64 0])) (cap - n)).size = k * 3 ↔ k = cap := by
      intro k; simp [size_zeroCells, Value.cells]; omega
    generalize (Builtin.zeroCells (Value.cells (Value.agg #[.int .i64 0, .int .i64 0, .int .i64 0])) n ++ Builtin.zeroCells (Value.cells (Value.agg #[.int .i64 0, .int .i64 0, .int .i64 0])) (cap - n)) = Z at *
    have HZ : Hid (Z.size = cap * 3) := (hzs cap).2 rfl
    clear happ hi hz0 hz1 hz2 hzs
    unfold maxLen at hle
    go_enter Tryz.func96, Tryz.ntmps96
    go_wp2_with (at_builtin; refine Lib.wpList_append_run _ rfl _ _ _ _ rfl _ _ rfl rfl _ _ HP.out ?_)
    go_ret
    refine ⟨_, rfl, World.ownsRow_made w.drew Z cap (Nat.le_refl _) (by unfold maxLen; omega) HZ.out, (laid_below w _).drew, fun e => by cases e⟩

/-- Slices in the cells of another one. -/
def SrcsLoop (w : World) (vs : List Value) (ns : List Nat) (xss : List (List Value)) : Prop :=
  vs.length = xss.length ∧ vs.length = ns.length ∧ ∀ (j : Nat) (v : Value) (n : Nat) (xs : List Value), vs[j]? = some v → ns[j]? = some n → xss[j]? = some xs → Src 3 w v n xs ∧ ∀ u ∈ xs, u.oneCell' = true
theorem SrcsLoop.below {w w' : World} {vs : List Value} {ns : List Nat} {xss : List (List Value)} (h : SrcsLoop w vs ns xss) (hb : Below w.heap.size w w') : SrcsLoop w' vs ns xss :=
  ⟨h.1, h.2.1, fun j v n xs h1 h2 h3 => ⟨(h.2.2 j v n xs h1 h2 h3).1.below hb, (h.2.2 j v n xs h1 h2 h3).2⟩⟩

theorem sum_take_leLoop (ns : List Nat) (k : Nat) : (ns.take k).sum ≤ ns.sum := by
  induction ns generalizing k with
  | nil => simp
  | cons n ns ih =>
    cases k with
    | zero => simp
    | succ k => simp; exact ih k
theorem sum_take_succLoop (ns : List Nat) (k n : Nat) (h : ns[k]? = some n) : (ns.take (k + 1)).sum = (ns.take k).sum + n := by
  rw [List.take_add_one, h]; simp

set_option maxRecDepth 100000 in
set_option maxHeartbeats 1000000 in
theorem concatLoop_any (g off c : Nat) (vs : List Value) (ns : List Nat) (xss : List (List Value)) (w : World) (hs : Sl w g off vs) (hv : SrcsLoop w vs ns xss) (hn : ns.sum ≤ 8388608) (hl : ns.length ≤ 1048576) :
    Calls Tryz.prog 82 #[.slice (some ⟨g, off, none⟩) ns.length c] w fun e w' => ∃ v, e = .returned v ∧ w'.ownsRow w.heap.size 86 3 v ns.sum xss.flatten ∧ Below w.heap.size w w' ∧ (v = .slice none 0 0 → ns.sum = 0) := by
  obtain ⟨m, hm⟩ : ∃ m, m = ns.length := ⟨_, rfl⟩
  rw [← hm] at hl ⊢
  have HM := Lib.hid hm
  clear hm
  go_enter Tryz.func82, Tryz.ntmps82
  go_wp2_with fail
  go_loop [3, 11] (fun sz i => ∃ k s : Nat, k ≤ m ∧ i = .int .i64 k ∧ sz = .int .i64 s ∧ s ≤ 8388608 ∧ Hid (s = (ns.take k).sum)) (fun _ i => m - (intOf i).toNat)
  case atStart => exact ⟨0, 0, Nat.zero_le _, rfl, rfl, by omega, by simp [Hid]⟩
  case round =>
    obtain ⟨k, s, hk, rfl, rfl, hs8, HS⟩ := hrel
    by_cases hlt : k < m
    · obtain ⟨v, hv1⟩ : ∃ v, vs[k]? = some v := ⟨_, List.getElem?_eq_getElem (by have := hv.2.1; have := HM.out; omega)⟩
      obtain ⟨n1, hn1⟩ : ∃ n1, ns[k]? = some n1 := ⟨_, List.getElem?_eq_getElem (by have := HM.out; omega)⟩
      obtain ⟨x1, hx1⟩ : ∃ x1, xss[k]? = some x1 := ⟨_, List.getElem?_eq_getElem (by have := hv.1; have := hv.2.1; have := HM.out; omega)⟩
      obtain ⟨hsrc, _⟩ := hv.2.2 k v n1 x1 hv1 hn1 hx1
      have hca := hs.at hv1
      obtain ⟨A, c1, rfl⟩ := hsrc.form
      have hsum : (ns.take k).sum + n1 ≤ 8388608 := by rw [← sum_take_succLoop ns k n1 hn1]; exact Nat.le_trans (sum_take_leLoop _ _) hn
      have hle : s + n1 ≤ 8388608 := by rw [HS.out]; exact hsum
      have HN := Lib.hid hn1
      clear hv1 hn1 hx1 hsum hsrc
      go_wp2_with fail
      go_round
      case rel => exact ⟨k + 1, s + n1, by omega, by go_num, by go_num, hle, by rw [HS.out, sum_take_succLoop ns k n1 HN.out]; rfl⟩
      case measure => simp [intOf]; omega
    · have hkm : k = m := by omega
      have HS2 : Hid (s = ns.sum) := by have := HS.out; rw [hkm, HM.out, List.take_length] at this; exact this
      clear hkm
      go_wp2_with fail
      refine (growNilLoop_any s w hs8).mono ?_
      rintro e w1 ⟨v1, rfl, hown1, hB1, hnil1⟩
      have HNIL := Lib.hid hnil1
      clear hnil1
      go_wp2_with fail
      go_loopw [6, 27] (fun v i wr => ∃ k : Nat, k ≤ m ∧ i = .int .i64 k ∧ wr.ownsRow w.heap.size 86 3 v (ns.take k).sum (xss.take k).flatten ∧ Below w.heap.size w wr ∧ Hid (v = .slice none 0 0 → s = 0)) (fun _ i _ => m - (intOf i).toNat)
      case atStart => exact ⟨0, Nat.zero_le _, rfl, by simpa using hown1, hB1, HNIL.out⟩
      case round =>
        obtain ⟨k, hk, rfl, hown, hB, HV⟩ := hrel
        by_cases hlt : k < m
        · obtain ⟨v, hv1⟩ : ∃ v, vs[k]? = some v := ⟨_, List.getElem?_eq_getElem (by have := hv.2.1; have := HM.out; omega)⟩
          obtain ⟨n1, hn1⟩ : ∃ n1, ns[k]? = some n1 := ⟨_, List.getElem?_eq_getElem (by have := HM.out; omega)⟩
          obtain ⟨x1, hx1⟩ : ∃ x1, xss[k]? = some x1 := ⟨_, List.getElem?_eq_getElem (by have := hv.1; have := hv.2.1; have := HM.out; omega)⟩
          obtain ⟨hsrc, hone⟩ := (hv.below hB).2.2 k v n1 x1 hv1 hn1 hx1
          have hca := (hs.below' hB).at hv1
          have hsum : (ns.take k).sum + n1 ≤ 8388608 := by rw [← sum_take_succLoop ns k n1 hn1]; exact Nat.le_trans (sum_take_leLoop _ _) hn
          have HN := Lib.hid hn1; have HX := Lib.hid hx1
          clear hv1 hn1 hx1
          go_wp2_with (at_builtin; refine wpList_appx rfl _ _ _ rfl Tryz.underlying59 infoLoop rfl (by omega) w.heap.size hown hB.size rfl hsrc rfl hone (by unfold maxLen; omega) (by omega) ?_; intro v2 w2 hown2 hg2 hnil2; have hB2 := grown_below hB hown (Nat.le_refl _) hg2; have HNIL2 := Lib.hid hnil2; clear hnil2)
          go_roundw
          case rel => exact ⟨k + 1, by omega, by go_num, by rw [sum_take_succLoop ns k n1 HN.out, List.take_add_one, HX.out, List.flatten_append]; simpa using hown2, hB2, fun e => HV.out (HNIL2.out e).1⟩
          case measure => simp [intOf]; omega
        · have hkm : k = m := by omega
          have e1 : (ns.take k).sum = ns.sum := by rw [hkm, HM.out, List.take_length]
          have e2 : (xss.take k) = xss := by rw [hkm, HM.out, List.take_of_length_le (by have := hv.1; have := hv.2.1; omega)]
          rw [e1, e2] at hown
          clear hkm e1 e2
          go_wp2_with fail
          go_ret
          exact ⟨_, rfl, hown, hB, fun e => by have h1 := HV.out e; have h2 := HS2.out; omega⟩
end Go.Proofs.YtjggkgdojhlhpaaGreat

/- Loop programs of recursive functions, the program's side: command, zero, inc, assign, looped. -/
namespace Go.Proofs.YtjggkgdojhlhpaaGreat
open Go.RowKit
set_option linter.all false

/-- One command, or some: a row of the call's own. -/
def CsOk (w : World) (n : Nat) (cs : List Value) (e : Ending) (w' : World) : Prop := (∃ v, e = .returned v ∧ w'.ownsRow w.heap.size 86 3 v n cs) ∧ Below w.heap.size w w'
set_option maxRecDepth 100000 in
theorem command_any (k a b : Int) (w : World) : Calls Tryz.prog 95 #[.int .i64 k, .int .i64 a, .int .i64 b] w (CsOk w 1 [.int .i64 k, .int .i64 a, .int .i64 b]) := by
  go_enter Tryz.func95, Tryz.ntmps95
  go_wp2
  go_ret
  exact ⟨⟨_, rfl, own_laid w 86 3 1 #[.int .i64 k, .int .i64 a, .int .i64 b] rfl (by simp [maxLen])⟩, laid_below _ _⟩
set_option maxRecDepth 100000 in
theorem zero_any (a : Int) (w : World) : Calls Tryz.prog 79 #[.int .i64 a] w (CsOk w 1 [.int .i64 0, .int .i64 a, .int .i64 0]) := by
  go_enter Tryz.func79, Tryz.ntmps79
  go_wp2_with fail
  refine (command_any 0 a 0 _).mono ?_
  rintro e w1 ⟨⟨v1, rfl, own1⟩, b1⟩
  obtain ⟨A1, c1, rfl⟩ := own_form own1
  go_wp2
  go_ret
  exact ⟨⟨_, rfl, own1⟩, b1⟩
set_option maxRecDepth 100000 in
theorem inc_any (a : Int) (w : World) : Calls Tryz.prog 81 #[.int .i64 a] w (CsOk w 1 [.int .i64 1, .int .i64 a, .int .i64 0]) := by
  go_enter Tryz.func81, Tryz.ntmps81
  go_wp2_with fail
  refine (command_any 1 a 0 _).mono ?_
  rintro e w1 ⟨⟨v1, rfl, own1⟩, b1⟩
  obtain ⟨A1, c1, rfl⟩ := own_form own1
  go_wp2
  go_ret
  exact ⟨⟨_, rfl, own1⟩, b1⟩
set_option maxRecDepth 100000 in
theorem assign_any (a b : Int) (w : World) : Calls Tryz.prog 80 #[.int .i64 a, .int .i64 b] w (CsOk w 1 [.int .i64 2, .int .i64 a, .int .i64 b]) := by
  go_enter Tryz.func80, Tryz.ntmps80
  go_wp2_with fail
  refine (command_any 2 a b _).mono ?_
  rintro e w1 ⟨⟨v1, rfl, own1⟩, b1⟩
  obtain ⟨A1, c1, rfl⟩ := own_form own1
  go_wp2
  go_ret
  exact ⟨⟨_, rfl, own1⟩, b1⟩
set_option maxRecDepth 100000 in
theorem sizeLoop_any (A : Option Addr) (n c : Nat) (w : World) (hn : n ≤ 1048576) : Calls Tryz.prog 97 #[.slice A n c] w fun e w' => e = .returned (.int .i64 n) ∧ w' = w := by
  go_enter Tryz.func97, Tryz.ntmps97
  go_wp2
  go_ret
  exact ⟨rfl, rfl⟩
theorem one_flatten {xss : List (List Value)} (h : ∀ xs ∈ xss, ∀ u ∈ xs, u.oneCell' = true) : ∀ u ∈ xss.flatten, u.oneCell' = true := by
  intro u hu
  obtain ⟨xs, h1, h2⟩ := List.mem_flatten.1 hu
  exact h xs h1 u h2
set_option maxRecDepth 100000 in
set_option maxHeartbeats 1000000 in
theorem looped_any (kd a : Int) (g off c : Nat) (vs : List Value) (ns : List Nat) (xss : List (List Value)) (m s : Nat) (w : World) (hs : Sl w g off vs) (hv : SrcsLoop w vs ns xss) (hm : m = ns.length) (hsm : s = ns.sum) (hs8 : s ≤ 10000) (hm8 : m ≤ 8) (h1 : ∀ u ∈ xss.flatten, u.oneCell' = true) :
    Calls Tryz.prog 83 #[.int .i64 kd, .int .i64 a, .slice (some ⟨g, off, none⟩) m c] w (CsOk w (1 + s) ([.int .i64 kd, .int .i64 a, .int .i64 s] ++ xss.flatten)) := by
  have HC := concatLoop_any g off c vs ns xss w hs hv (by omega) (by omega)
  rw [← hm, ← hsm] at HC
  have HC' := Lib.hid HC
  have HO := Lib.hid h1
  clear HC hs hv hm hsm h1
  go_enter Tryz.func83, Tryz.ntmps83
  go_wp2_with fail
  refine HC'.out.mono ?_
  rintro e w1 ⟨v1, rfl, own1, b1, _⟩
  obtain ⟨A1, c1, rfl⟩ := own_form own1
  go_wp2_with fail
  refine (sizeLoop_any A1 s c1 _ (by omega)).mono ?_
  rintro e w2 ⟨rfl, rfl⟩
  go_wp2_with fail
  refine (command_any kd a s _).mono ?_
  rintro e w3 ⟨⟨v3, rfl, own3⟩, b3⟩
  obtain ⟨A3, c3, rfl⟩ := own_form own3
  have src := Src.of_own (own_below' own1 b3)
  have hb := b1.size
  have B3 := below_step b1 b3
  go_wp2_with (at_builtin; refine wpList_appx rfl _ _ _ rfl Tryz.underlying59 infoLoop rfl (by omega) _ own3 b3.size rfl src rfl HO.out (by unfold maxLen; omega) (by omega) ?_; intro v4 w4 own4 hg4 hnil4; clear hnil4; have B4 := grown_below B3 own3 hb hg4; obtain ⟨A4, c4, rfl⟩ := own_form own4)
  go_ret
  exact ⟨⟨_, rfl, own_base own4 hb⟩, B4⟩
end Go.Proofs.YtjggkgdojhlhpaaGreat

/- slices.Repeat of one element: elements int64. -/
namespace Go.Proofs.YtjggkgdojhlhpaaGreat
open Go.RowKit
set_option linter.all false

theorem oneI_len (x : Int) : (oneI x).length = 1 := rfl
theorem one_rows_Int (xs : List Int) : ∀ u ∈ rows oneI xs, u.oneCell' = true := by rw [rows_oneI]; exact one_ints .i64 xs
theorem made_zero1 (m : Nat) : madeCells (Value.cells (.int .i64 0)) (m * 1) = (rows oneI (List.replicate m (0 : Int))).toArray := by
  apply Array.ext
  · rw [size_madeCells]; simp [rows_len oneI_len]
  · intro i h1 h2
    have hi : i < m := by have hs := h1; rw [size_madeCells] at hs; omega
    have e1 : (madeCells (Value.cells (.int .i64 0)) (m * 1))[i] = .int .i64 0 := by have hm : i % 1 = 0 := Nat.mod_one i; simp [madeCells, Value.cells, hm]
    have e2 : (rows oneI (List.replicate m (0 : Int)))[i]? = some (.int .i64 0) := by
      have hx : (List.replicate m (0 : Int))[i]? = some 0 := by simp [hi]
      have hr := rows_at oneI_len hx (j := 0) (by omega)
      rw [show i * 1 + 0 = i by omega] at hr
      rw [hr]; rfl
    rw [e1]
    simp only [List.getElem_toArray]
    exact (List.getElem?_eq_some_iff.1 e2).2.symm

theorem mulOneInt_any (m : Nat) (w : World) (hm : m ≤ 1048576) : Calls Tryz.prog 101 #[.int .u64 1, .int .u64 (m : Int)] w fun e w' => e = .returned (.tuple #[.int .u64 0, .int .u64 (m : Int)]) ∧ w = w' := by
  have h := Any.bits_Mul Tryz.layMul 1 m (by omega) (by omega) w
  refine h.mono ?_
  rintro e w' ⟨rfl, rfl⟩
  have h1 : 1 * m / 18446744073709551616 = 0 := by omega
  have h2 : 1 * m % 18446744073709551616 = m := by omega
  rw [h1, h2]
  exact ⟨rfl, rfl⟩

/-- n times app, the rest zeros. -/
def partInt (app : Int) (n m : Nat) : List Value := rows oneI (List.replicate n app ++ List.replicate (m - n) (0 : Int))
theorem partInt_len (app : Int) (n m : Nat) (h : n ≤ m) : (partInt app n m).length = m * 1 := by
  unfold partInt; rw [rows_len oneI_len]; simp; omega
theorem partInt_copy' (app : Int) (n k m : Nat) (h : n + k ≤ m) : (partInt app n m).take (n * 1) ++ rows oneI (List.replicate k app) ++ (partInt app n m).drop (n * 1 + (rows oneI (List.replicate k app)).length) = partInt app (n + k) m := by
  unfold partInt
  have hl : (rows oneI (List.replicate k app)).length = k * 1 := by rw [rows_len oneI_len]; simp
  rw [hl, show n * 1 + k * 1 = (n + k) * 1 by omega, rows_take oneI_len, rows_drop oneI_len, ← rows_app, ← rows_app]
  congr 1
  rw [List.take_append_of_le_length (by simp), List.take_of_length_le (by simp)]
  rw [List.drop_append, List.drop_of_length_le (by simp)]
  simp only [List.length_replicate, List.nil_append, List.drop_replicate]
  rw [List.replicate_append_replicate]
  congr 2
  omega
theorem partInt_copy (app : Int) (n k m : Nat) (h : n + k ≤ m) : (partInt app n m).take n ++ rows oneI (List.replicate k app) ++ (partInt app n m).drop (n + (rows oneI (List.replicate k app)).length) = partInt app (n + k) m := by
  have := partInt_copy' app n k m h
  rwa [Nat.mul_one] at this
theorem partInt_at (app : Int) (n m : Nat) {w : World} {g : Nat} (h : w.heap[g]? = some (.cells (partInt app n m).toArray 2 (0, 0))) (k : Nat) (hk : k ≤ n) : ∀ j v, (rows oneI (List.replicate k app))[j]? = some v → w.cell? ((⟨g, 0, none⟩ : Addr).add j) = some v := by
  intro j v hv
  rw [addr_add, Nat.zero_add]
  have hj : j < k * 1 := by have := (List.getElem?_eq_some_iff.1 hv).1; rw [rows_len oneI_len] at this; simpa using this
  have h2 : (partInt app n m)[j]? = some v := by
    unfold partInt
    rw [rows_app, List.getElem?_append_left (by rw [rows_len oneI_len]; simp; omega)]
    have : List.replicate n app = List.replicate k app ++ List.replicate (n - k) app := by rw [List.replicate_append_replicate]; congr 1; omega
    rw [this, rows_app, List.getElem?_append_left (by rw [rows_len oneI_len]; simp; omega)]
    exact hv
  rw [cell_of_heap h]
  simpa using h2

set_option maxRecDepth 100000 in
set_option maxHeartbeats 1000000 in
theorem repeatInt_any (b off c m : Nat) (app : Int) (w : World) (hs : Sl w b off (rows oneI [app])) (hm : m ≤ 1048576) :
    Calls Tryz.prog 94 #[.slice (some ⟨b, off, none⟩) 1 c, .int .i64 m] w fun e w' => ∃ v, e = .returned v ∧ w'.ownsRow w.heap.size 2 1 v m (rows oneI (List.replicate m app)) ∧ Below w.heap.size w w' := by
  have hp0 : rows oneI (List.replicate m (0 : Int)) = partInt app 0 m := by unfold partInt; simp
  have hmk := fun W => run_make_rows (P := Tryz.prog) 23 2 _ 1 8 Tryz.underlying23 infoInt64S .i64 .i64 m (by omega) (by omega) W
  simp only [made_zero1, hp0] at hmk
  clear hp0
  have HMU := Lib.hid (mulOneInt_any m)
  have HI : Hid ((Tryz.prog.info? 2).map (·.size) = some 1) := by unfold Hid; obtain ⟨i, h1, _, h3, _⟩ := info_parts infoInt64S; rw [h1]; simp [h3]
  obtain ⟨k1, HK, hk1, hk2, hk3⟩ : ∃ k1, Hid (Nat.min 1 m = k1) ∧ k1 ≤ 1 ∧ k1 ≤ m ∧ (0 < m → 0 < k1) := ⟨Nat.min 1 m, rfl, Nat.min_le_left _ _, Nat.min_le_right _ _, fun h => by show 0 < min 1 m; omega⟩
  have HLN : Hid (∀ k, (rows oneI (List.replicate k app)).length = k * 1) := by intro k; rw [rows_len oneI_len]; simp
  have HPL : Hid (∀ k, k ≤ m → (partInt app k m).length = m * 1) := fun k h => partInt_len app k m h
  have HONE : Hid (∀ k, ∀ u ∈ rows oneI (List.replicate k app), u.oneCell' = true) := fun k => one_rows_Int _
  have HSRC : Hid (∀ W : World, Below w.heap.size w W → ∀ j v, (rows oneI (List.replicate k1 app))[j]? = some v → W.cell? ((⟨b, off, none⟩ : Addr).add j) = some v) := by
    intro W hW j v hv
    rw [addr_add]
    refine (hs.below' hW).at ?_
    have h01 : k1 = 0 ∨ k1 = 1 := by omega
    rcases h01 with rfl | rfl
    · simp [rows] at hv
    · exact hv
  have hb0 := laid_below w (.cells (partInt app 0 m).toArray 2)
  go_enter Tryz.func94, Tryz.ntmps94
  go_wp2_with fail
  refine (HMU.out _ hm).mono ?_
  rintro e w1 ⟨rfl, hw1⟩
  subst hw1
  clear HMU
  go_wp2_with (refine wpList_copy_rows (o := ⟨some 33, _, _, _, _, _⟩) rfl (.tmp 31) (.tmp 32) 23 23 rfl 2 Tryz.underlying23 HI.out w.heap.size 0 m m ⟨b, off, none⟩ 1 c rfl rfl (partInt app 0 m) 2 (heap_alloc_new _ _) k1 HK.out (rows oneI (List.replicate k1 app)) (HLN.out k1) (HSRC.out _ hb0) (by rw [HLN.out, HPL.out 0 (by omega)]; omega) (HONE.out k1) w.heap.size w hb0 (Nat.le_refl _) ?_; intro w2 HG2 hB2; clear hmk)
  rw [partInt_copy app 0 k1 m (by omega), Nat.zero_add] at HG2
  go_loopw [8] (fun i wr => ∃ n, n ≤ m ∧ (0 < m → 0 < n) ∧ i = .int .i64 (n : Nat) ∧ Below w.heap.size w wr ∧ Hid (wr.heap[w.heap.size]? = some (.cells (partInt app n m).toArray 2 (0, 0)))) (fun i _ => m - (intOf i).toNat)
  case atStart => exact ⟨k1, hk2, hk3, rfl, hB2, HG2⟩
  case round =>
    obtain ⟨n, hn, hn0, rfl, hB, HG⟩ := hrel
    clear HG2 hB2 hk3
    by_cases hlt : n < m
    · have hn1 : 0 < n := hn0 (by omega)
      obtain ⟨o', ho', hsl⟩ := run_slice_tailR (P := Tryz.prog) 23 2 Tryz.underlying23 infoInt64S w.heap.size 0 m m n (n : Int) rfl (by omega) (by omega)
      have ho2 : o' = n := by omega
      rw [ho2] at hsl
      clear ho2 ho' hn0
      obtain ⟨k2, HK2, hk4, hk5, hk6⟩ : ∃ k2, Hid (Nat.min n (m - n) = k2) ∧ k2 ≤ n ∧ n + k2 ≤ m ∧ 0 < k2 := ⟨Nat.min n (m - n), rfl, Nat.min_le_left _ _, by have : Nat.min n (m - n) ≤ m - n := Nat.min_le_right _ _; omega, by show 0 < min n (m - n); omega⟩
      have e1 : (n : Int) ≤ (m : Int) := by omega
      have e2 : 0 ≤ (n : Int) := by omega
      have w9 : IntKind.i64.wrap ((n : Int) + (k2 : Int)) = (n : Int) + (k2 : Int) := IntWalk.i64_in _ (by omega)
      go_wp2
      go_region_held3 (fun _ => True) (trivial) ((refine step_copy_rows (by rfl) _ _ _ _ (by rfl) 2 Tryz.underlying23 HI.out w.heap.size n (m - n) (m - n) ⟨w.heap.size, 0, none⟩ n m (by rfl) (by rfl) (partInt app n m) 2 (by exact HG.out) k2 HK2.out (rows oneI (List.replicate k2 app)) (HLN.out k2) (by exact partInt_at app n m HG.out k2 hk4) (by rw [HLN.out, HPL.out n (by omega)]; omega) (HONE.out k2) w.heap.size w (by exact hB.drew) (Nat.le_refl _) ?_; intro w3 HG3 hB3))
      all_goals
        rw [partInt_copy app n k2 m hk5] at HG3
        clear w9
        go_wp2
        go_roundw
        case rel => exact ⟨n + k2, hk5, by omega, by go_num, hB3, HG3⟩
        case measure => simp [intOf]; omega
    · obtain rfl : m = n := by omega
      have hown := own_of_block (s := 1) (n := m) HG.out (Nat.le_refl w.heap.size) (HPL.out m (Nat.le_refl _)) (Nat.le_refl _) (by unfold maxLen; omega)
      have hpm : partInt app m m = rows oneI (List.replicate m app) := by unfold partInt; simp
      rw [List.take_of_length_le (by rw [HPL.out m (Nat.le_refl _)]; exact Nat.le_refl _), hpm] at hown
      go_wp2
      go_ret
      exact ⟨_, rfl, hown, hB⟩
end Go.Proofs.YtjggkgdojhlhpaaGreat

/- A region that draws its order, walked by facts: what each operation leaves, whatever came before it; no order is named. Plain laws. -/
namespace Go.Proofs.YtjggkgdojhlhpaaGreat
open Go.RowKit
set_option linter.all false

/-- What an operation leaves, said of its value and the memory; what is added to memory leaves it true. -/
structure Fact where
  p : Value → World → Prop
  mono : ∀ v w w', p v w → Below w.heap.size w w' → p v w'
def factAt (fs : List Fact) (i : Nat) (v : Value) (w : World) : Prop := match fs[i]? with | some f => f.p v w | none => True
theorem factAt_mono {fs : List Fact} {i : Nat} {v : Value} {w w' : World} (h : factAt fs i v w) (hb : Below w.heap.size w w') : factAt fs i v w' := by
  unfold factAt at *
  split
  · rename_i f hf; rw [hf] at h; exact f.mono _ _ _ h hb
  · trivial
/-- One operation: from the facts of those that it waits for, its own. -/
def StepOk (P : Program) (fs : List Fact) (ds : List Nat) (Q : Exit → Act → World → Prop) (a0 : Act) (w0 : World) (i : Nat) (o : Oper) : Prop :=
  ∀ a w, Below w0.heap.size w0 w → (∀ t, ds.contains t = false → a.eval (.tmp t) = a0.eval (.tmp t)) →
    (∀ e ∈ o.after, Region.binds .any e = true → ∀ d, ds[e.on]? = some d → factAt fs e.on (a.eval (.tmp d)) w) →
    ∀ K : Act → World → Prop, (∀ v w', factAt fs i v w' → Below w.heap.size w w' → K (a.put o.dst v) w') → o.wp P a w K Q
def AllFrom (R : Nat → Oper → Prop) : Nat → List Oper → Prop
  | _, [] => True
  | k, o :: l => R k o ∧ AllFrom R (k + 1) l
theorem AllFrom.get {R : Nat → Oper → Prop} : ∀ {l : List Oper} {k : Nat}, AllFrom R k l → ∀ {j : Nat} {o : Oper}, l[j]? = some o → R (k + j) o
  | [], _, _, j, o, h => by simp at h
  | o' :: l, k, h, 0, o, hj => by simp at hj; subst hj; exact h.1
  | o' :: l, k, h, j + 1, o, hj => by
    have := h.2.get (j := j) (o := o) (by simpa using hj)
    rw [show k + (j + 1) = k + 1 + j by omega]; exact this
/-- The region's form: a slot for each operation, no guard, and no operation waits for a later one. -/
def regionOk (l : List Oper) (ds : List Nat) (n : Nat) : Bool :=
  decide (l.map (·.dst) = ds.map some) && decide ds.Nodup && ds.all (fun d => decide (d < n)) && l.all (fun o => o.guard.isNone) &&
    (List.range l.length).all fun i => match l[i]? with | some o => o.after.all fun e => decide (e.on < i) | none => true

def unlisted (b : Array Bool) : Nat := (b.toList.filter (!·)).length
theorem unlisted_set (b : Array Bool) (i : Nat) (h : b[i]? = some false) : unlisted (b.setIfInBounds i true) + 1 = unlisted b := by
  unfold unlisted
  have hi : i < b.size := (Array.getElem?_eq_some_iff.1 h).1
  have hx : b.toList[i]? = some false := by simpa using h
  rw [Array.toList_setIfInBounds]
  obtain ⟨l⟩ := b
  simp only at hx ⊢
  clear h hi
  induction l generalizing i with
  | nil => simp at hx
  | cons x l ih =>
    cases i with
    | zero => simp at hx; subst hx; simp
    | succ i =>
      rw [List.set_cons_succ, List.filter_cons, List.filter_cons]
      have := ih i (by simpa using hx)
      cases x <;> simp <;> omega
theorem all_of_none {b : Array Bool} (h : unlisted b = 0) (i : Nat) (hi : i < b.size) : b[i]? = some true := by
  unfold unlisted at h
  have h2 := List.eq_nil_of_length_eq_zero h
  rw [List.filter_eq_nil_iff] at h2
  have hx : b.toList[i]'(by simpa using hi) ∈ b.toList := List.getElem_mem _
  have := h2 _ hx
  rw [Array.getElem?_eq_getElem hi]
  simpa using this

theorem region_facts {P : Program} {id : Nat} {l : List Oper} {Q : Exit → Act → World → Prop} {a0 : Act} {w0 : World} (hm : P.follows .mixedOrders = true) (fs : List Fact) (ds : List Nat) (hok : regionOk l ds a0.tmps.size = true)
    (hstep : AllFrom (StepOk P fs ds Q a0 w0) 0 l)
    (hend : ∀ a w, Below w0.heap.size w0 w → a.defers = a0.defers → a.tmps.size = a0.tmps.size → (∀ t, ds.contains t = false → a.eval (.tmp t) = a0.eval (.tmp t)) → (∀ i d, ds[i]? = some d → factAt fs i (a.eval (.tmp d)) w) → Q .normal a w) :
    (Code.region id l.toArray true).wp P Q a0 w0 := by
  unfold regionOk at hok
  simp only [Bool.and_eq_true, decide_eq_true_eq, List.all_eq_true, List.mem_range] at hok
  obtain ⟨⟨⟨⟨hd, hnd⟩, hsz⟩, hgd⟩, hac⟩ := hok
  have hlen : l.length = ds.length := by have := congrArg List.length hd; simpa using this
  have hdst : ∀ {i : Nat} {o : Oper}, l[i]? = some o → ∃ d, o.dst = some d ∧ ds[i]? = some d := by
    intro i o h
    have h1 : (l.map (·.dst))[i]? = some o.dst := by rw [List.getElem?_map, h]; rfl
    rw [hd, List.getElem?_map] at h1
    cases h2 : ds[i]? with
    | none => rw [h2] at h1; simp at h1
    | some d => rw [h2] at h1; simp at h1; exact ⟨d, h1.symm, rfl⟩
  refine wp_region_any hm ?_
  have main : ∀ (fuel : Nat) (b : Array Bool) (a : Act) (w : World), unlisted b ≤ fuel → b.size = l.length → Below w0.heap.size w0 w → a.defers = a0.defers → a.tmps.size = a0.tmps.size → (∀ t, ds.contains t = false → a.eval (.tmp t) = a0.eval (.tmp t)) →
      (∀ i d, b[i]? = some true → ds[i]? = some d → factAt fs i (a.eval (.tmp d)) w) → wpAny P .any l.toArray Q fuel b a w := by
    have done : ∀ (b : Array Bool) (a : Act) (w : World), b.size = l.length → Below w0.heap.size w0 w → a.defers = a0.defers → a.tmps.size = a0.tmps.size → (∀ t, ds.contains t = false → a.eval (.tmp t) = a0.eval (.tmp t)) →
        (∀ i d, b[i]? = some true → ds[i]? = some d → factAt fs i (a.eval (.tmp d)) w) → Region.ready .any l.toArray b = [] → Q .normal a w := by
      intro b a w hbs hB hdf hts hin hf hr
      have hall : ∀ i, i < l.length → b[i]? = some true := by
        intro i
        induction i using Nat.strongRecOn with
        | _ i ih =>
          intro hi
          cases hbi : b[i]'(by omega) with
          | true => rw [Array.getElem?_eq_getElem (by omega), hbi]
          | false =>
            exfalso
            have hmem : i ∈ Region.ready .any l.toArray b := by
              rw [mem_ready]
              refine ⟨by simp [Array.getD, show i < b.size by omega, hbi], l[i], by simp [hi], fun e he _ => ?_⟩
              have h1 := hac i hi
              rw [List.getElem?_eq_getElem hi] at h1
              simp only [Array.all_eq_true_iff_forall_mem, decide_eq_true_eq] at h1
              have h2 := h1 e he
              have h3 := ih e.on h2 (by omega)
              simp [h3]
            rw [hr] at hmem; cases hmem
      refine hend a w hB hdf hts hin fun i d hid => ?_
      have hi : i < l.length := by rw [hlen]; exact (List.getElem?_eq_some_iff.1 hid).1
      exact hf i d (hall i hi) hid
    intro fuel
    induction fuel with
    | zero =>
      intro b a w hu hbs hB hdf hts hin hf
      have hr : Region.ready .any l.toArray b = [] := by
        rw [List.eq_nil_iff_forall_not_mem]
        intro i hi
        obtain ⟨h1, o, h2, _⟩ := mem_ready.1 hi
        have hil : i < l.length := by have := (Array.getElem?_eq_some_iff.1 h2).1; simpa using this
        have h3 := all_of_none (b := b) (by omega) i (by omega)
        simp [h3] at h1
      exact ⟨hr, done b a w hbs hB hdf hts hin hf hr⟩
    | succ fuel ih =>
      intro b a w hu hbs hB hdf hts hin hf
      refine ⟨done b a w hbs hB hdf hts hin hf, fun i hi => ?_⟩
      obtain ⟨h1, o, h2, h3⟩ := mem_ready.1 hi
      have hil : i < l.length := by have := (Array.getElem?_eq_some_iff.1 h2).1; simpa using this
      have ho : l[i]? = some o := by simpa using h2
      obtain ⟨d, hod, hid⟩ := hdst ho
      have hbi : b[i]? = some false := by
        rw [Array.getElem?_eq_getElem (by omega)]
        simp [Array.getD, show i < b.size by omega] at h1
        rw [h1]
      have hs := hstep.get ho
      rw [Nat.zero_add] at hs
      have hgn : o.guard = none := by have := hgd o (List.mem_of_getElem? ho); simpa using this
      unfold wpOp
      simp only [h2]
      have hw : Region.wanted o (yielded l.toArray a.tmps) = true := by simp [Region.wanted, hgn]
      rw [if_pos hw]
      refine .inl (hs a w hB hin (fun e he hb d' hd' => ?_) _ fun v w' hv hb' => ?_)
      · have h4 := h3 e he hb
        refine hf e.on d' ?_ hd'
        have hon : e.on < l.length := by rw [hlen]; exact (List.getElem?_eq_some_iff.1 hd').1
        rw [Array.getElem?_eq_getElem (by omega)]
        simp [Array.getD, show e.on < b.size by omega] at h4
        rw [h4]
      · have hev : ∀ t, t ≠ d → (a.put o.dst v).eval (.tmp t) = a.eval (.tmp t) := fun t ht => Act.eval_put fun d' hd' e => by
          rw [hod] at hd'; injection hd' with hd'; injection e with e; exact ht (by rw [hd']; exact e)
        have hdm : d ∈ ds := List.mem_of_getElem? hid
        have hself : (a.put o.dst v).eval (.tmp d) = v := by
          rw [hod]
          have := hsz d hdm
          simp [Act.put, Act.eval, hts, this]
        refine ih _ _ _ (by have := unlisted_set b i hbi; omega) (by simp [hbs]) (hB.trans (hb'.mono hB.size)) ?_ ?_ ?_ ?_
        · rw [hod]; exact hdf
        · rw [hod]; simp [Act.put, hts]
        · intro t ht
          rw [hev t (by rintro rfl; simp [hdm] at ht)]
          exact hin t ht
        · intro j d' hj hd'
          by_cases hji : j = i
          · subst hji
            rw [hid] at hd'; injection hd' with hd'; subst hd'
            rw [hself]; exact hv
          · have hne : d' ≠ d := by
              rintro rfl
              have e1 := (List.getElem?_eq_some_iff.1 hd')
              have e2 := (List.getElem?_eq_some_iff.1 hid)
              obtain ⟨a1, a2⟩ := e1
              obtain ⟨b1, b2⟩ := e2
              have hpw := List.pairwise_iff_getElem.1 hnd
              rcases Nat.lt_or_gt_of_ne hji with hlt | hlt
              · exact hpw j i a1 b1 hlt (by rw [a2, b2])
              · exact hpw i j b1 a1 hlt (by rw [a2, b2])
            rw [hev d' hne]
            refine factAt_mono (hf j d' ?_ hd') hb'
            rw [Array.getElem?_setIfInBounds_ne (Ne.symm hji)] at hj
            exact hj
  refine main l.toArray.size _ a0 _ ?_ (by simp) ?_ rfl rfl (fun _ _ => rfl) ?_
  · unfold unlisted; simp
  · exact ⟨rfl, rfl, rfl, Nat.le_refl _, fun _ _ => rfl⟩
  · intro i d hi _
    rw [Array.getElem?_replicate] at hi
    split at hi <;> simp at hi
end Go.Proofs.YtjggkgdojhlhpaaGreat

/- Operations at a state that is a letter, for regions walked by facts. Plain laws. -/
namespace Go.Proofs.YtjggkgdojhlhpaaGreat
open Go.RowKit
set_option linter.all false

theorem op_move {P : Program} {o : Oper} {a : Act} {w : World} {K : Act → World → Prop} {Q : Exit → Act → World → Prop} (x : Operand) (ho : o.op = .move x) {v : Value} (hx : a.eval x = v) (h : K (a.put o.dst v) w) : o.wp P a w K Q := by
  unfold Oper.wp; simp [execOp, ho, hx, Oper.upon]; exact h
theorem op_append {P : Program} {o : Oper} {a : Act} {w : World} {K : Act → World → Prop} {Q : Exit → Act → World → Prop} (s x : Operand) (t : TypeId)
    (ho : o.op = .call { callee := .builtin .append, args := #[s, x], argTypes := #[t, t] })
    {e : TypeId} {z : Value} {size bytes : Nat} (ht : P.underlying t = some (.slice e)) (hinfo : (P.info? e).map (fun i => (i.zero, i.size, i.bytes)) = some (some z, size, bytes)) (hzs : z.cells.size = size) (hsz : 0 < size)
    {g n : Nat} {xs : List Value} (hs : a.eval s = .slice (some ⟨g, 0, none⟩) n n) (hg : Sl w g 0 xs) (hxl : xs.length = n * size)
    {b off m c : Nat} {ys : List Value} (hx : a.eval x = .slice (some ⟨b, off, none⟩) m c) (hy : Sl w b off ys) (hyl : ys.length = m * size) (h1 : ∀ u ∈ ys, u.oneCell' = true) (h63 : n + m ≤ maxLen) (hbytes : (n + m) * bytes ≤ 140737488355328)
    (h : ∀ A c' w', Args size w' A (n + m) (xs ++ ys) → Below w.heap.size w w' → K (a.put o.dst (.slice A (n + m) c')) w') : o.wp P a w K Q := by
  obtain ⟨i, hi, hz, hsize, hby⟩ := info_parts hinfo
  have hnews : ∀ j u, ys[j]? = some u → w.cell? ((⟨b, off, none⟩ : Addr).add j) = some u := fun j u hu => by rw [addr_add]; exact hy.2 j u hu
  by_cases hm : m = 0
  · subst hm
    have hyn : ys = [] := List.eq_nil_of_length_eq_zero (by simpa using hyl)
    subst hyn
    have hrun := run_append_room_cells (P := P) w t o.type e i ht hi g 0 n n ⟨b, off, none⟩ 0 c [] (by simp) (by simp) (by simp) (by omega) (by simp) (by simp)
    unfold Oper.wp
    simp [execOp, ho, resolve, invoke, builtin, hs, hx, hrun, Result.andThen]
    have := h (some ⟨g, 0, none⟩) n w (by rw [List.append_nil]; exact Args.of_sl hg (by rw [hxl]; rfl)) (Below.refl _ _)
    exact this
  · obtain ⟨v', w', hrun, r1, r2⟩ := run_append_arg_grows (P := P) w t o.type e i z size bytes ht hi hz hsize hby hzs hsz ⟨g, 0, none⟩ n n xs hxl (fun j u hu => by rw [addr_add]; exact hg.2 j u hu) ⟨b, off, none⟩ m c ys hyl hnews (by omega) h63 hbytes
    unfold Oper.wp
    simp [execOp, ho, resolve, invoke, builtin, hs, hx, hrun, Result.andThen]
    obtain ⟨A, c', rfl⟩ := own_form r1
    exact h A c' w' (args_of_own r1) ⟨r2.os, r2.tape, r2.output, r2.size, fun k hk => r2.block k hk (by simp)⟩

end Go.Proofs.YtjggkgdojhlhpaaGreat

/- Facts for regions walked by facts: a value, a fresh row, a row that reads. Plain words. -/
namespace Go.Proofs.YtjggkgdojhlhpaaGreat
open Go.RowKit
set_option linter.all false

theorem kev {a : Act} {t : Tmp} {v : Value} (h : a.eval (.tmp t) = v) : a.tmps[t]?.getD undef = v := by
  rw [Act.eval] at h; simpa using h
def kcst (v : Value) : Fact := ⟨fun x _ => x = v, fun _ _ _ h _ => h⟩
def ksl (n : Nat) (xs : List Value) : Fact := ⟨fun x w => ∃ g, x = .slice (some ⟨g, 0, none⟩) n n ∧ Sl w g 0 xs, fun _ _ _ ⟨g, h, k⟩ hb => ⟨g, h, k.below' hb⟩⟩
def karg (s n : Nat) (xs : List Value) : Fact := ⟨fun x w => ∃ A c, x = .slice A n c ∧ Args s w A n xs, fun _ _ _ ⟨A, c, h, k⟩ hb => ⟨A, c, h, k.below hb⟩⟩
end Go.Proofs.YtjggkgdojhlhpaaGreat

/- Library functions on rows of Func: IndexFunc, ContainsFunc with whatever function value, Clone; size. -/
namespace Go.Proofs.YtjggkgdojhlhpaaGreat
open Go.RowKit
set_option linter.all false

theorem one_rows_Func (xs : List R3) : ∀ u ∈ rows R3.vs xs, u.oneCell' = true := by
  intro u hu
  simp only [rows, List.mem_flatMap, R3.vs] at hu
  obtain ⟨x, _, hu⟩ := hu
  simp at hu
  rcases hu with rfl | rfl | rfl <;> rfl

set_option maxRecDepth 100000 in
theorem sizeOf_Func_any (A : Option Addr) (n c : Nat) (w : World) : Calls Tryz.prog 44 #[.slice A n c] w fun e w' => e = .returned (.int .i64 n) ∧ w = w' := by
  go_enter Tryz.func44, Tryz.ntmps44
  go_wp2
  go_ret
  exact ⟨rfl, rfl⟩

end Go.Proofs.YtjggkgdojhlhpaaGreat

/- Recursive functions, the program's side: followers, funcEnd, isFunc, ValidFunc. -/
namespace Go.Proofs.YtjggkgdojhlhpaaGreat
open Go.RowKit
set_option linter.all false

theorem fFols_rep (b : Int) (k : Nat) (c : Int) (h : c = (k : Int)) : (fFols ⟨3, b, c⟩).map (Value.int .i64) = [Value.int .i64 c] ++ rows oneI (List.replicate k b) := by
  rw [fFols_3 rfl, rows_oneI]; subst h; simp

def Fols3Ok (b : Int) (k : Nat) (w : World) (e : Ending) (w' : World) : Prop := (∃ A c', e = .returned (.slice A (1 + k) c') ∧ Args 1 w' A (1 + k) ([Value.int .i64 k] ++ rows oneI (List.replicate k b))) ∧ Below w.heap.size w w'
set_option maxRecDepth 100000 in
set_option maxHeartbeats 1000000 in
theorem followers3_any (b : Int) (k : Nat) (w : World) (hk : 1 ≤ k) (hk4 : k ≤ 4) :
    Calls Tryz.prog 77 #[.agg #[.int .i64 3, .int .i64 b, .int .i64 k]] w (Fols3Ok b k w) := by
  obtain ⟨w0, HW0, B0, y0⟩ := al1 w (.cells #[.int .i64 3, .int .i64 b, .int .i64 k] 35)
  have n1 : w0.cell? ⟨w.heap.size, 1, none⟩ = some (.int .i64 b) := by rw [cell_of_heap y0]; rfl
  have n2 : w0.cell? ⟨w.heap.size, 2, none⟩ = some (.int .i64 k) := by rw [cell_of_heap y0]; rfl
  clear y0
  go_enter Tryz.func77, Tryz.ntmps77
  go_wp2_with fail
  rw [← HW0.out]
  refine region_facts (by kernel_rfl) [kcst (.pointer (some ⟨w.heap.size, 2, none⟩)), kcst (.int .i64 k), ksl 1 [.int .i64 k], kcst (.pointer (some ⟨w.heap.size, 1, none⟩)), kcst (.int .i64 b), ksl 1 (rows oneI [b]), kcst (.pointer (some ⟨w.heap.size, 2, none⟩)), kcst (.int .i64 k), karg 1 k (rows oneI (List.replicate k b)), karg 1 (1 + k) ([Value.int .i64 k] ++ rows oneI (List.replicate k b)), karg 1 (1 + k) ([Value.int .i64 k] ++ rows oneI (List.replicate k b))] [7, 8, 9, 10, 11, 12, 13, 14, 15, 16, 2] (by kernel_rfl) ?_ ?_
  · refine ⟨?_, ?_, ?_, ?_, ?_, ?_, ?_, ?_, ?_, ?_, ?_, trivial⟩
    · intro a W hB hin haft K hK
      have h1 : a.tmps[1]?.getD undef = .pointer (some ⟨w.heap.size, 0, none⟩) := kev (hin 1 (by decide))
      clear haft hin
      unfold Oper.wp
      go_simp
      exact hK _ _ rfl (Below.refl _ _)
    · intro a W hB hin haft K hK
      have h7 : a.tmps[7]?.getD undef = .pointer (some ⟨w.heap.size, 2, none⟩) := kev (haft ⟨0, .data⟩ (by simp) rfl 7 rfl)
      have k1 := cell_step (by exact n2) hB
      clear haft hin
      unfold Oper.wp
      go_simp
      exact hK _ _ rfl (Below.refl _ _)
    · intro a W hB hin haft K hK
      have h8 : a.tmps[8]?.getD undef = .int .i64 k := kev (haft ⟨1, .data⟩ (by simp) rfl 8 rfl)
      clear haft hin
      unfold Oper.wp
      go_simp
      exact hK _ _ ⟨_, rfl, sl_laid W _ _⟩ (laid_below _ _)
    · intro a W hB hin haft K hK
      have h1 : a.tmps[1]?.getD undef = .pointer (some ⟨w.heap.size, 0, none⟩) := kev (hin 1 (by decide))
      clear haft hin
      unfold Oper.wp
      go_simp
      exact hK _ _ rfl (Below.refl _ _)
    · intro a W hB hin haft K hK
      have h10 : a.tmps[10]?.getD undef = .pointer (some ⟨w.heap.size, 1, none⟩) := kev (haft ⟨3, .data⟩ (by simp) rfl 10 rfl)
      have k1 := cell_step (by exact n1) hB
      clear haft hin
      unfold Oper.wp
      go_simp
      exact hK _ _ rfl (Below.refl _ _)
    · intro a W hB hin haft K hK
      have h11 : a.tmps[11]?.getD undef = .int .i64 b := kev (haft ⟨4, .data⟩ (by simp) rfl 11 rfl)
      clear haft hin
      unfold Oper.wp
      go_simp
      exact hK _ _ ⟨_, rfl, sl_laid W _ _⟩ (laid_below _ _)
    · intro a W hB hin haft K hK
      have h1 : a.tmps[1]?.getD undef = .pointer (some ⟨w.heap.size, 0, none⟩) := kev (hin 1 (by decide))
      clear haft hin
      unfold Oper.wp
      go_simp
      exact hK _ _ rfl (Below.refl _ _)
    · intro a W hB hin haft K hK
      have h13 : a.tmps[13]?.getD undef = .pointer (some ⟨w.heap.size, 2, none⟩) := kev (haft ⟨6, .data⟩ (by simp) rfl 13 rfl)
      have k1 := cell_step (by exact n2) hB
      clear haft hin
      unfold Oper.wp
      go_simp
      exact hK _ _ rfl (Below.refl _ _)
    · intro a W hB hin haft K hK
      obtain ⟨g, hg, hsl⟩ := haft ⟨5, .data⟩ (by simp) rfl 12 rfl
      have h12 := kev hg
      have h14 : a.tmps[14]?.getD undef = .int .i64 k := kev (haft ⟨7, .data⟩ (by simp) rfl 14 rfl)
      clear hg
      clear haft hin
      unfold Oper.wp
      go_simp
      refine (repeatInt_any g 0 1 k b _ hsl (by omega)).mono ?_
      rintro z w' ⟨v, rfl, own, hb⟩
      obtain ⟨A, c', rfl⟩ := own_form own
      exact hK _ _ ⟨A, c', rfl, args_of_own own⟩ hb
    · intro a W hB hin haft K hK
      obtain ⟨g, hg, hsl⟩ := haft ⟨2, .data⟩ (by simp) rfl 9 rfl
      obtain ⟨A, c', hx, hA⟩ := haft ⟨8, .data⟩ (by simp) rfl 15 rfl
      obtain ⟨b2, o2, rfl, hs2⟩ := hA.sl (k := 0) (by omega)
      refine op_append _ _ _ rfl Tryz.underlying23 infoInt64S rfl (by omega) hg hsl rfl hx hs2 hA.1 (one_rows_Int _) (by unfold maxLen; omega) (by omega) ?_
      intro A3 c3 w' hA3 hb
      exact hK _ _ ⟨A3, c3, rfl, hA3⟩ hb
    · intro a W hB hin haft K hK
      obtain ⟨A, c', hx, hA⟩ := haft ⟨9, .data⟩ (by simp) rfl 16 rfl
      have h16 := kev hx
      clear hx
      clear haft hin
      unfold Oper.wp
      go_simp
      exact hK _ _ ⟨A, c', rfl, hA⟩ (Below.refl _ _)
  · intro a W hB hdf hsz hin hf
    obtain ⟨A, c', hx, hA⟩ := hf 10 2 rfl
    have h2 := kev hx
    clear hin hf hx
    go_wp2
    refine bodyPost_ret (v := .slice A (1 + k) c') (by simp [results, Tryz.results77, go_sem, h2]) hdf ?_
    exact ⟨⟨A, c', rfl, hA⟩, below_step B0 hB⟩

/-- What followers gives. -/
def FolsOk (x : R3) (w : World) (e : Ending) (w' : World) : Prop := (∃ A c', e = .returned (.slice A (fMany x) c') ∧ Args 1 w' A (fMany x) ((fFols x).map (Value.int .i64))) ∧ Below w.heap.size w w'

set_option maxRecDepth 100000 in
set_option maxHeartbeats 1000000 in
theorem followers_any (x : R3) (hok : fOkN x = true) (w : World) :
    Calls Tryz.prog 77 #[.agg #[.int .i64 x.a, .int .i64 x.b, .int .i64 x.c]] w (FolsOk x w) := by
  have hx := (fOkN_iff x).1 hok
  obtain ⟨a, b, c⟩ := x
  simp only at hx ⊢
  by_cases a3 : a = 3
  · subst a3
    obtain ⟨k, hk⟩ : ∃ k : Nat, c = (k : Int) := ⟨c.toNat, by omega⟩
    subst hk
    refine (followers3_any b k w (by omega) (by omega)).mono ?_
    rintro e w' ⟨⟨A, c', rfl, hA⟩, hb⟩
    have hm : fMany ⟨3, b, (k : Int)⟩ = 1 + k := by rw [fMany_3 rfl]; simp only; omega
    exact ⟨⟨A, c', by rw [hm], by rw [hm, fFols_rep b k _ rfl]; exact hA⟩, hb⟩
  have e3 : (a == 3) = false := by simpa using a3
  obtain ⟨w0, HW0, B0, y0⟩ := al1 w (.cells #[.int .i64 a, .int .i64 b, .int .i64 c] 35)
  have B1 := HW0.out ▸ B0
  clear HW0 y0
  by_cases a4 : a = 4
  · subst a4
    have hm : fMany ⟨4, b, c⟩ = 2 := fMany_4 rfl
    have hf : (fFols ⟨4, b, c⟩).map (Value.int .i64) = [.int .i64 (b - 1), .int .i64 (b + 1)] := by rw [fFols_4 rfl]; rfl
    have HM := Lib.hid hm; have HF := Lib.hid hf
    have hb1 : 1 ≤ b := by omega
    have hb3 : b ≤ 3 := by omega
    clear hm hf hx hok a3
    go_enter Tryz.func77, Tryz.ntmps77
    go_wp2
    go_ret
    refine ⟨⟨some ⟨w.heap.size + 1, 0, none⟩, 2, by rw [HM.out]; rfl, ?_⟩, below_step B1 (laid_below _ _)⟩
    rw [HM.out, HF.out]
    exact Args.of_sl (b := w.heap.size + 1) (by have := sl_laid (w.alloc (.cells #[.int .i64 4, .int .i64 b, .int .i64 c] 35)) #[.int .i64 (b - 1), .int .i64 (b + 1)] 2; simpa using this) rfl
  by_cases a5 : a = 5
  · subst a5
    have hm : fMany ⟨5, b, c⟩ = 1 := fMany_5 rfl
    have hf : (fFols ⟨5, b, c⟩).map (Value.int .i64) = [.int .i64 (b + 1)] := by rw [fFols_5 rfl]; rfl
    have HM := Lib.hid hm; have HF := Lib.hid hf
    have hb1 : 0 ≤ b := by omega
    have hb3 : b ≤ 3 := by omega
    clear hm hf hx hok a3 a4
    go_enter Tryz.func77, Tryz.ntmps77
    go_wp2
    go_ret
    refine ⟨⟨some ⟨w.heap.size + 1, 0, none⟩, 1, by rw [HM.out]; rfl, ?_⟩, below_step B1 (laid_below _ _)⟩
    rw [HM.out, HF.out]
    exact Args.of_sl (b := w.heap.size + 1) (by have := sl_laid (w.alloc (.cells #[.int .i64 5, .int .i64 b, .int .i64 c] 35)) #[.int .i64 (b + 1)] 2; simpa using this) rfl
  have hm : fMany ⟨a, b, c⟩ = 0 := fMany_0 a3 a4 a5
  have hf : fFols ⟨a, b, c⟩ = [] := fFols_0 a3 a4 a5
  have HM := Lib.hid hm; have HF := Lib.hid hf
  have e4 : (a == 4) = false := by simpa using a4
  have e5 : (a == 5) = false := by simpa using a5
  clear hm hf hx hok a3 a4 a5
  go_enter Tryz.func77, Tryz.ntmps77
  go_wp2
  go_ret
  refine ⟨⟨none, 0, by rw [HM.out]; rfl, ?_⟩, B1⟩
  rw [HM.out, HF.out]
  exact Args.of_nil _ _ _
end Go.Proofs.YtjggkgdojhlhpaaGreat

/- Recursive functions, the program's side: funcEnd, isFunc, ValidFunc. -/
namespace Go.Proofs.YtjggkgdojhlhpaaGreat
open Go.RowKit
set_option linter.all false

/-- Where the function at place k ends. -/
def FEnd (xs : List R3) (n k : Nat) (a z : Int) : Prop := (z = -1 ∧ fRun [a] (xs.drop k) = none) ∨ ∃ q : Nat, z = ((k + q : Nat) : Int) ∧ 0 < q ∧ k + q ≤ n ∧ fRun [a] (xs.drop k) = some (xs.drop (k + q))
def FEndOk (xs : List R3) (n k : Nat) (a : Int) (w : World) (e : Ending) (w' : World) : Prop := (∃ z : Int, e = .returned (.int .i64 z) ∧ FEnd xs n k a z) ∧ Below w.heap.size w w'
theorem fRun_step {xs : List R3} {n en q : Nat} {f : Int} {fs : List Int} {T : Option (List R3)} (hT : T = fRun (f :: fs) (xs.drop en)) (h : fRun [f] (xs.drop en) = some (xs.drop (en + q))) : T = fRun fs (xs.drop (en + q)) := by
  rw [hT, show f :: fs = [f] ++ fs from rfl, fRun_app, h]; rfl
theorem fRun_fail {xs : List R3} {en : Nat} {f : Int} {fs : List Int} {T : Option (List R3)} (hT : T = fRun (f :: fs) (xs.drop en)) (h : fRun [f] (xs.drop en) = none) : T = none := by
  rw [hT, show f :: fs = [f] ++ fs from rfl, fRun_app, h]; rfl
theorem FEnd.no {xs : List R3} {n k : Nat} {a : Int} (h : fRun [a] (xs.drop k) = none) : FEnd xs n k a (-1) := .inl ⟨rfl, h⟩
theorem fFols_le {x : R3} (h : fOkN x = true) : ∀ a ∈ fFols x, a ≤ 5 := by
  have := (fOkN_iff x).1 h
  intro a ha
  unfold fFols at ha
  split at ha
  · rcases List.mem_cons.1 ha with rfl | ha
    · omega
    · have := List.eq_of_mem_replicate ha; omega
  · split at ha
    · simp at ha; omega
    · split at ha
      · simp at ha; omega
      · simp at ha

set_option maxRecDepth 100000 in
set_option maxHeartbeats 1000000 in
theorem funcEnd_any (A : Option Addr) (n c : Nat) (xs : List R3) (hl : xs.length = n) (hn : n ≤ 1048576) (N : Nat) : ∀ (k : Nat) (kk a : Int) (w : World), kk = (k : Int) → n - k < N → k ≤ n → -1 ≤ a → a ≤ 5 → Args 3 w A n (rows R3.vs xs) →
    Calls Tryz.prog 60 #[.slice A n c, .int .i64 kk, .int .i64 a] w (FEndOk xs n k a w) := by
  have HL := Lib.hid hl; clear hl
  induction N with
  | zero => intro k kk a w _ hN; omega
  | succ N ih =>
  intro k kk a w hkk hN hk ha0 ha5 hA
  subst hkk
  have IH := Lib.hid ih; clear ih
  have hk0 : (0 : Int) ≤ (k : Int) := by omega
  by_cases hlt : k < n
  rotate_left
  · have hge : (n : Int) ≤ (k : Int) := by omega
    have HF : Hid (fRun [a] (xs.drop k) = none) := by unfold Hid; rw [List.drop_of_length_le (by have := HL.out; omega), fRun_none]
    go_enter Tryz.func60, Tryz.ntmps60
    go_wp2
    go_ret
    exact ⟨⟨_, rfl, FEnd.no HF.out⟩, Below.refl _ _⟩
  obtain ⟨b, off, rfl, hs⟩ := hA.sl hlt
  obtain ⟨x, HX⟩ := hget HL hlt
  obtain ⟨p0, p1, p2⟩ := hs.rec3 HX.out
  have HD : Hid (xs.drop k = x :: xs.drop (k + 1)) := drop_at HX.out
  have hlt' : (k : Int) < (n : Int) := by omega
  by_cases hbad : 0 ≤ a ∧ x.b ≠ a
  · have e1 : (x.b != a) = true := by simpa using hbad.2
    have ha : 0 ≤ a := hbad.1
    have HF : Hid (fRun [a] (xs.drop k) = none) := by unfold Hid; rw [HD.out, fRun_bad (fun h => by rcases h.1 with h1 | h1; omega; exact hbad.2 h1)]
    clear hbad
    go_enter Tryz.func60, Tryz.ntmps60
    go_wp2
    go_ret
    exact ⟨⟨_, rfl, FEnd.no HF.out⟩, Below.refl _ _⟩
  have hgood : a < 0 ∨ x.b = a := by
    by_cases h1 : a < 0
    · exact .inl h1
    · refine .inr ?_
      by_cases h2 : x.b = a
      · exact h2
      · exact absurd ⟨by omega, h2⟩ hbad
  clear hbad
  rcases Bool.eq_false_or_eq_true (fOkN x) with hok | hok
  rotate_left
  · have HF : Hid (fRun [a] (xs.drop k) = none) := by unfold Hid; rw [HD.out, fRun_bad (fun h => by rw [hok] at h; simp at h)]
    have HOK := Lib.hid hok
    clear hok
    rcases hgood with h1 | h1
    · go_enter Tryz.func60, Tryz.ntmps60
      go_wp2_with fail
      refine (validNode_is x false HOK.out _).mono ?_
      rintro e w1 ⟨rfl, b1⟩
      go_wp2
      go_ret
      exact ⟨⟨_, rfl, FEnd.no HF.out⟩, b1⟩
    · have e1 : (x.b != a) = false := by simpa using h1
      clear h1
      by_cases h2 : a < 0
      all_goals
        go_enter Tryz.func60, Tryz.ntmps60
        go_wp2_with fail
        refine (validNode_is x false HOK.out _).mono ?_
        rintro e w1 ⟨rfl, b1⟩
        go_wp2
        go_ret
        exact ⟨⟨_, rfl, FEnd.no HF.out⟩, b1⟩
  have HOK := Lib.hid hok
  have HR0 : Hid (fRun [a] (xs.drop k) = fRun (fFols x) (xs.drop (k + 1))) := by unfold Hid; rw [HD.out, fRun_cons ⟨hgood, hok⟩, List.append_nil]
  have hm5 := fMany_le hok
  have HP := Lib.hid (fFols_pos hok)
  have HLE := Lib.hid (fFols_le hok)
  have HFL := Lib.hid (fFols_len hok)
  obtain ⟨m, hm⟩ : ∃ m, m = fMany x := ⟨_, rfl⟩
  rw [← hm] at hm5 HFL
  have HM := Lib.hid hm
  clear hok hm
  have hway : a < 0 ∨ (0 ≤ a ∧ (x.b != a) = false) := by
    rcases hgood with h1 | h1
    · exact .inl h1
    · by_cases h2 : a < 0
      · exact .inl h2
      · exact .inr ⟨by omega, by simpa using h1⟩
  clear hgood
  rcases hway with h1 | ⟨h1, h2⟩
  all_goals
    go_enter Tryz.func60, Tryz.ntmps60
    go_wp2_with fail
    refine (validNode_is x true HOK.out _).mono ?_
    rintro e w1 ⟨rfl, b1⟩
    obtain ⟨r0, r1, r2⟩ := (hs.below' b1).rec3 HX.out
    go_wp2_with fail
    refine (followers_any x HOK.out _).mono ?_
    rintro e w2 ⟨⟨A2, c2, rfl, hA2⟩, b2⟩
    rw [← HM.out] at hA2 ⊢
    have B2 := below_step b1 b2
    have ha2 := arg_args hA2
    clear r0 r1 r2 b1 b2 hA2 p0 p1 p2
    go_wp2
    go_loopw [7, 47] (fun z i wr => ∃ j en : Nat, j ≤ m ∧ i = .int .i64 j ∧ z = .int .i64 en ∧ k + 1 ≤ en ∧ en ≤ n ∧ Below w2.heap.size w2 wr ∧ Hid (fRun [a] (xs.drop k) = fRun ((fFols x).drop j) (xs.drop en))) (fun _ i _ => m - (intOf i).toNat)
    case atStart => exact ⟨0, k + 1, Nat.zero_le _, rfl, by go_num, Nat.le_refl _, by omega, Below.refl _ _, HR0.out⟩
    case round =>
      obtain ⟨j, en, hj, rfl, rfl, hen1, hen2, hB, HR⟩ := hrel
      by_cases hjm : j < m
      · obtain ⟨f, HFJ⟩ := hget HFL hjm
        obtain ⟨g, off2, rfl, hsf⟩ := (ha2.below hB).sl hjm
        have hcell := hsf.at (j := j) (u := .int .i64 f) (by rw [List.getElem?_map, HFJ.out]; rfl)
        have HRJ : Hid (fRun [a] (xs.drop k) = fRun (f :: (fFols x).drop (j + 1)) (xs.drop en)) := by unfold Hid; rw [HR.out, drop_at HFJ.out]
        have hf0 := HP.out f (List.mem_of_getElem? HFJ.out)
        have hf5 := HLE.out f (List.mem_of_getElem? HFJ.out)
        have HAW := Lib.hid (hA.below (below_step B2 hB))
        go_wp2_with fail
        refine (IH.out en en f _ rfl (by omega) hen2 (by omega) hf5 HAW.out).mono ?_
        rintro e w3 ⟨⟨z, rfl, hz⟩, b3⟩
        have B3 := below_step hB b3
        clear hcell b3
        rcases hz with ⟨rfl, hno⟩ | ⟨q, rfl, hq, hqn, hyes⟩
        · have HN := Lib.hid (fRun_fail HRJ.out hno)
          clear hno
          go_wp2
          go_ret
          exact ⟨⟨_, rfl, FEnd.no HN.out⟩, below_step B2 B3⟩
        · have HY := Lib.hid (fRun_step (n := n) HRJ.out hyes)
          clear hyes
          have hnn : ¬ (((en + q : Nat) : Int) < 0) := by omega
          go_wp2
          go_roundw
          case rel => exact ⟨j + 1, en + q, by omega, by go_num, rfl, by omega, hqn, B3, HY⟩
          case measure => simp [intOf]; omega
      · have HE : Hid (fRun [a] (xs.drop k) = some (xs.drop en)) := by unfold Hid; rw [HR.out, List.drop_of_length_le (by have := HFL.out; omega), fRun_nil]
        go_wp2
        go_ret
        refine ⟨⟨_, rfl, .inr ⟨en - k, ?_, by omega, by omega, ?_⟩⟩, below_step B2 hB⟩
        · rw [Nat.add_sub_cancel' (by omega : k ≤ en)]
        · rw [Nat.add_sub_cancel' (by omega : k ≤ en)]; exact HE.out

theorem FEnd.at0 {xs : List R3} {n : Nat} {z : Int} (hl : xs.length = n) (h : FEnd xs n 0 (-1) z) : decide (z = (n : Int)) = decide (fRun [-1] xs = some []) := by
  rcases h with ⟨rfl, h⟩ | ⟨q, rfl, h1, h2, h⟩
  · rw [List.drop_zero] at h; rw [h]; simp <;> omega
  · rw [List.drop_zero, Nat.zero_add] at h
    rw [h, Nat.zero_add]
    have : xs.drop q = [] ↔ n ≤ q := by rw [List.drop_eq_nil_iff, hl]
    rw [decide_eq_decide]
    constructor
    · intro e; rw [Option.some.injEq, this]; omega
    · intro e; rw [Option.some.injEq, this] at e; omega

theorem isFunc_is (A : Option Addr) (n c : Nat) (xs : List R3) (v : Bool) (hv : decide (fRun [-1] xs = some []) = v) (w : World) (ha : Args 3 w A n (rows R3.vs xs)) (hn : n ≤ 1048576) :
    Calls Tryz.prog 45 #[.slice A n c] w fun e w' => e = .returned (.bool v) ∧ Below w.heap.size w w' := by
  have HL : Hid (xs.length = n) := by have := ha.1; rw [rows_len R3.vs_len] at this; unfold Hid; omega
  have HV := Lib.hid hv; clear hv
  have HFE := Lib.hid (funcEnd_any A n c xs HL.out hn (n + 1) 0 0 (-1) w rfl (by omega) (Nat.zero_le _) (by omega) (by omega) ha)
  go_enter Tryz.func45, Tryz.ntmps45
  go_wp2_with fail
  refine HFE.out.mono ?_
  rintro e w1 ⟨⟨z, rfl, hz⟩, b1⟩
  have e1 : (z == (n : Int)) = v := by rw [← HV.out, ← FEnd.at0 HL.out hz]; rfl
  clear hz
  go_wp2
  go_ret
  exact ⟨rfl, b1⟩

theorem validFunc_is (A : Option Addr) (n c : Nat) (xs : List R3) (v : Bool) (hv : validF xs = v) (w : World) (ha : Args 3 w A n (rows R3.vs xs)) (hn : n ≤ 1048576) :
    Calls Tryz.prog 26 #[.slice A n c] w fun e w' => e = .returned (.bool v) ∧ Below w.heap.size w w' := by
  have HL : Hid (xs.length = n) := by have := ha.1; rw [rows_len R3.vs_len] at this; unfold Hid; omega
  rcases Bool.eq_false_or_eq_true (inB n 1 60) with h | h
  rotate_left
  · have HV : Hid (v = false) := by unfold Hid; rw [← hv, validF, HL.out, h]; rfl
    have H1 := Lib.hid h; clear h hv
    go_enter Tryz.func26, Tryz.ntmps26
    go_wp2_with fail
    refine (sizeOf_Func_any _ _ _ _).mono ?_
    rintro e w1 ⟨rfl, rfl⟩
    go_wp2_with fail
    refine (within_is _ _ _ false H1.out _).mono ?_
    rintro e w1 ⟨rfl, rfl⟩
    go_wp2
    go_ret
    exact ⟨ret_bool HV.out.symm, Below.refl _ _⟩
  have HV : Hid (decide (fRun [-1] xs = some []) = v) := by unfold Hid; rw [← hv, validF, HL.out, h]; rfl
  have H1 := Lib.hid h; clear h hv
  go_enter Tryz.func26, Tryz.ntmps26
  go_wp2_with fail
  refine (sizeOf_Func_any _ _ _ _).mono ?_
  rintro e w1 ⟨rfl, rfl⟩
  go_wp2_with fail
  refine (within_is _ _ _ true H1.out _).mono ?_
  rintro e w1 ⟨rfl, rfl⟩
  go_wp2_with fail
  refine (isFunc_is A n c xs v HV.out _ ha hn).mono ?_
  rintro e w1 ⟨rfl, b1⟩
  go_wp2
  go_ret
  exact ⟨rfl, b1⟩
end Go.Proofs.YtjggkgdojhlhpaaGreat

/- Loop programs of recursive functions, the program's side: partsAt. -/
namespace Go.Proofs.YtjggkgdojhlhpaaGreat
open Go.RowKit
set_option linter.all false

theorem infoFuncsE : (Tryz.prog.info? 27).map (fun i => (i.zero, i.size, i.bytes)) = some (some (.slice none 0 0), 1, 24) := by kernel_rfl
/-- Slices of one block that read as the parts of a function. -/
def PartsV (w : World) (b : Nat) (ps : List (List R3)) (vs : List Value) : Prop := vs.length = ps.length ∧ ∀ (i : Nat) (p : List R3), ps[i]? = some p → ∃ o c, vs[i]? = some (.slice (some ⟨b, o, none⟩) p.length c) ∧ p.length ≤ c ∧ Sl w b o (rows R3.vs p)
theorem PartsV.snoc {w : World} {b : Nat} {ps : List (List R3)} {vs : List Value} (h : PartsV w b ps vs) {p : List R3} {o c : Nat} (hc : p.length ≤ c) (hs : Sl w b o (rows R3.vs p)) : PartsV w b (ps ++ [p]) (vs ++ [.slice (some ⟨b, o, none⟩) p.length c]) := by
  refine ⟨by simp [h.1], fun i q hq => ?_⟩
  rcases Nat.lt_or_ge i ps.length with hi | hi
  · rw [List.getElem?_append_left hi] at hq
    obtain ⟨o', c', h1, h2, h3⟩ := h.2 i q hq
    exact ⟨o', c', by rw [List.getElem?_append_left (by rw [h.1]; exact hi)]; exact h1, h2, h3⟩
  · rw [List.getElem?_append_right hi] at hq
    obtain ⟨rfl, rfl⟩ : i = ps.length ∧ p = q := by
      have h0 := (List.getElem?_eq_some_iff.1 hq).1
      simp at h0
      have h2 : i = ps.length := by omega
      subst h2
      simp at hq
      exact ⟨rfl, hq⟩
    exact ⟨o, c, by rw [List.getElem?_append_right (by rw [h.1]; exact Nat.le_refl _), h.1]; simp, hc, hs⟩
theorem cut_at {M t : Nat} {l r : List R3} (ht : t < M) (h : (cut M l).drop t = cut (M - t) r) : (cut M l)[t]? = some (r.take (endL r)) ∧ (cut M l).drop (t + 1) = cut (M - (t + 1)) (r.drop (endL r)) := by
  obtain ⟨d, hd⟩ : ∃ d, M - t = d + 1 := ⟨M - t - 1, by omega⟩
  rw [hd, cut] at h
  have h1 : (cut M l)[t]? = some (r.take (endL r)) := by
    have := congrArg (fun z => z[0]?) h
    simpa [List.getElem?_drop] using this
  refine ⟨h1, ?_⟩
  rw [show M - (t + 1) = d by omega]
  have := congrArg (fun z => z.drop 1) h
  simpa [List.drop_drop, Nat.add_comm] using this
theorem sl_part {w : World} {b off k q : Nat} {T : List R3} (h : Sl w b off (rows R3.vs T)) (hk : k + q ≤ T.length) : Sl w b (off + k * 3) (rows R3.vs ((T.drop k).take q)) := by
  refine ⟨h.1, fun j u hu => ?_⟩
  have e : T = T.take k ++ ((T.drop k).take q ++ (T.drop k).drop q) := by rw [List.take_append_drop, List.take_append_drop]
  have h2 : (rows R3.vs T)[k * 3 + j]? = some u := by
    rw [e, rows_app, List.getElem?_append_right (by rw [rows_len R3.vs_len, List.length_take]; omega), rows_len R3.vs_len, List.length_take, Nat.min_eq_left (by omega), rows_app, List.getElem?_append_left]
    · rw [show k * 3 + j - k * 3 = j by omega]; exact hu
    · have := (List.getElem?_eq_some_iff.1 hu).1; omega
  have := h.at h2
  rw [← Nat.add_assoc] at this
  exact this

theorem funcEnd_wild (b off n c : Nat) (T : List R3) (hl : T.length = n) (hn : n ≤ 1048576) (k : Nat) (a : Int) (st : List Int) (h : fRun (a :: st) (T.drop k) = some []) (hk : k ≤ n) (w : World) (hs : Sl w b off (rows R3.vs T)) (q : Nat) (hq : q = endL (T.drop k)) :
    Calls Tryz.prog 60 #[.slice (some ⟨b, off, none⟩) n c, .int .i64 (k : Int), .int .i64 (-1)] w fun e w' => e = .returned (.int .i64 ((k + q : Nat) : Int)) ∧ Below w.heap.size w w' := by
  obtain ⟨h1, h2, h3, h4, h5, h6⟩ := fRun_one h
  refine (funcEnd_any (some ⟨b, off, none⟩) n c T hl hn (n + 1) k k (-1) w rfl (by omega) hk (by omega) (by omega) (Args.of_sl hs (by rw [rows_len R3.vs_len, hl]))).mono ?_
  rintro e w' ⟨⟨z, rfl, hz⟩, hb⟩
  refine ⟨?_, hb⟩
  have hw := fRun_wild h4
  rcases hz with ⟨_, h0⟩ | ⟨q', rfl, _, hq2, h0⟩
  · rw [h0] at hw; cases hw
  · rw [h0] at hw
    injection hw with hw
    have hlen := congrArg List.length hw
    rw [List.drop_drop, List.length_drop, List.length_drop] at hlen
    rw [List.length_drop] at h1
    have : q' = q := by rw [hq]; omega
    rw [this]

set_option maxRecDepth 100000 in
set_option maxHeartbeats 1000000 in
theorem partsAt_any (b off n c : Nat) (T : List R3) (x : R3) (l : List R3) (hT : T = x :: l) (hl : T.length = n) (hn60 : n ≤ 60) (hc : n ≤ c) (hok : fOkN x = true) (hrun : fRun (fFols x) l = some []) (w : World) (hs : Sl w b off (rows R3.vs T)) :
    Calls Tryz.prog 78 #[.slice (some ⟨b, off, none⟩) n c, .int .i64 0] w fun e w' => ∃ v vs, e = .returned v ∧ w'.ownsRow w.heap.size 27 1 v (fMany x) vs ∧ PartsV w b (cut (fMany x) l) vs ∧ Below w.heap.size w w' := by
  have HL := Lib.hid hl
  have hfl := fFols_len hok
  have hM := fMany_le hok
  have hx0 : T[0]? = some x := by rw [hT]; rfl
  have hd1 : T.drop 1 = l := by rw [hT]; rfl
  have hn1 : 0 < n := by rw [← hl, hT]; simp
  have HF := Lib.hid (followers_any x hok)
  obtain ⟨M, hMM⟩ : ∃ M, M = fMany x := ⟨_, rfl⟩
  rw [← hMM] at hfl hM ⊢
  obtain ⟨p0, p1, p2⟩ := hs.rec3 hx0
  rw [Nat.zero_mul, Nat.add_zero] at p0 p1 p2
  have HFO : Hid (∀ W, Calls Tryz.prog 77 #[.agg #[.int .i64 x.a, .int .i64 x.b, .int .i64 x.c]] W fun e w' => (∃ A c', e = .returned (.slice A M c')) ∧ Below W.heap.size W w') := by
    intro W
    refine (followers_any x hok W).mono ?_
    rintro e w' ⟨⟨A, c', rfl, _⟩, hb⟩
    exact ⟨⟨A, c', by rw [hMM]⟩, hb⟩
  have HR := Lib.hid hrun
  have HD := Lib.hid hd1
  have HFL := Lib.hid hfl
  have B0 := laid_below w (.cells #[] 27)
  have own0 := own_empty w 27 1
  have q0 := cell_step (by exact p0) B0
  have q1 := cell_step (by exact p1) B0
  have q2 := cell_step (by exact p2) B0
  have hn1' : (0 : Int) < (n : Int) := by omega
  clear hT hl hfl hd1 hx0 HF hrun hMM hok p0 p1 p2
  go_enter Tryz.func78, Tryz.ntmps78
  go_wp2_with fail
  refine (HFO.out _).mono ?_
  rintro e w1 ⟨⟨A, c', rfl⟩, b1⟩
  have own1 := own_below' own0 b1
  have B1 := below_step B0 b1
  clear q0 q1 q2 own0 B0 b1
  go_wp2_with fail
  go_loopw [5, 6, 17] (fun vo kf i wr => ∃ t k : Nat, t ≤ M ∧ k ≤ n ∧ i = .int .i64 (t : Nat) ∧ kf = .int .i64 (k : Nat) ∧ Hid (fRun ((fFols x).drop t) (T.drop k) = some []) ∧ Hid ((cut M l).drop t = cut (M - t) (T.drop k)) ∧ (∃ A c vs, vo = .slice A t c ∧ Hid (wr.ownsRow w.heap.size 27 1 (.slice A t c) t vs) ∧ Hid (PartsV w b ((cut M l).take t) vs)) ∧ Below w.heap.size w wr) (fun _ _ i _ => M - (intOf i).toNat)
  case atStart => exact ⟨0, 1, by omega, by omega, rfl, rfl, by unfold Hid; rw [List.drop_zero, HD.out]; exact HR.out, by unfold Hid; rw [List.drop_zero, HD.out]; rfl, ⟨_, _, _, rfl, own1, ⟨rfl, by simp⟩⟩, B1⟩
  case round =>
    obtain ⟨t, k, ht, hk, rfl, rfl, HRR, HCC, ⟨A2, c2, vs, rfl, ho, HPV⟩, hB⟩ := hrel
    clear own1 B1
    by_cases hlt : t < M
    · obtain ⟨a, ha⟩ : ∃ a, (fFols x)[t]? = some a := ⟨_, List.getElem?_eq_getElem (by rw [HFL.out]; exact hlt)⟩
      have hr := HRR.out
      rw [drop_at ha] at hr
      obtain ⟨h1, h2, h3, h4, h5, h6⟩ := fRun_one hr
      obtain ⟨hc1, hc2⟩ := cut_at hlt HCC.out
      obtain ⟨q, hq⟩ : ∃ q, q = endL (T.drop k) := ⟨_, rfl⟩
      have HE := Lib.hid (fun W (hW : Below w.heap.size w W) => funcEnd_wild b off n c T HL.out (by omega) k a _ hr hk W (hs.below' hW) q hq)
      rw [← hq] at h1 h2 h6 hc1 hc2
      rw [List.length_drop, HL.out] at h1
      obtain ⟨o', ho', hsl⟩ := run_slice_part (P := Tryz.prog) 27 35 Tryz.underlying27 infoFunc b off n c k q (k : Int) ((k + q : Nat) : Int) rfl rfl (by omega)
      have ho2 : o' = off + k * 3 := by omega
      have hpl : ((T.drop k).take q).length = q := by rw [List.length_take, List.length_drop, HL.out]; omega
      have HPV' : Hid (PartsV w b ((cut M l).take (t + 1)) (vs ++ [.slice (some ⟨b, o', none⟩) q (c - k)])) := by
        have := HPV.out.snoc (p := (T.drop k).take q) (o := off + k * 3) (c := c - k) (by omega) (sl_part hs (by rw [HL.out]; omega))
        rw [hpl] at this
        unfold Hid; rw [List.take_add_one, hc1, ho2]; exact this
      have HRR' : Hid (fRun ((fFols x).drop (t + 1)) (T.drop (k + q)) = some []) := by unfold Hid; rw [List.drop_drop] at h6; exact h6
      have HCC' : Hid ((cut M l).drop (t + 1) = cut (M - (t + 1)) (T.drop (k + q))) := by unfold Hid; rw [List.drop_drop] at hc2; exact hc2
      have hkq : k + q ≤ n := by omega
      clear h1 h2 h3 h4 h5 h6 hc1 hc2 hq hr ha ho' ho2 hpl HRR HCC HPV
      obtain ⟨kq, hkq'⟩ : ∃ kq, kq = k + q := ⟨_, rfl⟩
      rw [← hkq'] at HE HRR' HCC' hkq hsl
      have h1i : (k : Int) ≤ (kq : Int) := by omega
      have h2i : (kq : Int) ≤ (c : Int) := by omega
      clear hkq'
      go_wp2_with fail
      refine (HE.out _ hB).mono ?_
      rintro e w2 ⟨rfl, b2⟩
      have ob := own_below' ho.out b2
      have B2 := below_step hB b2
      go_wp2_with (at_builtin; refine wpList_app rfl _ _ _ rfl Tryz.underlying113 infoFuncsE rfl (by omega) w w2 ob B2 rfl 1 #[.slice (some ⟨b, o', none⟩) q (c - k)] rfl (laid_below _ _) (heap_alloc_new _ _) rfl (by simp [Value.oneCell']) (by omega) (by unfold maxLen; omega) (by omega) ?_; intro g cap w3 own3 B3)
      go_roundw
      case rel => exact ⟨t + 1, kq, hlt, hkq, by go_num, rfl, HRR', HCC', ⟨_, _, _, rfl, own3, HPV'⟩, B3⟩
      case measure => simp [intOf]; omega
    · obtain rfl : t = M := by omega
      have HPV' : Hid (PartsV w b (cut t l) vs) := by have := HPV.out; rw [List.take_of_length_le (by rw [cut_len]; exact Nat.le_refl _)] at this; exact this
      go_wp2
      go_ret
      exact ⟨_, _, rfl, ho.out, HPV'.out, hB⟩
end Go.Proofs.YtjggkgdojhlhpaaGreat
