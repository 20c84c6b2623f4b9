/- The law FnExactReadLoop returns true for every input, and each argument reads afterwards as before: the proof, part 2. No conditions. -/
import Derived.Test.YtgcedfpjgdeakaaDoorReadLoopZa
import Derived.Deep.DrawnRows
import Derived.Lib.Join
import Derived.Lib.ItoaNum
import Derived.Lib.SlicesCompact
import Derived.StillTailTactics
import Derived.Sort.Grow
import Derived.Lib.RowBridge
/- Loop programs: which are valid. Contracts of isVariable, isLoop, validLoops, ValidLoop and of the reference's l17Var, l17IsLoop, l17Part, l17Is, ValidLoop. -/
namespace Go.Proofs.YtgcedfpjgdeakaaDoor
open Go.RowKit
set_option linter.all false

def isLp (x : R3) : Bool := decide (x.a = 3) || decide (x.a = 4)
/-- A loop program is valid, d more bodies may lie one in another. -/
def vl (d : Nat) : List R3 → Bool
  | [] => true
  | x :: l => inB x.b 0 15 && (if isLp x then decide (0 < d) && inB x.c 0 l.length && vl (d - 1) (l.take x.c.toNat) && vl d (l.drop x.c.toNat)
      else if x.a = 2 then inB x.c 0 15 && vl d l else (decide (x.a = 0) || decide (x.a = 1)) && decide (x.c = 0) && vl d l)
  termination_by l => l.length
  decreasing_by all_goals simp_wf; try omega
theorem vl_nil (d : Nat) : vl d [] = true := by rw [vl]
theorem vl_cons (d : Nat) (x : R3) (l : List R3) : vl d (x :: l) = (inB x.b 0 15 && (if isLp x then decide (0 < d) && inB x.c 0 l.length && vl (d - 1) (l.take x.c.toNat) && vl d (l.drop x.c.toNat)
      else if x.a = 2 then inB x.c 0 15 && vl d l else (decide (x.a = 0) || decide (x.a = 1)) && decide (x.c = 0) && vl d l)) := by rw [vl]
def validL (xs : List R3) : Bool := decide (xs.length ≤ 150) && vl 7 xs

theorem isVariable_is (n : Int) (v : Bool) (h : inB n 0 15 = v) (w : World) : Calls Tryd.prog 75 #[.int .i64 n] w fun e w' => e = .returned (.bool v) ∧ w = w' := by
  go_enter Tryd.func75, Tryd.ntmps75
  go_wp2_with (go_at_call 56; refine (within_is _ _ _ v h _).mono ?_; rintro e w' ⟨rfl, rfl⟩)
  go_ret
  exact ⟨rfl, rfl⟩
theorem l17Var_is (n : Int) (v : Bool) (h : inB n 0 15 = v) (w : World) : Calls Tryd.prog 94 #[.int .i64 n] w fun e w' => e = .returned (.bool v) ∧ w = w' := by
  go_enter Tryd.func94, Tryd.ntmps94
  go_wp2_with (go_at_call 46; refine (l00In_is _ _ _ v h _).mono ?_; rintro e w' ⟨rfl, rfl⟩)
  go_ret
  exact ⟨rfl, rfl⟩

theorem isLoop_is (x : R3) (v : Bool) (h : isLp x = v) (w : World) : Calls Tryd.prog 76 #[.agg #[.int .i64 x.a, .int .i64 x.b, .int .i64 x.c]] w fun e w' => e = .returned (.bool v) ∧ Below w.heap.size w w' := by
  subst h
  obtain ⟨a, b, c⟩ := x
  have h0 : Below w.heap.size w (w.alloc (.cells #[.int .i64 a, .int .i64 b, .int .i64 c] 54)) := (Below.refl _ _).alloc (Nat.le_refl _) _
  by_cases h3 : a = 3
  · subst h3
    go_enter Tryd.func76, Tryd.ntmps76
    go_wp2
    go_ret
    exact ⟨rfl, h0⟩
  · by_cases h4 : a = 4
    · subst h4
      go_enter Tryd.func76, Tryd.ntmps76
      go_wp2
      go_ret
      exact ⟨rfl, h0⟩
    · have e3 : (a == 3) = false := by simpa using h3
      have e4 : (a == 4) = false := by simpa using h4
      go_enter Tryd.func76, Tryd.ntmps76
      go_wp2
      go_ret
      exact ⟨ret_bool (by simp [isLp, h3, h4]), h0⟩

theorem l17IsLoop_is (x : R3) (v : Bool) (h : isLp x = v) (g o : Nat) (w : World) (hc : w.cell? ⟨g, o, none⟩ = some (.int .i64 x.a)) : Calls Tryd.prog 95 #[.pointer (some ⟨g, o, none⟩)] w fun e w' => e = .returned (.bool v) ∧ w = w' := by
  subst h
  obtain ⟨a, b, c⟩ := x
  by_cases h3 : a = 3
  · subst h3
    go_enter Tryd.func95, Tryd.ntmps95
    go_wp2
    go_ret
    exact ⟨rfl, rfl⟩
  · by_cases h4 : a = 4
    · subst h4
      go_enter Tryd.func95, Tryd.ntmps95
      go_wp2
      go_ret
      exact ⟨rfl, rfl⟩
    · have e3 : (a == 3) = false := by simpa using h3
      have e4 : (a == 4) = false := by simpa using h4
      go_enter Tryd.func95, Tryd.ntmps95
      go_wp2
      go_ret
      exact ⟨ret_bool (by simp [isLp, h3, h4]), rfl⟩

theorem vl_no1 {d : Nat} {x : R3} {l : List R3} (h : inB x.b 0 15 = false) : vl d (x :: l) = false := by rw [vl_cons, h]; rfl
theorem vl_lp {d : Nat} {x : R3} {l : List R3} (h : inB x.b 0 15 = true) (h2 : isLp x = true) : vl d (x :: l) = (decide (0 < d) && inB x.c 0 l.length && vl (d - 1) (l.take x.c.toNat) && vl d (l.drop x.c.toNat)) := by
  rw [vl_cons, h, h2]; simp
theorem vl_cp {d : Nat} {x : R3} {l : List R3} (h : inB x.b 0 15 = true) (h2 : isLp x = false) (h3 : x.a = 2) : vl d (x :: l) = (inB x.c 0 15 && vl d l) := by
  rw [vl_cons, h, h2]; simp [h3]
theorem vl_el {d : Nat} {x : R3} {l : List R3} (h : inB x.b 0 15 = true) (h2 : isLp x = false) (h3 : x.a ≠ 2) : vl d (x :: l) = ((decide (x.a = 0) || decide (x.a = 1)) && decide (x.c = 0) && vl d l) := by
  rw [vl_cons, h, h2]; simp [h3]

set_option maxRecDepth 100000 in
set_option maxHeartbeats 1000000 in
theorem validLoops_any (d : Nat) : ∀ (A : Option Addr) (n c : Nat) (t : Int) (xs : List R3) (w : World) (ha : Args 3 w A n (rows R3.vs xs)) (hn : n ≤ 1048576) (hc : n ≤ c) (ht : t + d = 7) (ht0 : 0 ≤ t),
    Calls Tryd.prog 39 #[.slice A n c, .int .i64 t] w fun e w' => e = .returned (.bool (vl d xs)) ∧ Below w.heap.size w w' := by
  induction d using Nat.strongRecOn with
  | ind d ih =>
  intro A n c t xs w ha hn hc ht ht0
  have HT := Lib.hid ht; clear ht
  have IH := Lib.hid ih; clear ih
  have HL : Hid (xs.length = n) := by have := ha.1; rw [rows_len R3.vs_len] at this; unfold Hid; omega
  go_enter Tryd.func39, Tryd.ntmps39
  go_wp2
  go_loopw [5] (fun i wr => ∃ k : Nat, k ≤ n ∧ i = .int .i64 k ∧ Below w.heap.size w wr ∧ Hid (vl d xs = vl d (xs.drop k))) (fun i _ => n - (intOf i).toNat)
  case atStart => exact ⟨0, Nat.zero_le _, rfl, Below.refl _ _, rfl⟩
  case round =>
    obtain ⟨k, hk, rfl, hB, HV⟩ := hrel
    by_cases hlt : k < n
    · obtain ⟨b, off, rfl, hs⟩ := ha.sl hlt
      obtain ⟨x, HX⟩ := hget HL hlt
      have HV1 := Lib.hid (HV.out.trans (congrArg (vl d) (drop_at HX.out)))
      obtain ⟨p0, p1, p2⟩ := (hs.below' hB).rec3 HX.out
      have HR : Hid ((xs.drop (k + 1)).length = n - k - 1) := by have := HL.out; unfold Hid; rw [List.length_drop]; omega
      rcases Bool.eq_false_or_eq_true (inB x.b 0 15) with hv | hv
      · have HA := Lib.hid hv; clear hv
        go_wp2_with fail
        refine (isVariable_is _ true HA.out _).mono ?_
        rintro e w1 ⟨rfl, hw⟩
        obtain ⟨c0, c1, c2, hb1⟩ := alloc3 hw
        have hB1 := below_step hB hb1
        clear hw p0 p1 p2 hb1
        rcases Bool.eq_false_or_eq_true (isLp x) with hv | hv
        · have HI := Lib.hid hv; clear hv
          go_wp2_with fail
          refine (isLoop_is x true HI.out _).mono ?_
          rintro e w2 ⟨rfl, hb2⟩
          have d0 := cell_step c0 hb2
          have d2 := cell_step c2 hb2
          have hB2 := below_step hB1 hb2
          clear c0 c1 c2 hb2
          have HV2 := Lib.hid (HV1.out.trans (vl_lp HA.out HI.out)); 
          by_cases hd0 : d = 0
          · have ht7 : 7 ≤ t := by have := HT.out; omega
            subst hd0
            go_wp2
            go_ret
            exact ⟨ret_bool (by rw [HV2.out]; simp), hB2⟩
          · have ht7 : t < 7 := by have := HT.out; omega
            rcases Bool.eq_false_or_eq_true (inB x.c 0 ((n : Int) - k - 1)) with hv | hv
            · have HC := Lib.hid hv
              obtain ⟨xa, xb, xc⟩ := x
              obtain ⟨hc1, hc2⟩ := (inB_iff _ _ _).1 hv
              clear hv
              obtain ⟨m, hm⟩ : ∃ m : Nat, xc = m := ⟨xc.toNat, by simp at hc1; omega⟩
              subst hm
              simp only at hc1 hc2 d2 d0
              have hkm : k + 1 + m ≤ n := by omega
              go_wp2_with fail
              refine (within_is _ _ _ true HC.out _).mono ?_
              rintro e w3 ⟨rfl, rfl⟩
              obtain ⟨o', ho', hsl⟩ := run_slice_part (P := Tryd.prog) 22 54 Tryd.underlying22 infoLoop b off n c (k + 1) m ((k : Int) + 1) ((k : Int) + 1 + m) (by omega) (by omega) (by omega)
              have HS := Lib.hid (args_part R3.vs_len (hs.below' hB2) (k + 1) m ho' (by have := HL.out; omega))
              clear ho'
              have HD : Hid (t + 1 + ((d - 1 : Nat) : Int) = 7) := by have := HT.out; unfold Hid; omega
              have HV3 : Hid (vl d xs = (vl (d - 1) ((xs.drop (k + 1)).take m) && vl d (xs.drop (k + 1 + m)))) := by
                unfold Hid
                have h5 := HC.out
                rw [HV2.out, HR.out]
                rw [show ((n - k - 1 : Nat) : Int) = (n : Int) - k - 1 by omega, h5, decide_eq_true (show 0 < d by omega), Bool.true_and, Bool.true_and, Int.toNat_natCast, List.drop_drop]
              rcases Bool.eq_false_or_eq_true (vl (d - 1) ((xs.drop (k + 1)).take m)) with hv | hv
              · have HW := Lib.hid hv; clear hv
                go_wp2_with fail
                · refine (IH.out (d - 1) (by omega) _ m _ (t + 1) ((xs.drop (k + 1)).take m) _ HS.out (by omega) (by omega) HD.out (by omega)).mono ?_
                  rintro e w3 ⟨he, hb3⟩
                  clear hsl
                  rw [HW.out] at he
                  subst he
                  have e2 := cell_step d2 hb3
                  have hB3 := below_step hB2 hb3
                  clear hb3
                  go_wp2
                  go_roundw
                  case rel => exact ⟨k + 1 + m, by omega, by go_num, hB3, by unfold Hid; rw [HV3.out, HW.out, Bool.true_and]⟩
                  case measure => simp [intOf]; omega
              · have HW := Lib.hid hv; clear hv
                go_wp2_with fail
                · refine (IH.out (d - 1) (by omega) _ m _ (t + 1) ((xs.drop (k + 1)).take m) _ HS.out (by omega) (by omega) HD.out (by omega)).mono ?_
                  rintro e w3 ⟨he, hb3⟩
                  clear hsl
                  rw [HW.out] at he
                  subst he
                  have hB3 := below_step hB2 hb3
                  clear hb3
                  go_wp2
                  go_ret
                  exact ⟨ret_bool (by rw [HV3.out, HW.out, Bool.false_and]), hB3⟩
            · have HC := Lib.hid hv; clear hv
              go_wp2_with fail
              refine (within_is _ _ _ false HC.out _).mono ?_
              rintro e w3 ⟨rfl, rfl⟩
              go_wp2
              go_ret
              refine ⟨ret_bool ?_, hB2⟩
              rw [HV2.out, HR.out]
              have := HC.out
              rw [show ((n - k - 1 : Nat) : Int) = (n : Int) - k - 1 by omega, this]
              simp
        · have HI := Lib.hid hv; clear hv
          go_wp2_with fail
          refine (isLoop_is x false HI.out _).mono ?_
          rintro e w2 ⟨rfl, hb2⟩
          have d0 := cell_step c0 hb2
          have d2 := cell_step c2 hb2
          have hB2 := below_step hB1 hb2
          clear c0 c1 c2 hb2
          by_cases h2 : x.a = 2
          · have HV2 := Lib.hid (HV1.out.trans (vl_cp HA.out HI.out h2))
            rw [h2] at d0
            clear h2
            rcases Bool.eq_false_or_eq_true (inB x.c 0 15) with hv | hv
            · have HC := Lib.hid hv; clear hv
              go_wp2_with fail
              refine (isVariable_is _ true HC.out _).mono ?_
              rintro e w3 ⟨rfl, rfl⟩
              go_wp2
              go_roundw
              case rel => exact ⟨k + 1, by omega, by go_num, hB2, by unfold Hid; rw [HV2.out, HC.out, Bool.true_and]⟩
              case measure => simp [intOf]; omega
            · have HC := Lib.hid hv; clear hv
              go_wp2_with fail
              refine (isVariable_is _ false HC.out _).mono ?_
              rintro e w3 ⟨rfl, rfl⟩
              go_wp2
              go_ret
              exact ⟨ret_bool (by rw [HV2.out, HC.out, Bool.false_and]), hB2⟩
          · have HV2 := Lib.hid (HV1.out.trans (vl_el HA.out HI.out h2))
            have e2 : (x.a == 2) = false := by simpa using h2
            by_cases hc0 : x.c = 0
            · have ec : (x.c != 0) = false := by simpa using hc0
              have HC := Lib.hid hc0; clear hc0
              by_cases ha0 : x.a = 0
              · rw [ha0] at d0
                clear e2 h2
                have HA0 := Lib.hid ha0; clear ha0
                go_wp2
                go_roundw
                case rel => exact ⟨k + 1, by omega, by go_num, hB2, by unfold Hid; rw [HV2.out, HC.out, HA0.out]; simp⟩
                case measure => simp [intOf]; omega
              · by_cases ha1 : x.a = 1
                · rw [ha1] at d0
                  clear e2 h2 ha0
                  have HA0 := Lib.hid ha1; clear ha1
                  go_wp2
                  go_roundw
                  case rel => exact ⟨k + 1, by omega, by go_num, hB2, by unfold Hid; rw [HV2.out, HC.out, HA0.out]; simp⟩
                  case measure => simp [intOf]; omega
                · have e0 : (x.a != 0) = true := by simpa using ha0
                  have e1 : (x.a != 1) = true := by simpa using ha1
                  have HF : Hid ((decide (x.a = 0) || decide (x.a = 1)) = false) := by unfold Hid; simp [ha0, ha1]
                  clear ha0 ha1 h2
                  go_wp2
                  go_ret
                  exact ⟨ret_bool (by rw [HV2.out, HF.out]; simp), hB2⟩
            · have ec : (x.c != 0) = true := by simpa using hc0
              have HC : Hid (decide (x.c = 0) = false) := by unfold Hid; simp [hc0]
              clear hc0
              by_cases ha0 : x.a = 0
              · have e0 : (x.a != 0) = false := by simpa using ha0
                clear h2 ha0
                go_wp2
                go_ret
                exact ⟨ret_bool (by rw [HV2.out, HC.out]; simp), hB2⟩
              · have e0 : (x.a != 0) = true := by simpa using ha0
                by_cases ha1 : x.a = 1
                · have e1 : (x.a != 1) = false := by simpa using ha1
                  clear h2 ha0 ha1
                  go_wp2
                  go_ret
                  exact ⟨ret_bool (by rw [HV2.out, HC.out]; simp), hB2⟩
                · have e1 : (x.a != 1) = true := by simpa using ha1
                  clear h2 ha0 ha1
                  go_wp2
                  go_ret
                  exact ⟨ret_bool (by rw [HV2.out, HC.out]; simp), hB2⟩
      · have HA := Lib.hid hv; clear hv
        go_wp2_with fail
        refine (isVariable_is _ false HA.out _).mono ?_
        rintro e w1 ⟨rfl, hw⟩
        obtain ⟨c0, c1, c2, hb1⟩ := alloc3 hw
        have hB1 := below_step hB hb1
        clear hw p0 p1 p2 hb1
        go_wp2
        go_ret
        exact ⟨ret_bool (by rw [HV1.out, vl_no1 HA.out]), hB1⟩
    · go_wp2
      go_ret
      exact ⟨ret_bool (by rw [HV.out, List.drop_of_length_le (by have := HL.out; omega), vl_nil]), hB⟩

/-- The part from i up to t. -/
def seg {α : Type} (xs : List α) (i t : Nat) : List α := (xs.drop i).take (t - i)
theorem seg_at {α : Type} {xs : List α} {i t : Nat} {x : α} (h : xs[i]? = some x) (hit : i < t) : seg xs i t = x :: seg xs (i + 1) t := by
  unfold seg
  rw [drop_at h, show t - i = (t - (i + 1)) + 1 by omega, List.take_succ_cons]
theorem seg_len {α : Type} {xs : List α} {i t : Nat} (h : t ≤ xs.length) : (seg xs i t).length = t - i := by
  unfold seg; rw [List.length_take, List.length_drop]; omega
theorem seg_end {α : Type} {xs : List α} {i t : Nat} (h : t ≤ i) : seg xs i t = [] := by
  unfold seg; rw [show t - i = 0 by omega, List.take_zero]
theorem seg_all {α : Type} (xs : List α) : seg xs 0 xs.length = xs := by simp [seg]
theorem seg_take {α : Type} (xs : List α) (i t m : Nat) (h : i + m ≤ t) : (seg xs i t).take m = seg xs i (i + m) := by
  unfold seg; rw [List.take_take, show i + m - i = m by omega, Nat.min_eq_left (by omega)]
theorem seg_drop {α : Type} (xs : List α) (i t m : Nat) : (seg xs i t).drop m = seg xs (i + m) t := by
  unfold seg; rw [List.drop_take, List.drop_drop, show t - i - m = t - (i + m) by omega]
theorem vl_bad {d : Nat} {x : R3} {l : List R3} (h : inB x.a 0 4 = false) : vl d (x :: l) = false := by
  rw [inB_false] at h
  rw [vl_cons]
  have h1 : isLp x = false := by unfold isLp; simp; omega
  rw [h1]
  simp [show ¬ x.a = 2 by omega, show ¬ x.a = 0 by omega, show ¬ x.a = 1 by omega]

set_option maxRecDepth 100000 in
set_option maxHeartbeats 1000000 in
theorem l17Part_any (d : Nat) : ∀ (A : Option Addr) (n c fr to : Nat) (t : Int) (xs : List R3) (w : World) (ha : Args 3 w A n (rows R3.vs xs)) (hn : n ≤ 1048576) (hft : fr ≤ to) (hto : to ≤ n) (ht : t + d = 7) (ht0 : 0 ≤ t),
    Calls Tryd.prog 69 #[.slice A n c, .int .i64 fr, .int .i64 to, .int .i64 t] w fun e w' => e = .returned (.bool (vl d (seg xs fr to))) ∧ Below w.heap.size w w' := by
  induction d using Nat.strongRecOn with
  | ind d ih =>
  intro A n c fr to t xs w ha hn hft hto ht ht0
  have HT := Lib.hid ht; clear ht
  have IH := Lib.hid ih; clear ih
  have HL : Hid (xs.length = n) := by have := ha.1; rw [rows_len R3.vs_len] at this; unfold Hid; omega
  go_enter Tryd.func69, Tryd.ntmps69
  go_wp2
  go_loopw [9] (fun i wr => ∃ k : Nat, fr ≤ k ∧ k ≤ to ∧ i = .int .i64 k ∧ Below w.heap.size w wr ∧ Hid (vl d (seg xs fr to) = vl d (seg xs k to))) (fun i _ => to - (intOf i).toNat)
  case atStart => exact ⟨fr, Nat.le_refl _, hft, rfl, Below.refl _ _, rfl⟩
  case round =>
    obtain ⟨k, hfk, hk, rfl, hB, HV⟩ := hrel
    by_cases hlt : k < to
    · obtain ⟨b, off, rfl, hs⟩ := ha.sl (k := k) (by omega)
      obtain ⟨x, HX⟩ := hget (k := k) HL (by omega)
      have HV1 := Lib.hid (HV.out.trans (congrArg (vl d) (seg_at HX.out hlt)))
      obtain ⟨p0, p1, p2⟩ := (hs.below' hB).rec3 HX.out
      have HR : Hid ((seg xs (k + 1) to).length = to - k - 1) := by have := HL.out; unfold Hid; rw [seg_len (by omega)]; omega
      have hkn : k < n := by omega
      rcases Bool.eq_false_or_eq_true (inB x.a 0 4) with hv | hv
      rotate_left
      · have HK := Lib.hid hv; clear hv
        go_wp2_with fail
        refine (l00In_is _ _ _ false HK.out _).mono ?_
        rintro e w1 ⟨rfl, hw⟩
        obtain ⟨c0, c1, c2, hb1⟩ := alloc3 hw
        have hB1 := below_step hB hb1
        clear hw p0 p1 p2 hb1
        go_wp2
        go_ret
        exact ⟨ret_bool (by rw [HV1.out, vl_bad HK.out]), hB1⟩
      have HK := Lib.hid hv; clear hv
      rcases Bool.eq_false_or_eq_true (inB x.b 0 15) with hv | hv
      rotate_left
      · have HA := Lib.hid hv; clear hv
        go_wp2_with fail
        refine (l00In_is _ _ _ true HK.out _).mono ?_
        rintro e w1 ⟨rfl, hw⟩
        obtain ⟨c0, c1, c2, hb1⟩ := alloc3 hw
        have hB1 := below_step hB hb1
        clear hw p0 p1 p2 hb1
        go_wp2_with fail
        refine (l17Var_is _ false HA.out _).mono ?_
        rintro e w2 ⟨rfl, rfl⟩
        go_wp2
        go_ret
        exact ⟨ret_bool (by rw [HV1.out, vl_no1 HA.out]), hB1⟩
      have HA := Lib.hid hv; clear hv
      go_wp2_with fail
      refine (l00In_is _ _ _ true HK.out _).mono ?_
      rintro e w1 ⟨rfl, hw⟩
      obtain ⟨c0, c1, c2, hb1⟩ := alloc3 hw
      have hB1 := below_step hB hb1
      clear hw p0 p1 p2 hb1
      go_wp2_with fail
      refine (l17Var_is _ true HA.out _).mono ?_
      rintro e w2 ⟨rfl, rfl⟩
      by_cases h2 : x.a = 2
      · have HI : Hid (isLp x = false) := by unfold Hid isLp; simp [h2]
        have HV2 := Lib.hid (HV1.out.trans (vl_cp HA.out HI.out h2))
        rw [h2] at c0
        have H2 := Lib.hid h2; clear h2
        rcases Bool.eq_false_or_eq_true (inB x.c 0 15) with hv | hv
        · have HC := Lib.hid hv; clear hv
          go_wp2_with fail
          refine (l17Var_is _ true HC.out _).mono ?_
          rintro e w3 ⟨rfl, rfl⟩
          go_wp2_with fail
          refine (l17IsLoop_is x false HI.out _ _ _ (by rw [H2.out]; exact c0)).mono ?_
          rintro e w3 ⟨rfl, rfl⟩
          go_wp2
          go_roundw
          case rel => exact ⟨k + 1, by omega, by omega, by go_num, hB1, by unfold Hid; rw [HV2.out, HC.out, Bool.true_and]⟩
          case measure => simp [intOf]; omega
        · have HC := Lib.hid hv; clear hv
          go_wp2_with fail
          refine (l17Var_is _ false HC.out _).mono ?_
          rintro e w3 ⟨rfl, rfl⟩
          go_wp2
          go_ret
          exact ⟨ret_bool (by rw [HV2.out, HC.out, Bool.false_and]), hB1⟩
      · rcases Bool.eq_false_or_eq_true (isLp x) with hv | hv
        · have HI := Lib.hid hv
          have HV2 := Lib.hid (HV1.out.trans (vl_lp HA.out HI.out))
          have h34 : 3 ≤ x.a := by unfold isLp at hv; simp at hv; omega
          have e2 : (x.a == 2) = false := by simpa using h2
          have e3 : ¬ x.a < 2 := by omega
          clear hv h2
          by_cases hd0 : d = 0
          · have ht7 : 7 ≤ t := by have := HT.out; omega
            have HD := Lib.hid hd0; clear hd0
            go_wp2_with fail
            refine (l17IsLoop_is x true HI.out _ _ _ c0).mono ?_
            rintro e w3 ⟨rfl, rfl⟩
            go_wp2
            go_ret
            exact ⟨ret_bool (by rw [HV2.out, HD.out]; simp), hB1⟩
          · have ht7 : t < 7 := by have := HT.out; omega
            rcases Bool.eq_false_or_eq_true (inB x.c 0 ((to : Int) - k - 1)) with hv | hv
            · have HC := Lib.hid hv
              obtain ⟨hc1, hc2⟩ := (inB_iff _ _ _).1 hv
              clear hv
              obtain ⟨m, hm⟩ : ∃ m : Nat, x.c = m := ⟨x.c.toNat, by omega⟩
              rw [hm] at c2 hc1 hc2
              have HM := Lib.hid hm; clear hm
              have hkm : k + 1 + m ≤ to := by omega
              go_wp2_with fail
              refine (l17IsLoop_is x true HI.out _ _ _ c0).mono ?_
              rintro e w3 ⟨rfl, rfl⟩
              go_wp2_with fail
              refine (l00In_is _ _ _ true (by rw [← HM.out]; exact HC.out) _).mono ?_
              rintro e w3 ⟨rfl, rfl⟩
              have HS := Lib.hid (ha.below hB1)
              have HD : Hid (t + 1 + ((d - 1 : Nat) : Int) = 7) := by have := HT.out; unfold Hid; omega
              have HV3 : Hid (vl d (seg xs fr to) = (vl (d - 1) (seg xs (k + 1) (k + 1 + m)) && vl d (seg xs (k + 1 + m) to))) := by
                unfold Hid
                have h5 := HC.out
                rw [HV2.out, HR.out]
                rw [show ((to - k - 1 : Nat) : Int) = (to : Int) - k - 1 by omega, h5, decide_eq_true (show 0 < d by omega), Bool.true_and, Bool.true_and, HM.out, Int.toNat_natCast, seg_drop, seg_take _ _ _ _ hkm]
              rcases Bool.eq_false_or_eq_true (vl (d - 1) (seg xs (k + 1) (k + 1 + m))) with hv | hv
              · have HW := Lib.hid hv; clear hv
                go_wp2_with fail
                refine (IH.out (d - 1) (by omega) _ n _ (k + 1) (k + 1 + m) (t + 1) xs _ HS.out (by omega) (by omega) (by omega) HD.out (by omega)).mono ?_
                rintro e w3 ⟨he, hb3⟩
                rw [HW.out] at he
                subst he
                have e2 := cell_step c2 hb3
                have hB3 := below_step hB1 hb3
                clear hb3
                go_wp2
                go_roundw
                case rel => exact ⟨k + 1 + m, by omega, by omega, by go_num, hB3, by unfold Hid; rw [HV3.out, HW.out, Bool.true_and]⟩
                case measure => simp [intOf]; omega
              · have HW := Lib.hid hv; clear hv
                go_wp2_with fail
                refine (IH.out (d - 1) (by omega) _ n _ (k + 1) (k + 1 + m) (t + 1) xs _ HS.out (by omega) (by omega) (by omega) HD.out (by omega)).mono ?_
                rintro e w3 ⟨he, hb3⟩
                rw [HW.out] at he
                subst he
                have hB3 := below_step hB1 hb3
                clear hb3
                go_wp2
                go_ret
                exact ⟨ret_bool (by rw [HV3.out, HW.out, Bool.false_and]), hB3⟩
            · have HC := Lib.hid hv; clear hv
              go_wp2_with fail
              refine (l17IsLoop_is x true HI.out _ _ _ c0).mono ?_
              rintro e w3 ⟨rfl, rfl⟩
              go_wp2_with fail
              refine (l00In_is _ _ _ false HC.out _).mono ?_
              rintro e w3 ⟨rfl, rfl⟩
              go_wp2
              go_ret
              refine ⟨ret_bool ?_, hB1⟩
              rw [HV2.out, HR.out]
              have := HC.out
              rw [show ((to - k - 1 : Nat) : Int) = (to : Int) - k - 1 by omega, this]
              simp
        · have HI := Lib.hid hv
          have HV2 := Lib.hid (HV1.out.trans (vl_el HA.out HI.out h2))
          have h01 : x.a = 0 ∨ x.a = 1 := by
            have := (inB_iff _ _ _).1 HK.out
            unfold isLp at hv; simp at hv; omega
          have e2 : (x.a == 2) = false := by simpa using h2
          have e3 : x.a < 2 := by omega
          have H01 : Hid ((decide (x.a = 0) || decide (x.a = 1)) = true) := by unfold Hid; simpa using h01
          clear hv h2 h01
          by_cases hc0 : x.c = 0
          · have ec : (x.c != 0) = false := by simpa using hc0
            have HC := Lib.hid hc0; clear hc0
            go_wp2_with fail
            refine (l17IsLoop_is x false HI.out _ _ _ c0).mono ?_
            rintro e w3 ⟨rfl, rfl⟩
            go_wp2
            go_roundw
            case rel => exact ⟨k + 1, by omega, by omega, by go_num, hB1, by unfold Hid; rw [HV2.out, HC.out, H01.out]; simp⟩
            case measure => simp [intOf]; omega
          · have ec : (x.c != 0) = true := by simpa using hc0
            have HC : Hid (decide (x.c = 0) = false) := by unfold Hid; simp [hc0]
            clear hc0
            go_wp2
            go_ret
            exact ⟨ret_bool (by rw [HV2.out, HC.out]; simp), hB1⟩
    · go_wp2
      go_ret
      exact ⟨ret_bool (by rw [HV.out, seg_end (by omega), vl_nil]), hB⟩

theorem implValidLoop_is (b off n c : Nat) (xs : List R3) (v : Bool) (hv : validL xs = v) (w : World) (hs : Args 3 w (some ⟨b, off, none⟩) n (rows R3.vs xs)) (hn : n ≤ 1048576) (hc : n ≤ c) :
    Calls Tryd.prog 20 #[.slice (some ⟨b, off, none⟩) n c] w fun e w' => e = .returned (.bool v) ∧ Below w.heap.size w w' := by
  have HL : Hid (xs.length = n) := by have := hs.1; rw [rows_len R3.vs_len] at this; unfold Hid; omega
  subst hv
  by_cases h : n ≤ 150
  · have HV : Hid (validL xs = vl 7 xs) := by unfold Hid validL; rw [HL.out]; simp [h]
    go_enter Tryd.func20, Tryd.ntmps20
    go_wp2_with fail
    refine (validLoops_any 7 _ n c 0 xs _ hs hn hc (by omega) (by omega)).mono ?_
    rintro e w1 ⟨rfl, hb⟩
    go_wp2
    go_ret
    exact ⟨ret_bool HV.out.symm, hb⟩
  · have HV : Hid (validL xs = false) := by unfold Hid validL; rw [HL.out]; simp [h]
    go_enter Tryd.func20, Tryd.ntmps20
    go_wp2
    go_ret
    exact ⟨ret_bool HV.out.symm, Below.refl _ _⟩

theorem l17Is_is (b off n c : Nat) (xs : List R3) (v : Bool) (hv : validL xs = v) (w : World) (hs : Args 3 w (some ⟨b, off, none⟩) n (rows R3.vs xs)) (hn : n ≤ 1048576) :
    Calls Tryd.prog 35 #[.slice (some ⟨b, off, none⟩) n c] w fun e w' => e = .returned (.bool v) ∧ Below w.heap.size w w' := by
  have HL : Hid (xs.length = n) := by have := hs.1; rw [rows_len R3.vs_len] at this; unfold Hid; omega
  subst hv
  by_cases h : n ≤ 150
  · have HV : Hid (validL xs = vl 7 (seg xs 0 n)) := by unfold Hid validL; rw [← HL.out, seg_all, HL.out]; simp [h]
    go_enter Tryd.func35, Tryd.ntmps35
    go_wp2_with fail
    refine (l17Part_any 7 _ n c 0 n 0 xs _ hs hn (by omega) (by omega) (by omega) (by omega)).mono ?_
    rintro e w1 ⟨rfl, hb⟩
    go_wp2
    go_ret
    exact ⟨ret_bool HV.out.symm, hb⟩
  · have HV : Hid (validL xs = false) := by unfold Hid validL; rw [HL.out]; simp [h]
    go_enter Tryd.func35, Tryd.ntmps35
    go_wp2
    go_ret
    exact ⟨ret_bool HV.out.symm, Below.refl _ _⟩

theorem implValidLoop_any (b off n c : Nat) (xs : List R3) (w : World) (hs : Sl w b off (rows R3.vs xs)) (hl : xs.length = n) (hn : n ≤ 1048576) (hc : n ≤ c) (hf : ∀ x ∈ xs, x.wf) :
    Calls Tryd.prog 20 #[.slice (some ⟨b, off, none⟩) n c] w fun e w' => e = .returned (.bool (validL xs)) ∧ Below w.heap.size w w' :=
  implValidLoop_is b off n c xs _ rfl w (Args.of_sl hs (by rw [rows_len R3.vs_len, hl])) hn hc

end Go.Proofs.YtgcedfpjgdeakaaDoor

/- Loop programs without LoopAgain: slices.ContainsFunc and IndexFunc with IsBounded's closure, IsBounded, the reference's IsBounded. -/
namespace Go.Proofs.YtgcedfpjgdeakaaDoor
open Go.RowKit
set_option linter.all false

def isAgain (x : R3) : Bool := decide (x.a = 4)
def isBoundedB (xs : List R3) : Bool := validL xs && !xs.any isAgain

end Go.Proofs.YtgcedfpjgdeakaaDoor

/- Bodies of loop programs: bodies with whatever function value; nesting; NestingOf on both sides. -/
namespace Go.Proofs.YtgcedfpjgdeakaaDoor
open Go.RowKit
set_option linter.all false
attribute [local go_sem ↓] Go.wp_at_zero Go.wp_at_succ

/-- How many commands the body of a command has. -/
def bodyLen (x : R3) : Nat := if isLp x then x.c.toNat else 0
theorem bodyLen_lp {x : R3} (h : isLp x = true) : bodyLen x = x.c.toNat := by simp [bodyLen, h]
theorem bodyLen_no {x : R3} (h : isLp x = false) : bodyLen x = 0 := by simp [bodyLen, h]
/-- How deep loops are nested. -/
def nest : List R3 → Nat
  | [] => 0
  | x :: l => max (if isLp x then 1 + nest (l.take (bodyLen x)) else 0) (nest (l.drop (bodyLen x)))
  termination_by l => l.length
  decreasing_by all_goals simp_wf; try omega
theorem nest_nil : nest [] = 0 := by rw [nest]
theorem nest_cons (x : R3) (l : List R3) : nest (x :: l) = max (if isLp x then 1 + nest (l.take (bodyLen x)) else 0) (nest (l.drop (bodyLen x))) := by rw [nest]
theorem nest_le (n : Nat) : ∀ xs : List R3, xs.length ≤ n → nest xs ≤ xs.length := by
  induction n with
  | zero => intro xs h; have : xs = [] := List.length_eq_zero_iff.1 (by omega); subst this; rw [nest_nil]; simp
  | succ n ih =>
    intro xs h
    cases xs with
    | nil => rw [nest_nil]; simp
    | cons x l =>
      rw [nest_cons]
      simp only [List.length_cons] at h ⊢
      have h1 := ih (l.take (bodyLen x)) (by rw [List.length_take]; omega)
      have h2 := ih (l.drop (bodyLen x)) (by rw [List.length_drop]; omega)
      rw [List.length_take] at h1
      rw [List.length_drop] at h2
      split <;> omega

theorem vl_split {d : Nat} {x : R3} {l : List R3} (h : vl d (x :: l) = true) :
    bodyLen x ≤ l.length ∧ vl d (l.drop (bodyLen x)) = true ∧ (isLp x = true → vl (d - 1) (l.take (bodyLen x)) = true ∧ 0 ≤ x.c ∧ 0 < d) := by
  cases hb : inB x.b 0 15 with
  | false => rw [vl_no1 hb] at h; cases h
  | true =>
    cases hi : isLp x with
    | true =>
      rw [vl_lp hb hi] at h
      simp only [Bool.and_eq_true, decide_eq_true_eq] at h
      obtain ⟨⟨⟨h1, h2⟩, h3⟩, h4⟩ := h
      rw [inB_iff] at h2
      rw [bodyLen_lp hi]
      exact ⟨by omega, h4, fun _ => ⟨h3, by omega, h1⟩⟩
    | false =>
      rw [bodyLen_no hi]
      refine ⟨Nat.zero_le _, ?_, fun e => by cases e⟩
      rw [List.drop_zero]
      by_cases h2 : x.a = 2
      · rw [vl_cp hb hi h2] at h; exact (Bool.and_eq_true _ _ ▸ h).2
      · rw [vl_el hb hi h2] at h; exact (Bool.and_eq_true _ _ ▸ h).2
/-- A command of a valid program. -/
theorem vl_kind {d : Nat} {x : R3} {l : List R3} (h : vl d (x :: l) = true) : 0 ≤ x.b ∧ x.b ≤ 15 ∧ (x.a = 0 ∨ x.a = 1 ∨ x.a = 3 ∨ x.a = 4 ∨ (x.a = 2 ∧ 0 ≤ x.c ∧ x.c ≤ 15)) := by
  cases hb : inB x.b 0 15 with
  | false => rw [vl_no1 hb] at h; cases h
  | true =>
    have hb' := (inB_iff _ _ _).1 hb
    refine ⟨hb'.1, hb'.2, ?_⟩
    cases hi : isLp x with
    | true => unfold isLp at hi; simp at hi; omega
    | false =>
      by_cases h2 : x.a = 2
      · rw [vl_cp hb hi h2] at h
        have := (inB_iff _ _ _).1 (Bool.and_eq_true _ _ ▸ h).1
        omega
      · rw [vl_el hb hi h2] at h
        have := (Bool.and_eq_true _ _ ▸ (Bool.and_eq_true _ _ ▸ h).1).1
        simp at this
        omega
theorem vl_step {d k : Nat} {x : R3} {xs : List R3} (hx : xs[k]? = some x) (h : vl d (xs.drop k) = true) :
    k + 1 + bodyLen x ≤ xs.length ∧ vl d (xs.drop (k + 1 + bodyLen x)) = true ∧ (isLp x = true → vl (d - 1) ((xs.drop (k + 1)).take (bodyLen x)) = true ∧ 0 ≤ x.c ∧ 0 < d) := by
  have hk := (List.getElem?_eq_some_iff.1 hx).1
  rw [drop_at hx] at h
  obtain ⟨h1, h2, h3⟩ := vl_split h
  rw [List.length_drop] at h1
  rw [List.drop_drop] at h2
  exact ⟨by omega, h2, h3⟩
theorem nest_step {k : Nat} {x : R3} {xs : List R3} (hx : xs[k]? = some x) : nest (xs.drop k) = max (if isLp x then 1 + nest ((xs.drop (k + 1)).take (bodyLen x)) else 0) (nest (xs.drop (k + 1 + bodyLen x))) := by
  rw [drop_at hx, nest_cons, List.drop_drop]
theorem Args.at_some {s : Nat} {w : World} {b off n : Nat} {xs : List Value} (h : Args s w (some ⟨b, off, none⟩) n xs) {k : Nat} (hk : k < n) : Sl w b off xs := by
  obtain ⟨b', off', e, h⟩ := h.sl hk
  injection e with e
  injection e with e1 e2
  subst e1 e2
  exact h

set_option maxRecDepth 100000 in
set_option maxHeartbeats 1000000 in
theorem bodies_any (F : FuncId) (caps : Array Value) (d : Nat) (I : Nat → World → Prop) (A : Option Addr) (n c : Nat) (xs : List R3) (w : World) (ha : Args 3 w A n (rows R3.vs xs)) (hn : n ≤ 1048576) (hc : n ≤ c) (hv : vl d xs = true)
    (hE : ∀ (args : Array Value) (W : World), (callFunc F args).run Tryd.prog W = .ok (.enter F args) W)
    (hI : Hid (∀ k W W', I k W → Below W.heap.size W W' → I k W')) (hA : Hid (∀ k W, I k W → Args 3 W A n (rows R3.vs xs)))
    (hF : Hid (∀ (k : Nat) (x : R3) (m : Nat) (A' : Option Addr) (c' : Nat) (W : World), xs[k]? = some x → bodyLen x = m → vl d (xs.drop k) = true → k + 1 + m ≤ n → m ≤ c' → Args 3 W A' m (rows R3.vs ((xs.drop (k + 1)).take m)) → I k W →
      Calls Tryd.prog F (#[.agg #[.int .i64 x.a, .int .i64 x.b, .int .i64 x.c], .slice A' m c'] ++ caps) W fun e w' => e = .returned (.tuple #[]) ∧ I (k + 1 + m) w'))
    (h0 : I 0 w) : Calls Tryd.prog 40 #[.slice A n c, .func (.func F) #[] caps] w fun e w' => e = .returned (.tuple #[]) ∧ I n w' := by
  have HL : Hid (xs.length = n) := by have := ha.1; rw [rows_len R3.vs_len] at this; unfold Hid; omega
  have HV0 := Lib.hid hv; clear hv
  go_enter Tryd.func40, Tryd.ntmps40
  go_wp2
  go_loopw [4] (fun i wr => ∃ k : Nat, k ≤ n ∧ i = .int .i64 k ∧ I k wr ∧ Hid (vl d (xs.drop k) = true)) (fun i _ => n - (intOf i).toNat)
  case atStart => exact ⟨0, Nat.zero_le _, rfl, h0, by have := HV0.out; simpa [Hid] using this⟩
  case round =>
    obtain ⟨k, hk, rfl, hIk, HV⟩ := hrel
    by_cases hlt : k < n
    · obtain ⟨b, off, rfl, hs⟩ := ha.sl hlt
      obtain ⟨x, HX⟩ := hget HL hlt
      obtain ⟨s1, s2, s3⟩ := vl_step HX.out HV.out
      have HV2 := Lib.hid s2; clear s2
      have S3 := Lib.hid s3; clear s3
      have hkm : k + 1 + bodyLen x ≤ n := by have := HL.out; omega
      clear s1
      obtain ⟨p0, p1, p2⟩ := (((hA.out k wr hIk).at_some hlt).below' (laid_below wr (.cells #[] 54))).rec3 HX.out
      rcases Bool.eq_false_or_eq_true (isLp x) with hv | hv
      · have HI := Lib.hid hv; clear hv
        go_wp2_with fail
        refine (isLoop_is x true HI.out _).mono ?_
        rintro e w1 ⟨rfl, hb1⟩
        have hI1 := hI.out k wr w1 hIk (below_step (laid_below _ _) hb1)
        obtain ⟨q0, q1, q2⟩ := ((hA.out k w1 hI1).at_some hlt).rec3 HX.out
        have HS0 := Lib.hid ((hA.out k w1 hI1).at_some hlt)
        clear hb1 p0 p1 p2
        obtain ⟨m, hm⟩ : ∃ m : Nat, x.c = m := ⟨x.c.toNat, by have := (S3.out HI.out).2.1; omega⟩
        have HB : Hid (bodyLen x = m) := by unfold Hid; rw [bodyLen_lp HI.out, hm]; simp
        rw [HB.out] at hkm HV2
        have hx3 : Value.agg #[.int .i64 x.a, .int .i64 x.b, .int .i64 x.c] = Value.agg #[.int .i64 x.a, .int .i64 x.b, .int .i64 (m : Int)] := by rw [hm]
        have HX3 := Lib.hid hx3; clear hx3
        have HM := Lib.hid hm; clear hm
        rw [HM.out] at q2
        obtain ⟨o', ho', hsl⟩ := run_slice_part (P := Tryd.prog) 22 54 Tryd.underlying22 infoLoop b off n c (k + 1) m ((k : Int) + 1) ((k : Int) + 1 + m) (by omega) (by omega) (by omega)
        have HS := Lib.hid (args_part R3.vs_len HS0.out (k + 1) m ho' (by have := HL.out; omega))
        clear ho'
        have hF1 := Lib.hid (hF.out k x m _ (c - (k + 1)) w1 HX.out HB.out HV.out (by omega) (by omega) HS.out hI1)
        rw [HX3.out] at hF1
        go_wp2_with fail
        · refine hF1.out.mono ?_
          rintro e w2 ⟨rfl, hI2⟩
          clear hsl q0 q1 q2
          go_wp2
          go_roundw
          case rel => exact ⟨k + 1 + m, by omega, by go_num, hI2, HV2⟩
          case measure => simp [intOf]; omega
      · have HI := Lib.hid hv; clear hv
        go_wp2_with fail
        refine (isLoop_is x false HI.out _).mono ?_
        rintro e w1 ⟨rfl, hb1⟩
        have hI1 := hI.out k wr w1 hIk (below_step (laid_below _ _) hb1)
        obtain ⟨q0, q1, q2⟩ := ((hA.out k w1 hI1).at_some hlt).rec3 HX.out
        clear hb1 p0 p1 p2
        have HB := Lib.hid (bodyLen_no HI.out)
        rw [HB.out] at hkm HV2
        have HF1 := Lib.hid (hF.out k x 0 (some ⟨wr.heap.size, 0, none⟩) 0 w1 HX.out HB.out HV.out (by omega) (by omega) ⟨by simp [rows], .inl rfl⟩ hI1)
        go_wp2_with fail
        · refine HF1.out.mono ?_
          rintro e w2 ⟨rfl, hI2⟩
          clear q0 q1 q2
          go_wp2
          go_roundw
          case rel => exact ⟨k + 1, by omega, by go_num, hI2, HV2⟩
          case measure => simp [intOf]; omega
    · obtain rfl : n = k := by omega
      go_wp2
      go_end0
      exact ⟨rfl, hIk⟩

end Go.Proofs.YtgcedfpjgdeakaaDoor

/- The text of a loop program, in plain words. -/
namespace Go.Proofs.YtgcedfpjgdeakaaDoor
open Go.RowKit
set_option linter.all false

def decT (n : Int) : List UInt8 := Lib.decDigits n.toNat
/-- The text of a command with the text of its body. -/
def cmdT (x : R3) (body : List UInt8) : List UInt8 :=
  if x.a = 0 then 33 :: decT x.b
  else if x.a = 1 then 43 :: decT x.b
  else if x.a = 2 then decT x.b ++ 61 :: decT x.c
  else if x.a = 3 then decT x.b ++ 42 :: 40 :: (body ++ [41])
  else decT x.b ++ 63 :: 40 :: (body ++ [41])
def textsL : List R3 → List (List UInt8)
  | [] => []
  | x :: l => cmdT x (Lib.join (textsL (l.take (bodyLen x))) [59]) :: textsL (l.drop (bodyLen x))
  termination_by l => l.length
  decreasing_by all_goals simp_wf; try omega
def textL (l : List R3) : List UInt8 := Lib.join (textsL l) [59]
def tailT (l : List R3) : List UInt8 := Lib.joinTail [59] (textsL l)
theorem textsL_nil : textsL [] = [] := by rw [textsL]
theorem textsL_cons (x : R3) (l : List R3) : textsL (x :: l) = cmdT x (textL (l.take (bodyLen x))) :: textsL (l.drop (bodyLen x)) := by rw [textsL]; rfl
theorem textL_nil : textL [] = [] := by unfold textL; rw [textsL_nil]; rfl
theorem textL_cons (x : R3) (l : List R3) : textL (x :: l) = cmdT x (textL (l.take (bodyLen x))) ++ tailT (l.drop (bodyLen x)) := by
  conv => lhs; unfold textL
  rw [textsL_cons, Lib.join_cons]; rfl
theorem tailT_nil : tailT [] = [] := by unfold tailT; rw [textsL_nil]; rfl
theorem tailT_cons (x : R3) (l : List R3) : tailT (x :: l) = 59 :: textL (x :: l) := by
  unfold tailT textL
  rw [textsL_cons, Lib.join_cons]
  simp [Lib.joinTail]
theorem decT_len {n : Int} (h : 0 ≤ n ∧ n ≤ 15) : (decT n).length ≤ 2 := by
  unfold decT
  by_cases h1 : n.toNat < 10
  · rw [Lib.decDigits_one h1]; simp
  · rw [Lib.decDigits_two h1 (by omega)]; simp
theorem cmdT_len {x : R3} (body : List UInt8) (hb : 0 ≤ x.b ∧ x.b ≤ 15) (hc : x.a = 2 → 0 ≤ x.c ∧ x.c ≤ 15) : (cmdT x body).length ≤ 5 + body.length := by
  have h1 := decT_len hb
  unfold cmdT
  split
  · rw [List.length_cons]; omega
  split
  · rw [List.length_cons]; omega
  split
  · rename_i h2
    have h3 := decT_len (hc h2)
    rw [List.length_append, List.length_cons]; omega
  split
  · rw [List.length_append, List.length_cons, List.length_cons, List.length_append, List.length_singleton]; omega
  · rw [List.length_append, List.length_cons, List.length_cons, List.length_append, List.length_singleton]; omega
theorem tail_len (l : List R3) : (textL l).length ≤ (tailT l).length := by
  cases l with
  | nil => rw [textL_nil]; simp
  | cons x l => rw [tailT_cons]; simp
theorem tailT_len (N : Nat) : ∀ (d : Nat) (l : List R3), l.length ≤ N → vl d l = true → (tailT l).length ≤ 6 * l.length := by
  induction N with
  | zero =>
    intro d l h _
    have : l = [] := List.length_eq_zero_iff.1 (by omega)
    subst this
    rw [tailT_nil]; simp
  | succ N ih =>
    intro d l h hv
    cases l with
    | nil => rw [tailT_nil]; simp
    | cons x l =>
      obtain ⟨h1, h2, h3⟩ := vl_kind hv
      obtain ⟨g1, g2, g3⟩ := vl_step (d := d) (k := 0) (x := x) (xs := x :: l) rfl (by rw [List.drop_zero]; exact hv)
      rw [List.length_cons] at g1 h
      have e1 : (x :: l).drop (0 + 1 + bodyLen x) = l.drop (bodyLen x) := by rw [show 0 + 1 + bodyLen x = bodyLen x + 1 by omega, List.drop_succ_cons]
      rw [e1] at g2
      have hrest := ih d (l.drop (bodyLen x)) (by rw [List.length_drop]; omega) g2
      rw [List.length_drop] at hrest
      have hbody : (textL (l.take (bodyLen x))).length ≤ 6 * bodyLen x := by
        cases hl : isLp x with
        | false => rw [bodyLen_no hl, List.take_zero, textL_nil]; simp
        | true =>
          have hb := (g3 hl).1
          rw [show (x :: l).drop (0 + 1) = l from rfl] at hb
          have h5 := ih (d - 1) (l.take (bodyLen x)) (by rw [List.length_take]; omega) hb
          have h6 := tail_len (l.take (bodyLen x))
          rw [List.length_take] at h5
          omega
      have hcmd := cmdT_len (x := x) (textL (l.take (bodyLen x))) ⟨h1, h2⟩ (fun e => by
        rcases h3 with h | h | h | h | h
        · omega
        · omega
        · omega
        · omega
        · exact h.2)
      rw [tailT_cons, textL_cons, List.length_cons, List.length_append, List.length_cons]
      omega
theorem textL_len {d : Nat} {l : List R3} (h : vl d l = true) : (textL l).length ≤ 6 * l.length := Nat.le_trans (tail_len l) (tailT_len _ d l (Nat.le_refl _) h)

/-- The text of a loop program, if it is valid. -/
def loopTextOf (xs : List R3) : List UInt8 := if validL xs then textL xs else []
theorem loopTextOf_no {xs : List R3} (h : validL xs = false) : loopTextOf xs = [] := by unfold loopTextOf; rw [h]; rfl
theorem loopTextOf_yes {xs : List R3} (h : validL xs = true) : loopTextOf xs = textL xs := by unfold loopTextOf; rw [h]; rfl
theorem cat_ba (a b : List UInt8) : (⟨a.toArray⟩ ++ ⟨b.toArray⟩ : ByteArray) = ⟨(a ++ b).toArray⟩ := by rw [ByteArray.mk_append_mk]
theorem run_cat {P : Program} (a b : List UInt8) (h : a.length + b.length ≤ 9000000) (w : World) : (Op.stringOp .add ⟨a.toArray⟩ ⟨b.toArray⟩).run P w = .ok (.string ⟨(a ++ b).toArray⟩) w := by
  rw [run_string_add_sum w _ _ (by simp [ByteArray.size]; omega), cat_ba]
end Go.Proofs.YtgcedfpjgdeakaaDoor

/- Terms in prefix form: where a term ends, told by how many terms follow each element. Plain lemmas, and the law of a function value. -/
namespace Go.Proofs.YtgcedfpjgdeakaaDoor
open Go.RowKit
set_option linter.all false

section
variable {α : Type} (fol : α → Nat)
/-- The place behind op terms that begin at place k, or -1. -/
def tPosAt : Nat → Nat → List α → Int
  | 0, k, _ => k
  | _ + 1, _, [] => -1
  | op + 1, k, x :: l => tPosAt (op + fol x) (k + 1) l
  termination_by _ _ l => l.length
theorem tPosAt_zero (k : Nat) (l : List α) : tPosAt fol 0 k l = k := by cases l <;> rw [tPosAt]
theorem tPosAt_succ (op k : Nat) (x : α) (l : List α) : tPosAt fol (op + 1) k (x :: l) = tPosAt fol (op + fol x) (k + 1) l := by rw [tPosAt]
theorem tPosAt_none (op k : Nat) : tPosAt fol (op + 1) k [] = -1 := by rw [tPosAt]
def tPos (k : Nat) (l : List α) : Int := tPosAt fol 1 k l
/-- The elements are just op terms. -/
def fit : Nat → List α → Bool
  | 0, [] => true
  | 0, _ :: _ => false
  | _ + 1, [] => false
  | op + 1, x :: l => fit (op + fol x) l
  termination_by _ l => l.length
theorem fit_00 : fit fol 0 [] = true := by rw [fit]
theorem fit_0c (x : α) (l : List α) : fit fol 0 (x :: l) = false := by rw [fit]
theorem fit_s0 (op : Nat) : fit fol (op + 1) [] = false := by rw [fit]
theorem fit_sc (op : Nat) (x : α) (l : List α) : fit fol (op + 1) (x :: l) = fit fol (op + fol x) l := by rw [fit]
theorem tPosAt_le (l : List α) : ∀ op k : Nat, tPosAt fol op k l ≤ k + l.length := by
  induction l with
  | nil => intro op k; cases op with
    | zero => rw [tPosAt_zero]; simp
    | succ op => rw [tPosAt_none]; simp <;> omega
  | cons x l ih => intro op k; cases op with
    | zero => rw [tPosAt_zero]; simp <;> omega
    | succ op => rw [tPosAt_succ]; have := ih (op + fol x) (k + 1); simp <;> omega
theorem fit_iff (l : List α) : ∀ op k : Nat, decide (tPosAt fol op k l = (k + l.length : Nat)) = fit fol op l := by
  induction l with
  | nil => intro op k; cases op with
    | zero => rw [tPosAt_zero, fit_00]; simp
    | succ op => rw [tPosAt_none, fit_s0]; simp <;> omega
  | cons x l ih => intro op k; cases op with
    | zero => rw [tPosAt_zero, fit_0c]; simp <;> omega
    | succ op =>
      rw [tPosAt_succ, fit_sc, ← ih (op + fol x) (k + 1)]
      have : k + 1 + l.length = k + (x :: l).length := by simp; omega
      rw [this]
theorem fit_pos (l : List α) : decide (tPos fol 0 l = (l.length : Int)) = fit fol 1 l := by
  have := fit_iff fol l 1 0
  rw [Nat.zero_add] at this
  exact this
end
end Go.Proofs.YtgcedfpjgdeakaaDoor

/- Sorted lists of numbers: what l00Put builds is what Sort and Compact leave; a sorted list rises just where no number occurs twice. Plain lemmas. -/
namespace Go.Proofs.YtgcedfpjgdeakaaDoor
set_option linter.all false

def Asc (l : List Int) : Prop := l.Pairwise (· < ·)
def put (n : Int) : List Int → List Int
  | [] => [n]
  | y :: l => if n ≤ y then (if n < y then n :: y :: l else y :: l) else y :: put n l
theorem mem_put (n x : Int) (l : List Int) : x ∈ put n l ↔ x = n ∨ x ∈ l := by
  induction l with
  | nil => simp [put]
  | cons y l ih =>
    rw [put]
    by_cases h1 : n ≤ y
    · rw [if_pos h1]
      by_cases h2 : n < y
      · rw [if_pos h2]; simp
      · rw [if_neg h2]
        obtain rfl : n = y := by omega
        simp
    · rw [if_neg h1]
      simp only [List.mem_cons, ih]
      constructor
      · rintro (h | h | h)
        · exact .inr (.inl h)
        · exact .inl h
        · exact .inr (.inr h)
      · rintro (h | h | h)
        · exact .inr (.inl h)
        · exact .inl h
        · exact .inr (.inr h)
theorem put_len (n : Int) (l : List Int) : (put n l).length ≤ l.length + 1 := by
  induction l with
  | nil => simp [put]
  | cons y l ih =>
    rw [put]
    split
    · split <;> simp
    · simp; omega
theorem asc_put (n : Int) (l : List Int) (h : Asc l) : Asc (put n l) := by
  induction l with
  | nil => simp [put, Asc]
  | cons y l ih =>
    unfold Asc at h ⊢
    rw [List.pairwise_cons] at h
    rw [put]
    by_cases h1 : n ≤ y
    · rw [if_pos h1]
      by_cases h2 : n < y
      · rw [if_pos h2, List.pairwise_cons, List.pairwise_cons]
        refine ⟨fun a ha => ?_, h⟩
        rcases List.mem_cons.1 ha with rfl | ha
        · exact h2
        · have := h.1 a ha; omega
      · rw [if_neg h2, List.pairwise_cons]; exact h
    · rw [if_neg h1, List.pairwise_cons]
      refine ⟨fun a ha => ?_, ih h.2⟩
      rcases (mem_put _ _ _).1 ha with rfl | ha
      · omega
      · exact h.1 a ha
theorem asc_ext : ∀ (l1 l2 : List Int), Asc l1 → Asc l2 → (∀ x, x ∈ l1 ↔ x ∈ l2) → l1 = l2 := by
  intro l1
  induction l1 with
  | nil =>
    intro l2 _ _ h
    cases l2 with
    | nil => rfl
    | cons b l2 => exact absurd ((h b).2 (by simp)) (by simp)
  | cons a l1 ih =>
    intro l2 h1 h2 h
    cases l2 with
    | nil => exact absurd ((h a).1 (by simp)) (by simp)
    | cons b l2 =>
      unfold Asc at h1 h2
      rw [List.pairwise_cons] at h1 h2
      have e : a = b := by
        rcases List.mem_cons.1 ((h a).1 (by simp)) with e | e
        · exact e
        rcases List.mem_cons.1 ((h b).2 (by simp)) with e2 | e2
        · exact e2.symm
        have := h2.1 a e; have := h1.1 b e2; omega
      subst e
      rw [ih l2 h1.2 h2.2 fun x => ?_]
      constructor
      · intro hx
        rcases List.mem_cons.1 ((h x).1 (by simp [hx])) with e | e
        · subst e; have := h1.1 x hx; omega
        · exact e
      · intro hx
        rcases List.mem_cons.1 ((h x).2 (by simp [hx])) with e | e
        · subst e; have := h2.1 x hx; omega
        · exact e

def srt (xs : List Int) : List Int := xs.mergeSort fun x y => decide (x ≤ y)
theorem srt_perm (xs : List Int) : (srt xs).Perm xs := List.mergeSort_perm _ _
theorem srt_len (xs : List Int) : (srt xs).length = xs.length := (srt_perm xs).length_eq
theorem srt_le (xs : List Int) : (srt xs).Pairwise (· ≤ ·) := by
  have h := List.pairwise_mergeSort (le := fun x y : Int => decide (x ≤ y)) (by intro a b c; simp; omega) (by intro a b; simp; omega) xs
  exact h.imp (by intro a b; simp)
def sortU (xs : List Int) : List Int := Lib.compact (srt xs)

theorem compact_le (d : Array Int) (h : ∀ i j, i ≤ j → j < d.size → d[i]! ≤ d[j]!) : ∀ m, m ≤ d.size → Asc (Lib.compactUpTo d m) ∧ (∀ x, x ∈ Lib.compactUpTo d m ↔ ∃ j, j < m ∧ d[j]! = x) ∧ (∀ x ∈ Lib.compactUpTo d m, x ≤ d[m - 1]!) := by
  intro m
  induction m with
  | zero => intro _; exact ⟨by simp [Lib.compactUpTo, Asc], by simp [Lib.compactUpTo], by simp [Lib.compactUpTo]⟩
  | succ m ih =>
    intro hm
    obtain ⟨h1, h2, h3⟩ := ih (by omega)
    rw [Lib.compactUpTo_succ]
    cases hk : Lib.keeps d m with
    | true =>
      have hk' : m = 0 ∨ d[m]! ≠ d[m - 1]! := by simpa [Lib.keeps] using hk
      have hlt : ∀ x ∈ Lib.compactUpTo d m, x < d[m]! := by
        intro x hx
        have hx3 := h3 x hx
        rcases hk' with rfl | hk'
        · obtain ⟨j, hj, _⟩ := (h2 x).1 hx; omega
        · have := h (m - 1) m (by omega) (by omega)
          omega
      simp only [if_true]
      refine ⟨?_, ?_, ?_⟩
      · unfold Asc at h1 ⊢
        rw [List.pairwise_append]
        exact ⟨h1, by simp, fun a ha b hb => by rw [List.mem_singleton] at hb; subst hb; exact hlt a ha⟩
      · intro x
        rw [List.mem_append, h2]
        constructor
        · rintro (⟨j, hj, e⟩ | hx)
          · exact ⟨j, by omega, e⟩
          · exact ⟨m, by omega, (List.mem_singleton.1 hx).symm⟩
        · rintro ⟨j, hj, e⟩
          by_cases hjm : j = m
          · subst hjm; exact .inr (by simp [e])
          · exact .inl ⟨j, by omega, e⟩
      · intro x hx
        rw [List.mem_append] at hx
        show x ≤ d[m]!
        rcases hx with hx | hx
        · have := hlt x hx; omega
        · rw [List.mem_singleton] at hx; omega
    | false =>
      have hk' : ¬ (m = 0 ∨ d[m]! ≠ d[m - 1]!) := by simpa [Lib.keeps] using hk
      have hm0 : m ≠ 0 := fun e => hk' (.inl e)
      have he : d[m]! = d[m - 1]! := by
        by_cases e : d[m]! = d[m - 1]!
        · exact e
        · exact absurd (.inr e) hk'
      simp only [Bool.false_eq_true, if_false, List.append_nil]
      refine ⟨h1, fun x => ?_, fun x hx => ?_⟩
      · rw [h2]
        constructor
        · rintro ⟨j, hj, e⟩; exact ⟨j, by omega, e⟩
        · rintro ⟨j, hj, e⟩
          by_cases hjm : j = m
          · subst hjm; exact ⟨j - 1, by omega, by rw [← he]; exact e⟩
          · exact ⟨j, by omega, e⟩
      · show x ≤ d[m]!
        rw [he]; exact h3 x hx
theorem sortU_asc (xs : List Int) : Asc (sortU xs) ∧ ∀ x, x ∈ sortU xs ↔ x ∈ xs := by
  have hs := srt_le xs
  have hsz : (srt xs).toArray.size = (srt xs).length := by simp
  have hg : ∀ i, i < (srt xs).length → (srt xs).toArray[i]! = (srt xs)[i]! := by intro i hi; simp
  have := compact_le (srt xs).toArray (by
    intro i j hij hj
    rw [hsz] at hj
    rw [hg i (by omega), hg j hj, getElem!_pos _ i (by omega), getElem!_pos _ j hj]
    by_cases e : i = j
    · subst e; omega
    · exact List.pairwise_iff_getElem.1 hs i j (by omega) hj (by omega)) (srt xs).length (by simp)
  refine ⟨this.1, fun x => ?_⟩
  have h2 := this.2.1 x
  show x ∈ Lib.compactUpTo (srt xs).toArray (srt xs).length ↔ _
  rw [h2, ← (srt_perm xs).mem_iff]
  constructor
  · rintro ⟨j, hj, e⟩
    rw [hg j hj, getElem!_pos _ j hj] at e
    rw [← e]; exact List.getElem_mem _
  · intro hx
    obtain ⟨j, hj, e⟩ := List.mem_iff_getElem.1 hx
    exact ⟨j, hj, by rw [hg j hj, getElem!_pos _ j hj]; exact e⟩
theorem sortU_len (xs : List Int) : (sortU xs).length ≤ xs.length := by
  unfold sortU Lib.compact Lib.compactUpTo
  rw [List.length_map]
  have := List.length_filter_le (Lib.keeps (srt xs).toArray) (List.range (srt xs).length)
  rw [List.length_range, srt_len] at this
  rw [srt_len]
  exact this
/-- What l00Put builds, number by number. -/
def puts (acc xs : List Int) : List Int := xs.foldl (fun l n => put n l) acc
theorem puts_cons (acc xs : List Int) (n : Int) : puts acc (n :: xs) = puts (put n acc) xs := rfl
theorem puts_app (acc xs ys : List Int) : puts acc (xs ++ ys) = puts (puts acc xs) ys := by simp [puts]
theorem puts_spec (xs : List Int) : ∀ acc, Asc acc → Asc (puts acc xs) ∧ ∀ x, x ∈ puts acc xs ↔ x ∈ acc ∨ x ∈ xs := by
  induction xs with
  | nil => intro acc h; exact ⟨h, by simp [puts]⟩
  | cons n xs ih =>
    intro acc h
    rw [puts_cons]
    obtain ⟨h1, h2⟩ := ih (put n acc) (asc_put n acc h)
    refine ⟨h1, fun x => ?_⟩
    rw [h2, mem_put, List.mem_cons]
    constructor
    · rintro ((h | h) | h)
      · exact .inr (.inl h)
      · exact .inl h
      · exact .inr (.inr h)
    · rintro (h | h | h)
      · exact .inl (.inr h)
      · exact .inl (.inl h)
      · exact .inr h
theorem puts_eq (xs : List Int) : puts [] xs = sortU xs := by
  have h1 := puts_spec xs [] (by simp [Asc])
  have h2 := sortU_asc xs
  exact asc_ext _ _ h1.1 h2.1 fun x => by rw [h1.2, h2.2]; simp
theorem puts_len (xs : List Int) : ∀ acc, (puts acc xs).length ≤ acc.length + xs.length := by
  induction xs with
  | nil => intro acc; simp [puts]
  | cons n xs ih => intro acc; rw [puts_cons]; have := ih (put n acc); have := put_len n acc; simp; omega

/-- Each number is greater than the one before it. -/
def rises : List Int → Bool
  | [] => true
  | [_] => true
  | x :: y :: l => decide (x < y) && rises (y :: l)
theorem rises_iff (l : List Int) (h : l.Pairwise (· ≤ ·)) : rises l = true ↔ l.Nodup := by
  induction l with
  | nil => simp [rises]
  | cons x l ih =>
    rw [List.pairwise_cons] at h
    cases l with
    | nil => simp [rises]
    | cons y l =>
      rw [rises, Bool.and_eq_true, ih h.2, decide_eq_true_eq, List.nodup_cons (a := x)]
      constructor
      · rintro ⟨h1, h2⟩
        refine ⟨fun hm => ?_, h2⟩
        rcases List.mem_cons.1 hm with e | e
        · omega
        · have := (List.pairwise_cons.1 h.2).1 x e; omega
      · rintro ⟨h1, h2⟩
        refine ⟨?_, h2⟩
        have := h.1 y (by simp)
        have : x ≠ y := fun e => h1 (by simp [e])
        omega
/-- No number occurs twice. -/
def nodupB (l : List Int) : Bool := decide l.Nodup
theorem rises_srt (xs : List Int) : rises (srt xs) = nodupB xs := by
  rw [Bool.eq_iff_iff, rises_iff _ (srt_le xs), (srt_perm xs).nodup_iff]
  simp [nodupB]
/-- From place k on no number stands ahead of itself. -/
theorem nodup_step {xs : List Int} {k : Nat} {x : Int} (hx : xs[k]? = some x) (h : (xs.take k).Nodup) : (xs.take (k + 1)).Nodup ↔ x ∉ xs.take k := by
  rw [List.take_add_one, hx]
  simp only [Option.toList_some]
  rw [List.nodup_append]
  constructor
  · rintro ⟨_, _, h3⟩ hm
    exact h3 x hm x (by simp) rfl
  · intro hm
    exact ⟨h, by simp, fun a ha b hb => by rw [List.mem_singleton] at hb; subst hb; rintro rfl; exact hm ha⟩
theorem nodup_of_not {xs : List Int} {k : Nat} (h : ¬ (xs.take k).Nodup) : nodupB xs = false := by
  unfold nodupB
  rw [decide_eq_false_iff_not]
  intro hn
  exact h (hn.sublist (List.take_sublist _ _))
end Go.Proofs.YtgcedfpjgdeakaaDoor

/- Abstraction of combinator terms: plain lemmas. -/
namespace Go.Proofs.YtgcedfpjgdeakaaDoor
set_option linter.all false

section
variable {α : Type} (fol : α → Nat)
/-- Where a row of terms parts. -/
theorem fit_split (l : List α) : ∀ a b k : Nat, fit fol (a + b) l = true → ∃ q, q ≤ l.length ∧ tPosAt fol a k l = ((k + q : Nat) : Int) ∧ fit fol a (l.take q) = true ∧ fit fol b (l.drop q) = true ∧ (0 < a → 0 < q) := by
  induction l with
  | nil =>
    intro a b k h
    cases a with
    | zero => rw [Nat.zero_add] at h; exact ⟨0, by simp, by rw [tPosAt_zero]; simp, by simp [fit_00], by simpa using h, by omega⟩
    | succ a => rw [show a + 1 + b = (a + b) + 1 by omega, fit_s0] at h; cases h
  | cons x l ih =>
    intro a b k h
    cases a with
    | zero => rw [Nat.zero_add] at h; exact ⟨0, by simp, by rw [tPosAt_zero]; simp, by simp [fit_00], by simpa using h, by omega⟩
    | succ a =>
      rw [show a + 1 + b = (a + b) + 1 by omega, fit_sc, show a + b + fol x = (a + fol x) + b by omega] at h
      obtain ⟨q, h1, h2, h3, h4, _⟩ := ih (a + fol x) b (k + 1) h
      refine ⟨q + 1, by simp; omega, ?_, ?_, by simpa using h4, by omega⟩
      · rw [tPosAt_succ, h2]; congr 1; omega
      · rw [List.take_succ_cons, fit_sc]; exact h3
theorem fit_ne (l : List α) (op : Nat) (h : fit fol (op + 1) l = true) : 0 < l.length := by
  cases l with
  | nil => rw [fit_s0] at h; cases h
  | cons x l => simp
end
end Go.Proofs.YtgcedfpjgdeakaaDoor

/- Contracts of the laws' helpers on []Comb: copy, compare, size, mark, look at the marks. For slices of at most 1048576 elements. -/
namespace Go.Proofs.YtgcedfpjgdeakaaDoor
open Go.RowKit
set_option linter.all false

end Go.Proofs.YtgcedfpjgdeakaaDoor

/- Terms in a row of Comb: size and termEnd with whatever function that tells how many terms follow. -/
namespace Go.Proofs.YtgcedfpjgdeakaaDoor
open Go.RowKit
set_option linter.all false

end Go.Proofs.YtgcedfpjgdeakaaDoor

/- Combinator terms: which are valid; combFollow, combEnd, ValidComb and the reference's l12Comb, l12CombEnd. -/
namespace Go.Proofs.YtgcedfpjgdeakaaDoor
open Go.RowKit
set_option linter.all false

def kFol (x : R2) : Nat := if x.a = 0 then 2 else 0
theorem kFol_le (x : R2) : kFol x ≤ 2 := by unfold kFol; split <;> omega
def kOk (x : R2) : Bool := inB x.a 0 4 && inB x.b 0 399 && (decide (x.a = 4) || decide (x.b = 0))
def validC (xs : List R2) : Bool := inB xs.length 1 400 && (xs.all kOk && fit kFol 1 xs)
theorem all_drop {α : Type} {p : α → Bool} {xs : List α} {k : Nat} {x : α} (h : xs[k]? = some x) : (xs.drop k).all p = (p x && (xs.drop (k + 1)).all p) := by rw [drop_at h]; simp

end Go.Proofs.YtgcedfpjgdeakaaDoor

/- What a sort leaves of a row of the call's own. Plain lemmas on worlds. -/
namespace Go.Proofs.YtgcedfpjgdeakaaDoor
open Go.RowKit Go.Sort
set_option linter.all false

theorem holds_of_own {w : World} {base : Nat} {e : TypeId} {g n cap : Nat} {zs : List Int} (h : w.ownsRow base e 1 (.slice (some ⟨g, 0, none⟩) n cap) n (zs.map (Value.int .i64))) : Holds (Value.int .i64) w g 0 zs.toArray := by
  intro j hj
  have hj' : j < zs.length := by simpa using hj
  have hn : zs.length = n := by have := h.1; simpa using this
  refine ⟨?_, by have := h.frozenAt (0 + j); simpa using this⟩
  have := h.cellAt j (by omega)
  rw [Nat.zero_add, this]
  simp [hj']
theorem own_putRow {w : World} {base : Nat} {e : TypeId} {g n cap : Nat} {xs : List Value} (h : w.ownsRow base e 1 (.slice (some ⟨g, 0, none⟩) n cap) n xs) (d : List Int) (hd : d.length = n) (q : Nat) :
    (putRow (Value.int .i64) (Sort.ahead w q) g 0 d.toArray).ownsRow base e 1 (.slice (some ⟨g, 0, none⟩) n cap) n (d.map (Value.int .i64)) ∧ w.grownBy (putRow (Value.int .i64) (Sort.ahead w q) g 0 d.toArray) (some g) := by
  rcases h.2 with ⟨h0, _⟩ | ⟨g', cap', cur, hv, hb, hg, hn, hm, hs, hx⟩
  · cases h0
  · injection hv with e1 e2 e3
    injection e1 with e1
    injection e1 with e1
    subst e1 e3
    refine ⟨⟨by simp [hd], .inr ⟨g, cap, putCells (Value.int .i64) 0 d.toArray cur, rfl, hb, ?_, hn, hm, by simp [putCells, hs], ?_⟩⟩, ?_⟩
    · show (w.heap.modify g (onCells (putCells (Value.int .i64) 0 d.toArray)))[g]? = _
      rw [Array.getElem?_modify, if_pos rfl, hg]
      rfl
    · apply List.ext_getElem?
      intro j
      by_cases hj : j < n
      · rw [List.getElem?_take, if_pos (by omega)]
        have hc : j < cur.size := by omega
        simp only [putCells, Array.getElem?_toList, Array.getElem?_mapIdx]
        rw [Array.getElem?_eq_getElem hc, Option.map_some, if_pos (by simp; omega)]
        simp [show j < d.length by omega]
      · rw [List.getElem?_eq_none (by simp; omega), List.getElem?_eq_none (by simp; omega)]
    · refine ⟨rfl, rfl, rfl, by simp, fun k hk hne => ?_⟩
      show (w.heap.modify g _)[k]? = _
      rw [Array.getElem?_modify, if_neg (by intro e; exact hne (by rw [e]))]
theorem below_growS (w : World) (os : Array Obj) : Below w.heap.size w (grow w os) := ⟨rfl, rfl, rfl, by simp, fun k hk => heap_grow_old w os hk⟩
theorem grown_grow {w w' : World} {g : Nat} (h : w.grownBy w' (some g)) (os : Array Obj) : w.grownBy (grow w' os) (some g) :=
  ⟨h.os, h.tape, h.output, by have := h.size; simp; omega, fun k hk hne => (heap_grow_old w' os (by have := h.size; omega)).trans (h.block k hk hne)⟩
/-- Fewer elements of a row of one's own. -/
theorem own_shorter {w : World} {base : Nat} {e : TypeId} {g n m cap : Nat} {xs : List Value} (h : w.ownsRow base e 1 (.slice (some ⟨g, 0, none⟩) n cap) n xs) (hm : m ≤ n) : w.ownsRow base e 1 (.slice (some ⟨g, 0, none⟩) m cap) m (xs.take m) := by
  have hl := h.1
  rcases h.2 with ⟨h0, _⟩ | ⟨g', cap', cur, hv, hb, hg, hn, hmx, hs, hx⟩
  · cases h0
  · injection hv with e1 e2 e3
    injection e1 with e1
    injection e1 with e1
    subst e1 e3
    refine ⟨by rw [List.length_take]; omega, .inr ⟨g, cap, cur, rfl, hb, hg, by omega, hmx, hs, ?_⟩⟩
    rw [← hx, List.take_take, Nat.min_eq_left (by omega), Nat.mul_one]
end Go.Proofs.YtgcedfpjgdeakaaDoor

/- Contracts of the laws' helpers on []int64: copy, compare, mark, look at the marks. For slices of at most 1048576 elements. -/
namespace Go.Proofs.YtgcedfpjgdeakaaDoor
open Go.RowKit

theorem infoInt64S : (Tryd.prog.info? 2).map (fun i => (i.zero, i.size, i.bytes)) = some (some (Value.int .i64 0), 1, 8) := by kernel_rfl

set_option maxHeartbeats 400000 in
theorem toInt64S_any (A : Option Addr) (n c : Nat) (xs : List Int) (w : World) (ha : Arg w A n (xs.map (Value.int .i64))) (hn : n ≤ 1048576) :
    Calls Tryd.prog 82 #[.slice A n c] w fun e w' => e = .returned (.slice (some ⟨w.heap.size, 0, none⟩) n n) ∧
      w'.ownsRow w.heap.size 2 1 (.slice (some ⟨w.heap.size, 0, none⟩) n n) n (xs.map (Value.int .i64)) ∧ Below w.heap.size w w' := by
  have hmk := fun W => run_make_row' (P := Tryd.prog) 82 2 (Value.int .i64 0) 8 Tryd.underlying82 infoInt64S rfl .i64 .i64 n (by omega) (by omega) W
  have hrow0 := World.rowIs_made w (Value.int .i64 0) n 2
  have hB0 : Below w.heap.size w (w.alloc (.cells (madeCells #[Value.int .i64 0] n) 2)) := (Below.refl _ _).alloc (Nat.le_refl _) _
  go_enter Tryd.func82, Tryd.ntmps82
  go_wp2
  clear hmk
  go_loopw [4] (fun i wr => ∃ k : Nat, k ≤ n ∧ i = .int .i64 k ∧ wr.rowIs w.heap.size 2 n (fun j => if j < k then (xs.map (Value.int .i64)).getD j undef else (Value.int .i64 0)) ∧ Below w.heap.size w wr) (fun i _ => n - (intOf i).toNat)
  case atStart => exact ⟨0, Nat.zero_le _, rfl, hrow0.congr (fun i _ => by simp), hB0⟩
  case round =>
    obtain ⟨k, hk, rfl, hrow, hB⟩ := hrel
    clear hrow0 hB0
    by_cases hlt : k < n
    · obtain ⟨b, off, rfl, hs⟩ := ha.sl hlt
      obtain ⟨x, HX, hx⟩ := map_at (Value.int .i64) xs (k := k) (by have := ha.1; simp at this; omega)
      have hca := (hs.below' hB).at hx
      have hco : wr.cell? ⟨w.heap.size, k, none⟩ = some (Value.int .i64 0) := by simpa using hrow.cell hlt
      have hfo := hrow.frozen k
      have HR := Lib.hid (hrow.set k ((Value.int .i64) x))
      have HB := Lib.hid (hB.setCell (p := ⟨w.heap.size, k, none⟩) (Nat.le_refl _) ((Value.int .i64) x))
      clear hx hrow hB ha hs
      go_wp2
      go_roundw
      case rel =>
        refine ⟨k + 1, by omega, by go_num, HR.out.congr (fun i hi => ?_), HB.out⟩
        exact upd_at ((Value.int .i64)) xs k i x HX.out _
      case measure => simp [intOf]; omega
    · go_wp2
      go_ret
      have hlen := ha.1
      refine ⟨rfl, own_of_rowIs hrow (Nat.le_refl _) (by unfold maxLen; omega) hlen (fun j u hu => ?_), hB⟩
      have hj : j < n := by rw [← hlen]; exact (List.getElem?_eq_some_iff.1 hu).1
      rw [if_pos (by omega), List.getD_eq_getElem?_getD, hu]; rfl

set_option maxHeartbeats 400000 in
theorem eqInt64S_any (A B : Option Addr) (n m c d : Nat) (xs ys : List Int) (w : World) (ha : Arg w A n (xs.map (Value.int .i64))) (hb : Arg w B m (ys.map (Value.int .i64))) (hn : n ≤ 4194304) (hm : m ≤ 4194304) :
    Calls Tryd.prog 91 #[.slice A n c, .slice B m d] w fun e w' => e = .returned (.bool (decide (xs = ys))) ∧ ∃ q, w' = w.drewN q := by
  have HA := Lib.hid ha.1
  have HB := Lib.hid hb.1
  by_cases hnm : n = m
  · subst hnm
    go_enter Tryd.func91, Tryd.ntmps91
    go_wp2
    go_loopw [5] (fun i wr => ∃ k q : Nat, k ≤ n ∧ i = .int .i64 k ∧ wr = w.drewN q ∧ Hid (xs.take k = ys.take k)) (fun i _ => n - (intOf i).toNat)
    case atStart => exact ⟨0, 0, Nat.zero_le _, rfl, rfl, rfl⟩
    case round =>
      obtain ⟨k, q, hk, rfl, rfl, HR⟩ := hrel
      by_cases hlt : k < n
      · obtain ⟨b1, o1, rfl, hs1⟩ := ha.sl hlt
        obtain ⟨b2, o2, rfl, hs2⟩ := hb.sl hlt
        obtain ⟨x, HX, hx⟩ := map_at (Value.int .i64) xs (k := k) (by have := HA.out; simp at this; omega)
        obtain ⟨y, HY, hy⟩ := map_at (Value.int .i64) ys (k := k) (by have := HB.out; simp at this; omega)
        have hca := hs1.at hx
        have hcb := hs2.at hy
        clear hx hy hs1 hs2 ha hb
        by_cases e : x = y
        · subst e; have hz : (x != x) = false := by simp
          go_wp2
          go_quiet (fail)
          go_wp2
          go_roundw
          case rel => exact ⟨k + 1, _, by omega, by go_num, rfl, take_succ_eq HR.out HX.out HY.out rfl⟩
          case measure => simp [intOf]; omega
        · have hz : (x != y) = true := by simpa using e
          have HE := Lib.hid e
          clear e
          go_wp2
          go_quiet (fail)
          go_wp2
          go_ret
          exact ⟨ret_bool (by simp [ne_of_at HX.out HY.out HE.out]), by first | exact ⟨_, rfl⟩ | exact ⟨_, World.drewN_drewN _ _ _⟩⟩
      · go_wp2
        go_ret
        refine ⟨ret_bool ?_, _, rfl⟩
        have h1 := HR.out
        have h2 := HA.out
        have h3 := HB.out
        simp only [List.length_map] at h2 h3
        rw [List.take_of_length_le (by omega), List.take_of_length_le (by omega)] at h1
        simp [h1]
  · have hne : ((n : Int) != (m : Int)) = true := by simp; omega
    go_enter Tryd.func91, Tryd.ntmps91
    go_wp2
    go_ret
    refine ⟨ret_bool ?_, 0, rfl⟩
    have h2 := HA.out
    have h3 := HB.out
    simp only [List.length_map] at h2 h3
    symm
    apply decide_eq_false
    rintro rfl
    omega

def mkInt64S (k : Int) : Value := .int .i64 k

end Go.Proofs.YtgcedfpjgdeakaaDoor

/- slices.Sort, slices.Compact and slices.Clone on rows of numbers of the call's own; SortList, rising, l00Put. -/
namespace Go.Proofs.YtgcedfpjgdeakaaDoor
open Go.RowKit Go.Sort
set_option linter.all false
end Go.Proofs.YtgcedfpjgdeakaaDoor

/- l00Put puts a number to its place among rising ones. -/
namespace Go.Proofs.YtgcedfpjgdeakaaDoor
open Go.RowKit
set_option linter.all false

theorem own_cap' {w : World} {base : Nat} {e : TypeId} {size n : Nat} {v : Value} {xs : List Value} (h : w.ownsRow base e size v n xs) : ∀ A c, v = .slice A n c → n ≤ c := by
  intro A c hv
  rcases h.2 with ⟨h0, h1⟩ | ⟨g, cap, cur, h0, _, _, h1, _⟩
  · omega
  · rw [h0] at hv; injection hv with _ _ h3; omega
theorem grown_cell_new {wr w2 : World} {o : Obj} {base : Nat} {e : TypeId} {size n : Nat} {v : Value} {xs : List Value} (hown : wr.ownsRow base e size v n xs) (hg : (wr.alloc o).grownBy w2 v.ownBlock) {j : Nat} {u : Value} (h : (wr.alloc o).cell? ⟨wr.heap.size, j, none⟩ = some u) : w2.cell? ⟨wr.heap.size, j, none⟩ = some u :=
  hg.cell h (by intro e; have := hown.lt _ e.symm; simp at this)

theorem put_lt {n y : Int} {xs : List Int} {k : Nat} (hy : xs[k]? = some y) (h : n < y) : put n (xs.drop k) = n :: y :: xs.drop (k + 1) := by
  rw [drop_at hy, put, if_pos (by omega), if_pos h]
theorem put_eqv {n y : Int} {xs : List Int} {k : Nat} (hy : xs[k]? = some y) (h : n = y) : put n (xs.drop k) = y :: xs.drop (k + 1) := by
  rw [drop_at hy, put, if_pos (by omega), if_neg (by omega)]
theorem put_gt {n y : Int} {xs : List Int} {k : Nat} (hy : xs[k]? = some y) (h : y < n) : put n (xs.drop k) = y :: put n (xs.drop (k + 1)) := by
  rw [drop_at hy, put, if_neg (by omega)]
theorem take_snoc' {xs : List Int} {k : Nat} {y : Int} (hy : xs[k]? = some y) : xs.take (k + 1) = xs.take k ++ [y] := by
  rw [List.take_add_one, hy]; rfl

end Go.Proofs.YtgcedfpjgdeakaaDoor

/- The variables of a combinator term: combVariables, CombVariables and the reference's l18Names, CombVariables. -/
namespace Go.Proofs.YtgcedfpjgdeakaaDoor
open Go.RowKit
set_option linter.all false

/-- The variables, in order. -/
def varsC : List R2 → List Int
  | [] => []
  | x :: l => (if x.a = 4 then [x.b] else []) ++ varsC l
theorem varsC_app (xs ys : List R2) : varsC (xs ++ ys) = varsC xs ++ varsC ys := by
  induction xs with
  | nil => rfl
  | cons x l ih => simp [varsC, ih]
theorem varsC_len (xs : List R2) : (varsC xs).length ≤ xs.length := by
  induction xs with
  | nil => simp [varsC]
  | cons x l ih => rw [varsC]; split <;> simp <;> omega
theorem varsC_step {xs : List R2} {k : Nat} {x : R2} (h : xs[k]? = some x) : varsC (xs.take (k + 1)) = varsC (xs.take k) ++ (if x.a = 4 then [x.b] else []) := by
  rw [List.take_add_one, h, varsC_app]; simp [varsC]
theorem validC_len {xs : List R2} (h : validC xs = true) : 1 ≤ xs.length ∧ xs.length ≤ 400 := by
  unfold validC at h
  have := (inB_iff _ _ _).1 (Bool.and_eq_true _ _ ▸ h).1
  omega

def combVars (xs : List R2) : List Int × Int := if validC xs then (sortU (varsC xs), 0) else ([], 1)
theorem bndCombVariables0 (xs : List R2) (h : xs.length ≤ 1048576) : (combVars xs).1.length ≤ 1048576 := by
  unfold combVars
  split
  · have h1 := sortU_len (varsC xs)
    have h2 := varsC_len xs
    show (sortU (varsC xs)).length ≤ _
    omega
  · simp
end Go.Proofs.YtgcedfpjgdeakaaDoor

/- Abstraction of combinator terms: what it gives. Plain lemmas. -/
namespace Go.Proofs.YtgcedfpjgdeakaaDoor
set_option linter.all false

instance : DecidableEq R2 := fun x y => decidable_of_iff (x.a = y.a ∧ x.b = y.b) ⟨fun ⟨h1, h2⟩ => by cases x; cases y; simp_all, fun h => by subst h; exact ⟨rfl, rfl⟩⟩
def isV (k : Int) (x : R2) : Bool := decide (x.a = 4) && decide (x.b = k)
def hasV (k : Int) (c : List R2) : Bool := c.any (isV k)
/-- Where the second part of an application begins. -/
def midC (c : List R2) : Nat := max 1 (tPos kFol 1 (c.drop 1)).toNat
def oneV (k : Int) : List R2 → Bool
  | [x] => isV k x
  | _ => false
def absC (k : Int) (short : Bool) (c : List R2) : List R2 :=
  if oneV k c then [⟨3, 0⟩]
  else if h : hasV k c = false then ⟨0, 0⟩ :: ⟨2, 0⟩ :: c
  else if short && oneV k (c.drop (midC c)) && !hasV k ((c.drop 1).take (midC c - 1)) then (c.drop 1).take (midC c - 1)
  else ⟨0, 0⟩ :: ⟨0, 0⟩ :: ⟨1, 0⟩ :: (absC k short ((c.drop 1).take (midC c - 1)) ++ absC k short (c.drop (midC c)))
  termination_by c.length
  decreasing_by
    all_goals
      have hc : 0 < c.length := by
        cases c with
        | nil => simp [hasV] at h
        | cons x l => simp
      have hm : 1 ≤ midC c := by unfold midC; omega
      simp_wf
      omega
theorem abs_one {k : Int} {short : Bool} {c : List R2} (h : oneV k c = true) : absC k short c = [⟨3, 0⟩] := by rw [absC, if_pos h]
theorem abs_not {k : Int} {short : Bool} {c : List R2} (h1 : oneV k c = false) (h : hasV k c = false) : absC k short c = ⟨0, 0⟩ :: ⟨2, 0⟩ :: c := by
  rw [absC, if_neg (by simp [h1]), dif_pos h]
theorem abs_eta {k : Int} {short : Bool} {c d e : List R2} (h1 : oneV k c = false) (h : hasV k c = true) (hd : (c.drop 1).take (midC c - 1) = d) (he : c.drop (midC c) = e) (h3 : (short && oneV k e && !hasV k d) = true) : absC k short c = d := by
  rw [absC, if_neg (by simp [h1]), dif_neg (by simp [h]), hd, he, if_pos h3]
theorem abs_app {k : Int} {short : Bool} {c d e : List R2} (h1 : oneV k c = false) (h : hasV k c = true) (hd : (c.drop 1).take (midC c - 1) = d) (he : c.drop (midC c) = e) (h3 : (short && oneV k e && !hasV k d) = false) : absC k short c = ⟨0, 0⟩ :: ⟨0, 0⟩ :: ⟨1, 0⟩ :: (absC k short d ++ absC k short e) := by
  rw [absC, if_neg (by simp [h1]), dif_neg (by simp [h]), hd, he, if_neg (by simp [h3])]
/-- A term in which a variable occurs, and which is not it, is an application of two terms. -/
theorem abs_parts {k : Int} {c : List R2} (hf : fit kFol 1 c = true) (h1 : oneV k c = false) (h : hasV k c = true) :
    ∃ q, 1 ≤ q ∧ q + 1 < c.length ∧ midC c = q + 1 ∧ tPos kFol 1 (c.drop 1) = ((q + 1 : Nat) : Int) ∧ fit kFol 1 ((c.drop 1).take q) = true ∧ fit kFol 1 (c.drop (q + 1)) = true := by
  cases c with
  | nil => simp [hasV] at h
  | cons x l =>
    rw [show (1 : Nat) = 0 + 1 from rfl, fit_sc, Nat.zero_add] at hf
    unfold kFol at hf
    by_cases ha : x.a = 0
    · rw [if_pos ha] at hf
      obtain ⟨q, g1, g2, g3, g4, g5⟩ := fit_split kFol l 1 1 1 hf
      have hne := fit_ne kFol _ 0 g4
      rw [List.length_drop] at hne
      have ht : tPos kFol 1 l = ((q + 1 : Nat) : Int) := by unfold tPos; rw [g2]; congr 1; omega
      refine ⟨q, g5 (by omega), by simp; omega, ?_, ht, g3, g4⟩
      show max 1 (tPos kFol 1 l).toNat = _
      rw [ht]; simp
    · rw [if_neg ha] at hf
      cases l with
      | nil =>
        simp only [oneV] at h1
        simp [hasV, h1] at h
      | cons y l => rw [fit_0c] at hf; cases hf
theorem absC_len (k : Int) (short : Bool) (N : Nat) : ∀ c : List R2, c.length ≤ N → fit kFol 1 c = true → (absC k short c).length ≤ 4 * c.length := by
  induction N with
  | zero => intro c h hf; have := fit_ne kFol c 0 hf; omega
  | succ N ih =>
    intro c h hf
    have hc := fit_ne kFol c 0 hf
    cases h1 : oneV k c with
    | true => rw [abs_one h1]; simp; omega
    | false =>
      cases h2 : hasV k c with
      | false => rw [abs_not h1 h2]; simp; omega
      | true =>
        obtain ⟨q, q1, q2, q3, q4, q5, q6⟩ := abs_parts hf h1 h2
        have hd : (c.drop 1).take (midC c - 1) = (c.drop 1).take q := by rw [q3]; rfl
        have he : c.drop (midC c) = c.drop (q + 1) := by rw [q3]
        have ld : ((c.drop 1).take q).length = q := by rw [List.length_take, List.length_drop]; omega
        have le : (c.drop (q + 1)).length = c.length - (q + 1) := List.length_drop
        cases h3 : (short && oneV k (c.drop (q + 1)) && !hasV k ((c.drop 1).take q)) with
        | true => rw [abs_eta h1 h2 hd he h3, ld]; omega
        | false =>
          rw [abs_app h1 h2 hd he h3]
          have i1 := ih _ (by omega) q5
          have i2 := ih _ (by omega) q6
          rw [ld] at i1
          rw [le] at i2
          simp only [List.length_cons, List.length_append]
          omega
theorem absC_ne (k : Int) (short : Bool) (c : List R2) (hf : fit kFol 1 c = true) : 1 ≤ (absC k short c).length := by
  have hc := fit_ne kFol c 0 hf
  cases h1 : oneV k c with
  | true => rw [abs_one h1]; simp
  | false =>
    cases h2 : hasV k c with
    | false => rw [abs_not h1 h2]; simp
    | true =>
      obtain ⟨q, q1, q2, q3, q4, q5, q6⟩ := abs_parts hf h1 h2
      have hd : (c.drop 1).take (midC c - 1) = (c.drop 1).take q := by rw [q3]; rfl
      have he : c.drop (midC c) = c.drop (q + 1) := by rw [q3]
      cases h3 : (short && oneV k (c.drop (q + 1)) && !hasV k ((c.drop 1).take q)) with
      | true => rw [abs_eta h1 h2 hd he h3, List.length_take, List.length_drop]; omega
      | false => rw [abs_app h1 h2 hd he h3]; simp
theorem mem_varsC (k : Int) (c : List R2) : k ∈ varsC c ↔ hasV k c = true := by
  induction c with
  | nil => simp [varsC, hasV]
  | cons x l ih =>
    unfold hasV at ih ⊢
    rw [varsC, List.mem_append, ih, List.any_cons, Bool.or_eq_true]
    unfold isV
    by_cases h : x.a = 4
    · rw [if_pos h, List.mem_singleton, decide_eq_true h, Bool.true_and, decide_eq_true_eq, eq_comm (a := k)]
    · simp [h]
theorem has_names (k : Int) (c : List R2) : decide (k ∈ sortU (varsC c)) = hasV k c := by
  rw [Bool.eq_iff_iff, decide_eq_true_eq, (sortU_asc (varsC c)).2 k, mem_varsC]
end Go.Proofs.YtgcedfpjgdeakaaDoor

/- From lambda terms to combinator terms: what it gives, and that the two ways of naming bound variables agree. Plain lemmas. -/
namespace Go.Proofs.YtgcedfpjgdeakaaDoor
set_option linter.all false

def lFol (x : R2) : Nat := if x.a = 1 then 1 else if x.a = 2 then 2 else 0
theorem lFol_le (x : R2) : lFol x ≤ 2 := by
  unfold lFol
  split
  · omega
  · split <;> omega
theorem lFol_0 {x : R2} (h : x.a = 0) : lFol x = 0 := by unfold lFol; rw [h]; rfl
theorem lFol_1 {x : R2} (h : x.a = 1) : lFol x = 1 := by unfold lFol; rw [if_pos h]
theorem lFol_2 {x : R2} (h : x.a = 2) : lFol x = 2 := by unfold lFol; rw [h]; rfl
def lOk (x : R2) : Bool := (decide (x.a = 0) && inB x.b 0 399) || ((decide (x.a = 1) || decide (x.a = 2)) && decide (x.b = 0))
def validT (xs : List R2) : Bool := inB xs.length 1 400 && (xs.all lOk && fit lFol 1 xs)
theorem lOk_cases {x : R2} (h : lOk x = true) : (x.a = 0 ∧ 0 ≤ x.b ∧ x.b ≤ 399) ∨ x.a = 1 ∨ x.a = 2 := by
  unfold lOk at h
  simp only [Bool.or_eq_true, Bool.and_eq_true, decide_eq_true_eq, inB_iff] at h
  omega

/-- A term that is not too long. -/
def capC (c : List R2) : Option (List R2) := if c.length ≤ 400 then some c else none
/-- Where the second part of an application begins. -/
def midL (l : List R2) : Nat := (tPos lFol 0 l).toNat
def lamC (ix : Int → Int → Int) (bx : Int → Int) (short : Bool) (dep : Int) (t : List R2) : Option (List R2) :=
  match t with
  | [] => none
  | x :: l =>
    if x.a = 0 then some [⟨4, ix x.b dep⟩]
    else if x.a = 1 then
      match lamC ix bx short (dep + 1) l with
      | none => none
      | some c => capC (absC (bx dep) short c)
    else
      match lamC ix bx short dep (l.take (midL l)) with
      | none => none
      | some d =>
        match lamC ix bx short dep (l.drop (midL l)) with
        | none => none
        | some e => capC (⟨0, 0⟩ :: (d ++ e))
  termination_by t.length
  decreasing_by all_goals simp_wf; try omega
section
variable (ix : Int → Int → Int) (bx : Int → Int) (short : Bool) (dep : Int)
theorem lam_var {x : R2} {l : List R2} (h : x.a = 0) : lamC ix bx short dep (x :: l) = some [⟨4, ix x.b dep⟩] := by rw [lamC, if_pos h]
theorem lam_abs {x : R2} {l : List R2} (h : x.a = 1) : lamC ix bx short dep (x :: l) = match lamC ix bx short (dep + 1) l with | none => none | some c => capC (absC (bx dep) short c) := by
  rw [lamC, if_neg (by omega), if_pos h]
theorem lam_abs_none {x : R2} {l : List R2} (h : x.a = 1) (h1 : lamC ix bx short (dep + 1) l = none) : lamC ix bx short dep (x :: l) = none := by rw [lam_abs _ _ _ _ h, h1]
theorem lam_abs_some {x : R2} {l c : List R2} (h : x.a = 1) (h1 : lamC ix bx short (dep + 1) l = some c) : lamC ix bx short dep (x :: l) = capC (absC (bx dep) short c) := by rw [lam_abs _ _ _ _ h, h1]
theorem lam_app {x : R2} {l : List R2} (h0 : x.a ≠ 0) (h1 : x.a ≠ 1) : lamC ix bx short dep (x :: l) = match lamC ix bx short dep (l.take (midL l)) with | none => none | some d => (match lamC ix bx short dep (l.drop (midL l)) with | none => none | some e => capC (⟨0, 0⟩ :: (d ++ e))) := by
  rw [lamC, if_neg h0, if_neg h1]
theorem lam_app_none1 {x : R2} {l : List R2} (h : x.a = 2) (h1 : lamC ix bx short dep (l.take (midL l)) = none) : lamC ix bx short dep (x :: l) = none := by rw [lam_app _ _ _ _ (by omega) (by omega), h1]
theorem lam_app_none2 {x : R2} {l d : List R2} (h : x.a = 2) (h1 : lamC ix bx short dep (l.take (midL l)) = some d) (h2 : lamC ix bx short dep (l.drop (midL l)) = none) : lamC ix bx short dep (x :: l) = none := by rw [lam_app _ _ _ _ (by omega) (by omega), h1, h2]
theorem lam_app_some {x : R2} {l d e : List R2} (h : x.a = 2) (h1 : lamC ix bx short dep (l.take (midL l)) = some d) (h2 : lamC ix bx short dep (l.drop (midL l)) = some e) : lamC ix bx short dep (x :: l) = capC (⟨0, 0⟩ :: (d ++ e)) := by rw [lam_app _ _ _ _ (by omega) (by omega), h1, h2]
end
theorem capC_yes {c : List R2} (h : c.length ≤ 400) : capC c = some c := by rw [capC, if_pos h]
theorem capC_no {c : List R2} (h : 400 < c.length) : capC c = none := by rw [capC, if_neg (by omega)]
theorem capC_some {c d : List R2} (h : capC c = some d) : c = d ∧ d.length ≤ 400 := by
  unfold capC at h
  split at h
  · injection h with h; subst h; exact ⟨rfl, by assumption⟩
  · cases h

theorem fit_app {α : Type} (fol : α → Nat) (l : List α) : ∀ (a b : Nat) (m : List α), fit fol a l = true → fit fol b m = true → fit fol (a + b) (l ++ m) = true := by
  induction l with
  | nil =>
    intro a b m h1 h2
    cases a with
    | zero => simpa using h2
    | succ a => rw [fit_s0] at h1; cases h1
  | cons x l ih =>
    intro a b m h1 h2
    cases a with
    | zero => rw [fit_0c] at h1; cases h1
    | succ a =>
      rw [fit_sc] at h1
      rw [show a + 1 + b = (a + b) + 1 by omega, List.cons_append, fit_sc, show a + b + fol x = (a + fol x) + b by omega]
      exact ih _ _ _ h1 h2
theorem fit_one0 {k v : Int} (h : k ≠ 0) : fit kFol 1 [⟨k, v⟩] = true := by
  rw [show (1 : Nat) = 0 + 1 from rfl, fit_sc]
  unfold kFol
  rw [if_neg h]
  exact fit_00 kFol
theorem fit_ap {d e : List R2} (h1 : fit kFol 1 d = true) (h2 : fit kFol 1 e = true) : fit kFol 1 (⟨0, 0⟩ :: (d ++ e)) = true := by
  rw [show (1 : Nat) = 0 + 1 from rfl, fit_sc]
  exact fit_app kFol d 1 1 e h1 h2
theorem absC_fit (k : Int) (short : Bool) (N : Nat) : ∀ c : List R2, c.length ≤ N → fit kFol 1 c = true → fit kFol 1 (absC k short c) = true := by
  induction N with
  | zero => intro c h hf; have := fit_ne kFol c 0 hf; omega
  | succ N ih =>
    intro c h hf
    cases h1 : oneV k c with
    | true => rw [abs_one h1]; exact fit_one0 (by decide)
    | false =>
      cases h2 : hasV k c with
      | false => rw [abs_not h1 h2]; exact fit_ap (d := [⟨2, 0⟩]) (fit_one0 (by decide)) hf
      | true =>
        obtain ⟨q, q1, q2, q3, q4, q5, q6⟩ := abs_parts hf h1 h2
        have hd : (c.drop 1).take (midC c - 1) = (c.drop 1).take q := by rw [q3]; rfl
        have he : c.drop (midC c) = c.drop (q + 1) := by rw [q3]
        have ld : ((c.drop 1).take q).length = q := by rw [List.length_take, List.length_drop]; omega
        have le : (c.drop (q + 1)).length = c.length - (q + 1) := List.length_drop
        cases h3 : (short && oneV k (c.drop (q + 1)) && !hasV k ((c.drop 1).take q)) with
        | true => rw [abs_eta h1 h2 hd he h3]; exact q5
        | false =>
          rw [abs_app h1 h2 hd he h3]
          have i1 := ih _ (by omega) q5
          have i2 := ih _ (by omega) q6
          have := fit_ap (fit_ap (d := [⟨1, 0⟩]) (fit_one0 (by decide)) i1) i2
          simpa using this
/-- Which variables an abstraction has. -/
theorem absC_vars (k : Int) (short : Bool) (N : Nat) : ∀ c : List R2, c.length ≤ N → ∀ x ∈ absC k short c, x.a = 4 → x ∈ c ∧ isV k x = false := by
  induction N with
  | zero =>
    intro c h x hx h4
    have hc : c = [] := List.length_eq_zero_iff.1 (by omega)
    subst hc
    rw [abs_not rfl rfl] at hx
    simp at hx
    rcases hx with rfl | rfl <;> simp at h4
  | succ N ih =>
    intro c h x hx h4
    cases h1 : oneV k c with
    | true => rw [abs_one h1] at hx; simp at hx; subst hx; simp at h4
    | false =>
      cases h2 : hasV k c with
      | false =>
        rw [abs_not h1 h2] at hx
        simp only [List.mem_cons] at hx
        rcases hx with rfl | rfl | hx
        · simp at h4
        · simp at h4
        · refine ⟨hx, ?_⟩
          unfold hasV at h2
          rw [List.any_eq_false] at h2
          simpa using h2 x hx
      | true =>
        have hc : 0 < c.length := by
          cases c with
          | nil => simp [hasV] at h2
          | cons y l => simp
        have hm : 1 ≤ midC c := by unfold midC; omega
        cases h3 : (short && oneV k (c.drop (midC c)) && !hasV k ((c.drop 1).take (midC c - 1))) with
        | true =>
          rw [abs_eta h1 h2 rfl rfl h3] at hx
          refine ⟨List.mem_of_mem_drop (List.mem_of_mem_take hx), ?_⟩
          simp only [Bool.and_eq_true, Bool.not_eq_true'] at h3
          have h5 := h3.2
          unfold hasV at h5
          rw [List.any_eq_false] at h5
          simpa using h5 x hx
        | false =>
          rw [abs_app h1 h2 rfl rfl h3] at hx
          simp only [List.mem_cons, List.mem_append] at hx
          rcases hx with rfl | rfl | rfl | hx | hx
          · simp at h4
          · simp at h4
          · simp at h4
          · obtain ⟨i1, i2⟩ := ih _ (by rw [List.length_take, List.length_drop]; omega) x hx h4
            exact ⟨List.mem_of_mem_drop (List.mem_of_mem_take i1), i2⟩
          · obtain ⟨i1, i2⟩ := ih _ (by rw [List.length_drop]; omega) x hx h4
            exact ⟨List.mem_of_mem_drop i1, i2⟩
/-- Renaming. -/
theorem tPosAt_map {α : Type} (fol : α → Nat) (f : α → α) (hf : ∀ x, fol (f x) = fol x) (l : List α) : ∀ a k : Nat, tPosAt fol a k (l.map f) = tPosAt fol a k l := by
  induction l with
  | nil => intro a k; rfl
  | cons x l ih =>
    intro a k
    cases a with
    | zero => rw [tPosAt_zero, tPosAt_zero]
    | succ a => rw [List.map_cons, tPosAt_succ, tPosAt_succ, hf, ih]
def ren (x : R2) : R2 := if x.a = 4 ∧ x.b < 0 then ⟨4, 399 - x.b⟩ else x
theorem ren_not {x : R2} (h : x.a ≠ 4) : ren x = x := by unfold ren; rw [if_neg (fun h2 => h h2.1)]
theorem ren_a (x : R2) : (ren x).a = x.a := by
  unfold ren
  split
  · rename_i h; exact h.1.symm
  · rfl
theorem ren_fol (x : R2) : kFol (ren x) = kFol x := by unfold kFol; rw [ren_a]
theorem midC_ren (c : List R2) : midC (c.map ren) = midC c := by
  unfold midC tPos
  rw [← List.map_drop, tPosAt_map kFol ren ren_fol]
theorem hasV_ren {k k' : Int} {c : List R2} (h : ∀ x ∈ c, isV k' (ren x) = isV k x) : hasV k' (c.map ren) = hasV k c := by
  unfold hasV
  rw [List.any_map]
  induction c with
  | nil => rfl
  | cons x l ih =>
    rw [List.any_cons, List.any_cons, ih (fun y hy => h y (List.mem_cons_of_mem _ hy))]
    rw [show (isV k' ∘ ren) x = isV k' (ren x) from rfl, h x (by simp)]
theorem oneV_ren {k k' : Int} {c : List R2} (h : ∀ x ∈ c, isV k' (ren x) = isV k x) : oneV k' (c.map ren) = oneV k c := by
  match c, h with
  | [], _ => rfl
  | [x], h => exact h x (by simp)
  | _ :: _ :: _, _ => rfl
theorem absC_ren (k k' : Int) (short : Bool) (N : Nat) : ∀ c : List R2, c.length ≤ N → (∀ x ∈ c, isV k' (ren x) = isV k x) → absC k' short (c.map ren) = (absC k short c).map ren := by
  induction N with
  | zero =>
    intro c h _
    have hc : c = [] := List.length_eq_zero_iff.1 (by omega)
    subst hc
    rw [List.map_nil, abs_not rfl rfl, abs_not rfl rfl]
    rfl
  | succ N ih =>
    intro c h hv
    have e1 := oneV_ren hv
    have e2 := hasV_ren hv
    have em := midC_ren c
    have hvd : ∀ x ∈ (c.drop 1).take (midC c - 1), isV k' (ren x) = isV k x := fun x hx => hv x (List.mem_of_mem_drop (List.mem_of_mem_take hx))
    have hve : ∀ x ∈ c.drop (midC c), isV k' (ren x) = isV k x := fun x hx => hv x (List.mem_of_mem_drop hx)
    have hd : ((c.map ren).drop 1).take (midC (c.map ren) - 1) = ((c.drop 1).take (midC c - 1)).map ren := by rw [em, List.map_take, List.map_drop]
    have he : (c.map ren).drop (midC (c.map ren)) = (c.drop (midC c)).map ren := by rw [em, List.map_drop]
    have e3 := oneV_ren hve
    have e4 := hasV_ren hvd
    cases h1 : oneV k c with
    | true => rw [abs_one (e1.trans h1), abs_one h1]; rfl
    | false =>
      cases h2 : hasV k c with
      | false => rw [abs_not (e1.trans h1) (e2.trans h2), abs_not h1 h2]; rfl
      | true =>
        have hc : 0 < c.length := by
          cases c with
          | nil => simp [hasV] at h2
          | cons y l => simp
        have hm : 1 ≤ midC c := by unfold midC; omega
        cases h3 : (short && oneV k (c.drop (midC c)) && !hasV k ((c.drop 1).take (midC c - 1))) with
        | true => rw [abs_eta (e1.trans h1) (e2.trans h2) hd he (by rw [e3, e4]; exact h3), abs_eta h1 h2 rfl rfl h3]
        | false =>
          rw [abs_app (e1.trans h1) (e2.trans h2) hd he (by rw [e3, e4]; exact h3), abs_app h1 h2 rfl rfl h3]
          rw [ih _ (by rw [List.length_take, List.length_drop]; omega) hvd, ih _ (by rw [List.length_drop]; omega) hve]
          simp only [List.map_cons, List.map_append]
          rfl
def ixI (i d : Int) : Int := i - d
def bxI (d : Int) : Int := -1 - d
def ixS (i d : Int) : Int := if i - d < 0 then 400 + d - 1 - i else i - d
def bxS (d : Int) : Int := 400 + d
theorem midL_le (l : List R2) : midL l ≤ l.length := by
  unfold midL tPos
  have := tPosAt_le lFol l 1 0
  omega
/-- What is true of each term that is given. -/
theorem lamC_facts (short : Bool) (N : Nat) : ∀ (t : List R2) (dep : Int) (c : List R2), t.length ≤ N → t.all lOk = true → 0 ≤ dep → lamC ixI bxI short dep t = some c →
    c.length ≤ 400 ∧ fit kFol 1 c = true ∧ (∀ x ∈ c, x.a = 4 → -dep ≤ x.b ∧ x.b ≤ 399) ∧ lamC ixS bxS short dep t = some (c.map ren) := by
  induction N with
  | zero => intro t dep c h _ _ hc; have : t = [] := List.length_eq_zero_iff.1 (by omega); subst this; rw [lamC] at hc; cases hc
  | succ N ih =>
    intro t dep c h hok hdep hc
    cases t with
    | nil => rw [lamC] at hc; cases hc
    | cons x l =>
      simp only [List.all_cons, Bool.and_eq_true] at hok
      have hx := lOk_cases hok.1
      have hl : l.length ≤ N := by simp at h; omega
      have hall : ∀ m, (l.take m).all lOk = true ∧ (l.drop m).all lOk = true := fun m => ⟨List.all_eq_true.2 fun y hy => List.all_eq_true.1 hok.2 y (List.mem_of_mem_take hy), List.all_eq_true.2 fun y hy => List.all_eq_true.1 hok.2 y (List.mem_of_mem_drop hy)⟩
      by_cases h0 : x.a = 0
      · rw [lam_var _ _ _ _ h0] at hc
        injection hc with hc
        subst hc
        refine ⟨by simp, fit_one0 (by decide), ?_, ?_⟩
        · intro y hy _
          simp at hy
          subst hy
          simp only [ixI]
          omega
        · rw [lam_var _ _ _ _ h0]
          have e : ren ⟨4, ixI x.b dep⟩ = ⟨4, ixS x.b dep⟩ := by
            unfold ixS ixI
            by_cases hn : x.b - dep < 0
            · rw [ren, if_pos ⟨rfl, hn⟩, if_pos hn]
              exact R2.ext' rfl (by show 399 - (x.b - dep) = 400 + dep - 1 - x.b; omega)
            · rw [ren, if_neg (fun h => hn h.2), if_neg hn]
          rw [List.map_cons, List.map_nil, e]
      · by_cases h1 : x.a = 1
        · cases h2 : lamC ixI bxI short (dep + 1) l with
          | none => rw [lam_abs_none _ _ _ _ h1 h2] at hc; cases hc
          | some b =>
            rw [lam_abs_some _ _ _ _ h1 h2] at hc
            obtain ⟨hc, hlen⟩ := capC_some hc
            obtain ⟨f1, f2, f3, f4⟩ := ih l (dep + 1) b hl hok.2 (by omega) h2
            have hv : ∀ y ∈ b, isV (bxS dep) (ren y) = isV (bxI dep) y := by
              intro y hy
              unfold isV bxS bxI
              rw [ren_a]
              by_cases h4 : y.a = 4
              · have := f3 y hy h4
                rw [decide_eq_true h4, Bool.true_and, Bool.true_and]
                unfold ren
                by_cases hn : y.b < 0
                · rw [if_pos ⟨h4, hn⟩]
                  simp only [decide_eq_decide]
                  omega
                · rw [if_neg (fun h => hn h.2)]
                  simp only [decide_eq_decide]
                  omega
              · simp [h4]
            refine ⟨hlen, hc ▸ absC_fit _ short _ b (Nat.le_refl _) f2, ?_, ?_⟩
            · intro y hy h4
              rw [← hc] at hy
              obtain ⟨g1, g2⟩ := absC_vars _ short _ b (Nat.le_refl _) y hy h4
              have := f3 y g1 h4
              unfold isV bxI at g2
              simp [h4] at g2
              omega
            · rw [lam_abs_some _ _ _ _ h1 f4, absC_ren _ _ short _ b (Nat.le_refl _) hv, hc, capC_yes (by simpa using hlen)]
        · have h2' : x.a = 2 := by omega
          cases h2 : lamC ixI bxI short dep (l.take (midL l)) with
          | none => rw [lam_app_none1 _ _ _ _ h2' h2] at hc; cases hc
          | some d =>
            cases h3 : lamC ixI bxI short dep (l.drop (midL l)) with
            | none => rw [lam_app_none2 _ _ _ _ h2' h2 h3] at hc; cases hc
            | some e =>
              rw [lam_app_some _ _ _ _ h2' h2 h3] at hc
              obtain ⟨hc, hlen⟩ := capC_some hc
              obtain ⟨f1, f2, f3, f4⟩ := ih _ dep d (by rw [List.length_take]; omega) (hall _).1 hdep h2
              obtain ⟨g1, g2, g3, g4⟩ := ih _ dep e (by rw [List.length_drop]; omega) (hall _).2 hdep h3
              refine ⟨hlen, hc ▸ fit_ap f2 g2, ?_, ?_⟩
              · intro y hy h4
                rw [← hc] at hy
                simp only [List.mem_cons, List.mem_append] at hy
                rcases hy with rfl | hy | hy
                · simp at h4
                · exact f3 y hy h4
                · exact g3 y hy h4
              · rw [lam_app_some _ _ _ _ h2' f4 g4, ← hc]
                have : (⟨0, 0⟩ :: (d.map ren ++ e.map ren) : List R2) = (⟨0, 0⟩ :: (d ++ e) : List R2).map ren := by simp only [List.map_cons, List.map_append]; rfl
                rw [this, capC_yes (by rw [List.length_map, hc]; exact hlen)]
theorem lamC_none (short : Bool) (N : Nat) : ∀ (t : List R2) (dep : Int), t.length ≤ N → t.all lOk = true → 0 ≤ dep → lamC ixI bxI short dep t = none → lamC ixS bxS short dep t = none := by
  induction N with
  | zero => intro t dep h _ _ hc; have : t = [] := List.length_eq_zero_iff.1 (by omega); subst this; rw [lamC]
  | succ N ih =>
    intro t dep h hok hdep hc
    cases t with
    | nil => rw [lamC]
    | cons x l =>
      simp only [List.all_cons, Bool.and_eq_true] at hok
      have hx := lOk_cases hok.1
      have hl : l.length ≤ N := by simp at h; omega
      have hall : ∀ m, (l.take m).all lOk = true ∧ (l.drop m).all lOk = true := fun m => ⟨List.all_eq_true.2 fun y hy => List.all_eq_true.1 hok.2 y (List.mem_of_mem_take hy), List.all_eq_true.2 fun y hy => List.all_eq_true.1 hok.2 y (List.mem_of_mem_drop hy)⟩
      by_cases h0 : x.a = 0
      · rw [lam_var _ _ _ _ h0] at hc; cases hc
      · by_cases h1 : x.a = 1
        · cases h2 : lamC ixI bxI short (dep + 1) l with
          | none => rw [lam_abs_none _ _ _ _ h1 (ih l (dep + 1) hl hok.2 (by omega) h2)]
          | some b =>
            rw [lam_abs_some _ _ _ _ h1 h2] at hc
            obtain ⟨f1, f2, f3, f4⟩ := lamC_facts short _ l (dep + 1) b (Nat.le_refl _) hok.2 (by omega) h2
            have hv : ∀ y ∈ b, isV (bxS dep) (ren y) = isV (bxI dep) y := by
              intro y hy
              unfold isV bxS bxI
              rw [ren_a]
              by_cases h4 : y.a = 4
              · have := f3 y hy h4
                rw [decide_eq_true h4, Bool.true_and, Bool.true_and]
                unfold ren
                by_cases hn : y.b < 0
                · rw [if_pos ⟨h4, hn⟩]
                  simp only [decide_eq_decide]
                  omega
                · rw [if_neg (fun h => hn h.2)]
                  simp only [decide_eq_decide]
                  omega
              · simp [h4]
            rw [lam_abs_some _ _ _ _ h1 f4, absC_ren _ _ short _ b (Nat.le_refl _) hv]
            unfold capC at hc ⊢
            rw [List.length_map]
            split at hc
            · cases hc
            · rename_i hh; rw [if_neg hh]
        · have h2' : x.a = 2 := by omega
          cases h2 : lamC ixI bxI short dep (l.take (midL l)) with
          | none => rw [lam_app_none1 _ _ _ _ h2' (ih _ dep (by rw [List.length_take]; omega) (hall _).1 hdep h2)]
          | some d =>
            obtain ⟨f1, f2, f3, f4⟩ := lamC_facts short _ _ dep d (Nat.le_refl _) (hall _).1 hdep h2
            cases h3 : lamC ixI bxI short dep (l.drop (midL l)) with
            | none => rw [lam_app_none2 _ _ _ _ h2' f4 (ih _ dep (by rw [List.length_drop]; omega) (hall _).2 hdep h3)]
            | some e =>
              obtain ⟨g1, g2, g3, g4⟩ := lamC_facts short _ _ dep e (Nat.le_refl _) (hall _).2 hdep h3
              rw [lam_app_some _ _ _ _ h2' h2 h3] at hc
              rw [lam_app_some _ _ _ _ h2' f4 g4]
              unfold capC at hc ⊢
              split at hc
              · cases hc
              · rename_i hh; rw [if_neg (by simpa using hh)]
/-- What LamToComb gives. -/
def lamToComb (t : List R2) (short : Bool) : List R2 × Int := if validT t then (match lamC ixI bxI short 0 t with | some c => (c, 0) | none => ([], 5)) else ([], 1)
theorem ren_id {c : List R2} (h : ∀ x ∈ c, x.a = 4 → 0 ≤ x.b) : c.map ren = c := by
  induction c with
  | nil => rfl
  | cons x l ih =>
    rw [List.map_cons, ih fun y hy => h y (List.mem_cons_of_mem _ hy)]
    congr 1
    unfold ren
    rw [if_neg]
    rintro ⟨h1, h2⟩
    have := h x (by simp) h1
    omega
theorem lamC_same (short : Bool) {t : List R2} (h : t.all lOk = true) : lamC ixS bxS short 0 t = lamC ixI bxI short 0 t := by
  cases h1 : lamC ixI bxI short 0 t with
  | none => exact lamC_none short _ t 0 (Nat.le_refl _) h (by omega) h1
  | some c =>
    obtain ⟨f1, f2, f3, f4⟩ := lamC_facts short _ t 0 c (Nat.le_refl _) h (by omega) h1
    rw [f4, ren_id fun x hx h4 => by have := f3 x hx h4; omega]
theorem bndLamToComb0 (t : List R2) (short : Bool) (h : t.length ≤ 1048576) : (lamToComb t short).1.length ≤ 1048576 := by
  unfold lamToComb
  split
  · rename_i hv
    have hok : t.all lOk = true := by unfold validT at hv; exact (Bool.and_eq_true _ _ ▸ (Bool.and_eq_true _ _ ▸ hv).2).1
    cases h1 : lamC ixI bxI short 0 t with
    | none => simp
    | some c => have := (lamC_facts short _ t 0 c (Nat.le_refl _) hok (by omega) h1).1; simp only; omega
  · simp
end Go.Proofs.YtgcedfpjgdeakaaDoor

/- Lambda terms as trees, their elements and their texts; a text whose numbers are single digits, read. Plain lemmas. -/
namespace Go.Proofs.YtgcedfpjgdeakaaDoor
open Go.RowKit
set_option linter.all false

inductive LTm where
  | v (n : Nat)
  | ab (t : LTm)
  | ap (s t : LTm)
def LTm.flat : LTm → List R2
  | .v n => [⟨0, (n : Int)⟩]
  | .ab t => ⟨1, 0⟩ :: t.flat
  | .ap s t => ⟨2, 0⟩ :: (s.flat ++ t.flat)
def LTm.text : LTm → List UInt8
  | .v n => [UInt8.ofNat (48 + n)]
  | .ab t => 94 :: t.text
  | .ap s t => 40 :: (s.text ++ 32 :: (t.text ++ [41]))
def LTm.small : LTm → Bool
  | .v n => decide (n < 10)
  | .ab t => t.small
  | .ap s t => s.small && t.small
theorem lOk_v0 {x : R2} (h : x.a = 0) : lOk x = inB x.b 0 399 := by unfold lOk; rw [h]; simp
def digB (b : UInt8) : Bool := decide (48 ≤ b.toNat) && decide (b.toNat ≤ 57)
/-- The elements of a text, each digit a number. -/
def rdT : List UInt8 → List R2
  | [] => []
  | b :: r => if b = 40 then ⟨2, 0⟩ :: rdT r else if b = 32 ∨ b = 41 then rdT r else if b = 94 then ⟨1, 0⟩ :: rdT r else ⟨0, (b.toNat : Int) - 48⟩ :: rdT r
/-- No other byte, and no digit behind a digit. -/
def okT : List UInt8 → Bool
  | [] => true
  | b :: r => (b == 40 || b == 32 || b == 41 || b == 94 || (digB b && !digB (r.headD 0))) && okT r
theorem rdT_app (r : List UInt8) : rdT (40 :: r) = ⟨2, 0⟩ :: rdT r := by rw [rdT, if_pos rfl]
theorem rdT_abs (r : List UInt8) : rdT (94 :: r) = ⟨1, 0⟩ :: rdT r := by
  rw [rdT, if_neg (by decide), if_neg (by decide), if_pos rfl]
theorem rdT_blank (r : List UInt8) : rdT (32 :: r) = rdT r := by rw [rdT, if_neg (by decide), if_pos (by decide)]
theorem rdT_close (r : List UInt8) : rdT (41 :: r) = rdT r := by rw [rdT, if_neg (by decide), if_pos (by decide)]
theorem dig_toNat {d : Nat} (h : d < 10) : (UInt8.ofNat (48 + d)).toNat = 48 + d := by rw [UInt8.toNat_ofNat']; omega
theorem rdT_dig {d : Nat} (h : d < 10) (r : List UInt8) : rdT (UInt8.ofNat (48 + d) :: r) = ⟨0, (d : Int)⟩ :: rdT r := by
  have h1 := dig_toNat h
  have ne : ∀ b : UInt8, b.toNat < 48 ∨ 57 < b.toNat → ¬ UInt8.ofNat (48 + d) = b := by
    intro b hb e
    rw [e] at h1; omega
  rw [rdT, if_neg (ne 40 (by decide)), if_neg (by intro e; rcases e with e | e; exact ne 32 (by decide) e; exact ne 41 (by decide) e), if_neg (ne 94 (by decide)), h1]
  congr 2
  omega
theorem okT_cases {b : UInt8} {r : List UInt8} (h : okT (b :: r) = true) : okT r = true ∧
    (b = 40 ∨ b = 32 ∨ b = 41 ∨ b = 94 ∨ ∃ d : Nat, d < 10 ∧ b = UInt8.ofNat (48 + d) ∧ digB (r.headD 0) = false) := by
  rw [okT, Bool.and_eq_true] at h
  refine ⟨h.2, ?_⟩
  have h1 := h.1
  simp only [Bool.or_eq_true, beq_iff_eq, Bool.and_eq_true, digB, decide_eq_true_eq, Bool.not_eq_true'] at h1
  rcases h1 with (((h1 | h1) | h1) | h1) | ⟨⟨h1, h2⟩, h3⟩
  · exact .inl h1
  · exact .inr (.inl h1)
  · exact .inr (.inr (.inl h1))
  · exact .inr (.inr (.inr (.inl h1)))
  · refine .inr (.inr (.inr (.inr ⟨b.toNat - 48, by omega, ?_, h3⟩)))
    apply UInt8.toNat_inj.1
    rw [dig_toNat (by omega)]; omega
theorem rdT_len (l : List UInt8) : (rdT l).length ≤ l.length := by
  induction l with
  | nil => exact Nat.le_refl _
  | cons b r ih =>
    rw [rdT]
    split
    · rw [List.length_cons, List.length_cons]; omega
    split
    · rw [List.length_cons]; omega
    split
    · rw [List.length_cons, List.length_cons]; omega
    · rw [List.length_cons, List.length_cons]; omega
theorem LTm.flat_pos (t : LTm) : 0 < t.flat.length := by cases t <;> simp [LTm.flat]
theorem LTm.text_len (t : LTm) : t.text.length ≤ 4 * t.flat.length ∧ t.flat.length ≤ t.text.length := by
  induction t with
  | v n => simp [LTm.text, LTm.flat]
  | ab t ih => simp only [LTm.text, LTm.flat, List.length_cons]; omega
  | ap s t ih1 ih2 => simp only [LTm.text, LTm.flat, List.length_cons, List.length_append, List.length_nil]; omega
/-- All indices are below 400. -/
def LTm.idx : LTm → Bool
  | .v n => decide (n < 400)
  | .ab t => t.idx
  | .ap s t => s.idx && t.idx
theorem LTm.small_idx : ∀ t : LTm, t.small = true → t.idx = true
  | .v n, h => by
    have h1 : n < 10 := by simpa [LTm.small] using h
    simp only [LTm.idx, decide_eq_true_eq]; omega
  | .ab t, h => by
    rw [LTm.idx]; exact LTm.small_idx t (by simpa [LTm.small] using h)
  | .ap s t, h => by
    have h1 : s.small = true ∧ t.small = true := by simpa [LTm.small] using h
    rw [LTm.idx, LTm.small_idx s h1.1, LTm.small_idx t h1.2]; rfl
theorem LTm.flat_fit : ∀ t : LTm, fit lFol 1 t.flat = true
  | .v n => by
    rw [LTm.flat, show (1 : Nat) = 0 + 1 from rfl, fit_sc, lFol_0 rfl]
    exact fit_00 lFol
  | .ab t => by
    rw [LTm.flat, show (1 : Nat) = 0 + 1 from rfl, fit_sc, lFol_1 rfl]
    exact LTm.flat_fit t
  | .ap s t => by
    rw [LTm.flat, show (1 : Nat) = 0 + 1 from rfl, fit_sc, lFol_2 rfl]
    exact fit_app lFol s.flat 1 1 t.flat (LTm.flat_fit s) (LTm.flat_fit t)
theorem LTm.flat_ok : ∀ t : LTm, t.idx = true → t.flat.all lOk = true
  | .v n, h => by
    have h1 : n < 400 := by simpa [LTm.idx] using h
    rw [LTm.flat, List.all_cons, lOk_v0 rfl, (inB_iff _ _ _).2 (by simp only; omega)]; rfl
  | .ab t, h => by
    rw [LTm.flat, List.all_cons, LTm.flat_ok t (by simpa [LTm.idx] using h)]; rfl
  | .ap s t, h => by
    have h1 : s.idx = true ∧ t.idx = true := by simpa [LTm.idx] using h
    rw [LTm.flat, List.all_cons, List.all_append, LTm.flat_ok s h1.1, LTm.flat_ok t h1.2]; rfl
theorem LTm.flat_validI (t : LTm) (h : t.idx = true) (hl : t.flat.length ≤ 400) : validT t.flat = true := by
  unfold validT
  rw [(inB_iff _ _ _).2 (by have := t.flat_pos; omega), t.flat_ok h, t.flat_fit]; rfl
theorem LTm.flat_valid (t : LTm) (h : t.small = true) (hl : t.flat.length ≤ 400) : validT t.flat = true := t.flat_validI (t.small_idx h) hl
/-- A text that is a valid term's. -/
structure TxOk (l : List UInt8) (t : LTm) : Prop where
  text : t.text = l
  ok : okT l = true
  rd : rdT l = t.flat
  small : t.small = true
  valid : validT t.flat = true
  len : l.length ≤ 60
end Go.Proofs.YtgcedfpjgdeakaaDoor
