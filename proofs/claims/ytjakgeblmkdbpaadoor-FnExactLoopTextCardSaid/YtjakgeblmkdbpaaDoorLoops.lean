/- Loop programs: which are valid. Contracts of isVariable, isLoop, validLoops, ValidLoop and of the reference's l17Var, l17IsLoop, l17Part, l17Is, ValidLoop. -/
import Derived.Test.YtjakgeblmkdbpaaDoorNums
import Derived.Test.YtjakgeblmkdbpaaDoorRec
import Derived.Test.YtjakgeblmkdbpaaDoorSeq
import Derived.Test.YtjakgeblmkdbpaaDoorHelpLoop
namespace Go.Proofs.YtjakgeblmkdbpaaDoor
open Go.RowKit
set_option linter.all false

def isLp (x : R3) : Bool := decide (x.a = 3) || decide (x.a = 4)
/-- A loop program is valid, d more bodies may lie one in another. -/
def vl (d : Nat) : List R3 → Bool
  | [] => true
  | x :: l => inB x.b 0 15 && (if isLp x then decide (0 < d) && inB x.c 0 l.length && vl (d - 1) (l.take x.c.toNat) && vl d (l.drop x.c.toNat)
      else if x.a = 2 then inB x.c 0 15 && vl d l else (decide (x.a = 0) || decide (x.a = 1)) && decide (x.c = 0) && vl d l)
  termination_by l => l.length
  decreasing_by all_goals simp_wf; try omega
theorem vl_nil (d : Nat) : vl d [] = true := by rw [vl]
theorem vl_cons (d : Nat) (x : R3) (l : List R3) : vl d (x :: l) = (inB x.b 0 15 && (if isLp x then decide (0 < d) && inB x.c 0 l.length && vl (d - 1) (l.take x.c.toNat) && vl d (l.drop x.c.toNat)
      else if x.a = 2 then inB x.c 0 15 && vl d l else (decide (x.a = 0) || decide (x.a = 1)) && decide (x.c = 0) && vl d l)) := by rw [vl]
def validL (xs : List R3) : Bool := decide (xs.length ≤ 150) && vl 7 xs

theorem isVariable_is (n : Int) (v : Bool) (h : inB n 0 15 = v) (w : World) : Calls Tryd.prog 90 #[.int .i64 n] w fun e w' => e = .returned (.bool v) ∧ w = w' := by
  go_enter Tryd.func90, Tryd.ntmps90
  go_wp2_with (go_at_call 77; refine (within_is _ _ _ v h _).mono ?_; rintro e w' ⟨rfl, rfl⟩)
  go_ret
  exact ⟨rfl, rfl⟩
theorem l17Var_is (n : Int) (v : Bool) (h : inB n 0 15 = v) (w : World) : Calls Tryd.prog 88 #[.int .i64 n] w fun e w' => e = .returned (.bool v) ∧ w = w' := by
  go_enter Tryd.func88, Tryd.ntmps88
  go_wp2_with (go_at_call 68; refine (l00In_is _ _ _ v h _).mono ?_; rintro e w' ⟨rfl, rfl⟩)
  go_ret
  exact ⟨rfl, rfl⟩

theorem isLoop_is (x : R3) (v : Bool) (h : isLp x = v) (w : World) : Calls Tryd.prog 91 #[.agg #[.int .i64 x.a, .int .i64 x.b, .int .i64 x.c]] w fun e w' => e = .returned (.bool v) ∧ Below w.heap.size w w' := by
  subst h
  obtain ⟨a, b, c⟩ := x
  have h0 : Below w.heap.size w (w.alloc (.cells #[.int .i64 a, .int .i64 b, .int .i64 c] 61)) := (Below.refl _ _).alloc (Nat.le_refl _) _
  by_cases h3 : a = 3
  · subst h3
    go_enter Tryd.func91, Tryd.ntmps91
    go_wp2
    go_ret
    exact ⟨rfl, h0⟩
  · by_cases h4 : a = 4
    · subst h4
      go_enter Tryd.func91, Tryd.ntmps91
      go_wp2
      go_ret
      exact ⟨rfl, h0⟩
    · have e3 : (a == 3) = false := by simpa using h3
      have e4 : (a == 4) = false := by simpa using h4
      go_enter Tryd.func91, Tryd.ntmps91
      go_wp2
      go_ret
      exact ⟨ret_bool (by simp [isLp, h3, h4]), h0⟩

theorem l17IsLoop_is (x : R3) (v : Bool) (h : isLp x = v) (g o : Nat) (w : World) (hc : w.cell? ⟨g, o, none⟩ = some (.int .i64 x.a)) : Calls Tryd.prog 89 #[.pointer (some ⟨g, o, none⟩)] w fun e w' => e = .returned (.bool v) ∧ w = w' := by
  subst h
  obtain ⟨a, b, c⟩ := x
  by_cases h3 : a = 3
  · subst h3
    go_enter Tryd.func89, Tryd.ntmps89
    go_wp2
    go_ret
    exact ⟨rfl, rfl⟩
  · by_cases h4 : a = 4
    · subst h4
      go_enter Tryd.func89, Tryd.ntmps89
      go_wp2
      go_ret
      exact ⟨rfl, rfl⟩
    · have e3 : (a == 3) = false := by simpa using h3
      have e4 : (a == 4) = false := by simpa using h4
      go_enter Tryd.func89, Tryd.ntmps89
      go_wp2
      go_ret
      exact ⟨ret_bool (by simp [isLp, h3, h4]), rfl⟩

theorem vl_no1 {d : Nat} {x : R3} {l : List R3} (h : inB x.b 0 15 = false) : vl d (x :: l) = false := by rw [vl_cons, h]; rfl
theorem vl_lp {d : Nat} {x : R3} {l : List R3} (h : inB x.b 0 15 = true) (h2 : isLp x = true) : vl d (x :: l) = (decide (0 < d) && inB x.c 0 l.length && vl (d - 1) (l.take x.c.toNat) && vl d (l.drop x.c.toNat)) := by
  rw [vl_cons, h, h2]; simp
theorem vl_cp {d : Nat} {x : R3} {l : List R3} (h : inB x.b 0 15 = true) (h2 : isLp x = false) (h3 : x.a = 2) : vl d (x :: l) = (inB x.c 0 15 && vl d l) := by
  rw [vl_cons, h, h2]; simp [h3]
theorem vl_el {d : Nat} {x : R3} {l : List R3} (h : inB x.b 0 15 = true) (h2 : isLp x = false) (h3 : x.a ≠ 2) : vl d (x :: l) = ((decide (x.a = 0) || decide (x.a = 1)) && decide (x.c = 0) && vl d l) := by
  rw [vl_cons, h, h2]; simp [h3]

set_option maxRecDepth 100000 in
set_option maxHeartbeats 1000000 in
theorem validLoops_any (d : Nat) : ∀ (A : Option Addr) (n c : Nat) (t : Int) (xs : List R3) (w : World) (ha : Args 3 w A n (rows R3.vs xs)) (hn : n ≤ 1048576) (hc : n ≤ c) (ht : t + d = 7) (ht0 : 0 ≤ t),
    Calls Tryd.prog 54 #[.slice A n c, .int .i64 t] w fun e w' => e = .returned (.bool (vl d xs)) ∧ Below w.heap.size w w' := by
  induction d using Nat.strongRecOn with
  | ind d ih =>
  intro A n c t xs w ha hn hc ht ht0
  have HT := Lib.hid ht; clear ht
  have IH := Lib.hid ih; clear ih
  have HL : Hid (xs.length = n) := by have := ha.1; rw [rows_len R3.vs_len] at this; unfold Hid; omega
  go_enter Tryd.func54, Tryd.ntmps54
  go_wp2
  go_loopw [5] (fun i wr => ∃ k : Nat, k ≤ n ∧ i = .int .i64 k ∧ Below w.heap.size w wr ∧ Hid (vl d xs = vl d (xs.drop k))) (fun i _ => n - (intOf i).toNat)
  case atStart => exact ⟨0, Nat.zero_le _, rfl, Below.refl _ _, rfl⟩
  case round =>
    obtain ⟨k, hk, rfl, hB, HV⟩ := hrel
    by_cases hlt : k < n
    · obtain ⟨b, off, rfl, hs⟩ := ha.sl hlt
      obtain ⟨x, HX⟩ := hget HL hlt
      have HV1 := Lib.hid (HV.out.trans (congrArg (vl d) (drop_at HX.out)))
      obtain ⟨p0, p1, p2⟩ := (hs.below' hB).rec3 HX.out
      have HR : Hid ((xs.drop (k + 1)).length = n - k - 1) := by have := HL.out; unfold Hid; rw [List.length_drop]; omega
      rcases Bool.eq_false_or_eq_true (inB x.b 0 15) with hv | hv
      · have HA := Lib.hid hv; clear hv
        go_wp2_with fail
        refine (isVariable_is _ true HA.out _).mono ?_
        rintro e w1 ⟨rfl, hw⟩
        obtain ⟨c0, c1, c2, hb1⟩ := alloc3 hw
        have hB1 := below_step hB hb1
        clear hw p0 p1 p2 hb1
        rcases Bool.eq_false_or_eq_true (isLp x) with hv | hv
        · have HI := Lib.hid hv; clear hv
          go_wp2_with fail
          refine (isLoop_is x true HI.out _).mono ?_
          rintro e w2 ⟨rfl, hb2⟩
          have d0 := cell_step c0 hb2
          have d2 := cell_step c2 hb2
          have hB2 := below_step hB1 hb2
          clear c0 c1 c2 hb2
          have HV2 := Lib.hid (HV1.out.trans (vl_lp HA.out HI.out)); 
          by_cases hd0 : d = 0
          · have ht7 : 7 ≤ t := by have := HT.out; omega
            subst hd0
            go_wp2
            go_ret
            exact ⟨ret_bool (by rw [HV2.out]; simp), hB2⟩
          · have ht7 : t < 7 := by have := HT.out; omega
            rcases Bool.eq_false_or_eq_true (inB x.c 0 ((n : Int) - k - 1)) with hv | hv
            · have HC := Lib.hid hv
              obtain ⟨xa, xb, xc⟩ := x
              obtain ⟨hc1, hc2⟩ := (inB_iff _ _ _).1 hv
              clear hv
              obtain ⟨m, hm⟩ : ∃ m : Nat, xc = m := ⟨xc.toNat, by simp at hc1; omega⟩
              subst hm
              simp only at hc1 hc2 d2 d0
              have hkm : k + 1 + m ≤ n := by omega
              go_wp2_with fail
              refine (within_is _ _ _ true HC.out _).mono ?_
              rintro e w3 ⟨rfl, rfl⟩
              obtain ⟨o', ho', hsl⟩ := run_slice_part (P := Tryd.prog) 25 61 Tryd.underlying25 infoLoop b off n c (k + 1) m ((k : Int) + 1) ((k : Int) + 1 + m) (by omega) (by omega) (by omega)
              have HS := Lib.hid (args_part R3.vs_len (hs.below' hB2) (k + 1) m ho' (by have := HL.out; omega))
              clear ho'
              have HD : Hid (t + 1 + ((d - 1 : Nat) : Int) = 7) := by have := HT.out; unfold Hid; omega
              have HV3 : Hid (vl d xs = (vl (d - 1) ((xs.drop (k + 1)).take m) && vl d (xs.drop (k + 1 + m)))) := by
                unfold Hid
                have h5 := HC.out
                rw [HV2.out, HR.out]
                rw [show ((n - k - 1 : Nat) : Int) = (n : Int) - k - 1 by omega, h5, decide_eq_true (show 0 < d by omega), Bool.true_and, Bool.true_and, Int.toNat_natCast, List.drop_drop]
              rcases Bool.eq_false_or_eq_true (vl (d - 1) ((xs.drop (k + 1)).take m)) with hv | hv
              · have HW := Lib.hid hv; clear hv
                go_wp2_with fail
                · refine (IH.out (d - 1) (by omega) _ m _ (t + 1) ((xs.drop (k + 1)).take m) _ HS.out (by omega) (by omega) HD.out (by omega)).mono ?_
                  rintro e w3 ⟨he, hb3⟩
                  clear hsl
                  rw [HW.out] at he
                  subst he
                  have e2 := cell_step d2 hb3
                  have hB3 := below_step hB2 hb3
                  clear hb3
                  go_wp2
                  go_roundw
                  case rel => exact ⟨k + 1 + m, by omega, by go_num, hB3, by unfold Hid; rw [HV3.out, HW.out, Bool.true_and]⟩
                  case measure => simp [intOf]; omega
              · have HW := Lib.hid hv; clear hv
                go_wp2_with fail
                · refine (IH.out (d - 1) (by omega) _ m _ (t + 1) ((xs.drop (k + 1)).take m) _ HS.out (by omega) (by omega) HD.out (by omega)).mono ?_
                  rintro e w3 ⟨he, hb3⟩
                  clear hsl
                  rw [HW.out] at he
                  subst he
                  have hB3 := below_step hB2 hb3
                  clear hb3
                  go_wp2
                  go_ret
                  exact ⟨ret_bool (by rw [HV3.out, HW.out, Bool.false_and]), hB3⟩
            · have HC := Lib.hid hv; clear hv
              go_wp2_with fail
              refine (within_is _ _ _ false HC.out _).mono ?_
              rintro e w3 ⟨rfl, rfl⟩
              go_wp2
              go_ret
              refine ⟨ret_bool ?_, hB2⟩
              rw [HV2.out, HR.out]
              have := HC.out
              rw [show ((n - k - 1 : Nat) : Int) = (n : Int) - k - 1 by omega, this]
              simp
        · have HI := Lib.hid hv; clear hv
          go_wp2_with fail
          refine (isLoop_is x false HI.out _).mono ?_
          rintro e w2 ⟨rfl, hb2⟩
          have d0 := cell_step c0 hb2
          have d2 := cell_step c2 hb2
          have hB2 := below_step hB1 hb2
          clear c0 c1 c2 hb2
          by_cases h2 : x.a = 2
          · have HV2 := Lib.hid (HV1.out.trans (vl_cp HA.out HI.out h2))
            rw [h2] at d0
            clear h2
            rcases Bool.eq_false_or_eq_true (inB x.c 0 15) with hv | hv
            · have HC := Lib.hid hv; clear hv
              go_wp2_with fail
              refine (isVariable_is _ true HC.out _).mono ?_
              rintro e w3 ⟨rfl, rfl⟩
              go_wp2
              go_roundw
              case rel => exact ⟨k + 1, by omega, by go_num, hB2, by unfold Hid; rw [HV2.out, HC.out, Bool.true_and]⟩
              case measure => simp [intOf]; omega
            · have HC := Lib.hid hv; clear hv
              go_wp2_with fail
              refine (isVariable_is _ false HC.out _).mono ?_
              rintro e w3 ⟨rfl, rfl⟩
              go_wp2
              go_ret
              exact ⟨ret_bool (by rw [HV2.out, HC.out, Bool.false_and]), hB2⟩
          · have HV2 := Lib.hid (HV1.out.trans (vl_el HA.out HI.out h2))
            have e2 : (x.a == 2) = false := by simpa using h2
            by_cases hc0 : x.c = 0
            · have ec : (x.c != 0) = false := by simpa using hc0
              have HC := Lib.hid hc0; clear hc0
              by_cases ha0 : x.a = 0
              · rw [ha0] at d0
                clear e2 h2
                have HA0 := Lib.hid ha0; clear ha0
                go_wp2
                go_roundw
                case rel => exact ⟨k + 1, by omega, by go_num, hB2, by unfold Hid; rw [HV2.out, HC.out, HA0.out]; simp⟩
                case measure => simp [intOf]; omega
              · by_cases ha1 : x.a = 1
                · rw [ha1] at d0
                  clear e2 h2 ha0
                  have HA0 := Lib.hid ha1; clear ha1
                  go_wp2
                  go_roundw
                  case rel => exact ⟨k + 1, by omega, by go_num, hB2, by unfold Hid; rw [HV2.out, HC.out, HA0.out]; simp⟩
                  case measure => simp [intOf]; omega
                · have e0 : (x.a != 0) = true := by simpa using ha0
                  have e1 : (x.a != 1) = true := by simpa using ha1
                  have HF : Hid ((decide (x.a = 0) || decide (x.a = 1)) = false) := by unfold Hid; simp [ha0, ha1]
                  clear ha0 ha1 h2
                  go_wp2
                  go_ret
                  exact ⟨ret_bool (by rw [HV2.out, HF.out]; simp), hB2⟩
            · have ec : (x.c != 0) = true := by simpa using hc0
              have HC : Hid (decide (x.c = 0) = false) := by unfold Hid; simp [hc0]
              clear hc0
              by_cases ha0 : x.a = 0
              · have e0 : (x.a != 0) = false := by simpa using ha0
                clear h2 ha0
                go_wp2
                go_ret
                exact ⟨ret_bool (by rw [HV2.out, HC.out]; simp), hB2⟩
              · have e0 : (x.a != 0) = true := by simpa using ha0
                by_cases ha1 : x.a = 1
                · have e1 : (x.a != 1) = false := by simpa using ha1
                  clear h2 ha0 ha1
                  go_wp2
                  go_ret
                  exact ⟨ret_bool (by rw [HV2.out, HC.out]; simp), hB2⟩
                · have e1 : (x.a != 1) = true := by simpa using ha1
                  clear h2 ha0 ha1
                  go_wp2
                  go_ret
                  exact ⟨ret_bool (by rw [HV2.out, HC.out]; simp), hB2⟩
      · have HA := Lib.hid hv; clear hv
        go_wp2_with fail
        refine (isVariable_is _ false HA.out _).mono ?_
        rintro e w1 ⟨rfl, hw⟩
        obtain ⟨c0, c1, c2, hb1⟩ := alloc3 hw
        have hB1 := below_step hB hb1
        clear hw p0 p1 p2 hb1
        go_wp2
        go_ret
        exact ⟨ret_bool (by rw [HV1.out, vl_no1 HA.out]), hB1⟩
    · go_wp2
      go_ret
      exact ⟨ret_bool (by rw [HV.out, List.drop_of_length_le (by have := HL.out; omega), vl_nil]), hB⟩

/-- The part from i up to t. -/
def seg {α : Type} (xs : List α) (i t : Nat) : List α := (xs.drop i).take (t - i)
theorem seg_at {α : Type} {xs : List α} {i t : Nat} {x : α} (h : xs[i]? = some x) (hit : i < t) : seg xs i t = x :: seg xs (i + 1) t := by
  unfold seg
  rw [drop_at h, show t - i = (t - (i + 1)) + 1 by omega, List.take_succ_cons]
theorem seg_len {α : Type} {xs : List α} {i t : Nat} (h : t ≤ xs.length) : (seg xs i t).length = t - i := by
  unfold seg; rw [List.length_take, List.length_drop]; omega
theorem seg_end {α : Type} {xs : List α} {i t : Nat} (h : t ≤ i) : seg xs i t = [] := by
  unfold seg; rw [show t - i = 0 by omega, List.take_zero]
theorem seg_all {α : Type} (xs : List α) : seg xs 0 xs.length = xs := by simp [seg]
theorem seg_take {α : Type} (xs : List α) (i t m : Nat) (h : i + m ≤ t) : (seg xs i t).take m = seg xs i (i + m) := by
  unfold seg; rw [List.take_take, show i + m - i = m by omega, Nat.min_eq_left (by omega)]
theorem seg_drop {α : Type} (xs : List α) (i t m : Nat) : (seg xs i t).drop m = seg xs (i + m) t := by
  unfold seg; rw [List.drop_take, List.drop_drop, show t - i - m = t - (i + m) by omega]
theorem vl_bad {d : Nat} {x : R3} {l : List R3} (h : inB x.a 0 4 = false) : vl d (x :: l) = false := by
  rw [inB_false] at h
  rw [vl_cons]
  have h1 : isLp x = false := by unfold isLp; simp; omega
  rw [h1]
  simp [show ¬ x.a = 2 by omega, show ¬ x.a = 0 by omega, show ¬ x.a = 1 by omega]

set_option maxRecDepth 100000 in
set_option maxHeartbeats 1000000 in
theorem l17Part_any (d : Nat) : ∀ (A : Option Addr) (n c fr to : Nat) (t : Int) (xs : List R3) (w : World) (ha : Args 3 w A n (rows R3.vs xs)) (hn : n ≤ 1048576) (hft : fr ≤ to) (hto : to ≤ n) (ht : t + d = 7) (ht0 : 0 ≤ t),
    Calls Tryd.prog 52 #[.slice A n c, .int .i64 fr, .int .i64 to, .int .i64 t] w fun e w' => e = .returned (.bool (vl d (seg xs fr to))) ∧ Below w.heap.size w w' := by
  induction d using Nat.strongRecOn with
  | ind d ih =>
  intro A n c fr to t xs w ha hn hft hto ht ht0
  have HT := Lib.hid ht; clear ht
  have IH := Lib.hid ih; clear ih
  have HL : Hid (xs.length = n) := by have := ha.1; rw [rows_len R3.vs_len] at this; unfold Hid; omega
  go_enter Tryd.func52, Tryd.ntmps52
  go_wp2
  go_loopw [9] (fun i wr => ∃ k : Nat, fr ≤ k ∧ k ≤ to ∧ i = .int .i64 k ∧ Below w.heap.size w wr ∧ Hid (vl d (seg xs fr to) = vl d (seg xs k to))) (fun i _ => to - (intOf i).toNat)
  case atStart => exact ⟨fr, Nat.le_refl _, hft, rfl, Below.refl _ _, rfl⟩
  case round =>
    obtain ⟨k, hfk, hk, rfl, hB, HV⟩ := hrel
    by_cases hlt : k < to
    · obtain ⟨b, off, rfl, hs⟩ := ha.sl (k := k) (by omega)
      obtain ⟨x, HX⟩ := hget (k := k) HL (by omega)
      have HV1 := Lib.hid (HV.out.trans (congrArg (vl d) (seg_at HX.out hlt)))
      obtain ⟨p0, p1, p2⟩ := (hs.below' hB).rec3 HX.out
      have HR : Hid ((seg xs (k + 1) to).length = to - k - 1) := by have := HL.out; unfold Hid; rw [seg_len (by omega)]; omega
      have hkn : k < n := by omega
      rcases Bool.eq_false_or_eq_true (inB x.a 0 4) with hv | hv
      rotate_left
      · have HK := Lib.hid hv; clear hv
        go_wp2_with fail
        refine (l00In_is _ _ _ false HK.out _).mono ?_
        rintro e w1 ⟨rfl, hw⟩
        obtain ⟨c0, c1, c2, hb1⟩ := alloc3 hw
        have hB1 := below_step hB hb1
        clear hw p0 p1 p2 hb1
        go_wp2
        go_ret
        exact ⟨ret_bool (by rw [HV1.out, vl_bad HK.out]), hB1⟩
      have HK := Lib.hid hv; clear hv
      rcases Bool.eq_false_or_eq_true (inB x.b 0 15) with hv | hv
      rotate_left
      · have HA := Lib.hid hv; clear hv
        go_wp2_with fail
        refine (l00In_is _ _ _ true HK.out _).mono ?_
        rintro e w1 ⟨rfl, hw⟩
        obtain ⟨c0, c1, c2, hb1⟩ := alloc3 hw
        have hB1 := below_step hB hb1
        clear hw p0 p1 p2 hb1
        go_wp2_with fail
        refine (l17Var_is _ false HA.out _).mono ?_
        rintro e w2 ⟨rfl, rfl⟩
        go_wp2
        go_ret
        exact ⟨ret_bool (by rw [HV1.out, vl_no1 HA.out]), hB1⟩
      have HA := Lib.hid hv; clear hv
      go_wp2_with fail
      refine (l00In_is _ _ _ true HK.out _).mono ?_
      rintro e w1 ⟨rfl, hw⟩
      obtain ⟨c0, c1, c2, hb1⟩ := alloc3 hw
      have hB1 := below_step hB hb1
      clear hw p0 p1 p2 hb1
      go_wp2_with fail
      refine (l17Var_is _ true HA.out _).mono ?_
      rintro e w2 ⟨rfl, rfl⟩
      by_cases h2 : x.a = 2
      · have HI : Hid (isLp x = false) := by unfold Hid isLp; simp [h2]
        have HV2 := Lib.hid (HV1.out.trans (vl_cp HA.out HI.out h2))
        rw [h2] at c0
        have H2 := Lib.hid h2; clear h2
        rcases Bool.eq_false_or_eq_true (inB x.c 0 15) with hv | hv
        · have HC := Lib.hid hv; clear hv
          go_wp2_with fail
          refine (l17Var_is _ true HC.out _).mono ?_
          rintro e w3 ⟨rfl, rfl⟩
          go_wp2_with fail
          refine (l17IsLoop_is x false HI.out _ _ _ (by rw [H2.out]; exact c0)).mono ?_
          rintro e w3 ⟨rfl, rfl⟩
          go_wp2
          go_roundw
          case rel => exact ⟨k + 1, by omega, by omega, by go_num, hB1, by unfold Hid; rw [HV2.out, HC.out, Bool.true_and]⟩
          case measure => simp [intOf]; omega
        · have HC := Lib.hid hv; clear hv
          go_wp2_with fail
          refine (l17Var_is _ false HC.out _).mono ?_
          rintro e w3 ⟨rfl, rfl⟩
          go_wp2
          go_ret
          exact ⟨ret_bool (by rw [HV2.out, HC.out, Bool.false_and]), hB1⟩
      · rcases Bool.eq_false_or_eq_true (isLp x) with hv | hv
        · have HI := Lib.hid hv
          have HV2 := Lib.hid (HV1.out.trans (vl_lp HA.out HI.out))
          have h34 : 3 ≤ x.a := by unfold isLp at hv; simp at hv; omega
          have e2 : (x.a == 2) = false := by simpa using h2
          have e3 : ¬ x.a < 2 := by omega
          clear hv h2
          by_cases hd0 : d = 0
          · have ht7 : 7 ≤ t := by have := HT.out; omega
            have HD := Lib.hid hd0; clear hd0
            go_wp2_with fail
            refine (l17IsLoop_is x true HI.out _ _ _ c0).mono ?_
            rintro e w3 ⟨rfl, rfl⟩
            go_wp2
            go_ret
            exact ⟨ret_bool (by rw [HV2.out, HD.out]; simp), hB1⟩
          · have ht7 : t < 7 := by have := HT.out; omega
            rcases Bool.eq_false_or_eq_true (inB x.c 0 ((to : Int) - k - 1)) with hv | hv
            · have HC := Lib.hid hv
              obtain ⟨hc1, hc2⟩ := (inB_iff _ _ _).1 hv
              clear hv
              obtain ⟨m, hm⟩ : ∃ m : Nat, x.c = m := ⟨x.c.toNat, by omega⟩
              rw [hm] at c2 hc1 hc2
              have HM := Lib.hid hm; clear hm
              have hkm : k + 1 + m ≤ to := by omega
              go_wp2_with fail
              refine (l17IsLoop_is x true HI.out _ _ _ c0).mono ?_
              rintro e w3 ⟨rfl, rfl⟩
              go_wp2_with fail
              refine (l00In_is _ _ _ true (by rw [← HM.out]; exact HC.out) _).mono ?_
              rintro e w3 ⟨rfl, rfl⟩
              have HS := Lib.hid (ha.below hB1)
              have HD : Hid (t + 1 + ((d - 1 : Nat) : Int) = 7) := by have := HT.out; unfold Hid; omega
              have HV3 : Hid (vl d (seg xs fr to) = (vl (d - 1) (seg xs (k + 1) (k + 1 + m)) && vl d (seg xs (k + 1 + m) to))) := by
                unfold Hid
                have h5 := HC.out
                rw [HV2.out, HR.out]
                rw [show ((to - k - 1 : Nat) : Int) = (to : Int) - k - 1 by omega, h5, decide_eq_true (show 0 < d by omega), Bool.true_and, Bool.true_and, HM.out, Int.toNat_natCast, seg_drop, seg_take _ _ _ _ hkm]
              rcases Bool.eq_false_or_eq_true (vl (d - 1) (seg xs (k + 1) (k + 1 + m))) with hv | hv
              · have HW := Lib.hid hv; clear hv
                go_wp2_with fail
                refine (IH.out (d - 1) (by omega) _ n _ (k + 1) (k + 1 + m) (t + 1) xs _ HS.out (by omega) (by omega) (by omega) HD.out (by omega)).mono ?_
                rintro e w3 ⟨he, hb3⟩
                rw [HW.out] at he
                subst he
                have e2 := cell_step c2 hb3
                have hB3 := below_step hB1 hb3
                clear hb3
                go_wp2
                go_roundw
                case rel => exact ⟨k + 1 + m, by omega, by omega, by go_num, hB3, by unfold Hid; rw [HV3.out, HW.out, Bool.true_and]⟩
                case measure => simp [intOf]; omega
              · have HW := Lib.hid hv; clear hv
                go_wp2_with fail
                refine (IH.out (d - 1) (by omega) _ n _ (k + 1) (k + 1 + m) (t + 1) xs _ HS.out (by omega) (by omega) (by omega) HD.out (by omega)).mono ?_
                rintro e w3 ⟨he, hb3⟩
                rw [HW.out] at he
                subst he
                have hB3 := below_step hB1 hb3
                clear hb3
                go_wp2
                go_ret
                exact ⟨ret_bool (by rw [HV3.out, HW.out, Bool.false_and]), hB3⟩
            · have HC := Lib.hid hv; clear hv
              go_wp2_with fail
              refine (l17IsLoop_is x true HI.out _ _ _ c0).mono ?_
              rintro e w3 ⟨rfl, rfl⟩
              go_wp2_with fail
              refine (l00In_is _ _ _ false HC.out _).mono ?_
              rintro e w3 ⟨rfl, rfl⟩
              go_wp2
              go_ret
              refine ⟨ret_bool ?_, hB1⟩
              rw [HV2.out, HR.out]
              have := HC.out
              rw [show ((to - k - 1 : Nat) : Int) = (to : Int) - k - 1 by omega, this]
              simp
        · have HI := Lib.hid hv
          have HV2 := Lib.hid (HV1.out.trans (vl_el HA.out HI.out h2))
          have h01 : x.a = 0 ∨ x.a = 1 := by
            have := (inB_iff _ _ _).1 HK.out
            unfold isLp at hv; simp at hv; omega
          have e2 : (x.a == 2) = false := by simpa using h2
          have e3 : x.a < 2 := by omega
          have H01 : Hid ((decide (x.a = 0) || decide (x.a = 1)) = true) := by unfold Hid; simpa using h01
          clear hv h2 h01
          by_cases hc0 : x.c = 0
          · have ec : (x.c != 0) = false := by simpa using hc0
            have HC := Lib.hid hc0; clear hc0
            go_wp2_with fail
            refine (l17IsLoop_is x false HI.out _ _ _ c0).mono ?_
            rintro e w3 ⟨rfl, rfl⟩
            go_wp2
            go_roundw
            case rel => exact ⟨k + 1, by omega, by omega, by go_num, hB1, by unfold Hid; rw [HV2.out, HC.out, H01.out]; simp⟩
            case measure => simp [intOf]; omega
          · have ec : (x.c != 0) = true := by simpa using hc0
            have HC : Hid (decide (x.c = 0) = false) := by unfold Hid; simp [hc0]
            clear hc0
            go_wp2
            go_ret
            exact ⟨ret_bool (by rw [HV2.out, HC.out]; simp), hB1⟩
    · go_wp2
      go_ret
      exact ⟨ret_bool (by rw [HV.out, seg_end (by omega), vl_nil]), hB⟩

theorem implValidLoop_is (b off n c : Nat) (xs : List R3) (v : Bool) (hv : validL xs = v) (w : World) (hs : Args 3 w (some ⟨b, off, none⟩) n (rows R3.vs xs)) (hn : n ≤ 1048576) (hc : n ≤ c) :
    Calls Tryd.prog 32 #[.slice (some ⟨b, off, none⟩) n c] w fun e w' => e = .returned (.bool v) ∧ Below w.heap.size w w' := by
  have HL : Hid (xs.length = n) := by have := hs.1; rw [rows_len R3.vs_len] at this; unfold Hid; omega
  subst hv
  by_cases h : n ≤ 150
  · have HV : Hid (validL xs = vl 7 xs) := by unfold Hid validL; rw [HL.out]; simp [h]
    go_enter Tryd.func32, Tryd.ntmps32
    go_wp2_with fail
    refine (validLoops_any 7 _ n c 0 xs _ hs hn hc (by omega) (by omega)).mono ?_
    rintro e w1 ⟨rfl, hb⟩
    go_wp2
    go_ret
    exact ⟨ret_bool HV.out.symm, hb⟩
  · have HV : Hid (validL xs = false) := by unfold Hid validL; rw [HL.out]; simp [h]
    go_enter Tryd.func32, Tryd.ntmps32
    go_wp2
    go_ret
    exact ⟨ret_bool HV.out.symm, Below.refl _ _⟩

theorem l17Is_is (b off n c : Nat) (xs : List R3) (v : Bool) (hv : validL xs = v) (w : World) (hs : Args 3 w (some ⟨b, off, none⟩) n (rows R3.vs xs)) (hn : n ≤ 1048576) :
    Calls Tryd.prog 29 #[.slice (some ⟨b, off, none⟩) n c] w fun e w' => e = .returned (.bool v) ∧ Below w.heap.size w w' := by
  have HL : Hid (xs.length = n) := by have := hs.1; rw [rows_len R3.vs_len] at this; unfold Hid; omega
  subst hv
  by_cases h : n ≤ 150
  · have HV : Hid (validL xs = vl 7 (seg xs 0 n)) := by unfold Hid validL; rw [← HL.out, seg_all, HL.out]; simp [h]
    go_enter Tryd.func29, Tryd.ntmps29
    go_wp2_with fail
    refine (l17Part_any 7 _ n c 0 n 0 xs _ hs hn (by omega) (by omega) (by omega) (by omega)).mono ?_
    rintro e w1 ⟨rfl, hb⟩
    go_wp2
    go_ret
    exact ⟨ret_bool HV.out.symm, hb⟩
  · have HV : Hid (validL xs = false) := by unfold Hid validL; rw [HL.out]; simp [h]
    go_enter Tryd.func29, Tryd.ntmps29
    go_wp2
    go_ret
    exact ⟨ret_bool HV.out.symm, Below.refl _ _⟩

theorem implValidLoop_any (b off n c : Nat) (xs : List R3) (w : World) (hs : Sl w b off (rows R3.vs xs)) (hl : xs.length = n) (hn : n ≤ 1048576) (hc : n ≤ c) (hf : ∀ x ∈ xs, x.wf) :
    Calls Tryd.prog 32 #[.slice (some ⟨b, off, none⟩) n c] w fun e w' => e = .returned (.bool (validL xs)) ∧ Below w.heap.size w w' :=
  implValidLoop_is b off n c xs _ rfl w (Args.of_sl hs (by rw [rows_len R3.vs_len, hl])) hn hc

end Go.Proofs.YtjakgeblmkdbpaaDoor
