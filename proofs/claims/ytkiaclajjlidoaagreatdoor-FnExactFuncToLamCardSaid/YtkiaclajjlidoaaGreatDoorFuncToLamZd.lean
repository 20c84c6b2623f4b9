/- The law FnExactFuncToLam returns true for every input, and each argument reads afterwards as before: the proof, part 4. No conditions. -/
import Derived.Test.YtkiaclajjlidoaaGreatDoorFuncToLamZc
import Derived.Maps.AppendAt
import Derived.Deep.RegionHeld3
import Derived.Orders
import Derived.ArgAppend
/- Terms in a row of Lam: size and termEnd with whatever function that tells how many terms follow. -/
namespace Go.Proofs.YtkiaclajjlidoaaGreatDoor
open Go.RowKit
set_option linter.all false

theorem size_Lam_any (A : Option Addr) (n c : Nat) (w : World) : Calls Tryz.prog 70 #[.slice A n c] w fun e w' => e = .returned (.int .i64 n) ∧ w = w' := by
  go_enter Tryz.func70, Tryz.ntmps70
  go_wp2
  go_ret
  exact ⟨rfl, rfl⟩

set_option maxRecDepth 100000 in
set_option maxHeartbeats 400000 in
theorem termEnd_Lam_any (F : FuncId) (caps : Array Value) (fol : R2 → Nat) (A : Option Addr) (n c k0 : Nat) (xs : List R2) (w : World) (ha : Args 2 w A n (rows R2.vs xs)) (hn : n ≤ 1048576) (hk0 : k0 ≤ n) (hfol : ∀ x, fol x ≤ 2)
    (hE : ∀ (args : Array Value) (W : World), (callFunc F args).run Tryz.prog W = .ok (.enter F args) W)
    (hF : Hid (∀ (x : R2) (W : World), Calls Tryz.prog F (#[.agg #[.int .i64 x.a, .int .i64 x.b]] ++ caps) W fun e w' => e = .returned (.int .i64 (fol x : Nat)) ∧ Below W.heap.size W w')) :
    Calls Tryz.prog 92 #[.slice A n c, .int .i64 k0, .func (.func F) #[] caps] w fun e w' => e = .returned (.int .i64 (tPos fol k0 (xs.drop k0))) ∧ Below w.heap.size w w' := by
  have HL : Hid (xs.length = n) := by have := ha.1; rw [rows_len R2.vs_len] at this; unfold Hid; omega
  have HO := Lib.hid hfol; clear hfol
  go_enter Tryz.func92, Tryz.ntmps92
  go_wp2
  go_loopw [1, 7] (fun i o wr => ∃ k op : Nat, k0 ≤ k ∧ k ≤ n ∧ op ≤ 2 * k + 1 ∧ i = .int .i64 k ∧ o = .int .i64 op ∧ Below w.heap.size w wr ∧ Hid (tPos fol k0 (xs.drop k0) = tPosAt fol op k (xs.drop k))) (fun i _ _ => n - (intOf i).toNat)
  case atStart => exact ⟨k0, 1, Nat.le_refl _, hk0, by omega, rfl, rfl, Below.refl _ _, rfl⟩
  case round =>
    obtain ⟨k, op, hk, hkn, hop, rfl, rfl, hB, HT⟩ := hrel
    by_cases ho : op = 0
    · subst ho
      go_wp2
      go_ret
      exact ⟨ret_int (by rw [HT.out, tPosAt_zero]), hB⟩
    · have ho1 : (0 : Int) < (op : Int) := by omega
      by_cases hlt : k < n
      · obtain ⟨b, off, rfl, hs⟩ := ha.sl hlt
        obtain ⟨x, HX⟩ := hget HL hlt
        obtain ⟨p0, p1⟩ := (hs.below' hB).rec2 HX.out
        have hf2 := HO.out x
        have HT2 : Hid (tPos fol k0 (xs.drop k0) = tPosAt fol (op - 1 + fol x) (k + 1) (xs.drop (k + 1))) := by
          unfold Hid
          rw [HT.out, drop_at HX.out, show op = (op - 1) + 1 by omega, tPosAt_succ]
          rfl
        have hsub : ¬ (n : Int) ≤ (k : Int) := by omega
        go_wp2_with fail
        refine (hF.out x _).mono ?_
        rintro e w1 ⟨rfl, hb1⟩
        have hB1 := below_step hB hb1
        clear hb1 p0 p1
        go_wp2
        go_roundw
        case rel => exact ⟨k + 1, op - 1 + fol x, by omega, by omega, by omega, by go_num, by congr 1; omega, hB1, HT2⟩
        case measure => simp [intOf]; omega
      · have hge : (n : Int) ≤ (k : Int) := by omega
        go_wp2
        go_ret
        refine ⟨ret_int ?_, hB⟩
        rw [HT.out, List.drop_of_length_le (by have := HL.out; omega), show op = (op - 1) + 1 by omega, tPosAt_none]

end Go.Proofs.YtkiaclajjlidoaaGreatDoor

/- Lambda terms: which are valid; lamFollow, lamEnd, ValidLam and the reference's l12Many, l12Is, l12End. -/
namespace Go.Proofs.YtkiaclajjlidoaaGreatDoor
open Go.RowKit
set_option linter.all false

theorem lOk_v {x : R2} (h : x.a = 0) : lOk x = inB x.b 0 399 := by unfold lOk; rw [h]; simp
theorem lOk_z {x : R2} (h : inB x.a 0 2 = true) (h1 : ¬ x.a = 0) (h2 : x.b = 0) : lOk x = true := by
  have := (inB_iff _ _ _).1 h
  unfold lOk
  simp only [Bool.or_eq_true, Bool.and_eq_true, decide_eq_true_eq]
  omega
theorem lOk_nz {x : R2} (h1 : ¬ x.a = 0) (h2 : ¬ x.b = 0) : lOk x = false := by unfold lOk; simp [h1, h2]
theorem lOk_out {x : R2} (h : inB x.a 0 2 = false) : lOk x = false := by
  have h := (inB_false _ _ _).1 h
  unfold lOk
  rw [decide_eq_false (by omega : ¬ x.a = 0), decide_eq_false (by omega : ¬ x.a = 1), decide_eq_false (by omega : ¬ x.a = 2)]
  rfl
theorem lFol_cases (a : Int) (P : Prop) (h1 : a = 1 → P) (h2 : a = 2 → P) (h : (a == 1) = false → (a == 2) = false → P) : P := by
  by_cases e1 : a = 1
  · exact h1 e1
  by_cases e2 : a = 2
  · exact h2 e2
  exact h (by simpa using e1) (by simpa using e2)

theorem lamFollow_any (x : R2) (w : World) : Calls Tryz.prog 93 #[.agg #[.int .i64 x.a, .int .i64 x.b]] w fun e w' => e = .returned (.int .i64 (lFol x : Nat)) ∧ Below w.heap.size w w' := by
  obtain ⟨a, b⟩ := x
  have h0 : Below w.heap.size w (w.alloc (.cells #[.int .i64 a, .int .i64 b] 45)) := laid_below _ _
  apply lFol_cases a
  all_goals first
    | (intro h; subst h; go_enter Tryz.func93, Tryz.ntmps93; go_wp2; go_ret; exact ⟨ret_int (by simp [lFol]), h0⟩)
    | (intro h1 h2
       have HE : Hid (((lFol ⟨a, b⟩ : Nat) : Int) = 0) := by unfold Hid; simp at h1 h2; simp [lFol, h1, h2]
       go_enter Tryz.func93, Tryz.ntmps93
       go_wp2
       go_ret
       exact ⟨ret_int HE.out.symm, h0⟩)

theorem l12Many_any (x : R2) (w : World) : Calls Tryz.prog 62 #[.int .i64 x.a] w fun e w' => e = .returned (.int .i64 (lFol x : Nat)) ∧ w = w' := by
  obtain ⟨a, b⟩ := x
  apply lFol_cases a
  all_goals first
    | (intro h; subst h; go_enter Tryz.func62, Tryz.ntmps62; go_wp2; go_ret; exact ⟨ret_int (by simp [lFol]), rfl⟩)
    | (intro h1 h2
       have HE : Hid (((lFol ⟨a, b⟩ : Nat) : Int) = 0) := by unfold Hid; simp at h1 h2; simp [lFol, h1, h2]
       go_enter Tryz.func62, Tryz.ntmps62
       go_wp2
       go_ret
       exact ⟨ret_int HE.out.symm, rfl⟩)

theorem lamEnd_any (A : Option Addr) (n c k0 : Nat) (xs : List R2) (w : World) (ha : Args 2 w A n (rows R2.vs xs)) (hn : n ≤ 1048576) (hk0 : k0 ≤ n) :
    Calls Tryz.prog 74 #[.slice A n c, .int .i64 k0] w fun e w' => e = .returned (.int .i64 (tPos lFol k0 (xs.drop k0))) ∧ Below w.heap.size w w' := by
  go_enter Tryz.func74, Tryz.ntmps74
  go_wp2_with fail
  refine (termEnd_Lam_any 93 #[] lFol _ n c k0 xs _ ha hn hk0 lFol_le (enters_of' Tryz.func93 (by kernel_rfl) rfl) (fun x W => lamFollow_any x W)).mono ?_
  rintro e w1 ⟨rfl, hb1⟩
  go_wp2
  go_ret
  exact ⟨rfl, hb1⟩

theorem validLamElement_is (x : R2) (v : Bool) (h : lOk x = v) (w : World) : Calls Tryz.prog 73 #[.agg #[.int .i64 x.a, .int .i64 x.b]] w fun e w' => e = .returned (.bool v) ∧ Below w.heap.size w w' := by
  have h0 : Below w.heap.size w (w.alloc (.cells #[.int .i64 x.a, .int .i64 x.b] 45)) := laid_below _ _
  by_cases ha : x.a = 0
  · have HV : Hid (inB x.b 0 399 = v) := by unfold Hid; rw [← h, lOk_v ha]
    have e0 : (x.a == 0) = true := by simpa using ha
    clear h ha
    go_enter Tryz.func73, Tryz.ntmps73
    go_wp2_with fail
    refine (within_is _ _ _ v HV.out _).mono ?_
    rintro e w1 ⟨rfl, rfl⟩
    go_wp2
    go_ret
    exact ⟨rfl, h0⟩
  have e0 : (x.a == 0) = false := by simpa using ha
  by_cases hb : x.b = 0
  · have e3 : (x.b == 0) = true := by simpa using hb
    by_cases h1 : x.a = 1
    · have e1 : (x.a == 1) = true := by simpa using h1
      have HV : Hid (true = v) := by unfold Hid; rw [← h, lOk_z (by rw [inB_iff]; omega) ha hb]
      clear h h1 hb ha
      go_enter Tryz.func73, Tryz.ntmps73
      go_wp2
      go_ret
      exact ⟨ret_bool HV.out, h0⟩
    have e1 : (x.a == 1) = false := by simpa using h1
    by_cases h2 : x.a = 2
    · have e2 : (x.a == 2) = true := by simpa using h2
      have HV : Hid (true = v) := by unfold Hid; rw [← h, lOk_z (by rw [inB_iff]; omega) ha hb]
      clear h h1 h2 hb ha
      go_enter Tryz.func73, Tryz.ntmps73
      go_wp2
      go_ret
      exact ⟨ret_bool HV.out, h0⟩
    · have e2 : (x.a == 2) = false := by simpa using h2
      have HV : Hid (false = v) := by unfold Hid; rw [← h]; unfold lOk; simp [ha, h1, h2]
      clear h h1 h2 hb ha
      go_enter Tryz.func73, Tryz.ntmps73
      go_wp2
      go_ret
      exact ⟨ret_bool HV.out, h0⟩
  · have e3 : (x.b == 0) = false := by simpa using hb
    have HV : Hid (false = v) := by unfold Hid; rw [← h, lOk_nz ha hb]
    by_cases h1 : x.a = 1
    · have e1 : (x.a == 1) = true := by simpa using h1
      clear h h1 hb ha
      go_enter Tryz.func73, Tryz.ntmps73
      go_wp2
      go_ret
      exact ⟨ret_bool HV.out, h0⟩
    have e1 : (x.a == 1) = false := by simpa using h1
    by_cases h2 : x.a = 2
    · have e2 : (x.a == 2) = true := by simpa using h2
      clear h h1 h2 hb ha
      go_enter Tryz.func73, Tryz.ntmps73
      go_wp2
      go_ret
      exact ⟨ret_bool HV.out, h0⟩
    · have e2 : (x.a == 2) = false := by simpa using h2
      clear h h1 h2 hb ha
      go_enter Tryz.func73, Tryz.ntmps73
      go_wp2
      go_ret
      exact ⟨ret_bool HV.out, h0⟩

theorem validLam1_is (x : R2) (v : Bool) (h : (!lOk x) = v) (w : World) : Calls Tryz.prog 72 #[.agg #[.int .i64 x.a, .int .i64 x.b]] w fun e w' => e = .returned (.bool v) ∧ Below w.heap.size w w' := by
  obtain ⟨w0, HW, p0, p1, hb0⟩ : ∃ w0, Hid (w0 = w.alloc (.cells #[.int .i64 x.a, .int .i64 x.b] 45)) ∧ w0.cell? ⟨w.heap.size, 0, none⟩ = some (.int .i64 x.a) ∧ w0.cell? ⟨w.heap.size, 1, none⟩ = some (.int .i64 x.b) ∧ Below w.heap.size w w0 := ⟨_, rfl, by simp [go_sem], by simp [go_sem], laid_below _ _⟩
  subst h
  rcases Bool.eq_false_or_eq_true (lOk x) with hv | hv
  all_goals
    have HV := Lib.hid hv; clear hv
    go_enter Tryz.func72, Tryz.ntmps72
    go_wp2_with fail
    refine (validLamElement_is x _ HV.out _).mono ?_
    rintro e w1 ⟨rfl, hb1⟩
    go_wp2
    go_ret
    exact ⟨ret_bool (by rw [HV.out]; rfl), below_step (laid_below _ _) hb1⟩

theorem any_not_all {α : Type} (p : α → Bool) (xs : List α) : xs.any (fun x => !p x) = !xs.all p := by
  induction xs with
  | nil => rfl
  | cons x l ih => rw [List.any_cons, List.all_cons, ih, Bool.not_and]

set_option maxRecDepth 100000 in
set_option maxHeartbeats 1000000 in
theorem validLam_is (A : Option Addr) (n c : Nat) (xs : List R2) (v : Bool) (hv : validT xs = v) (w : World) (ha : Args 2 w A n (rows R2.vs xs)) (hn : n ≤ 1048576) :
    Calls Tryz.prog 47 #[.slice A n c] w fun e w' => e = .returned (.bool v) ∧ Below w.heap.size w w' := by
  have HL : Hid (xs.length = n) := by have := ha.1; rw [rows_len R2.vs_len] at this; unfold Hid; omega
  rcases Bool.eq_false_or_eq_true (inB n 1 400) with h | h
  rotate_left
  · have HV : Hid (v = false) := by unfold Hid; rw [← hv, validT, HL.out, h]; rfl
    have H1 := Lib.hid h; clear h hv
    go_enter Tryz.func47, Tryz.ntmps47
    go_wp2_with fail
    refine (size_Lam_any _ _ _ _).mono ?_
    rintro e w1 ⟨rfl, rfl⟩
    go_wp2_with fail
    refine (within_is _ _ _ false H1.out _).mono ?_
    rintro e w1 ⟨rfl, rfl⟩
    go_wp2
    go_ret
    exact ⟨ret_bool HV.out.symm, Below.refl _ _⟩
  have HV : Hid (v = (xs.all lOk && fit lFol 1 xs)) := by unfold Hid; rw [← hv, validT, HL.out, h]; rfl
  have H1 := Lib.hid h; clear h hv
  have hn1 : n ≤ 400 := by have := (inB_iff _ _ _).1 H1.out; omega
  have hE := enters_of' Tryz.func72 (by kernel_rfl) rfl
  rcases Bool.eq_false_or_eq_true (xs.all lOk) with h | h
  rotate_left
  · have HN : Hid (xs.any (fun x => !lOk x) = true) := by unfold Hid; rw [any_not_all, h]; rfl
    have HV2 : Hid (v = false) := by unfold Hid; rw [HV.out, h]; rfl
    clear h
    go_enter Tryz.func47, Tryz.ntmps47
    go_wp2_with fail
    refine (size_Lam_any _ _ _ _).mono ?_
    rintro e w1 ⟨rfl, rfl⟩
    go_wp2_with fail
    refine (within_is _ _ _ true H1.out _).mono ?_
    rintro e w1 ⟨rfl, rfl⟩
    go_wp2_with fail
    refine (containsFuncAt_Lam 72 #[] (fun x => !lOk x) A n c xs _ ha hn hE (fun x v W _ h _ => validLam1_is x v h W) true HN.out).mono ?_
    rintro e w2 ⟨rfl, hb2⟩
    go_wp2
    go_ret
    exact ⟨ret_bool HV2.out.symm, hb2⟩
  have HN : Hid (xs.any (fun x => !lOk x) = false) := by unfold Hid; rw [any_not_all, h]; rfl
  have HV2 : Hid (v = fit lFol 1 xs) := by unfold Hid; rw [HV.out, h]; rfl
  have HP := Lib.hid (fit_pos lFol xs)
  rw [HL.out, ← HV2.out] at HP
  clear h
  go_enter Tryz.func47, Tryz.ntmps47
  go_wp2_with fail
  refine (size_Lam_any _ _ _ _).mono ?_
  rintro e w1 ⟨rfl, rfl⟩
  go_wp2_with fail
  refine (within_is _ _ _ true H1.out _).mono ?_
  rintro e w1 ⟨rfl, rfl⟩
  go_wp2_with fail
  refine (containsFuncAt_Lam 72 #[] (fun x => !lOk x) A n c xs _ ha hn hE (fun x v W _ h _ => validLam1_is x v h W) false HN.out).mono ?_
  rintro e w2 ⟨rfl, hb2⟩
  go_wp2_with fail
  refine (lamEnd_any _ n c 0 xs _ (ha.below hb2) hn (Nat.zero_le _)).mono ?_
  rintro e w3 ⟨rfl, hb3⟩
  go_wp2
  go_ret
  exact ⟨ret_bool (by rw [← HP.out]; rfl), below_step hb2 hb3⟩

set_option maxRecDepth 100000 in
set_option maxHeartbeats 1000000 in
theorem l12Is_is (A : Option Addr) (n c : Nat) (xs : List R2) (v : Bool) (hv : validT xs = v) (w : World) (ha : Args 2 w A n (rows R2.vs xs)) (hn : n ≤ 1048576) :
    Calls Tryz.prog 42 #[.slice A n c] w fun e w' => e = .returned (.bool v) ∧ w = w' := by
  have HL : Hid (xs.length = n) := by have := ha.1; rw [rows_len R2.vs_len] at this; unfold Hid; omega
  rcases Bool.eq_false_or_eq_true (inB n 1 400) with h | h
  rotate_left
  · have HV : Hid (v = false) := by unfold Hid; rw [← hv, validT, HL.out, h]; rfl
    clear hv
    rcases (inB_false _ _ _).1 h with h | h
    · have h1 : n < 1 := by omega
      clear h
      go_enter Tryz.func42, Tryz.ntmps42
      go_wp2
      go_ret
      exact ⟨ret_bool HV.out.symm, rfl⟩
    · have h1 : ¬ n < 1 := by omega
      have h2 : 400 < n := by omega
      clear h
      go_enter Tryz.func42, Tryz.ntmps42
      go_wp2
      go_ret
      exact ⟨ret_bool HV.out.symm, rfl⟩
  have HV : Hid (v = (xs.all lOk && fit lFol 1 xs)) := by unfold Hid; rw [← hv, validT, HL.out, h]; rfl
  have hn1 : n ≤ 400 := by have := (inB_iff _ _ _).1 h; omega
  have hn0 : ¬ n < 1 := by have := (inB_iff _ _ _).1 h; omega
  clear h hv
  go_enter Tryz.func42, Tryz.ntmps42
  go_wp2
  go_loop [3, 4] (fun o i => ∃ k op : Nat, k ≤ n ∧ op ≤ 2 * k + 1 ∧ i = .int .i64 k ∧ o = .int .i64 op ∧ Hid (v = ((xs.drop k).all lOk && fit lFol op (xs.drop k)))) (fun _ i => n - (intOf i).toNat)
  case atStart => exact ⟨0, 1, Nat.zero_le _, by omega, rfl, rfl, by unfold Hid; rw [List.drop_zero]; exact HV.out⟩
  case round =>
    obtain ⟨k, op, hk, hop, rfl, rfl, HA⟩ := hrel
    by_cases hlt : k < n
    · obtain ⟨b, off, rfl, hs⟩ := ha.sl hlt
      obtain ⟨x, HX⟩ := hget HL hlt
      obtain ⟨p0, p1⟩ := hs.rec2 HX.out
      have HA2 : Hid (v = ((lOk x && (xs.drop (k + 1)).all lOk) && fit lFol op (x :: xs.drop (k + 1)))) := by unfold Hid; rw [HA.out, all_drop HX.out]; congr 2; exact drop_at HX.out
      by_cases ho : op = 0
      · subst ho
        go_wp2
        go_ret
        exact ⟨ret_bool (by rw [HA2.out, fit_0c]; simp), rfl⟩
      have hoi : ((op : Int) == 0) = false := by simp; omega
      obtain ⟨q, rfl⟩ : ∃ q, op = q + 1 := ⟨op - 1, by omega⟩
      have HA3 : Hid (v = ((lOk x && (xs.drop (k + 1)).all lOk) && fit lFol (q + lFol x) (xs.drop (k + 1)))) := by unfold Hid; rw [HA2.out, fit_sc]
      clear ho HA2
      rcases Bool.eq_false_or_eq_true (inB x.a 0 2) with h | h
      rotate_left
      · have H2 := Lib.hid h; clear h
        go_wp2_with fail
        refine (l00In_is _ _ _ false H2.out _).mono ?_
        rintro e w1 ⟨rfl, rfl⟩
        go_wp2
        go_ret
        exact ⟨ret_bool (by rw [HA3.out, lOk_out H2.out]; rfl), rfl⟩
      have H2 := Lib.hid h; clear h
      have hf := lFol_le x
      by_cases h1 : x.a = 0
      · have e1 : (x.a == 0) = true := by simpa using h1
        have e1' : (x.a != 0) = false := by simpa using h1
        rcases Bool.eq_false_or_eq_true (inB x.b 0 399) with h | h
        · have H3 := Lib.hid h; clear h
          have H4 : Hid (lOk x = true) := by unfold Hid; rw [lOk_v h1, H3.out]
          clear h1
          go_wp2_with fail
          refine (l00In_is _ _ _ true H2.out _).mono ?_
          rintro e w1 ⟨rfl, rfl⟩
          go_wp2_with fail
          refine (l00In_is _ _ _ true H3.out _).mono ?_
          rintro e w1 ⟨rfl, rfl⟩
          go_wp2_with fail
          refine (l12Many_any x _).mono ?_
          rintro e w1 ⟨rfl, rfl⟩
          go_wp2
          go_round
          case rel => exact ⟨k + 1, q + lFol x, by omega, by omega, by go_num, by congr 1; omega, by unfold Hid; rw [HA3.out, H4.out, Bool.true_and]⟩
          case measure => simp [intOf]; omega
        · have H3 := Lib.hid h; clear h
          have H4 : Hid (lOk x = false) := by unfold Hid; rw [lOk_v h1, H3.out]
          clear h1
          go_wp2_with fail
          refine (l00In_is _ _ _ true H2.out _).mono ?_
          rintro e w1 ⟨rfl, rfl⟩
          go_wp2_with fail
          refine (l00In_is _ _ _ false H3.out _).mono ?_
          rintro e w1 ⟨rfl, rfl⟩
          go_wp2
          go_ret
          exact ⟨ret_bool (by rw [HA3.out, H4.out]; rfl), rfl⟩
      · have e1 : (x.a == 0) = false := by simpa using h1
        have e1' : (x.a != 0) = true := by simpa using h1
        by_cases h2 : x.b = 0
        · have e2 : (x.b != 0) = false := by simpa using h2
          have H4 : Hid (lOk x = true) := by exact lOk_z H2.out h1 h2
          clear h1 h2
          go_wp2_with fail
          refine (l00In_is _ _ _ true H2.out _).mono ?_
          rintro e w1 ⟨rfl, rfl⟩
          go_wp2_with fail
          refine (l12Many_any x _).mono ?_
          rintro e w1 ⟨rfl, rfl⟩
          go_wp2
          go_round
          case rel => exact ⟨k + 1, q + lFol x, by omega, by omega, by go_num, by congr 1; omega, by unfold Hid; rw [HA3.out, H4.out, Bool.true_and]⟩
          case measure => simp [intOf]; omega
        · have e2 : (x.b != 0) = true := by simpa using h2
          have H4 : Hid (lOk x = false) := by exact lOk_nz h1 h2
          clear h1 h2
          go_wp2_with fail
          refine (l00In_is _ _ _ true H2.out _).mono ?_
          rintro e w1 ⟨rfl, rfl⟩
          go_wp2
          go_ret
          exact ⟨ret_bool (by rw [HA3.out, H4.out]; rfl), rfl⟩
    · have HA2 : Hid (v = fit lFol op []) := by unfold Hid; rw [HA.out, List.drop_of_length_le (by have := HL.out; omega)]; rfl
      by_cases ho : op = 0
      · subst ho
        go_wp2
        go_ret
        exact ⟨ret_bool (by rw [HA2.out, fit_00]), rfl⟩
      · have hoi : ((op : Int) == 0) = false := by simp; omega
        obtain ⟨q, rfl⟩ : ∃ q, op = q + 1 := ⟨op - 1, by omega⟩
        clear ho
        go_wp2
        go_ret
        exact ⟨ret_bool (by rw [HA2.out, fit_s0]; simp; omega), rfl⟩

end Go.Proofs.YtkiaclajjlidoaaGreatDoor

/- The text of a lambda term, by the program: lamText and LamText. -/
namespace Go.Proofs.YtkiaclajjlidoaaGreatDoor
open Go.RowKit
set_option linter.all false

set_option maxRecDepth 100000 in
set_option maxHeartbeats 2000000 in
theorem lamText_any (w0 : World) (b : Nat) (A : Option Addr) (n c : Nat) (xs : List R2) (ha : Args 2 w0 A n (rows R2.vs xs)) (hn : n ≤ 1000) (T : LTm) : ∀ (k : Nat) (kk : Int) (w : World) (bs : List UInt8) (rest : List R2), kk = (k : Int) →
    xs.drop k = T.flat ++ rest → T.small = true → Lib.IsBuilder 115 5 w0.heap.size b (Lib.byteCells bs) w → Below w0.heap.size w0 w → bs.length + T.text.length ≤ 100000 →
    Calls Tryz.prog 89 #[.pointer (some ⟨b, 0, none⟩), .slice A n c, .int .i64 kk] w fun e w' => e = .returned (.int .i64 ((k + T.flat.length : Nat) : Int)) ∧
      Lib.IsBuilder 115 5 w0.heap.size b (Lib.byteCells (bs ++ T.text)) w' ∧ Below w0.heap.size w0 w' := by
  have HL : Hid (xs.length = n) := by have := ha.1; rw [rows_len R2.vs_len] at this; unfold Hid; omega
  have HA := Lib.hid ha
  clear ha
  induction T with
  | v d =>
    rintro k _ w bs rest rfl hx hsm hI hB hlen
    have hd : d < 10 := by simpa [LTm.small] using hsm
    have hk : k < n := by have := congrArg List.length hx; rw [List.length_drop, HL.out] at this; simp [LTm.flat] at this; omega
    have hxk : xs[k]? = some ⟨0, d⟩ := by
      have := congrArg (·[0]?) hx
      simpa [LTm.flat, List.getElem?_drop] using this
    obtain ⟨bb, off, rfl, hs⟩ := HA.out.sl hk
    obtain ⟨h0, h1⟩ := (hs.below' hB).rec2 hxk
    have HDC := Lib.hid (decimalDig d hd)
    have hw1 : IntKind.i64.wrap ((k : Int) + 1) = (k : Int) + 1 := IntWalk.i64_in _ (by omega)
    have HLN := Lib.hid hlen
    clear hs hd hsm hxk hx hlen
    go_enter Tryz.func89, Tryz.ntmps89
    go_wp2_with fail
    refine (HDC.out _).mono ?_
    rintro e w1 ⟨rfl, rfl⟩
    go_wp2_with fail
    refine (writeStringAny w0.heap.size b _ _ w hI (by have := HLN.out; rw [byteCellsL_len]; simp [ByteArray.size]; omega) hB.size).mono ?_
    rintro e w1 ⟨rfl, hI1, hB1⟩
    rw [strCells_list, ← byteCellsL_app] at hI1
    have HI1 := Lib.hid hI1
    clear hI hI1 h0 h1
    go_wp2_with fail
    go_ret
    exact ⟨ret_int (by simp [LTm.flat]), by have := HI1.out; simpa [LTm.text] using this, hB.trans hB1⟩
  | ab t ih =>
    rintro k _ w bs rest rfl hx hsm hI hB hlen
    have IH := Lib.hid ih
    have hlx := congrArg List.length hx
    rw [List.length_drop, HL.out] at hlx
    simp only [LTm.flat, List.length_append, List.length_cons] at hlx
    have hk : k < n := by omega
    have hxk : xs[k]? = some ⟨1, 0⟩ := by
      have := congrArg (·[0]?) hx
      simpa [LTm.flat, List.getElem?_drop] using this
    have HX1 : Hid (xs.drop (k + 1) = t.flat ++ rest) := by
      unfold Hid
      rw [← List.drop_drop, hx]; simp [LTm.flat]
    obtain ⟨bb, off, rfl, hs⟩ := HA.out.sl hk
    obtain ⟨h0, h1⟩ := (hs.below' hB).rec2 hxk
    have HS : Hid (t.small = true) := by unfold Hid; simpa [LTm.small] using hsm
    have HLN : Hid (bs.length + 1 + t.text.length ≤ 100000) := by unfold Hid; simp [LTm.text] at hlen; omega
    have hw1 : IntKind.i64.wrap ((k : Int) + 1) = (k : Int) + 1 := IntWalk.i64_in _ (by omega)
    clear ih hs hsm hxk hx hlen hlx
    go_enter Tryz.func89, Tryz.ntmps89
    go_wp2_with fail
    refine (writeByteAny w0.heap.size b _ 94 w hI (by have := HLN.out; rw [byteCellsL_len]; omega) hB.size).mono ?_
    rintro e w1 ⟨rfl, hI1, hB1⟩
    have HI1 : Hid (Lib.IsBuilder 115 5 w0.heap.size b (Lib.byteCells (bs ++ [94])) w1) := by unfold Hid; rw [byteCellsL_app]; exact hI1
    clear hI hI1 h0 h1
    go_wp2_with fail
    refine (IH.out (k + 1) _ w1 (bs ++ [94]) rest (by omega) HX1.out HS.out HI1.out (hB.trans hB1) (by have := HLN.out; simp; omega)).mono ?_
    rintro e w2 ⟨rfl, hI2, hB2⟩
    have HI2 := Lib.hid hI2
    clear hI2
    go_wp2_with fail
    go_ret
    exact ⟨ret_int (by simp [LTm.flat]; omega), by have := HI2.out; simpa [LTm.text] using this, hB2⟩
  | ap s t ih1 ih2 =>
    rintro k _ w bs rest rfl hx hsm hI hB hlen
    have IH1 := Lib.hid ih1
    have IH2 := Lib.hid ih2
    have hlx := congrArg List.length hx
    rw [List.length_drop, HL.out] at hlx
    simp only [LTm.flat, List.length_append, List.length_cons] at hlx
    have hk : k < n := by omega
    have hxk : xs[k]? = some ⟨2, 0⟩ := by
      have := congrArg (·[0]?) hx
      simpa [LTm.flat, List.getElem?_drop] using this
    have HX1 : Hid (xs.drop (k + 1) = s.flat ++ (t.flat ++ rest)) := by
      unfold Hid
      rw [← List.drop_drop, hx]; simp [LTm.flat]
    obtain ⟨ls, hls⟩ : ∃ m, s.flat.length = m := ⟨_, rfl⟩
    have HLS := Lib.hid hls
    have HX2 : Hid (xs.drop (k + 1 + ls) = t.flat ++ rest) := by
      unfold Hid
      rw [← List.drop_drop, HX1.out, ← hls, List.drop_left]
    obtain ⟨bb, off, rfl, hs⟩ := HA.out.sl hk
    obtain ⟨h0, h1⟩ := (hs.below' hB).rec2 hxk
    have HS1 : Hid (s.small = true) := by unfold Hid; simp [LTm.small] at hsm; exact hsm.1
    have HS2 : Hid (t.small = true) := by unfold Hid; simp [LTm.small] at hsm; exact hsm.2
    have HLN : Hid (bs.length + 3 + s.text.length + t.text.length ≤ 100000) := by unfold Hid; simp [LTm.text] at hlen; omega
    have hw1 : IntKind.i64.wrap ((k : Int) + 1) = (k : Int) + 1 := IntWalk.i64_in _ (by omega)
    clear ih1 ih2 hs hsm hxk hx hlen hlx hls
    go_enter Tryz.func89, Tryz.ntmps89
    go_wp2_with fail
    refine (writeByteAny w0.heap.size b _ 40 w hI (by have := HLN.out; rw [byteCellsL_len]; omega) hB.size).mono ?_
    rintro e w1 ⟨rfl, hI1, hB1⟩
    have HI1 : Hid (Lib.IsBuilder 115 5 w0.heap.size b (Lib.byteCells (bs ++ [40])) w1) := by unfold Hid; rw [byteCellsL_app]; exact hI1
    clear hI hI1 h0 h1
    go_wp2_with fail
    refine (IH1.out (k + 1) _ w1 (bs ++ [40]) (t.flat ++ rest) (by omega) HX1.out HS1.out HI1.out (hB.trans hB1) (by have := HLN.out; simp; omega)).mono ?_
    rintro e w2 ⟨rfl, hI2, hB2⟩
    rw [HLS.out]
    have HI2 := Lib.hid hI2
    clear hI2
    go_wp2_with fail
    refine (writeByteAny w0.heap.size b _ 32 w2 HI2.out (by have := HLN.out; rw [byteCellsL_len]; simp; omega) hB2.size).mono ?_
    rintro e w3 ⟨rfl, hI3, hB3⟩
    have HI3 : Hid (Lib.IsBuilder 115 5 w0.heap.size b (Lib.byteCells (bs ++ [40] ++ s.text ++ [32])) w3) := by unfold Hid; rw [byteCellsL_app]; exact hI3
    clear hI3
    go_wp2_with fail
    refine (IH2.out (k + 1 + ls) _ w3 (bs ++ [40] ++ s.text ++ [32]) rest rfl HX2.out HS2.out HI3.out (hB2.trans hB3) (by have := HLN.out; simp; omega)).mono ?_
    rintro e w4 ⟨rfl, hI4, hB4⟩
    have HI4 := Lib.hid hI4
    clear hI4
    go_wp2_with fail
    refine (writeByteAny w0.heap.size b _ 41 w4 HI4.out (by have := HLN.out; rw [byteCellsL_len]; simp; omega) hB4.size).mono ?_
    rintro e w5 ⟨rfl, hI5, hB5⟩
    have HI5 : Hid (Lib.IsBuilder 115 5 w0.heap.size b (Lib.byteCells (bs ++ [40] ++ s.text ++ [32] ++ t.text ++ [41])) w5) := by unfold Hid; rw [byteCellsL_app]; exact hI5
    clear hI5
    go_wp2_with fail
    go_ret
    exact ⟨ret_int (by have := HLS.out; simp [LTm.flat]; omega), by have := HI5.out; simpa [LTm.text] using this, hB4.trans hB5⟩

set_option maxRecDepth 100000 in
/-- LamText of a valid term. -/
theorem lamTextOf_any (T : LTm) (A : Option Addr) (n c : Nat) (w : World) (ha : Args 2 w A n (rows R2.vs T.flat)) (hn : n ≤ 400) (hs : T.small = true) (hv : validT T.flat = true) :
    Calls Tryz.prog 69 #[.slice A n c] w fun e w' => e = .returned (.string ⟨T.text.toArray⟩) ∧ Below w.heap.size w w' := by
  have HV := Lib.hid (validLam_is A n c T.flat true hv w ha (by omega))
  have HA := Lib.hid ha
  have HS := Lib.hid hs
  have HL : Hid (T.flat.length = n) := by have := ha.1; rw [rows_len R2.vs_len] at this; unfold Hid; omega
  have HTL : Hid (T.text.length ≤ 1600) := by have := T.text_len; have := HL.out; unfold Hid; omega
  clear ha hs hv
  go_enter Tryz.func69, Tryz.ntmps69
  go_wp2_with fail
  refine HV.out.mono ?_
  rintro e w1 ⟨rfl, hb1⟩
  have HA1 := Lib.hid (HA.out.below hb1)
  obtain ⟨w2, HW2, b2, x2⟩ := al1 w1 (.cells #[.pointer none, .slice none 0 0] 115)
  have HI2 : Hid (Lib.IsBuilder 115 5 w1.heap.size w1.heap.size (Lib.byteCells []) w2) := by
    refine .inl ⟨Nat.le_refl _, .slice none 0 0, x2, World.ownsRow_nil _ _ _ _, by simp [Value.ownBlock]⟩
  have HB2 := Lib.hid b2
  clear x2 b2
  go_wp2_with fail
  rw [← HW2.out]
  refine (lamText_any w1 w1.heap.size A n c T.flat HA1.out (by omega) T 0 _ w2 [] [] rfl (by simp) HS.out HI2.out HB2.out (by have := HTL.out; simp; omega)).mono ?_
  rintro e w3 ⟨rfl, hI3, hB3⟩
  have HI3 := Lib.hid hI3
  clear hI3
  go_wp2_with fail
  refine (builderString w1.heap.size w1.heap.size T.text w3 (by simpa using HI3.out) hB3.size).mono ?_
  rintro e w4 ⟨rfl, hB4⟩
  go_wp2_with fail
  go_ret
  exact ⟨rfl, below_step hb1 (hB3.trans hB4)⟩
end Go.Proofs.YtkiaclajjlidoaaGreatDoor

/- 'append' of a whole slice onto a row of the call's own, with where the new row lies; rows that keep off it. Plain laws. -/
namespace Go.Proofs.YtkiaclajjlidoaaGreatDoor
open Go.RowKit
set_option linter.all false

theorem wpList_appy {P : Program} {w : World} {ops : Array Oper} {rest : List Oper} {o : Oper} {a : Act} {Q : Exit → Act → World → Prop} (hgd : o.guard = none) (s x : Operand) (t : TypeId)
    (ho : o.op = .call { callee := .builtin .append, args := #[s, x], argTypes := #[t, t] })
    {e : TypeId} {z : Value} {size bytes : Nat} (ht : P.underlying t = some (.slice e)) (hinfo : (P.info? e).map (fun i => (i.zero, i.size, i.bytes)) = some (some z, size, bytes)) (hzs : z.cells.size = size) (hsz : 0 < size)
    (base : Nat) {v : Value} {n : Nat} {xs : List Value} (hown : w.ownsRow base e size v n xs) (hbase : base ≤ w.heap.size) (hs : a.eval s = v)
    {u : Value} {m : Nat} {ys : List Value} (hsrc : Src size w u m ys) (hx : a.eval x = u) (h1 : ∀ u ∈ ys, u.oneCell' = true) (h63 : n + m ≤ maxLen) (hbytes : (n + m) * bytes ≤ 140737488355328)
    (h : ∀ v' w', w'.ownsRow base e size v' (n + m) (xs ++ ys) → w.grownBy w' v.ownBlock → (v'.ownBlock = v.ownBlock ∨ v'.ownBlock = some w.heap.size) → wpList P ops Q rest (a.put o.dst v') w') : wpList P ops Q (o :: rest) a w := by
  obtain ⟨i, hi, hz, hsize, hby⟩ := info_parts hinfo
  rcases hsrc.2 with ⟨rfl, rfl⟩ | ⟨b, off, c, rfl, hsl⟩
  · have hys : ys = [] := List.eq_nil_of_length_eq_zero (by simpa using hsrc.1)
    subst hys
    have hr := run_append_nothing (P := P) (w := w) base t o.type e i size ht hi v n xs hown 0
    refine wpList_plain hgd fun K hK => ?_
    unfold Oper.wp execOp
    simp only [ho, resolve, invoke, builtin, Sem.run_bind, Sem.run_pure, Result.andThen_ok, List.map_toArray, List.map_cons, List.map_nil, hs, hx, hr]
    exact hK _ _ (h v w (by simpa using hown) (World.grownBy.refl _ _) (.inl rfl))
  · refine wpList_append_own_at w hgd s x t ho base e i z size bytes ht hi hz hsize hby hzs hsz v n xs hs hown ⟨b, off, none⟩ m c ys hx hsrc.1 (fun j u hu => by rw [addr_add]; exact hsl.2 j u hu) h1 h63 hbytes hbase ?_
    intro v' w' h2 h3 _ h5
    exact h v' w' h2 h3 h5
/-- A row whose block lies below lo, or from hi on. -/
def OutB (lo hi : Nat) (v : Value) : Prop := ∀ k, v.ownBlock = some k → k < lo ∨ hi ≤ k
theorem OutB.low {w : World} {base lo hi : Nat} {e : TypeId} {size n : Nat} {v : Value} {xs : List Value} (h : w.ownsRow base e size v n xs) (hl : w.heap.size ≤ lo) : OutB lo hi v := fun k hk => .inl (Nat.lt_of_lt_of_le (h.lt k hk).2 hl)
theorem OutB.step {w : World} {lo hi : Nat} {v v' : Value} (h : OutB lo hi v) (hh : hi ≤ w.heap.size) (hl : v'.ownBlock = v.ownBlock ∨ v'.ownBlock = some w.heap.size) : OutB lo hi v' := by
  intro k hk
  rcases hl with hl | hl
  · exact h k (by rw [← hl]; exact hk)
  · rw [hl] at hk; injection hk with hk; exact .inr (hk ▸ hh)
theorem OutB.apart {w : World} {lo hi : Nat} {e : TypeId} {size n : Nat} {u v : Value} {xs : List Value} (h : OutB lo hi v) (own : w.ownsRow lo e size u n xs) (top : ∀ k, u.ownBlock = some k → k < hi) : u.ownBlock = none ∨ u.ownBlock ≠ v.ownBlock := by
  cases hu : u.ownBlock with
  | none => exact .inl rfl
  | some k =>
    refine .inr fun e2 => ?_
    have h1 := (own.lt k hu).1
    have h2 := top k hu
    rcases h k e2.symm with h3 | h3 <;> omega
end Go.Proofs.YtkiaclajjlidoaaGreatDoor

/- Reading the text of a lambda term, by the reference: l12Read, at texts whose numbers are single digits. -/
namespace Go.Proofs.YtkiaclajjlidoaaGreatDoor
open Go.RowKit
set_option linter.all false

theorem l01Digit_is (b : Int) (v : Bool) (h : (decide (48 ≤ b) && decide (b ≤ 57)) = v) (w : World) :
    Calls Tryz.prog 39 #[.int .u8 b] w fun e w' => e = .returned (.bool v) ∧ w = w' := by
  by_cases h1 : 48 ≤ b
  · by_cases h2 : b ≤ 57
    · have HV : Hid (true = v) := by unfold Hid; rw [← h]; simp [h1, h2]
      clear h
      go_enter Tryz.func39, Tryz.ntmps39
      go_wp2
      go_ret
      exact ⟨ret_bool HV.out, rfl⟩
    · have HV : Hid (false = v) := by unfold Hid; rw [← h]; simp [h1, h2]
      clear h
      go_enter Tryz.func39, Tryz.ntmps39
      go_wp2
      go_ret
      exact ⟨ret_bool HV.out, rfl⟩
  · have HV : Hid (false = v) := by unfold Hid; rw [← h]; simp [h1]
    clear h
    go_enter Tryz.func39, Tryz.ntmps39
    go_wp2
    go_ret
    exact ⟨ret_bool HV.out, rfl⟩
theorem digB_int (b : UInt8) : (decide ((48 : Int) ≤ (b.toNat : Int)) && decide ((b.toNat : Int) ≤ 57)) = digB b := by
  unfold digB
  rw [Bool.eq_iff_iff]; simp only [Bool.and_eq_true, decide_eq_true_eq]; omega
theorem str_at {s : ByteArray} {l : List UInt8} (h : s.data.toList = l) {k : Nat} {b : UInt8} {r : List UInt8} (hd : l.drop k = b :: r) : ∃ hk : k < s.size, s[k] = b := by
  subst h
  have hk : k < s.data.toList.length := by
    have := congrArg List.length hd
    rw [List.length_drop, List.length_cons] at this; omega
  refine ⟨by simpa using hk, ?_⟩
  rw [List.drop_eq_getElem_cons hk] at hd
  injection hd with h1 _
theorem drop_next {l : List UInt8} {k : Nat} {b : UInt8} {r : List UInt8} (hd : l.drop k = b :: r) : l.drop (k + 1) = r := by
  rw [← List.drop_drop, hd]; rfl
/-- The digit at a place, alone. -/
theorem l12Digits_one (s : ByteArray) (l : List UInt8) (hs : s.data.toList = l) (k d : Nat) (r : List UInt8) (hk : l.drop k = UInt8.ofNat (48 + d) :: r) (hd : d < 10) (hr : digB (r.headD 0) = false) (hl : l.length ≤ 100000) (w : World) :
    Calls Tryz.prog 40 #[.string s, .int .i64 k] w fun e w' => e = .returned (.int .i64 ((k : Int) + 1)) ∧ Below w.heap.size w w' := by
  obtain ⟨hks, hk0⟩ := str_at hs hk
  have hsz : s.size = l.length := by rw [← hs]; simp
  have HB0 : Hid ((s[k].toNat : Int) = 48 + d) := by unfold Hid; rw [hk0, dig_toNat hd]; omega
  have HNX : Hid (∀ h : k + 1 < s.size, digB (s[k + 1]'h) = false) := by
    intro h
    cases r with
    | nil =>
      have := congrArg List.length (drop_next hk)
      rw [List.length_drop] at this
      simp at this; omega
    | cons c r =>
      obtain ⟨h', e⟩ := str_at hs (drop_next hk)
      rw [e]; simpa using hr
  have HD := Lib.hid hd
  clear hk hk0 hr hs
  go_enter Tryz.func40, Tryz.ntmps40
  have hksI : (k : Int) < (s.size : Int) := by omega
  have hkn : k ≤ 100000 := by omega
  go_wp2_with fail
  go_loopw [1] (fun i wr => ∃ j : Nat, j ≤ 1 ∧ i = .int .i64 ((k + j : Nat) : Int) ∧ Hid (Below w.heap.size w wr)) (fun i _ => (k + 1 - (intOf i).toNat : Nat))
  case atStart => exact ⟨0, by omega, rfl, Below.refl _ _⟩
  case round =>
    obtain ⟨j, hj, rfl, HB⟩ := hrel
    rcases Nat.lt_or_ge j 1 with h0 | h0
    · obtain rfl : j = 0 := by omega
      have HDG := Lib.hid (l01Digit_is (s[k].toNat : Int) true (by rw [HB0.out]; simp; have := HD.out; omega))
      rw [Nat.add_zero]
      have hw1 : IntKind.i64.wrap ((k : Int) + 1) = (k : Int) + 1 := IntWalk.i64_in _ (by omega)
      go_wp2_with fail
      refine (HDG.out _).mono ?_
      rintro e w1 ⟨rfl, rfl⟩
      go_wp2_with fail
      go_roundw
      case rel => exact ⟨1, by omega, by go_num, HB⟩
      case measure => first | (simp [intOf]; done) | (simp [intOf]; omega)
    · obtain rfl : j = 1 := by omega
      obtain ⟨q, hq⟩ : ∃ q, k + 1 = q := ⟨_, rfl⟩
      have HR : Hid ((q : Int) = (k : Int) + 1) := by unfold Hid; omega
      rw [hq]
      rw [hq] at HNX
      by_cases hlt : q < s.size
      · have hltI : (q : Int) < (s.size : Int) := by omega
        have HDG := Lib.hid (l01Digit_is (s[q].toNat : Int) false (by rw [digB_int]; exact HNX.out hlt))
        clear hq
        go_wp2_with fail
        refine (HDG.out _).mono ?_
        rintro e w1 ⟨rfl, rfl⟩
        go_wp2_with fail
        go_ret
        exact ⟨ret_int HR.out, HB.out⟩
      · have hltI : ¬ (q : Int) < (s.size : Int) := by omega
        clear hq
        go_wp2_with fail
        go_ret
        exact ⟨ret_int HR.out, HB.out⟩

theorem l01Number_one (s : ByteArray) (d : Nat) (hd : d < 10) (hs : s.data.toList = [UInt8.ofNat (48 + d)]) (w : World) :
    Calls Tryz.prog 41 #[.string s] w fun e w' => e = .returned (.tuple #[.int .i64 d, .bool true]) ∧ Below w.heap.size w w' := by
  have hsz : s.size = 1 := by have := congrArg List.length hs; simpa using this
  obtain ⟨h0, hk0⟩ := str_at hs (k := 0) (b := UInt8.ofNat (48 + d)) (r := []) rfl
  have hb : (s[0].toNat : Int) = 48 + (d : Int) := by rw [hk0, dig_toNat hd]; omega
  have hb1 : (s[0].toNat : Int) ≠ 45 := by omega
  have hsI : (s.size : Int) = 1 := by omega
  have HDG := Lib.hid (l01Digit_is (s[0].toNat : Int) true (by rw [hb]; simp; omega))
  have hu : IntKind.u8.wrap ((s[0].toNat : Int) - 48) = (d : Int) := by
    rw [hb]
    simp only [IntKind.wrap, IntKind.bits, IntKind.signed]
    first | omega | (simp; omega)
  have hi0 : IntKind.i64.wrap (d : Int) = (d : Int) := IntWalk.i64_in _ (by omega)
  clear hs hk0
  have hbe : ((s[0].toNat : Int) == 45) = false := by rw [beq_eq_false_iff_ne]; exact hb1
  have hl0 : (0 : Int) < (s.size : Int) := by omega
  rw [hsI] at hl0
  obtain ⟨v48, h48⟩ : ∃ v, ((s[0].toNat : Int) == 48) = v := ⟨_, rfl⟩
  clear hb hb1
  cases v48
  all_goals
    go_enter Tryz.func41, Tryz.ntmps41
    go_wp2_with fail
    go_loopw [5, 6] (fun m i wr => ∃ j : Nat, j ≤ 1 ∧ i = .int .i64 (j : Int) ∧ m = .int .i64 (if j = 0 then 0 else (d : Int)) ∧ wr = w) (fun _ i _ => 1 - (intOf i).toNat)
    case atStart => exact ⟨0, by omega, rfl, rfl, rfl⟩
    case round =>
      obtain ⟨j, hj, rfl, rfl, rfl⟩ := hrel
      rcases Nat.lt_or_ge j 1 with hj0 | hj0
      · obtain rfl : j = 0 := by omega
        rw [if_pos rfl]
        rw [show ((0 : Nat) : Int) = 0 from rfl]
        go_wp2_with fail
        refine (HDG.out _).mono ?_
        rintro e w1 ⟨rfl, rfl⟩
        go_wp2_with fail
        go_roundw
        case rel => refine ⟨1, by omega, ?_, ?_, ?_⟩ <;> first | rfl | trivial | simp
        case measure => simp [intOf]
      · obtain rfl : j = 1 := by omega
        rw [if_neg (by decide)]
        rw [show ((1 : Nat) : Int) = 1 from rfl]
        go_wp2_with fail
        go_ret2
        exact ⟨rfl, Below.refl _ _⟩

def LamSt (w : World) (l : List UInt8) (k : Nat) (V : Value) (ts : List R2) (W : World) : Prop :=
  W.ownsRow w.heap.size 45 2 V ts.length (rows R2.vs ts) ∧ Below w.heap.size w W ∧ rdT l = ts ++ rdT (l.drop k) ∧ okT (l.drop k) = true
theorem LamSt.put {w : World} {l : List UInt8} {k : Nat} {V V2 : Value} {ts : List R2} {W W1 W2 : World} {x : R2} (h : LamSt w l k V ts W) (hb : Below W.heap.size W W1) (hx : rdT (l.drop k) = x :: rdT (l.drop (k + 1))) (ho : okT (l.drop (k + 1)) = true)
    (own : W2.ownsRow w.heap.size 45 2 V2 (ts.length + 1) (rows R2.vs ts ++ x.vs)) (hg : W1.grownBy W2 V.ownBlock) : LamSt w l (k + 1) V2 (ts ++ [x]) W2 := by
  refine ⟨?_, grown_below (below_step h.2.1 hb) (own_below' h.1 hb) (Nat.le_refl _) hg, by rw [h.2.2.1, hx]; simp, ho⟩
  rw [List.length_append, rows_app, rows_one]; exact own
theorem LamSt.skip {w : World} {l : List UInt8} {k : Nat} {V : Value} {ts : List R2} {W : World} (h : LamSt w l k V ts W) (hx : rdT (l.drop k) = rdT (l.drop (k + 1))) (ho : okT (l.drop (k + 1)) = true) : LamSt w l (k + 1) V ts W :=
  ⟨h.1, h.2.1, by rw [h.2.2.1, hx], ho⟩
theorem LamSt.below {w : World} {l : List UInt8} {k : Nat} {V : Value} {ts : List R2} {W W' : World} (h : LamSt w l k V ts W) (hb : Below W.heap.size W W') : LamSt w l k V ts W' :=
  ⟨own_below' h.1 hb, below_step h.2.1 hb, h.2.2⟩

set_option maxRecDepth 100000 in
set_option maxHeartbeats 4000000 in
theorem l12Read_any (s : ByteArray) (l : List UInt8) (hs : s.data.toList = l) (hok : okT l = true) (hl : l.length ≤ 300) (w : World) :
    Calls Tryz.prog 21 #[.string s] w fun e w' => ∃ v, e = .returned v ∧ w'.ownsRow w.heap.size 45 2 v (rdT l).length (rows R2.vs (rdT l)) ∧ Below w.heap.size w w' := by
  have hsz : s.size = l.length := by rw [← hs]; simp
  obtain ⟨n, hn⟩ : ∃ n, s.size = n := ⟨_, rfl⟩
  have hn3 : n ≤ 300 := by omega
  have HS := Lib.hid hs
  have HN : Hid (l.length = n) := by unfold Hid; omega
  obtain ⟨wa, HWa, Ba, xa⟩ := al1 w (.cells #[] 45)
  have HM0 : Hid (LamSt w l 0 (.slice (some ⟨w.heap.size, 0, none⟩) 0 0) [] wa) := by
    refine ⟨?_, Ba, by simp, by simpa using hok⟩
    have := own_of_block (n := 0) (cap := 0) (s := 2) (xs := []) (base := w.heap.size) xa (Nat.le_refl _) rfl (Nat.le_refl _) (Nat.zero_le _)
    rw [List.take_nil] at this
    exact this
  clear hs hok hl hsz xa Ba
  go_enter Tryz.func21, Tryz.ntmps21
  go_wp2_with fail
  rw [← HWa.out]
  go_loopw [3, 4] (fun o i wr => ∃ (k : Nat) (V : Value) (ts : List R2), V = o ∧ i = .int .i64 (k : Int) ∧ k ≤ n ∧ Hid (LamSt w l k V ts wr)) (fun _ i _ => n - (intOf i).toNat)
  case atStart => exact ⟨0, _, [], rfl, rfl, by omega, HM0⟩
  case round =>
    obtain ⟨k, V, ts, rfl, rfl, hk, HM⟩ := hrel
    clear HM0
    have HTL : Hid (ts.length ≤ 300) := by
      have h1 := congrArg List.length HM.out.2.2.1
      rw [List.length_append] at h1
      have := rdT_len l
      have := HN.out
      unfold Hid; omega
    obtain ⟨lt, hlt⟩ : ∃ m, ts.length = m := ⟨_, rfl⟩
    have HLT := Lib.hid hlt
    have hl3 : lt ≤ 300 := by rw [← hlt]; exact HTL.out
    have hl4 : (lt : Int) ≤ 400 := by omega
    have own := HM.out.1
    rw [hlt] at own
    obtain ⟨AV, cV, hAV⟩ := own_form own
    subst hAV
    clear hlt HTL
    by_cases hkn : k < n
    · have hks : k < s.size := by omega
      have hkI : (k : Int) < (s.size : Int) := by omega
      have hw1 : IntKind.i64.wrap ((k : Int) + 1) = (k : Int) + 1 := IntWalk.i64_in _ (by omega)
      obtain ⟨b, r, hbr⟩ : ∃ b r, l.drop k = b :: r := by
        cases hd : l.drop k with
        | nil => have := congrArg List.length hd; rw [List.length_drop, HN.out] at this; simp at this; omega
        | cons b r => exact ⟨b, r, rfl⟩
      obtain ⟨hor, hcase⟩ := okT_cases (by rw [← hbr]; exact HM.out.2.2.2)
      have hnx := drop_next hbr
      have hor' : okT (l.drop (k + 1)) = true := by rw [hnx]; exact hor
      obtain ⟨_, hb⟩ := str_at HS.out hbr
      have HNX : Hid (l.drop (k + 1) = r) := hnx
      have HBR := Lib.hid hbr
      have HOR := Lib.hid hor'
      clear hbr hor hnx hor'
      rcases hcase with h | h | h | h | ⟨d, hd, h, hdr⟩
      · have HX : Hid (rdT (l.drop k) = (⟨2, 0⟩ : R2) :: rdT (l.drop (k + 1))) := by unfold Hid; rw [HBR.out, HNX.out, h]; exact rdT_app _
        have hz1 : ((s[k].toNat : Int) == 94) = false := by rw [hb, h]; rfl
        have hz2 : ((s[k].toNat : Int) == 40) = true := by rw [hb, h]; rfl
        obtain ⟨w1, HW1, b1, x1⟩ := al1 wr (.cells #[.int .i64 2, .int .i64 0] 45)
        have HB1 := Lib.hid b1
        have own1 := own_below' own b1
        have hbz := (below_step HM.out.2.1 b1).size
        have src1 : Src 2 w1 (.slice (some ⟨wr.heap.size, 0, none⟩) 1 1) 1 [.int .i64 2, .int .i64 0] := Src.of_own (own_of_block (n := 1) (cap := 1) (s := 2) (xs := [.int .i64 2, .int .i64 0]) (base := 0) x1 (by omega) rfl (by omega) (by unfold maxLen; omega))
        clear b1 x1 own h hb
        go_wp2_with (at_builtin; rw [← HW1.out]; refine wpList_appx rfl _ _ _ rfl Tryz.underlying24 infoLam rfl (by omega) w.heap.size own1 hbz rfl src1 rfl (by simp [Value.oneCell']) (by unfold maxLen; omega) (by omega) ?_; intro V2 w2 own2 hg2 hnil2)
        have HM2 : Hid (LamSt w l (k + 1) V2 (ts ++ [⟨2, 0⟩]) w2) := HM.out.put HB1.out HX.out HOR.out (by rw [HLT.out]; exact own2) hg2
        clear own1 own2 hg2 hnil2 src1
        go_roundw
        case rel => exact ⟨k + 1, _, _, rfl, by go_num, by omega, HM2⟩
        case measure => simp [intOf]; omega
      · have HX : Hid (rdT (l.drop k) = rdT (l.drop (k + 1))) := by unfold Hid; rw [HBR.out, HNX.out, h]; exact rdT_blank _
        have hz1 : ((s[k].toNat : Int) == 94) = false := by rw [hb, h]; rfl
        have hz2 : ((s[k].toNat : Int) == 40) = false := by rw [hb, h]; rfl
        have HDG := Lib.hid (l01Digit_is (s[k].toNat : Int) false (by rw [hb, h]; rfl))
        have HM2 := Lib.hid (HM.out.skip HX.out HOR.out)
        clear own h hb
        go_wp2_with fail
        refine (HDG.out _).mono ?_
        rintro e w1 ⟨rfl, rfl⟩
        go_wp2_with fail
        go_roundw
        case rel => exact ⟨k + 1, _, _, rfl, by go_num, by omega, HM2⟩
        case measure => simp [intOf]; omega
      · have HX : Hid (rdT (l.drop k) = rdT (l.drop (k + 1))) := by unfold Hid; rw [HBR.out, HNX.out, h]; exact rdT_close _
        have hz1 : ((s[k].toNat : Int) == 94) = false := by rw [hb, h]; rfl
        have hz2 : ((s[k].toNat : Int) == 40) = false := by rw [hb, h]; rfl
        have HDG := Lib.hid (l01Digit_is (s[k].toNat : Int) false (by rw [hb, h]; rfl))
        have HM2 := Lib.hid (HM.out.skip HX.out HOR.out)
        clear own h hb
        go_wp2_with fail
        refine (HDG.out _).mono ?_
        rintro e w1 ⟨rfl, rfl⟩
        go_wp2_with fail
        go_roundw
        case rel => exact ⟨k + 1, _, _, rfl, by go_num, by omega, HM2⟩
        case measure => simp [intOf]; omega
      · have HX : Hid (rdT (l.drop k) = (⟨1, 0⟩ : R2) :: rdT (l.drop (k + 1))) := by unfold Hid; rw [HBR.out, HNX.out, h]; exact rdT_abs _
        have hz1 : ((s[k].toNat : Int) == 94) = true := by rw [hb, h]; rfl
        obtain ⟨w1, HW1, b1, x1⟩ := al1 wr (.cells #[.int .i64 1, .int .i64 0] 45)
        have HB1 := Lib.hid b1
        have own1 := own_below' own b1
        have hbz := (below_step HM.out.2.1 b1).size
        have src1 : Src 2 w1 (.slice (some ⟨wr.heap.size, 0, none⟩) 1 1) 1 [.int .i64 1, .int .i64 0] := Src.of_own (own_of_block (n := 1) (cap := 1) (s := 2) (xs := [.int .i64 1, .int .i64 0]) (base := 0) x1 (by omega) rfl (by omega) (by unfold maxLen; omega))
        clear b1 x1 own h hb
        go_wp2_with (at_builtin; rw [← HW1.out]; refine wpList_appx rfl _ _ _ rfl Tryz.underlying24 infoLam rfl (by omega) w.heap.size own1 hbz rfl src1 rfl (by simp [Value.oneCell']) (by unfold maxLen; omega) (by omega) ?_; intro V2 w2 own2 hg2 hnil2)
        have HM2 : Hid (LamSt w l (k + 1) V2 (ts ++ [⟨1, 0⟩]) w2) := HM.out.put HB1.out HX.out HOR.out (by rw [HLT.out]; exact own2) hg2
        clear own1 own2 hg2 hnil2 src1
        go_roundw
        case rel => exact ⟨k + 1, _, _, rfl, by go_num, by omega, HM2⟩
        case measure => simp [intOf]; omega
      · have HX : Hid (rdT (l.drop k) = (⟨0, (d : Int)⟩ : R2) :: rdT (l.drop (k + 1))) := by unfold Hid; rw [HBR.out, HNX.out, h]; exact rdT_dig hd r
        have hbI : (s[k].toNat : Int) = 48 + (d : Int) := by rw [hb, h, dig_toNat hd]; omega
        have hz1 : ((s[k].toNat : Int) == 94) = false := by rw [beq_eq_false_iff_ne]; omega
        have hz2 : ((s[k].toNat : Int) == 40) = false := by rw [beq_eq_false_iff_ne]; omega
        have HDG := Lib.hid (l01Digit_is (s[k].toNat : Int) true (by rw [hbI]; simp; omega))
        have HD12 := Lib.hid (l12Digits_one s l HS.out k d r (by rw [HBR.out, h]) hd hdr (by have := HN.out; omega))
        have hex : (s.extract k (k + 1)).data.toList = [UInt8.ofNat (48 + d)] := by
          have e1 : s = ⟨l.toArray⟩ := by rw [← HS.out]
          rw [e1, ByteArray.extract_mk, HBR.out, h]; simp
        obtain ⟨s1, hs1⟩ : ∃ s1, s.extract k (k + 1) = s1 := ⟨_, rfl⟩
        rw [hs1] at hex
        have HNB := Lib.hid (l01Number_one s1 d hd hex)
        have hslc : ∀ W, (Instr.slice 9 (.string s) (some (.int .i64 (k : Int))) (some (.int .i64 ((k : Int) + 1))) none).run Tryz.prog W = .ok (.string s1) W := by
          intro W
          rw [run_slice_string W _ s .i64 .i64 _ _ Tryz.underlying9 (by omega) (by omega) (by omega), ← hs1]
          congr 3
        obtain ⟨w1, HW1, b1, x1⟩ : ∃ w1 : World, True ∧ True ∧ True := ⟨wr, trivial, trivial, trivial⟩
        clear HW1 b1 x1 hs1 hex hbI
        have HM1 := HM
        clear own h hb
        go_wp2_with fail
        refine (HDG.out _).mono ?_
        rintro e w2 ⟨rfl, rfl⟩
        go_wp2_with fail
        refine (HD12.out _).mono ?_
        rintro e w2 ⟨rfl, hb2⟩
        go_wp2_with fail
        refine (HNB.out _).mono ?_
        rintro e w3 ⟨rfl, hb3⟩
        have HM3 := Lib.hid (HM.out.below (below_step hb2 hb3))
        obtain ⟨w4, HW4, b4, x4⟩ := al1 w3 (.cells #[.int .i64 0, .int .i64 (d : Int)] 45)
        have HB4 := Lib.hid b4
        have own3 := HM3.out.1
        rw [HLT.out] at own3
        have own4 := own_below' own3 b4
        have hbz := (below_step HM3.out.2.1 b4).size
        have src4 : Src 2 w4 (.slice (some ⟨w3.heap.size, 0, none⟩) 1 1) 1 [.int .i64 0, .int .i64 (d : Int)] := Src.of_own (own_of_block (n := 1) (cap := 1) (s := 2) (xs := [.int .i64 0, .int .i64 (d : Int)]) (base := 0) x4 (by omega) rfl (by omega) (by unfold maxLen; omega))
        clear b4 x4 own3 hb2 hb3
        go_wp2_with (at_builtin; rw [← HW4.out]; refine wpList_appx rfl _ _ _ rfl Tryz.underlying24 infoLam rfl (by omega) w.heap.size own4 hbz rfl src4 rfl (by simp [Value.oneCell']) (by unfold maxLen; omega) (by omega) ?_; intro V5 w5 own5 hg5 hnil5)
        have HM5 : Hid (LamSt w l (k + 1) V5 (ts ++ [⟨0, (d : Int)⟩]) w5) := HM3.out.put HB4.out HX.out HOR.out (by rw [HLT.out]; exact own5) hg5
        clear own4 own5 hg5 hnil5 src4
        go_roundw
        case rel => exact ⟨k + 1, _, _, rfl, by go_num, by omega, HM5⟩
        case measure => simp [intOf]; omega
    · obtain rfl : k = n := by omega
      have hkI : ¬ (k : Int) < (s.size : Int) := by omega
      have HE : Hid (ts = rdT l) := by
        have h1 := HM.out.2.2.1
        rw [List.drop_of_length_le (by have := HN.out; omega)] at h1
        unfold Hid; rw [h1]; simp [rdT]
      have HB := Lib.hid HM.out.2.1
      have HO := Lib.hid own
      clear own
      go_wp2_with fail
      go_ret
      exact ⟨_, rfl, by rw [← HE.out, HLT.out]; exact HO.out, HB.out⟩
end Go.Proofs.YtkiaclajjlidoaaGreatDoor

/- Reading the text of a lambda term, by the program: readTerm, ReadLam and lamOf, at texts whose numbers are single digits. -/
namespace Go.Proofs.YtkiaclajjlidoaaGreatDoor
open Go.RowKit
set_option linter.all false

theorem below_setC2 {B g : Nat} {a w : World} (h : Below B a w) (hg : B ≤ g) (x y : Value) : Below B a ((w.setCell ⟨g, 0, none⟩ x).setCell ⟨g, 1, none⟩ y) :=
  (h.setCell (p := ⟨g, 0, none⟩) hg _).setCell (p := ⟨g, 1, none⟩) hg _

theorem lamVarB (k : Int) (w : World) : Calls Tryz.prog 29 #[.int .i64 k] w fun e w' => e = .returned (.agg #[.int .i64 0, .int .i64 k]) ∧ Below w.heap.size w w' := by
  have B : Below w.heap.size w (w.alloc (.cells #[.int .i64 0, .int .i64 k] 45)) := laid_below _ _
  have HI := infoLam
  go_enter Tryz.func29, Tryz.ntmps29
  go_wp2
  refine bodyPost_ret (v := .agg #[.int .i64 0, .int .i64 k]) (by simp [results, Tryz.results29, go_sem]) rfl ?_
  exact ⟨rfl, B⟩

theorem atomAbs (s : ByteArray) (r : List UInt8) (hs : s.data.toList = 94 :: r) (w : World) :
    Calls Tryz.prog 66 #[.string s] w fun e w' => e = .returned (.tuple #[.agg #[.int .i64 1, .int .i64 0], .int .i64 1]) ∧ Below w.heap.size w w' := by
  obtain ⟨h0, hb⟩ := str_at hs (k := 0) (b := 94) (r := r) rfl
  have hz : ((s[0].toNat : Int) == 94) = true := by rw [hb]; rfl
  have hsI : (0 : Int) < (s.size : Int) := by omega
  have B1 := laid_below w (.cells #[.int .i64 1, .int .i64 0] 45)
  clear hs hb
  go_enter Tryz.func66, Tryz.ntmps66
  go_wp2_with fail
  refine bodyPost_ret (v := .tuple #[.agg #[.int .i64 1, .int .i64 0], .int .i64 1]) (by simp [results, Tryz.results66, go_sem]) rfl ?_
  exact ⟨rfl, B1⟩

theorem atomDig (s : ByteArray) (d : Nat) (r : List UInt8) (hs : s.data.toList = UInt8.ofNat (48 + d) :: r) (hd : d < 10) (hr : digB (r.headD 0) = false) (hl : r.length ≤ 100000) (w : World) :
    Calls Tryz.prog 66 #[.string s] w fun e w' => e = .returned (.tuple #[.agg #[.int .i64 0, .int .i64 d], .int .i64 1]) ∧ Below w.heap.size w w' := by
  obtain ⟨h0, hb⟩ := str_at hs (k := 0) (b := UInt8.ofNat (48 + d)) (r := r) rfl
  have hbI : (s[0].toNat : Int) = 48 + (d : Int) := by rw [hb, dig_toNat hd]; omega
  have hz : ((s[0].toNat : Int) == 94) = false := by rw [beq_eq_false_iff_ne]; omega
  have hsI : (0 : Int) < (s.size : Int) := by omega
  have HDG := Lib.hid (digitsOne s d r hs hd hr hl)
  have hex : (s.extract 0 1).data.toList = [UInt8.ofNat (48 + d)] := by
    have e1 : s = ⟨(UInt8.ofNat (48 + d) :: r).toArray⟩ := by rw [← hs]
    rw [e1, ByteArray.extract_mk]; simp
  obtain ⟨s1, hs1⟩ : ∃ s1, s.extract 0 1 = s1 := ⟨_, rfl⟩
  rw [hs1] at hex
  have HNB := Lib.hid (readDecimalDig s1 d hd hex)
  have HLV := Lib.hid (lamVarB (d : Int))
  have hslc : ∀ W, (Instr.slice 9 (.string s) none (some (.int .i64 1)) none).run Tryz.prog W = .ok (.string s1) W := by
    intro W
    rw [run_slice_string_h W _ s Tryz.underlying9 .i64 1 (by omega) (by omega), ← hs1]
    rfl
  obtain ⟨w1, HW1, B1, x1⟩ := al1 w (.cells #[.int .i64 0, .int .i64 0] 45)
  have X1 := Lib.hid x1
  have HB1 := Lib.hid B1
  clear hs hb x1 B1 hex hs1 hbI hr hl
  go_enter Tryz.func66, Tryz.ntmps66
  go_wp2_with fail
  rw [← HW1.out]
  go_wp2_with fail
  refine (HDG.out _).mono ?_
  rintro e w2 ⟨rfl, b2⟩
  go_wp2_with fail
  refine (HNB.out _).mono ?_
  rintro e w3 ⟨rfl, b3⟩
  go_wp2_with fail
  refine (HLV.out _).mono ?_
  rintro e w4 ⟨rfl, b4⟩
  have B4 := below_step (below_step b2 b3) b4
  have x4 := (B4.block _ (heap_lt X1.out)).trans X1.out
  have f0 : w4.frozen? ⟨w.heap.size, 0, none⟩ = false := frozen_of_heap x4
  have f1 : w4.frozen? ⟨w.heap.size, 1, none⟩ = false := frozen_of_heap x4
  have c0 : w4.cell? ⟨w.heap.size, 0, none⟩ = some (.int .i64 0) := by rw [cell_of_heap x4]; rfl
  have c1 : w4.cell? ⟨w.heap.size, 1, none⟩ = some (.int .i64 0) := by rw [cell_of_heap x4]; rfl
  have BF := Lib.hid (below_setC2 (g := w.heap.size) (below_step HB1.out B4) (Nat.le_refl _) (.int .i64 0) (.int .i64 (d : Int)))
  have y1 := heap_set (heap_set x4 (i := 0) (.int .i64 0)) (i := 1) (.int .i64 (d : Int))
  have z0 : ((w4.setCell ⟨w.heap.size, 0, none⟩ (.int .i64 0)).setCell ⟨w.heap.size, 1, none⟩ (.int .i64 (d : Int))).cell? ⟨w.heap.size, 0, none⟩ = some (.int .i64 0) := by rw [cell_of_heap y1]; rfl
  have z1 : ((w4.setCell ⟨w.heap.size, 0, none⟩ (.int .i64 0)).setCell ⟨w.heap.size, 1, none⟩ (.int .i64 (d : Int))).cell? ⟨w.heap.size, 1, none⟩ = some (.int .i64 (d : Int)) := by rw [cell_of_heap y1]; rfl
  clear b2 b3 b4 B4 x4 y1
  go_wp2_with fail
  refine bodyPost_ret (v := .tuple #[.agg #[.int .i64 0, .int .i64 (d : Int)], .int .i64 1]) (by simp [results, Tryz.results66, go_sem, z0, z1]) rfl ?_
  exact ⟨rfl, BF.out⟩

def strSize : Value → Nat
  | .string s => s.size
  | _ => 0
theorem tail_str {S : ByteArray} {l : List UInt8} {k : Nat} {b : UInt8} {r : List UInt8} (h : S.data.toList = l.drop k) (hbr : l.drop k = b :: r) : (S.extract 1 S.size).data.toList = l.drop (k + 1) := by
  rw [drop_next hbr]
  have e1 : S = ⟨(b :: r).toArray⟩ := by rw [← hbr, ← h]
  rw [e1, ByteArray.extract_mk]
  simp [ByteArray.size]
def readFn : Value := .func (.func 66) #[] #[]

set_option maxRecDepth 100000 in
set_option maxHeartbeats 4000000 in
theorem readTerm_any (s : ByteArray) (l : List UInt8) (hs : s.data.toList = l) (hok : okT l = true) (hl : l.length ≤ 300) (w : World) :
    Calls Tryz.prog 65 #[.string s, .agg #[.int .i64 2, .int .i64 0], .func (.func 66) #[] #[], .int .i64 400] w fun e w' => ∃ v, e = .returned v ∧ w'.ownsRow w.heap.size 45 2 v (rdT l).length (rows R2.vs (rdT l)) ∧ Below w.heap.size w w' := by
  obtain ⟨n, hn⟩ : ∃ n, l.length = n := ⟨_, rfl⟩
  have HN := Lib.hid hn
  have hn3 : n ≤ 300 := by omega
  obtain ⟨w1, HW1, B1, X1⟩ := al1 w (.cells #[.int .i64 2, .int .i64 0] 45)
  obtain ⟨wa, HWa, Ba, xa⟩ := al1 w1 (.cells #[] 45)
  have HM0 : Hid (LamSt w1 l 0 (.slice (some ⟨w1.heap.size, 0, none⟩) 0 0) [] wa) := by
    refine ⟨?_, Ba, by simp, by simpa using hok⟩
    have := own_of_block (n := 0) (cap := 0) (s := 2) (xs := []) (base := w1.heap.size) xa (Nat.le_refl _) rfl (Nat.le_refl _) (Nat.zero_le _)
    rw [List.take_nil] at this
    exact this
  have hs1 : w1.heap.size = w.heap.size + 1 := by rw [HW1.out]; simp
  rw [hs1] at HM0
  have HS1 := Lib.hid hs1
  clear hs1
  have HX1 := Lib.hid X1
  have HB1 := Lib.hid B1
  have HS0 := Lib.hid hs
  have HI := Lib.hid infoLam
  clear hs hok hl hn xa Ba X1 B1
  go_enter Tryz.func65, Tryz.ntmps65
  go_wp2_with fail
  rw [← HW1.out, ← HWa.out]
  go_loopw [0, 9] (fun q o wr => ∃ (k : Nat) (S : ByteArray) (V : Value) (ts : List R2), V = o ∧ q = .string S ∧ k ≤ n ∧ Hid (S.data.toList = l.drop k) ∧ Hid (LamSt w1 l k V ts wr)) (fun q _ _ => strSize q)
  case atStart => exact ⟨0, s, _, [], rfl, rfl, by omega, HS0, HM0⟩
  case round =>
    obtain ⟨k, S, V, ts, rfl, rfl, hk, HS, HM⟩ := hrel
    clear HM0 HS0
    have HTL : Hid (ts.length ≤ 300) := by
      have h1 := congrArg List.length HM.out.2.2.1
      rw [List.length_append] at h1
      have := rdT_len l
      have := HN.out
      unfold Hid; omega
    obtain ⟨lt, hlt⟩ : ∃ m, ts.length = m := ⟨_, rfl⟩
    have HLT := Lib.hid hlt
    have hl3 : lt ≤ 300 := by rw [← hlt]; exact HTL.out
    have hl4 : (lt : Int) ≤ 400 := by omega
    have own := HM.out.1
    rw [hlt] at own
    obtain ⟨AV, cV, hAV⟩ := own_form own
    subst hAV
    have hsz : S.size = n - k := by have := congrArg List.length HS.out; rw [List.length_drop, HN.out] at this; simpa using this
    have x0 := (HM.out.2.1.block _ (heap_lt HX1.out)).trans HX1.out
    have c0 : wr.cell? ⟨w.heap.size, 0, none⟩ = some (.int .i64 2) := by rw [cell_of_heap x0]; rfl
    have c1 : wr.cell? ⟨w.heap.size, 1, none⟩ = some (.int .i64 0) := by rw [cell_of_heap x0]; rfl
    clear hlt HTL x0
    by_cases hkn : k < n
    · have h0s : 0 < S.size := by omega
      have h0I : (0 : Int) < (S.size : Int) := by omega
      have h1I : (1 : Int) ≤ (S.size : Int) := by omega
      obtain ⟨b, r, hbr⟩ : ∃ b r, l.drop k = b :: r := by
        cases hd : l.drop k with
        | nil => have := congrArg List.length hd; rw [List.length_drop, HN.out] at this; simp at this; omega
        | cons b r => exact ⟨b, r, rfl⟩
      have hne : S.toList.isEmpty = false := by rw [ByteArray.toList_eq, HS.out, hbr]; rfl
      obtain ⟨hor, hcase⟩ := okT_cases (by rw [← hbr]; exact HM.out.2.2.2)
      have hnx := drop_next hbr
      have hor' : okT (l.drop (k + 1)) = true := by rw [hnx]; exact hor
      obtain ⟨_, hb⟩ := str_at (HS.out.trans hbr) (k := 0) rfl
      have HTS := Lib.hid (tail_str HS.out hbr)
      have htz : (S.extract 1 S.size).size < S.size := by
        have := congrArg List.length HTS.out
        rw [List.length_drop, HN.out] at this
        have e : (S.extract 1 S.size).size = n - (k + 1) := by simpa using this
        omega
      have HTZ := Lib.hid htz
      have HNX : Hid (l.drop (k + 1) = r) := hnx
      have HBR := Lib.hid hbr
      have HOR := Lib.hid hor'
      clear hbr hor hnx hor' htz hsz
      rcases hcase with h | h | h | h | ⟨d, hd, h, hdr⟩
      · have HX : Hid (rdT (l.drop k) = (⟨2, 0⟩ : R2) :: rdT (l.drop (k + 1))) := by unfold Hid; rw [HBR.out, HNX.out, h]; exact rdT_app _
        have hz1 : ((S[0].toNat : Int) == 40) = true := by rw [hb, h]; rfl
        have HMX := HM
        have bz4 : Below (wr).heap.size (wr) ((wr).drew.alloc (.cells #[.int .i64 2, .int .i64 0] 45)) := ((Below.refl _ _).drew).alloc (Nat.le_refl _) _
        have own4 := own_below' own bz4
        have hbz4 : w1.heap.size ≤ ((wr).drew.alloc (.cells #[.int .i64 2, .int .i64 0] 45)).heap.size := (below_step HMX.out.2.1 bz4).size
        have src4 : Src 2 ((wr).drew.alloc (.cells #[.int .i64 2, .int .i64 0] 45)) (.slice (some ⟨(wr).heap.size, 0, none⟩) 1 1) 1 [.int .i64 2, .int .i64 0] := Src.of_own (own_of_block (n := 1) (cap := 1) (s := 2) (xs := [.int .i64 2, .int .i64 0]) (base := 0) (heap_alloc_new (wr).drew _) (by omega) rfl (by omega) (by unfold maxLen; omega))
        have BZ4 := Lib.hid bz4
        clear bz4
        clear own h hb
        go_wp2_with fail
        go_region_held3 (fun W => W.cell? ⟨w.heap.size, 0, none⟩ = some (.int .i64 2) ∧ W.cell? ⟨w.heap.size, 1, none⟩ = some (.int .i64 0)) (first | go_keep | exact ⟨c0, c1⟩ | exact ⟨e0, e1⟩)
          ((first
          | (refine step_appx (by rfl) _ _ _ (by rfl) Tryz.underlying24 HI.out rfl (by omega) _ own4 hbz4 (by rfl) src4 (by rfl) (by simp [Value.oneCell']) (by unfold maxLen; omega) (by omega) ?_; intro V5 w5 own5 hg5 hnil5; have HM5 : Hid (LamSt w1 l (k + 1) V5 (ts ++ [⟨2, 0⟩]) w5) := HMX.out.put BZ4.out HX.out HOR.out (by rw [HLT.out]; exact own5) hg5; have x5 := (HM5.out.2.1.block _ (heap_lt HX1.out)).trans HX1.out; have e0 : w5.cell? ⟨w.heap.size, 0, none⟩ = some (.int .i64 2) := (by rw [cell_of_heap x5]; rfl); have e1 : w5.cell? ⟨w.heap.size, 1, none⟩ = some (.int .i64 0) := (by rw [cell_of_heap x5]; rfl); clear x5; clear own5 hg5 hnil5)))
        all_goals
          go_wp2_with fail
          go_roundw
          case rel => exact ⟨k + 1, _, _, _, rfl, rfl, by omega, HTS, HM5⟩
          case measure => simp only [strSize]; exact HTZ.out
      · have HX : Hid (rdT (l.drop k) = rdT (l.drop (k + 1))) := by unfold Hid; rw [HBR.out, HNX.out, h]; exact rdT_blank _
        have hz1 : ((S[0].toNat : Int) == 40) = false := by rw [hb, h]; rfl
        have hz2 : ((S[0].toNat : Int) == 32) = true := by rw [hb, h]; rfl

        have HM5 := Lib.hid (HM.out.skip HX.out HOR.out)
        clear own h hb
        go_wp2_with fail
        go_roundw
        case rel => exact ⟨k + 1, _, _, _, rfl, rfl, by omega, HTS, HM5⟩
        case measure => simp only [strSize]; exact HTZ.out
      · have HX : Hid (rdT (l.drop k) = rdT (l.drop (k + 1))) := by unfold Hid; rw [HBR.out, HNX.out, h]; exact rdT_close _
        have hz1 : ((S[0].toNat : Int) == 40) = false := by rw [hb, h]; rfl
        have hz2 : ((S[0].toNat : Int) == 32) = false := by rw [hb, h]; rfl
        have hz3 : ((S[0].toNat : Int) == 41) = true := by rw [hb, h]; rfl
        have HM5 := Lib.hid (HM.out.skip HX.out HOR.out)
        clear own h hb
        go_wp2_with fail
        go_roundw
        case rel => exact ⟨k + 1, _, _, _, rfl, rfl, by omega, HTS, HM5⟩
        case measure => simp only [strSize]; exact HTZ.out
      · have HX : Hid (rdT (l.drop k) = (⟨1, 0⟩ : R2) :: rdT (l.drop (k + 1))) := by unfold Hid; rw [HBR.out, HNX.out, h]; exact rdT_abs _
        have hz1 : ((S[0].toNat : Int) == 40) = false := by rw [hb, h]; rfl
        have hz2 : ((S[0].toNat : Int) == 32) = false := by rw [hb, h]; rfl
        have hz3 : ((S[0].toNat : Int) == 41) = false := by rw [hb, h]; rfl
        have HAT := Lib.hid (atomAbs S r (by rw [HS.out, HBR.out, h]))
        have OWN := Lib.hid own
        clear own h hb
        go_wp2_with fail
        refine (HAT.out _).mono ?_
        rintro e w2 ⟨rfl, hb2⟩
        have HNE : Hid (some w2.heap.size ≠ (Value.slice AV lt cV).ownBlock) := by unfold Hid; intro e; have h1 := (OWN.out.lt _ e.symm).2; have h2 := hb2.size; omega
        obtain ⟨w3, HW3, b3, x3⟩ := al1 w2 (.cells #[.int .i64 1, .int .i64 0] 45)
        have HMX := Lib.hid (HM.out.below (below_step hb2 b3))
        have own3 := HMX.out.1
        rw [HLT.out] at own3
        have y0 : w3.cell? ⟨w2.heap.size, 0, none⟩ = some (.int .i64 1) := by rw [cell_of_heap x3]; rfl
        have y1 : w3.cell? ⟨w2.heap.size, 1, none⟩ = some (.int .i64 0) := by rw [cell_of_heap x3]; rfl
        have bz4 : Below (w3).heap.size (w3) ((w3).drew.alloc (.cells #[.int .i64 1, .int .i64 0] 45)) := ((Below.refl _ _).drew).alloc (Nat.le_refl _) _
        have own4 := own_below' own3 bz4
        have hbz4 : w1.heap.size ≤ ((w3).drew.alloc (.cells #[.int .i64 1, .int .i64 0] 45)).heap.size := (below_step HMX.out.2.1 bz4).size
        have src4 : Src 2 ((w3).drew.alloc (.cells #[.int .i64 1, .int .i64 0] 45)) (.slice (some ⟨(w3).heap.size, 0, none⟩) 1 1) 1 [.int .i64 1, .int .i64 0] := Src.of_own (own_of_block (n := 1) (cap := 1) (s := 2) (xs := [.int .i64 1, .int .i64 0]) (base := 0) (heap_alloc_new (w3).drew _) (by omega) rfl (by omega) (by unfold maxLen; omega))
        have BZ4 := Lib.hid bz4
        clear bz4
        have X3 := Lib.hid x3
        clear own3 hb2 b3 x3 c0 c1
        go_wp2_with fail
        rw [← HW3.out]
        go_region_held3 (fun W => W.cell? ⟨w2.heap.size, 0, none⟩ = some (.int .i64 1) ∧ W.cell? ⟨w2.heap.size, 1, none⟩ = some (.int .i64 0)) (first | go_keep | exact ⟨y0, y1⟩ | exact ⟨e0, e1⟩)
          ((first
          | (refine step_appx (by rfl) _ _ _ (by rfl) Tryz.underlying24 HI.out rfl (by omega) _ own4 hbz4 (by rfl) src4 (by rfl) (by simp [Value.oneCell']) (by unfold maxLen; omega) (by omega) ?_; intro V5 w5 own5 hg5 hnil5; have HM5 : Hid (LamSt w1 l (k + 1) V5 (ts ++ [⟨1, 0⟩]) w5) := HMX.out.put BZ4.out HX.out HOR.out (by rw [HLT.out]; exact own5) hg5; have x5 := grown_keep hg5 ((BZ4.out.block _ (heap_lt X3.out)).trans X3.out) HNE.out; have e0 : w5.cell? ⟨w2.heap.size, 0, none⟩ = some (.int .i64 1) := (by rw [cell_of_heap x5]; rfl); have e1 : w5.cell? ⟨w2.heap.size, 1, none⟩ = some (.int .i64 0) := (by rw [cell_of_heap x5]; rfl); clear x5; clear own5 hg5 hnil5)))
        all_goals
          go_wp2_with fail
          go_roundw
          case rel => exact ⟨k + 1, _, _, _, rfl, rfl, by omega, HTS, HM5⟩
          case measure => simp only [strSize]; exact HTZ.out
      · have hbI : (S[0].toNat : Int) = 48 + (d : Int) := by rw [hb, h, dig_toNat hd]; omega
        have HX : Hid (rdT (l.drop k) = (⟨0, (d : Int)⟩ : R2) :: rdT (l.drop (k + 1))) := by unfold Hid; rw [HBR.out, HNX.out, h]; exact rdT_dig hd r
        have hz1 : ((S[0].toNat : Int) == 40) = false := by rw [beq_eq_false_iff_ne]; omega
        have hz2 : ((S[0].toNat : Int) == 32) = false := by rw [beq_eq_false_iff_ne]; omega
        have hz3 : ((S[0].toNat : Int) == 41) = false := by rw [beq_eq_false_iff_ne]; omega
        have HAT := Lib.hid (atomDig S d r (by rw [HS.out, HBR.out, h]) hd hdr (by have := HN.out; have := congrArg List.length HBR.out; rw [List.length_drop, List.length_cons] at this; omega))
        have OWN := Lib.hid own
        clear own h hb hbI
        go_wp2_with fail
        refine (HAT.out _).mono ?_
        rintro e w2 ⟨rfl, hb2⟩
        have HNE : Hid (some w2.heap.size ≠ (Value.slice AV lt cV).ownBlock) := by unfold Hid; intro e; have h1 := (OWN.out.lt _ e.symm).2; have h2 := hb2.size; omega
        obtain ⟨w3, HW3, b3, x3⟩ := al1 w2 (.cells #[.int .i64 0, .int .i64 (d : Int)] 45)
        have HMX := Lib.hid (HM.out.below (below_step hb2 b3))
        have own3 := HMX.out.1
        rw [HLT.out] at own3
        have y0 : w3.cell? ⟨w2.heap.size, 0, none⟩ = some (.int .i64 0) := by rw [cell_of_heap x3]; rfl
        have y1 : w3.cell? ⟨w2.heap.size, 1, none⟩ = some (.int .i64 (d : Int)) := by rw [cell_of_heap x3]; rfl
        have bz4 : Below (w3).heap.size (w3) ((w3).drew.alloc (.cells #[.int .i64 0, .int .i64 (d : Int)] 45)) := ((Below.refl _ _).drew).alloc (Nat.le_refl _) _
        have own4 := own_below' own3 bz4
        have hbz4 : w1.heap.size ≤ ((w3).drew.alloc (.cells #[.int .i64 0, .int .i64 (d : Int)] 45)).heap.size := (below_step HMX.out.2.1 bz4).size
        have src4 : Src 2 ((w3).drew.alloc (.cells #[.int .i64 0, .int .i64 (d : Int)] 45)) (.slice (some ⟨(w3).heap.size, 0, none⟩) 1 1) 1 [.int .i64 0, .int .i64 (d : Int)] := Src.of_own (own_of_block (n := 1) (cap := 1) (s := 2) (xs := [.int .i64 0, .int .i64 (d : Int)]) (base := 0) (heap_alloc_new (w3).drew _) (by omega) rfl (by omega) (by unfold maxLen; omega))
        have BZ4 := Lib.hid bz4
        clear bz4
        have X3 := Lib.hid x3
        clear own3 hb2 b3 x3 c0 c1
        go_wp2_with fail
        rw [← HW3.out]
        go_region_held3 (fun W => W.cell? ⟨w2.heap.size, 0, none⟩ = some (.int .i64 0) ∧ W.cell? ⟨w2.heap.size, 1, none⟩ = some (.int .i64 (d : Int))) (first | go_keep | exact ⟨y0, y1⟩ | exact ⟨e0, e1⟩)
          ((first
          | (refine step_appx (by rfl) _ _ _ (by rfl) Tryz.underlying24 HI.out rfl (by omega) _ own4 hbz4 (by rfl) src4 (by rfl) (by simp [Value.oneCell']) (by unfold maxLen; omega) (by omega) ?_; intro V5 w5 own5 hg5 hnil5; have HM5 : Hid (LamSt w1 l (k + 1) V5 (ts ++ [⟨0, (d : Int)⟩]) w5) := HMX.out.put BZ4.out HX.out HOR.out (by rw [HLT.out]; exact own5) hg5; have x5 := grown_keep hg5 ((BZ4.out.block _ (heap_lt X3.out)).trans X3.out) HNE.out; have e0 : w5.cell? ⟨w2.heap.size, 0, none⟩ = some (.int .i64 0) := (by rw [cell_of_heap x5]; rfl); have e1 : w5.cell? ⟨w2.heap.size, 1, none⟩ = some (.int .i64 (d : Int)) := (by rw [cell_of_heap x5]; rfl); clear x5; clear own5 hg5 hnil5)))
        all_goals
          go_wp2_with fail
          go_roundw
          case rel => exact ⟨k + 1, _, _, _, rfl, rfl, by omega, HTS, HM5⟩
          case measure => simp only [strSize]; exact HTZ.out
    · obtain rfl : k = n := by omega
      have hne : S.toList.isEmpty = true := by rw [ByteArray.toList_eq, HS.out, List.drop_of_length_le (Nat.le_of_eq HN.out)]; rfl
      have HE : Hid (ts = rdT l) := by
        have h1 := HM.out.2.2.1
        rw [List.drop_of_length_le (Nat.le_of_eq HN.out)] at h1
        unfold Hid; rw [h1]; simp [rdT]
      have HB := Lib.hid (HB1.out.trans (HM.out.2.1.mono HB1.out.size))
      have HO := Lib.hid (own_base own HB1.out.size)
      clear own hsz
      go_wp2_with fail
      go_ret
      exact ⟨_, rfl, by rw [← HE.out, HLT.out]; exact HO.out, HB.out⟩

set_option maxRecDepth 100000 in
theorem readLam_any (s : ByteArray) (l : List UInt8) (T : LTm) (hs : s.data.toList = l) (h : TxOk l T) (w : World) :
    Calls Tryz.prog 46 #[.string s] w fun e w' => ∃ v, e = .returned (.tuple #[v, .bool true]) ∧ w'.ownsRow w.heap.size 45 2 v T.flat.length (rows R2.vs T.flat) ∧ Below w.heap.size w w' := by
  have HR := Lib.hid (readTerm_any s l hs h.ok (by have := h.len; omega))
  rw [h.rd] at HR
  obtain ⟨n, hn⟩ : ∃ n, T.flat.length = n := ⟨_, rfl⟩
  have hn4 : n ≤ 400 := by have h1 := h.len; have h2 := T.text_len.2; rw [h.text] at h2; omega
  rw [hn] at HR
  have HN := Lib.hid hn
  have HSM := Lib.hid h.small
  have HVD := Lib.hid h.valid
  have HTX : Hid (T.text = s.toList) := by unfold Hid; rw [h.text, ByteArray.toList_eq, hs]
  clear hn h hs
  go_enter Tryz.func46, Tryz.ntmps46
  go_wp2_with fail
  refine (HR.out _).mono ?_
  rintro e w1 ⟨v, rfl, own1, b1⟩
  obtain ⟨A, c, rfl⟩ := own_form own1
  have HO1 := Lib.hid own1
  have HA1 := Lib.hid ((Src.of_own own1).args)
  have HB1 := Lib.hid b1
  clear own1 b1
  go_wp2_with fail
  refine (validLam_is A n c T.flat true HVD.out _ HA1.out (by omega)).mono ?_
  rintro e w2 ⟨rfl, b2⟩
  have HA2 := Lib.hid (HA1.out.below b2)
  have HO2 := Lib.hid (own_below' HO1.out b2)
  have HB2 := Lib.hid (below_step HB1.out b2)
  clear b2
  have hz : (T.text == s.toList) = true := by rw [HTX.out]; simp
  go_wp2_with fail
  refine (lamTextOf_any T A n c _ HA2.out hn4 HSM.out HVD.out).mono ?_
  rintro e w3 ⟨rfl, b3⟩
  have HO3 := Lib.hid (own_below' HO2.out b3)
  have HB3 := Lib.hid (below_step HB2.out b3)
  clear b3
  go_wp2_with fail
  go_ret2
  exact ⟨_, rfl, by rw [HN.out]; exact HO3.out, HB3.out⟩

set_option maxRecDepth 100000 in
theorem lamOf_any (s : ByteArray) (l : List UInt8) (T : LTm) (hs : s.data.toList = l) (h : TxOk l T) (w : World) :
    Calls Tryz.prog 25 #[.string s] w fun e w' => ∃ v, e = .returned v ∧ w'.ownsRow w.heap.size 45 2 v T.flat.length (rows R2.vs T.flat) ∧ Below w.heap.size w w' := by
  have HR := Lib.hid (readLam_any s l T hs h)
  clear h hs
  go_enter Tryz.func25, Tryz.ntmps25
  go_wp2_with fail
  refine (HR.out _).mono ?_
  rintro e w1 ⟨v, rfl, own1, b1⟩
  go_wp2_with fail
  go_ret
  exact ⟨_, rfl, own1, b1⟩
/-- The same by the reference. -/
theorem l12Read_text (s : ByteArray) (l : List UInt8) (T : LTm) (hs : s.data.toList = l) (h : TxOk l T) (w : World) :
    Calls Tryz.prog 21 #[.string s] w fun e w' => ∃ v, e = .returned v ∧ w'.ownsRow w.heap.size 45 2 v T.flat.length (rows R2.vs T.flat) ∧ Below w.heap.size w w' := by
  have := l12Read_any s l hs h.ok (by have := h.len; omega) w
  rw [h.rd] at this
  exact this
end Go.Proofs.YtkiaclajjlidoaaGreatDoor

/- A region that draws its order, walked by facts: what each operation leaves, whatever came before it; no order is named. Plain laws. -/
namespace Go.Proofs.YtkiaclajjlidoaaGreatDoor
open Go.RowKit
set_option linter.all false

/-- What an operation leaves, said of its value and the memory; what is added to memory leaves it true. -/
structure Fact where
  p : Value → World → Prop
  mono : ∀ v w w', p v w → Below w.heap.size w w' → p v w'
def factAt (fs : List Fact) (i : Nat) (v : Value) (w : World) : Prop := match fs[i]? with | some f => f.p v w | none => True
theorem factAt_mono {fs : List Fact} {i : Nat} {v : Value} {w w' : World} (h : factAt fs i v w) (hb : Below w.heap.size w w') : factAt fs i v w' := by
  unfold factAt at *
  split
  · rename_i f hf; rw [hf] at h; exact f.mono _ _ _ h hb
  · trivial
/-- One operation: from the facts of those that it waits for, its own. -/
def StepOk (P : Program) (fs : List Fact) (ds : List Nat) (Q : Exit → Act → World → Prop) (a0 : Act) (w0 : World) (i : Nat) (o : Oper) : Prop :=
  ∀ a w, Below w0.heap.size w0 w → (∀ t, ds.contains t = false → a.eval (.tmp t) = a0.eval (.tmp t)) →
    (∀ e ∈ o.after, Region.binds .any e = true → ∀ d, ds[e.on]? = some d → factAt fs e.on (a.eval (.tmp d)) w) →
    ∀ K : Act → World → Prop, (∀ v w', factAt fs i v w' → Below w.heap.size w w' → K (a.put o.dst v) w') → o.wp P a w K Q
def AllFrom (R : Nat → Oper → Prop) : Nat → List Oper → Prop
  | _, [] => True
  | k, o :: l => R k o ∧ AllFrom R (k + 1) l
theorem AllFrom.get {R : Nat → Oper → Prop} : ∀ {l : List Oper} {k : Nat}, AllFrom R k l → ∀ {j : Nat} {o : Oper}, l[j]? = some o → R (k + j) o
  | [], _, _, j, o, h => by simp at h
  | o' :: l, k, h, 0, o, hj => by simp at hj; subst hj; exact h.1
  | o' :: l, k, h, j + 1, o, hj => by
    have := h.2.get (j := j) (o := o) (by simpa using hj)
    rw [show k + (j + 1) = k + 1 + j by omega]; exact this
/-- The region's form: a slot for each operation, no guard, and no operation waits for a later one. -/
def regionOk (l : List Oper) (ds : List Nat) (n : Nat) : Bool :=
  decide (l.map (·.dst) = ds.map some) && decide ds.Nodup && ds.all (fun d => decide (d < n)) && l.all (fun o => o.guard.isNone) &&
    (List.range l.length).all fun i => match l[i]? with | some o => o.after.all fun e => decide (e.on < i) | none => true

def unlisted (b : Array Bool) : Nat := (b.toList.filter (!·)).length
theorem unlisted_set (b : Array Bool) (i : Nat) (h : b[i]? = some false) : unlisted (b.setIfInBounds i true) + 1 = unlisted b := by
  unfold unlisted
  have hi : i < b.size := (Array.getElem?_eq_some_iff.1 h).1
  have hx : b.toList[i]? = some false := by simpa using h
  rw [Array.toList_setIfInBounds]
  obtain ⟨l⟩ := b
  simp only at hx ⊢
  clear h hi
  induction l generalizing i with
  | nil => simp at hx
  | cons x l ih =>
    cases i with
    | zero => simp at hx; subst hx; simp
    | succ i =>
      rw [List.set_cons_succ, List.filter_cons, List.filter_cons]
      have := ih i (by simpa using hx)
      cases x <;> simp <;> omega
theorem all_of_none {b : Array Bool} (h : unlisted b = 0) (i : Nat) (hi : i < b.size) : b[i]? = some true := by
  unfold unlisted at h
  have h2 := List.eq_nil_of_length_eq_zero h
  rw [List.filter_eq_nil_iff] at h2
  have hx : b.toList[i]'(by simpa using hi) ∈ b.toList := List.getElem_mem _
  have := h2 _ hx
  rw [Array.getElem?_eq_getElem hi]
  simpa using this

theorem region_facts {P : Program} {id : Nat} {l : List Oper} {Q : Exit → Act → World → Prop} {a0 : Act} {w0 : World} (hm : P.follows .mixedOrders = true) (fs : List Fact) (ds : List Nat) (hok : regionOk l ds a0.tmps.size = true)
    (hstep : AllFrom (StepOk P fs ds Q a0 w0) 0 l)
    (hend : ∀ a w, Below w0.heap.size w0 w → a.defers = a0.defers → a.tmps.size = a0.tmps.size → (∀ t, ds.contains t = false → a.eval (.tmp t) = a0.eval (.tmp t)) → (∀ i d, ds[i]? = some d → factAt fs i (a.eval (.tmp d)) w) → Q .normal a w) :
    (Code.region id l.toArray true).wp P Q a0 w0 := by
  unfold regionOk at hok
  simp only [Bool.and_eq_true, decide_eq_true_eq, List.all_eq_true, List.mem_range] at hok
  obtain ⟨⟨⟨⟨hd, hnd⟩, hsz⟩, hgd⟩, hac⟩ := hok
  have hlen : l.length = ds.length := by have := congrArg List.length hd; simpa using this
  have hdst : ∀ {i : Nat} {o : Oper}, l[i]? = some o → ∃ d, o.dst = some d ∧ ds[i]? = some d := by
    intro i o h
    have h1 : (l.map (·.dst))[i]? = some o.dst := by rw [List.getElem?_map, h]; rfl
    rw [hd, List.getElem?_map] at h1
    cases h2 : ds[i]? with
    | none => rw [h2] at h1; simp at h1
    | some d => rw [h2] at h1; simp at h1; exact ⟨d, h1.symm, rfl⟩
  refine wp_region_any hm ?_
  have main : ∀ (fuel : Nat) (b : Array Bool) (a : Act) (w : World), unlisted b ≤ fuel → b.size = l.length → Below w0.heap.size w0 w → a.defers = a0.defers → a.tmps.size = a0.tmps.size → (∀ t, ds.contains t = false → a.eval (.tmp t) = a0.eval (.tmp t)) →
      (∀ i d, b[i]? = some true → ds[i]? = some d → factAt fs i (a.eval (.tmp d)) w) → wpAny P .any l.toArray Q fuel b a w := by
    have done : ∀ (b : Array Bool) (a : Act) (w : World), b.size = l.length → Below w0.heap.size w0 w → a.defers = a0.defers → a.tmps.size = a0.tmps.size → (∀ t, ds.contains t = false → a.eval (.tmp t) = a0.eval (.tmp t)) →
        (∀ i d, b[i]? = some true → ds[i]? = some d → factAt fs i (a.eval (.tmp d)) w) → Region.ready .any l.toArray b = [] → Q .normal a w := by
      intro b a w hbs hB hdf hts hin hf hr
      have hall : ∀ i, i < l.length → b[i]? = some true := by
        intro i
        induction i using Nat.strongRecOn with
        | _ i ih =>
          intro hi
          cases hbi : b[i]'(by omega) with
          | true => rw [Array.getElem?_eq_getElem (by omega), hbi]
          | false =>
            exfalso
            have hmem : i ∈ Region.ready .any l.toArray b := by
              rw [mem_ready]
              refine ⟨by simp [Array.getD, show i < b.size by omega, hbi], l[i], by simp [hi], fun e he _ => ?_⟩
              have h1 := hac i hi
              rw [List.getElem?_eq_getElem hi] at h1
              simp only [Array.all_eq_true_iff_forall_mem, decide_eq_true_eq] at h1
              have h2 := h1 e he
              have h3 := ih e.on h2 (by omega)
              simp [h3]
            rw [hr] at hmem; cases hmem
      refine hend a w hB hdf hts hin fun i d hid => ?_
      have hi : i < l.length := by rw [hlen]; exact (List.getElem?_eq_some_iff.1 hid).1
      exact hf i d (hall i hi) hid
    intro fuel
    induction fuel with
    | zero =>
      intro b a w hu hbs hB hdf hts hin hf
      have hr : Region.ready .any l.toArray b = [] := by
        rw [List.eq_nil_iff_forall_not_mem]
        intro i hi
        obtain ⟨h1, o, h2, _⟩ := mem_ready.1 hi
        have hil : i < l.length := by have := (Array.getElem?_eq_some_iff.1 h2).1; simpa using this
        have h3 := all_of_none (b := b) (by omega) i (by omega)
        simp [h3] at h1
      exact ⟨hr, done b a w hbs hB hdf hts hin hf hr⟩
    | succ fuel ih =>
      intro b a w hu hbs hB hdf hts hin hf
      refine ⟨done b a w hbs hB hdf hts hin hf, fun i hi => ?_⟩
      obtain ⟨h1, o, h2, h3⟩ := mem_ready.1 hi
      have hil : i < l.length := by have := (Array.getElem?_eq_some_iff.1 h2).1; simpa using this
      have ho : l[i]? = some o := by simpa using h2
      obtain ⟨d, hod, hid⟩ := hdst ho
      have hbi : b[i]? = some false := by
        rw [Array.getElem?_eq_getElem (by omega)]
        simp [Array.getD, show i < b.size by omega] at h1
        rw [h1]
      have hs := hstep.get ho
      rw [Nat.zero_add] at hs
      have hgn : o.guard = none := by have := hgd o (List.mem_of_getElem? ho); simpa using this
      unfold wpOp
      simp only [h2]
      have hw : Region.wanted o (yielded l.toArray a.tmps) = true := by simp [Region.wanted, hgn]
      rw [if_pos hw]
      refine .inl (hs a w hB hin (fun e he hb d' hd' => ?_) _ fun v w' hv hb' => ?_)
      · have h4 := h3 e he hb
        refine hf e.on d' ?_ hd'
        have hon : e.on < l.length := by rw [hlen]; exact (List.getElem?_eq_some_iff.1 hd').1
        rw [Array.getElem?_eq_getElem (by omega)]
        simp [Array.getD, show e.on < b.size by omega] at h4
        rw [h4]
      · have hev : ∀ t, t ≠ d → (a.put o.dst v).eval (.tmp t) = a.eval (.tmp t) := fun t ht => Act.eval_put fun d' hd' e => by
          rw [hod] at hd'; injection hd' with hd'; injection e with e; exact ht (by rw [hd']; exact e)
        have hdm : d ∈ ds := List.mem_of_getElem? hid
        have hself : (a.put o.dst v).eval (.tmp d) = v := by
          rw [hod]
          have := hsz d hdm
          simp [Act.put, Act.eval, hts, this]
        refine ih _ _ _ (by have := unlisted_set b i hbi; omega) (by simp [hbs]) (hB.trans (hb'.mono hB.size)) ?_ ?_ ?_ ?_
        · rw [hod]; exact hdf
        · rw [hod]; simp [Act.put, hts]
        · intro t ht
          rw [hev t (by rintro rfl; simp [hdm] at ht)]
          exact hin t ht
        · intro j d' hj hd'
          by_cases hji : j = i
          · subst hji
            rw [hid] at hd'; injection hd' with hd'; subst hd'
            rw [hself]; exact hv
          · have hne : d' ≠ d := by
              rintro rfl
              have e1 := (List.getElem?_eq_some_iff.1 hd')
              have e2 := (List.getElem?_eq_some_iff.1 hid)
              obtain ⟨a1, a2⟩ := e1
              obtain ⟨b1, b2⟩ := e2
              have hpw := List.pairwise_iff_getElem.1 hnd
              rcases Nat.lt_or_gt_of_ne hji with hlt | hlt
              · exact hpw j i a1 b1 hlt (by rw [a2, b2])
              · exact hpw i j b1 a1 hlt (by rw [a2, b2])
            rw [hev d' hne]
            refine factAt_mono (hf j d' ?_ hd') hb'
            rw [Array.getElem?_setIfInBounds_ne (Ne.symm hji)] at hj
            exact hj
  refine main l.toArray.size _ a0 _ ?_ (by simp) ?_ rfl rfl (fun _ _ => rfl) ?_
  · unfold unlisted; simp
  · exact ⟨rfl, rfl, rfl, Nat.le_refl _, fun _ _ => rfl⟩
  · intro i d hi _
    rw [Array.getElem?_replicate] at hi
    split at hi <;> simp at hi
end Go.Proofs.YtkiaclajjlidoaaGreatDoor

/- Operations at a state that is a letter, for regions walked by facts. Plain laws. -/
namespace Go.Proofs.YtkiaclajjlidoaaGreatDoor
open Go.RowKit
set_option linter.all false

theorem op_move {P : Program} {o : Oper} {a : Act} {w : World} {K : Act → World → Prop} {Q : Exit → Act → World → Prop} (x : Operand) (ho : o.op = .move x) {v : Value} (hx : a.eval x = v) (h : K (a.put o.dst v) w) : o.wp P a w K Q := by
  unfold Oper.wp; simp [execOp, ho, hx, Oper.upon]; exact h
theorem op_append {P : Program} {o : Oper} {a : Act} {w : World} {K : Act → World → Prop} {Q : Exit → Act → World → Prop} (s x : Operand) (t : TypeId)
    (ho : o.op = .call { callee := .builtin .append, args := #[s, x], argTypes := #[t, t] })
    {e : TypeId} {z : Value} {size bytes : Nat} (ht : P.underlying t = some (.slice e)) (hinfo : (P.info? e).map (fun i => (i.zero, i.size, i.bytes)) = some (some z, size, bytes)) (hzs : z.cells.size = size) (hsz : 0 < size)
    {g n : Nat} {xs : List Value} (hs : a.eval s = .slice (some ⟨g, 0, none⟩) n n) (hg : Sl w g 0 xs) (hxl : xs.length = n * size)
    {b off m c : Nat} {ys : List Value} (hx : a.eval x = .slice (some ⟨b, off, none⟩) m c) (hy : Sl w b off ys) (hyl : ys.length = m * size) (h1 : ∀ u ∈ ys, u.oneCell' = true) (h63 : n + m ≤ maxLen) (hbytes : (n + m) * bytes ≤ 140737488355328)
    (h : ∀ A c' w', Args size w' A (n + m) (xs ++ ys) → Below w.heap.size w w' → K (a.put o.dst (.slice A (n + m) c')) w') : o.wp P a w K Q := by
  obtain ⟨i, hi, hz, hsize, hby⟩ := info_parts hinfo
  have hnews : ∀ j u, ys[j]? = some u → w.cell? ((⟨b, off, none⟩ : Addr).add j) = some u := fun j u hu => by rw [addr_add]; exact hy.2 j u hu
  by_cases hm : m = 0
  · subst hm
    have hyn : ys = [] := List.eq_nil_of_length_eq_zero (by simpa using hyl)
    subst hyn
    have hrun := run_append_room_cells (P := P) w t o.type e i ht hi g 0 n n ⟨b, off, none⟩ 0 c [] (by simp) (by simp) (by simp) (by omega) (by simp) (by simp)
    unfold Oper.wp
    simp [execOp, ho, resolve, invoke, builtin, hs, hx, hrun, Result.andThen]
    have := h (some ⟨g, 0, none⟩) n w (by rw [List.append_nil]; exact Args.of_sl hg (by rw [hxl]; rfl)) (Below.refl _ _)
    exact this
  · obtain ⟨v', w', hrun, r1, r2⟩ := run_append_arg_grows (P := P) w t o.type e i z size bytes ht hi hz hsize hby hzs hsz ⟨g, 0, none⟩ n n xs hxl (fun j u hu => by rw [addr_add]; exact hg.2 j u hu) ⟨b, off, none⟩ m c ys hyl hnews (by omega) h63 hbytes
    unfold Oper.wp
    simp [execOp, ho, resolve, invoke, builtin, hs, hx, hrun, Result.andThen]
    obtain ⟨A, c', rfl⟩ := own_form r1
    exact h A c' w' (args_of_own r1) ⟨r2.os, r2.tape, r2.output, r2.size, fun k hk => r2.block k hk (by simp)⟩

end Go.Proofs.YtkiaclajjlidoaaGreatDoor

/- Lambda terms in memory: slices that read as terms, and slices of them; applyLam, abstract, numeralLam and variables of the program. -/
namespace Go.Proofs.YtkiaclajjlidoaaGreatDoor
open Go.RowKit
set_option linter.all false

theorem infoLamE : (Tryz.prog.info? 24).map (fun i => (i.zero, i.size, i.bytes)) = some (some (.slice none 0 0), 1, 24) := by kernel_rfl
/-- A slice that reads as a term. -/
def RdT (w : World) (v : Value) (t : LTm) : Prop := ∃ A n c, v = .slice A n c ∧ n = t.flat.length ∧ Src 2 w (.slice A n c) n (rows R2.vs t.flat)
/-- A slice of slices that read as terms. -/
def RdTs (w : World) (v : Value) (ts : List LTm) : Prop := ∃ g o m c vs, v = .slice (some ⟨g, o, none⟩) m c ∧ m = ts.length ∧ Sl w g o vs ∧ Rws w vs (flats ts)
/-- A slice's length fits its capacity. -/
def capOk : Value → Prop
  | .slice _ m c => m ≤ c
  | _ => True
theorem RdT.below {w w' : World} {v : Value} {t : LTm} (h : RdT w v t) (hb : Below w.heap.size w w') : RdT w' v t := by
  obtain ⟨A, n, c, h1, h2, h3⟩ := h
  exact ⟨A, n, c, h1, h2, h3.below hb⟩
theorem RdTs.below {w w' : World} {v : Value} {ts : List LTm} (h : RdTs w v ts) (hb : Below w.heap.size w w') : RdTs w' v ts := by
  obtain ⟨g, o, m, c, vs, h1, h2, h4, h5⟩ := h
  exact ⟨g, o, m, c, vs, h1, h2, h4.below' hb, h5.below hb⟩
theorem RdT.of_own {w : World} {b : Nat} {v : Value} {t : LTm} (h : w.ownsRow b 45 2 v t.flat.length (rows R2.vs t.flat)) : RdT w v t := by
  obtain ⟨A, c, rfl⟩ := own_form h
  exact ⟨A, _, c, rfl, rfl, Src.of_own h⟩
theorem RdT.of_own' {w : World} {b n : Nat} {v : Value} {t : LTm} (h : w.ownsRow b 45 2 v n (rows R2.vs t.flat)) (hn : n = t.flat.length) : RdT w v t := by
  subst hn; exact RdT.of_own h
theorem RdT.form {w : World} {v : Value} {t : LTm} (h : RdT w v t) : ∃ A n c, v = .slice A n c := by
  obtain ⟨A, n, c, h1, _⟩ := h
  exact ⟨A, n, c, h1⟩
/-- Values that read as terms, one by one. -/
def RdL (w : World) : List Value → List LTm → Prop
  | [], [] => True
  | v :: vs, t :: ts => RdT w v t ∧ t.flat.length ≤ 100000 ∧ RdL w vs ts
  | _, _ => False
theorem RdL.rws {w : World} : ∀ {vs : List Value} {ts : List LTm}, RdL w vs ts → Rws w vs (flats ts)
  | [], [], _ => ⟨rfl, fun j v t h => by simp at h⟩
  | v :: vs, t :: ts, h => by
    have ih := RdL.rws h.2.2
    refine ⟨by simp [flats, ih.1], fun j u x h1 h2 => ?_⟩
    cases j with
    | zero =>
      simp [flats] at h1 h2; subst h1 h2
      obtain ⟨A, n, c, e, hn, hs⟩ := h.1
      subst e hn
      exact ⟨hs, by have := h.2.1; omega⟩
    | succ j =>
      rw [List.getElem?_cons_succ] at h1
      exact ih.2 j u x h1 (by simpa [flats] using h2)
  | [], _ :: _, h => by cases h
  | _ :: _, [], h => by cases h
theorem RdL.len {w : World} : ∀ {vs : List Value} {ts : List LTm}, RdL w vs ts → vs.length = ts.length
  | [], [], _ => rfl
  | v :: vs, t :: ts, h => by rw [List.length_cons, List.length_cons, RdL.len h.2.2]
  | [], _ :: _, h => by cases h
  | _ :: _, [], h => by cases h
/-- A slice literal of terms. -/
theorem RdTs.lit {w : World} {vs : List Value} {ts : List LTm} (h : RdL w vs ts) (t : TypeId) : RdTs (w.alloc (.cells vs.toArray t)) (.slice (some ⟨w.heap.size, 0, none⟩) vs.length vs.length) ts :=
  ⟨w.heap.size, 0, vs.length, vs.length, vs, rfl, h.len, by simpa using sl_laid w vs.toArray t, h.rws.below (laid_below _ _)⟩
theorem RdTs.get {w : World} {v : Value} {ts : List LTm} (h : RdTs w v ts) {i : Nat} {t : LTm} (ht : ts[i]? = some t) : ∃ g o m c u, v = .slice (some ⟨g, o, none⟩) m c ∧ m = ts.length ∧ i < m ∧ w.cell? ⟨g, o + i, none⟩ = some u ∧ RdT w u t := by
  obtain ⟨g, o, m, c, vs, h1, h2, h4, h5⟩ := h
  have hf : (flats ts)[i]? = some t.flat := by rw [flats, List.getElem?_map, ht]; rfl
  have hi : i < ts.length := (List.getElem?_eq_some_iff.1 ht).1
  have hv : i < vs.length := by have := h5.1; rw [flats, List.length_map] at this; omega
  have hu := List.getElem?_eq_getElem hv
  refine ⟨g, o, m, c, vs[i], h1, h2, by omega, h4.at hu, ?_⟩
  obtain ⟨hs, _⟩ := h5.2 i _ _ hu hf
  obtain ⟨A, c', e⟩ := hs.form
  rw [e] at hs ⊢
  exact ⟨A, _, c', rfl, rfl, hs⟩
theorem Rws.drop {w : World} {vs : List Value} {ts : List (List R2)} (h : Rws w vs ts) (k : Nat) : Rws w (vs.drop k) (ts.drop k) := by
  refine ⟨by rw [List.length_drop, List.length_drop, h.1], fun j v t h1 h2 => ?_⟩
  rw [List.getElem?_drop] at h1 h2
  exact h.2 _ v t h1 h2
theorem sl_drop1 {w : World} {b o o' m : Nat} {vs : List Value} (h : Sl w b o vs) (hl : vs.length = m) (ho : m - 1 = 0 ∨ o' = o + 1 * 1) : Sl w b o' (vs.drop 1) := by
  refine ⟨h.1, fun j u hu => ?_⟩
  have hj : j < m - 1 := by have := (List.getElem?_eq_some_iff.1 hu).1; rw [List.length_drop, hl] at this; exact this
  have ho2 : o' = o + 1 := by rcases ho with h0 | h0 <;> omega
  subst ho2
  rw [List.getElem?_drop] at hu
  have := h.2 (1 + j) u hu
  rw [show o + 1 + j = o + (1 + j) by omega]; exact this
/-- 'ts[1:]'. -/
theorem RdTs.tail {w : World} {v : Value} {ts : List LTm} (h : RdTs w v ts) (hc : capOk v) (h1 : 1 ≤ ts.length) : ∃ v', (∀ W, (Instr.slice 73 v (some (.int .i64 1)) none none).run Tryz.prog W = .ok v' W) ∧ RdTs w v' (ts.drop 1) := by
  obtain ⟨g, o, m, c, vs, rfl, h2, h4, h5⟩ := h
  have h3 : m ≤ c := hc
  obtain ⟨o', ho', hsl⟩ := run_slice_tailR (P := Tryz.prog) 73 24 Tryz.underlying73 infoLamE g o m c 1 1 rfl (by omega) h3
  have hl : vs.length = m := by rw [h5.1, flats, List.length_map, h2]
  refine ⟨_, hsl, g, o', m - 1, c - 1, vs.drop 1, rfl, by rw [List.length_drop, h2], sl_drop1 h4 hl ho', ?_⟩
  have := h5.drop 1
  rwa [flats, ← List.map_drop] at this
theorem RdTs.form {w : World} {v : Value} {ts : List LTm} (h : RdTs w v ts) : ∃ g o m c, v = .slice (some ⟨g, o, none⟩) m c ∧ m = ts.length := by
  obtain ⟨g, o, m, c, vs, h1, h2, _⟩ := h
  exact ⟨g, o, m, c, h1, h2⟩
theorem Rws.app {w : World} {vs us : List Value} {ts xs : List (List R2)} (h : Rws w vs ts) (k : Rws w us xs) : Rws w (vs ++ us) (ts ++ xs) := by
  refine ⟨by rw [List.length_append, List.length_append, h.1, k.1], fun j v t h1 h2 => ?_⟩
  rcases Nat.lt_or_ge j vs.length with hj | hj
  · rw [List.getElem?_append_left hj] at h1
    rw [List.getElem?_append_left (by rw [← h.1]; exact hj)] at h2
    exact h.2 j v t h1 h2
  · rw [List.getElem?_append_right hj] at h1
    rw [List.getElem?_append_right (by rw [← h.1]; exact hj), ← h.1] at h2
    exact k.2 _ v t h1 h2
theorem RdL.below {w w' : World} (hb : Below w.heap.size w w') : ∀ {vs : List Value} {ts : List LTm}, RdL w vs ts → RdL w' vs ts
  | [], [], _ => trivial
  | v :: vs, t :: ts, h => ⟨h.1.below hb, h.2.1, RdL.below hb h.2.2⟩
  | [], _ :: _, h => by cases h
  | _ :: _, [], h => by cases h
theorem one_slices {w : World} : ∀ {vs : List Value} {ts : List (List R2)}, Rws w vs ts → ∀ u ∈ vs, u.oneCell' = true := by
  intro vs ts h u hu
  obtain ⟨j, hj⟩ := List.getElem?_of_mem hu
  have hl : j < ts.length := by rw [← h.1]; exact (List.getElem?_eq_some_iff.1 hj).1
  obtain ⟨hs, _⟩ := h.2 j u _ hj (List.getElem?_eq_getElem hl)
  obtain ⟨A, c, rfl⟩ := hs.form
  rfl
/-- 'append' of a slice of terms behind a slice literal of terms. -/
theorem op_litvars {o : Oper} {a : Act} {w : World} {K : Act → World → Prop} {Q : Exit → Act → World → Prop} (s x : Operand) (ho : o.op = .call { callee := .builtin .append, args := #[s, x], argTypes := #[73, 73] })
    {g k : Nat} {xs : List Value} {ts1 ts2 : List LTm} {y : Value} (hs : a.eval s = .slice (some ⟨g, 0, none⟩) k k) (hk : xs.length = k) (h1 : 1 ≤ k) (hk9 : k ≤ 100) (hg : Sl w g 0 xs) (hr : RdL w xs ts1) (hx : a.eval x = y) (hy : RdTs w y ts2) (hb : ts2.length ≤ 100)
    (h : ∀ v w', RdTs w' v (ts1 ++ ts2) → Below w.heap.size w w' → K (a.put o.dst v) w') : o.wp Tryz.prog a w K Q := by
  obtain ⟨g2, o2, m, c, ys, rfl, hm, hsl, hrw⟩ := hy
  have hyl : ys.length = m := by rw [hrw.1, flats, List.length_map, hm]
  refine op_append s x 73 ho Tryz.underlying73 infoLamE rfl (by omega) hs hg (by omega) hx hsl (by omega) (one_slices hrw) (by unfold maxLen; omega) (by omega) ?_
  intro A c' w' ha hbl
  refine h _ w' ?_ hbl
  obtain ⟨b, off, hA, hs'⟩ := ha.sl (k := 0) (by omega)
  subst hA
  exact ⟨b, off, k + m, c', xs ++ ys, rfl, by rw [List.length_append, ← hr.len, hk, hm], hs', by rw [flats, List.map_append]; exact ((hr.below hbl).rws).app (hrw.below hbl)⟩
theorem wpList_litvars {ops : Array Oper} {rest : List Oper} {o : Oper} {a : Act} {w : World} {Q : Exit → Act → World → Prop} (hgd : o.guard = none) (s x : Operand) (ho : o.op = .call { callee := .builtin .append, args := #[s, x], argTypes := #[73, 73] })
    {g k : Nat} {xs : List Value} {ts1 ts2 : List LTm} {y : Value} (hs : a.eval s = .slice (some ⟨g, 0, none⟩) k k) (hk : xs.length = k) (h1 : 1 ≤ k) (hk9 : k ≤ 100) (hg : Sl w g 0 xs) (hr : RdL w xs ts1) (hx : a.eval x = y) (hy : RdTs w y ts2) (hb : ts2.length ≤ 100)
    (h : ∀ v w', RdTs w' v (ts1 ++ ts2) → Below w.heap.size w w' → wpList Tryz.prog ops Q rest (a.put o.dst v) w') : wpList Tryz.prog ops Q (o :: rest) a w :=
  wpList_plain hgd fun _ hK => op_litvars s x ho hs hk h1 hk9 hg hr hx hy hb fun v w' h2 h3 => hK _ _ (h v w' h2 h3)
/-- A variable as a term, laid. -/
theorem alV (w : World) (k : Nat) : ∃ w1, Hid (w1 = w.alloc (.cells #[.int .i64 0, .int .i64 (k : Int)] 45)) ∧ Below w.heap.size w w1 ∧ RdT w1 (.slice (some ⟨w.heap.size, 0, none⟩) 1 1) (.v k) := by
  refine ⟨_, rfl, laid_below _ _, _, 1, 1, rfl, rfl, Src.of_sl ?_ rfl⟩
  have := sl_laid w #[.int .i64 0, .int .i64 (k : Int)] 45
  simpa [LTm.flat, rows, R2.vs] using this
/-- A slice literal of terms, laid. -/
theorem alL (w : World) (vs : List Value) (ts : List LTm) (h : RdL w vs ts) : ∃ w1, Hid (w1 = w.alloc (.cells vs.toArray 24)) ∧ Below w.heap.size w w1 ∧ RdTs w1 (.slice (some ⟨w.heap.size, 0, none⟩) vs.length vs.length) ts ∧ Sl w1 w.heap.size 0 vs :=
  ⟨_, rfl, laid_below _ _, RdTs.lit h _, by simpa using sl_laid w vs.toArray 24⟩

theorem flatten_le {t : LTm} {ts : List LTm} {M : Nat} (h : (appsL t ts).flat.length ≤ M) : ts.length ≤ M ∧ t.flat.length ≤ M ∧ (flats ts).flatten.length ≤ M := by
  rw [appsL_len] at h; omega
set_option maxRecDepth 100000 in
/-- applyLam: a row of the call's own. -/
theorem applyOwn (x y : Value) (t : LTm) (ts : List LTm) (w : World) (hx : RdT w x t) (hy : RdTs w y ts) (hM : (appsL t ts).flat.length ≤ 100000) :
    Calls Tryz.prog 82 #[x, y] w fun e w' => (∃ v, e = .returned v ∧ w'.ownsRow w.heap.size 45 2 v (appsL t ts).flat.length (rows R2.vs (appsL t ts).flat)) ∧ Below w.heap.size w w' := by
  obtain ⟨b1, b2, b3⟩ := flatten_le hM
  obtain ⟨A, n, c, rfl, hn, hs⟩ := hx
  obtain ⟨g, o, m, cm, vs, rfl, hm, hsl, hr⟩ := hy
  obtain ⟨L, hL⟩ : ∃ L, L = (appsL t ts).flat := ⟨_, rfl⟩
  have HA : Hid (Calls Tryz.prog 98 #[.agg #[.int .i64 2, .int .i64 0], .slice A n c, .slice (some ⟨g, o, none⟩) m cm] w fun e w' => ∃ v, e = .returned v ∧ w'.ownsRow w.heap.size 45 2 v L.length (rows R2.vs L) ∧ Below w.heap.size w w') := by
    have h1 := appliedLam_any ⟨2, 0⟩ A n c t.flat g o m cm vs (flats ts) w hs hsl hr (by rw [flats, List.length_map, hm]) (by omega) (by omega) (by omega)
    have e1 : List.replicate m ⟨2, 0⟩ ++ t.flat ++ (flats ts).flatten = L := by rw [hL, appsL_flat, hm]
    have e2 : m + n + (flats ts).flatten.length = L.length := by rw [hL, appsL_len, hm, hn]
    rw [e1, e2] at h1
    exact h1
  have HLL := Lib.hid hL
  clear hs hsl hr b1 b2 b3 hM hL hn hm
  go_enter Tryz.func82, Tryz.ntmps82
  go_wp2_with fail
  refine HA.out.mono ?_
  rintro e w1 ⟨v, rfl, hown, hb⟩
  go_wp2
  go_ret
  exact ⟨⟨_, rfl, by rw [← HLL.out]; exact hown⟩, hb⟩
/-- applyLam. -/
theorem applyT (x y : Value) (t : LTm) (ts : List LTm) (w : World) (hx : RdT w x t) (hy : RdTs w y ts) (hM : (appsL t ts).flat.length ≤ 100000) :
    Calls Tryz.prog 82 #[x, y] w fun e w' => (∃ v, e = .returned v ∧ RdT w' v (appsL t ts)) ∧ Below w.heap.size w w' :=
  (applyOwn x y t ts w hx hy hM).mono fun _ _ ⟨⟨v, h1, h2⟩, h3⟩ => ⟨⟨v, h1, RdT.of_own h2⟩, h3⟩
set_option maxRecDepth 100000 in
/-- abstract: a row of the call's own. -/
theorem abstractOwn (k : Nat) (x : Value) (t : LTm) (w : World) (hx : RdT w x t) (hk : k ≤ 10) (hM : t.flat.length ≤ 100000) :
    Calls Tryz.prog 60 #[.int .i64 k, x] w fun e w' => (∃ v, e = .returned v ∧ w'.ownsRow w.heap.size 45 2 v (absL k t).flat.length (rows R2.vs (absL k t).flat)) ∧ Below w.heap.size w w' := by
  obtain ⟨A, n, c, rfl, hn, ht⟩ := hx
  obtain ⟨w0, HW0, B0, y0⟩ := al1 w (.cells #[.int .i64 1, .int .i64 0] 45)
  have hs0 : Sl w0 w.heap.size 0 (rows R2.vs [⟨1, 0⟩]) := ⟨heap_lt y0, fun j u hu => by
    rw [Nat.zero_add, cell_of_heap y0]
    match j, hu with
    | 0, hu => simpa [rows, R2.vs] using hu
    | 1, hu => simpa [rows, R2.vs] using hu⟩
  have HO := Lib.hid (one_rows_Lam t.flat)
  have HR : Hid (rows R2.vs (List.replicate k ⟨1, 0⟩) ++ rows R2.vs t.flat = rows R2.vs (absL k t).flat) := by unfold Hid; rw [absL_flat, rows_app]
  have HN : Hid (k + n = (absL k t).flat.length) := by unfold Hid; rw [absL_len, hn]
  have hn2 : n ≤ 100000 := by omega
  clear y0 hn hM
  go_enter Tryz.func60, Tryz.ntmps60
  go_wp2_with fail
  rw [← HW0.out]
  refine (repeatLam_any w.heap.size 0 1 k ⟨1, 0⟩ _ hs0 (by omega)).mono ?_
  rintro e w1 ⟨v1, rfl, own1, b1⟩
  have B1 := below_step B0 b1
  have own1' := own_base own1 B0.size
  have src1 := ht.below B1
  obtain ⟨A1, c1, rfl⟩ := own_form own1
  clear own1 b1 ht
  go_wp2_with (at_builtin; refine wpList_appx rfl _ _ _ rfl Tryz.underlying24 infoLam rfl (by omega) w.heap.size own1' B1.size rfl src1 rfl HO.out (by unfold maxLen; omega) (by omega) ?_; intro v2 w2 own2 hg2 hnil2; have B2 := grown_below B1 own1' (Nat.le_refl _) hg2; rw [HR.out, HN.out] at own2; clear hnil2 own1' src1 hg2)
  go_ret
  exact ⟨⟨_, rfl, own2⟩, B2⟩
theorem abstractT (k : Nat) (x : Value) (t : LTm) (w : World) (hx : RdT w x t) (hk : k ≤ 10) (hM : t.flat.length ≤ 100000) :
    Calls Tryz.prog 60 #[.int .i64 k, x] w fun e w' => (∃ v, e = .returned v ∧ RdT w' v (absL k t)) ∧ Below w.heap.size w w' :=
  (abstractOwn k x t w hx hk hM).mono fun _ _ ⟨⟨v, h1, h2⟩, h3⟩ => ⟨⟨v, h1, RdT.of_own h2⟩, h3⟩
theorem lamOfT (s : ByteArray) (l : List UInt8) (hs : s.data.toList = l) (h : txOkB l = true) (w : World) :
    Calls Tryz.prog 25 #[.string s] w fun e w' => (∃ v, e = .returned v ∧ RdT w' v (tmOf l)) ∧ Below w.heap.size w w' :=
  (lamOf_any s l (tmOf l) hs (TxOk.of h) w).mono fun _ _ ⟨v, h1, h2, h3⟩ => ⟨⟨v, h1, RdT.of_own h2⟩, h3⟩
theorem rdT_var (w : World) (k : Nat) : RdT (w.alloc (.cells #[.int .i64 0, .int .i64 (k : Int)] 45)) (.slice (some ⟨w.heap.size, 0, none⟩) 1 1) (.v k) := by
  refine ⟨_, 1, 1, rfl, rfl, Src.of_sl ?_ rfl⟩
  have := sl_laid w #[.int .i64 0, .int .i64 (k : Int)] 45
  simpa [LTm.flat, rows, R2.vs] using this
theorem own_var (w : World) (k : Nat) : (w.alloc (.cells #[.int .i64 0, .int .i64 (k : Int)] 45)).ownsRow w.heap.size 45 2 (.slice (some ⟨w.heap.size, 0, none⟩) 1 1) (LTm.v k).flat.length (rows R2.vs (LTm.v k).flat) :=
  own_of_block (n := 1) (cap := 1) (s := 2) (xs := [.int .i64 0, .int .i64 (k : Int)]) (heap_alloc_new _ _) (Nat.le_refl _) rfl (Nat.le_refl _) (by unfold maxLen; omega)

/-- Values that are rows of the call's own and read as terms. -/
def OwnL (lo : Nat) (vs : List Value) (ts : List LTm) (w : World) : Prop := vs.length = ts.length ∧ ∀ (j : Nat) (v : Value) (t : LTm), vs[j]? = some v → ts[j]? = some t → w.ownsRow lo 45 2 v t.flat.length (rows R2.vs t.flat) ∧ t.flat.length ≤ 100000
theorem OwnL.rws {lo : Nat} {vs : List Value} {ts : List LTm} {w : World} (h : OwnL lo vs ts w) : Rws w vs (flats ts) := by
  refine ⟨by rw [flats, List.length_map, h.1], fun j v x h1 h2 => ?_⟩
  rw [flats, List.getElem?_map] at h2
  cases ht : ts[j]? with
  | none => rw [ht] at h2; cases h2
  | some t =>
    rw [ht] at h2
    have e : t.flat = x := by simpa using h2
    subst e
    obtain ⟨h3, h4⟩ := h.2 j v t h1 ht
    exact ⟨Src.of_own h3, by omega⟩
theorem own_capF {w : World} {base : Nat} {e : TypeId} {size n : Nat} {v : Value} {xs : List Value} (h : w.ownsRow base e size v n xs) : ∀ A c, v = .slice A n c → n ≤ c := by
  intro A c hv
  rcases h.2 with ⟨h0, h1⟩ | ⟨g, cap, cur, h0, _, _, h1, _⟩
  · omega
  · rw [h0] at hv; injection hv with _ _ h3; omega
/-- A growing row of terms. -/
structure GRow (w0 : World) (g m c : Nat) (ts : List LTm) (W : World) : Prop where
  els : ∃ vs, W.ownsRow w0.heap.size 24 1 (.slice (some ⟨g, 0, none⟩) m c) m vs ∧ OwnL w0.heap.size vs ts W
  len : m = ts.length
  frame : Below w0.heap.size w0 W
theorem GRow.below {w0 W W' : World} {g m c : Nat} {ts : List LTm} (h : GRow w0 g m c ts W) (hb : Below W.heap.size W W') : GRow w0 g m c ts W' := by
  obtain ⟨⟨vs, h1, h2, h3⟩, h4, h5⟩ := h
  exact ⟨⟨vs, own_below' h1 hb, h2, fun j v t a b => ⟨own_below' (h3 j v t a b).1 hb, (h3 j v t a b).2⟩⟩, h4, below_step h5 hb⟩
theorem GRow.rd {w0 W : World} {g m c : Nat} {ts : List LTm} (h : GRow w0 g m c ts W) : RdTs W (.slice (some ⟨g, 0, none⟩) m c) ts := by
  obtain ⟨⟨vs, h1, h2⟩, h4, h5⟩ := h
  exact ⟨g, 0, m, c, vs, rfl, h4, sl_of_own h1, h2.rws⟩
theorem GRow.cap {w0 W : World} {g m c : Nat} {ts : List LTm} (h : GRow w0 g m c ts W) : m ≤ c := by
  obtain ⟨⟨vs, h1, h2⟩, h4, h5⟩ := h
  exact own_capF h1 _ _ rfl
theorem GRow.start (w0 : World) (t : TypeId) (ht : t = 24) : GRow w0 w0.heap.size 0 0 [] (w0.alloc (.cells #[] t)) := by
  subst ht
  exact ⟨⟨[], own_empty w0 24 1, rfl, by simp⟩, rfl, laid_below _ _⟩
theorem GRow.put {w0 W W1 W2 : World} {g m c g2 c2 : Nat} {ts : List LTm} (h : GRow w0 g m c ts W) {vs : List Value} (hvs : W1.ownsRow w0.heap.size 24 1 (.slice (some ⟨g, 0, none⟩) m c) m vs) (hl : OwnL w0.heap.size vs ts W1) (hB : Below w0.heap.size w0 W1) {u : Value} {t : LTm} (hu : W1.ownsRow w0.heap.size 45 2 u t.flat.length (rows R2.vs t.flat)) (ht : t.flat.length ≤ 100000)
    (own : W2.ownsRow w0.heap.size 24 1 (.slice (some ⟨g2, 0, none⟩) (m + 1) c2) (m + 1) (vs ++ [u])) (hg : W1.grownBy W2 (Value.slice (some ⟨g, 0, none⟩) m c).ownBlock) : GRow w0 g2 (m + 1) c2 (ts ++ [t]) W2 := by
  refine ⟨⟨_, own, by simp [hl.1], fun j v x h1 h2 => ?_⟩, by rw [List.length_append, h.len]; rfl, grown_below hB hvs (Nat.le_refl _) hg⟩
  rcases snoc_at h1 with ⟨hj, h1⟩ | ⟨hj, rfl⟩
  · rcases snoc_at h2 with ⟨_, h2⟩ | ⟨hj2, _⟩
    · obtain ⟨a, b⟩ := hl.2 j v x h1 h2
      exact ⟨a.kept hg (own_apart_ty a hvs (by decide)), b⟩
    · have := hl.1; omega
  · rcases snoc_at h2 with ⟨hj2, _⟩ | ⟨_, rfl⟩
    · have := hl.1; omega
    · exact ⟨hu.kept hg (own_apart_ty hu hvs (by decide)), ht⟩
end Go.Proofs.YtkiaclajjlidoaaGreatDoor
