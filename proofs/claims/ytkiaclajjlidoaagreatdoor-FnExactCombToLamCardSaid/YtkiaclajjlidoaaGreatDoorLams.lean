/- Lambda terms: which are valid; lamFollow, lamEnd, ValidLam and the reference's l12Many, l12Is, l12End. -/
import Derived.Test.YtkiaclajjlidoaaGreatDoorLamC
import Derived.Test.YtkiaclajjlidoaaGreatDoorTermLam
import Derived.Test.YtkiaclajjlidoaaGreatDoorSeqLam
namespace Go.Proofs.YtkiaclajjlidoaaGreatDoor
open Go.RowKit
set_option linter.all false

theorem lOk_v {x : R2} (h : x.a = 0) : lOk x = inB x.b 0 399 := by unfold lOk; rw [h]; simp
theorem lOk_z {x : R2} (h : inB x.a 0 2 = true) (h1 : ¬ x.a = 0) (h2 : x.b = 0) : lOk x = true := by
  have := (inB_iff _ _ _).1 h
  unfold lOk
  simp only [Bool.or_eq_true, Bool.and_eq_true, decide_eq_true_eq]
  omega
theorem lOk_nz {x : R2} (h1 : ¬ x.a = 0) (h2 : ¬ x.b = 0) : lOk x = false := by unfold lOk; simp [h1, h2]
theorem lOk_out {x : R2} (h : inB x.a 0 2 = false) : lOk x = false := by
  have h := (inB_false _ _ _).1 h
  unfold lOk
  rw [decide_eq_false (by omega : ¬ x.a = 0), decide_eq_false (by omega : ¬ x.a = 1), decide_eq_false (by omega : ¬ x.a = 2)]
  rfl
theorem lFol_cases (a : Int) (P : Prop) (h1 : a = 1 → P) (h2 : a = 2 → P) (h : (a == 1) = false → (a == 2) = false → P) : P := by
  by_cases e1 : a = 1
  · exact h1 e1
  by_cases e2 : a = 2
  · exact h2 e2
  exact h (by simpa using e1) (by simpa using e2)

theorem lamFollow_any (x : R2) (w : World) : Calls Tryz.prog 93 #[.agg #[.int .i64 x.a, .int .i64 x.b]] w fun e w' => e = .returned (.int .i64 (lFol x : Nat)) ∧ Below w.heap.size w w' := by
  obtain ⟨a, b⟩ := x
  have h0 : Below w.heap.size w (w.alloc (.cells #[.int .i64 a, .int .i64 b] 45)) := laid_below _ _
  apply lFol_cases a
  all_goals first
    | (intro h; subst h; go_enter Tryz.func93, Tryz.ntmps93; go_wp2; go_ret; exact ⟨ret_int (by simp [lFol]), h0⟩)
    | (intro h1 h2
       have HE : Hid (((lFol ⟨a, b⟩ : Nat) : Int) = 0) := by unfold Hid; simp at h1 h2; simp [lFol, h1, h2]
       go_enter Tryz.func93, Tryz.ntmps93
       go_wp2
       go_ret
       exact ⟨ret_int HE.out.symm, h0⟩)

theorem l12Many_any (x : R2) (w : World) : Calls Tryz.prog 62 #[.int .i64 x.a] w fun e w' => e = .returned (.int .i64 (lFol x : Nat)) ∧ w = w' := by
  obtain ⟨a, b⟩ := x
  apply lFol_cases a
  all_goals first
    | (intro h; subst h; go_enter Tryz.func62, Tryz.ntmps62; go_wp2; go_ret; exact ⟨ret_int (by simp [lFol]), rfl⟩)
    | (intro h1 h2
       have HE : Hid (((lFol ⟨a, b⟩ : Nat) : Int) = 0) := by unfold Hid; simp at h1 h2; simp [lFol, h1, h2]
       go_enter Tryz.func62, Tryz.ntmps62
       go_wp2
       go_ret
       exact ⟨ret_int HE.out.symm, rfl⟩)

theorem lamEnd_any (A : Option Addr) (n c k0 : Nat) (xs : List R2) (w : World) (ha : Args 2 w A n (rows R2.vs xs)) (hn : n ≤ 1048576) (hk0 : k0 ≤ n) :
    Calls Tryz.prog 74 #[.slice A n c, .int .i64 k0] w fun e w' => e = .returned (.int .i64 (tPos lFol k0 (xs.drop k0))) ∧ Below w.heap.size w w' := by
  go_enter Tryz.func74, Tryz.ntmps74
  go_wp2_with fail
  refine (termEnd_Lam_any 93 #[] lFol _ n c k0 xs _ ha hn hk0 lFol_le (enters_of' Tryz.func93 (by kernel_rfl) rfl) (fun x W => lamFollow_any x W)).mono ?_
  rintro e w1 ⟨rfl, hb1⟩
  go_wp2
  go_ret
  exact ⟨rfl, hb1⟩

theorem validLamElement_is (x : R2) (v : Bool) (h : lOk x = v) (w : World) : Calls Tryz.prog 73 #[.agg #[.int .i64 x.a, .int .i64 x.b]] w fun e w' => e = .returned (.bool v) ∧ Below w.heap.size w w' := by
  have h0 : Below w.heap.size w (w.alloc (.cells #[.int .i64 x.a, .int .i64 x.b] 45)) := laid_below _ _
  by_cases ha : x.a = 0
  · have HV : Hid (inB x.b 0 399 = v) := by unfold Hid; rw [← h, lOk_v ha]
    have e0 : (x.a == 0) = true := by simpa using ha
    clear h ha
    go_enter Tryz.func73, Tryz.ntmps73
    go_wp2_with fail
    refine (within_is _ _ _ v HV.out _).mono ?_
    rintro e w1 ⟨rfl, rfl⟩
    go_wp2
    go_ret
    exact ⟨rfl, h0⟩
  have e0 : (x.a == 0) = false := by simpa using ha
  by_cases hb : x.b = 0
  · have e3 : (x.b == 0) = true := by simpa using hb
    by_cases h1 : x.a = 1
    · have e1 : (x.a == 1) = true := by simpa using h1
      have HV : Hid (true = v) := by unfold Hid; rw [← h, lOk_z (by rw [inB_iff]; omega) ha hb]
      clear h h1 hb ha
      go_enter Tryz.func73, Tryz.ntmps73
      go_wp2
      go_ret
      exact ⟨ret_bool HV.out, h0⟩
    have e1 : (x.a == 1) = false := by simpa using h1
    by_cases h2 : x.a = 2
    · have e2 : (x.a == 2) = true := by simpa using h2
      have HV : Hid (true = v) := by unfold Hid; rw [← h, lOk_z (by rw [inB_iff]; omega) ha hb]
      clear h h1 h2 hb ha
      go_enter Tryz.func73, Tryz.ntmps73
      go_wp2
      go_ret
      exact ⟨ret_bool HV.out, h0⟩
    · have e2 : (x.a == 2) = false := by simpa using h2
      have HV : Hid (false = v) := by unfold Hid; rw [← h]; unfold lOk; simp [ha, h1, h2]
      clear h h1 h2 hb ha
      go_enter Tryz.func73, Tryz.ntmps73
      go_wp2
      go_ret
      exact ⟨ret_bool HV.out, h0⟩
  · have e3 : (x.b == 0) = false := by simpa using hb
    have HV : Hid (false = v) := by unfold Hid; rw [← h, lOk_nz ha hb]
    by_cases h1 : x.a = 1
    · have e1 : (x.a == 1) = true := by simpa using h1
      clear h h1 hb ha
      go_enter Tryz.func73, Tryz.ntmps73
      go_wp2
      go_ret
      exact ⟨ret_bool HV.out, h0⟩
    have e1 : (x.a == 1) = false := by simpa using h1
    by_cases h2 : x.a = 2
    · have e2 : (x.a == 2) = true := by simpa using h2
      clear h h1 h2 hb ha
      go_enter Tryz.func73, Tryz.ntmps73
      go_wp2
      go_ret
      exact ⟨ret_bool HV.out, h0⟩
    · have e2 : (x.a == 2) = false := by simpa using h2
      clear h h1 h2 hb ha
      go_enter Tryz.func73, Tryz.ntmps73
      go_wp2
      go_ret
      exact ⟨ret_bool HV.out, h0⟩

theorem validLam1_is (x : R2) (v : Bool) (h : (!lOk x) = v) (w : World) : Calls Tryz.prog 72 #[.agg #[.int .i64 x.a, .int .i64 x.b]] w fun e w' => e = .returned (.bool v) ∧ Below w.heap.size w w' := by
  obtain ⟨w0, HW, p0, p1, hb0⟩ : ∃ w0, Hid (w0 = w.alloc (.cells #[.int .i64 x.a, .int .i64 x.b] 45)) ∧ w0.cell? ⟨w.heap.size, 0, none⟩ = some (.int .i64 x.a) ∧ w0.cell? ⟨w.heap.size, 1, none⟩ = some (.int .i64 x.b) ∧ Below w.heap.size w w0 := ⟨_, rfl, by simp [go_sem], by simp [go_sem], laid_below _ _⟩
  subst h
  rcases Bool.eq_false_or_eq_true (lOk x) with hv | hv
  all_goals
    have HV := Lib.hid hv; clear hv
    go_enter Tryz.func72, Tryz.ntmps72
    go_wp2_with fail
    refine (validLamElement_is x _ HV.out _).mono ?_
    rintro e w1 ⟨rfl, hb1⟩
    go_wp2
    go_ret
    exact ⟨ret_bool (by rw [HV.out]; rfl), below_step (laid_below _ _) hb1⟩

theorem any_not_all {α : Type} (p : α → Bool) (xs : List α) : xs.any (fun x => !p x) = !xs.all p := by
  induction xs with
  | nil => rfl
  | cons x l ih => rw [List.any_cons, List.all_cons, ih, Bool.not_and]

set_option maxRecDepth 100000 in
set_option maxHeartbeats 1000000 in
theorem validLam_is (A : Option Addr) (n c : Nat) (xs : List R2) (v : Bool) (hv : validT xs = v) (w : World) (ha : Args 2 w A n (rows R2.vs xs)) (hn : n ≤ 1048576) :
    Calls Tryz.prog 47 #[.slice A n c] w fun e w' => e = .returned (.bool v) ∧ Below w.heap.size w w' := by
  have HL : Hid (xs.length = n) := by have := ha.1; rw [rows_len R2.vs_len] at this; unfold Hid; omega
  rcases Bool.eq_false_or_eq_true (inB n 1 400) with h | h
  rotate_left
  · have HV : Hid (v = false) := by unfold Hid; rw [← hv, validT, HL.out, h]; rfl
    have H1 := Lib.hid h; clear h hv
    go_enter Tryz.func47, Tryz.ntmps47
    go_wp2_with fail
    refine (size_Lam_any _ _ _ _).mono ?_
    rintro e w1 ⟨rfl, rfl⟩
    go_wp2_with fail
    refine (within_is _ _ _ false H1.out _).mono ?_
    rintro e w1 ⟨rfl, rfl⟩
    go_wp2
    go_ret
    exact ⟨ret_bool HV.out.symm, Below.refl _ _⟩
  have HV : Hid (v = (xs.all lOk && fit lFol 1 xs)) := by unfold Hid; rw [← hv, validT, HL.out, h]; rfl
  have H1 := Lib.hid h; clear h hv
  have hn1 : n ≤ 400 := by have := (inB_iff _ _ _).1 H1.out; omega
  have hE := enters_of' Tryz.func72 (by kernel_rfl) rfl
  rcases Bool.eq_false_or_eq_true (xs.all lOk) with h | h
  rotate_left
  · have HN : Hid (xs.any (fun x => !lOk x) = true) := by unfold Hid; rw [any_not_all, h]; rfl
    have HV2 : Hid (v = false) := by unfold Hid; rw [HV.out, h]; rfl
    clear h
    go_enter Tryz.func47, Tryz.ntmps47
    go_wp2_with fail
    refine (size_Lam_any _ _ _ _).mono ?_
    rintro e w1 ⟨rfl, rfl⟩
    go_wp2_with fail
    refine (within_is _ _ _ true H1.out _).mono ?_
    rintro e w1 ⟨rfl, rfl⟩
    go_wp2_with fail
    refine (containsFuncAt_Lam 72 #[] (fun x => !lOk x) A n c xs _ ha hn hE (fun x v W _ h _ => validLam1_is x v h W) true HN.out).mono ?_
    rintro e w2 ⟨rfl, hb2⟩
    go_wp2
    go_ret
    exact ⟨ret_bool HV2.out.symm, hb2⟩
  have HN : Hid (xs.any (fun x => !lOk x) = false) := by unfold Hid; rw [any_not_all, h]; rfl
  have HV2 : Hid (v = fit lFol 1 xs) := by unfold Hid; rw [HV.out, h]; rfl
  have HP := Lib.hid (fit_pos lFol xs)
  rw [HL.out, ← HV2.out] at HP
  clear h
  go_enter Tryz.func47, Tryz.ntmps47
  go_wp2_with fail
  refine (size_Lam_any _ _ _ _).mono ?_
  rintro e w1 ⟨rfl, rfl⟩
  go_wp2_with fail
  refine (within_is _ _ _ true H1.out _).mono ?_
  rintro e w1 ⟨rfl, rfl⟩
  go_wp2_with fail
  refine (containsFuncAt_Lam 72 #[] (fun x => !lOk x) A n c xs _ ha hn hE (fun x v W _ h _ => validLam1_is x v h W) false HN.out).mono ?_
  rintro e w2 ⟨rfl, hb2⟩
  go_wp2_with fail
  refine (lamEnd_any _ n c 0 xs _ (ha.below hb2) hn (Nat.zero_le _)).mono ?_
  rintro e w3 ⟨rfl, hb3⟩
  go_wp2
  go_ret
  exact ⟨ret_bool (by rw [← HP.out]; rfl), below_step hb2 hb3⟩

set_option maxRecDepth 100000 in
set_option maxHeartbeats 1000000 in
theorem l12Is_is (A : Option Addr) (n c : Nat) (xs : List R2) (v : Bool) (hv : validT xs = v) (w : World) (ha : Args 2 w A n (rows R2.vs xs)) (hn : n ≤ 1048576) :
    Calls Tryz.prog 42 #[.slice A n c] w fun e w' => e = .returned (.bool v) ∧ w = w' := by
  have HL : Hid (xs.length = n) := by have := ha.1; rw [rows_len R2.vs_len] at this; unfold Hid; omega
  rcases Bool.eq_false_or_eq_true (inB n 1 400) with h | h
  rotate_left
  · have HV : Hid (v = false) := by unfold Hid; rw [← hv, validT, HL.out, h]; rfl
    clear hv
    rcases (inB_false _ _ _).1 h with h | h
    · have h1 : n < 1 := by omega
      clear h
      go_enter Tryz.func42, Tryz.ntmps42
      go_wp2
      go_ret
      exact ⟨ret_bool HV.out.symm, rfl⟩
    · have h1 : ¬ n < 1 := by omega
      have h2 : 400 < n := by omega
      clear h
      go_enter Tryz.func42, Tryz.ntmps42
      go_wp2
      go_ret
      exact ⟨ret_bool HV.out.symm, rfl⟩
  have HV : Hid (v = (xs.all lOk && fit lFol 1 xs)) := by unfold Hid; rw [← hv, validT, HL.out, h]; rfl
  have hn1 : n ≤ 400 := by have := (inB_iff _ _ _).1 h; omega
  have hn0 : ¬ n < 1 := by have := (inB_iff _ _ _).1 h; omega
  clear h hv
  go_enter Tryz.func42, Tryz.ntmps42
  go_wp2
  go_loop [3, 4] (fun o i => ∃ k op : Nat, k ≤ n ∧ op ≤ 2 * k + 1 ∧ i = .int .i64 k ∧ o = .int .i64 op ∧ Hid (v = ((xs.drop k).all lOk && fit lFol op (xs.drop k)))) (fun _ i => n - (intOf i).toNat)
  case atStart => exact ⟨0, 1, Nat.zero_le _, by omega, rfl, rfl, by unfold Hid; rw [List.drop_zero]; exact HV.out⟩
  case round =>
    obtain ⟨k, op, hk, hop, rfl, rfl, HA⟩ := hrel
    by_cases hlt : k < n
    · obtain ⟨b, off, rfl, hs⟩ := ha.sl hlt
      obtain ⟨x, HX⟩ := hget HL hlt
      obtain ⟨p0, p1⟩ := hs.rec2 HX.out
      have HA2 : Hid (v = ((lOk x && (xs.drop (k + 1)).all lOk) && fit lFol op (x :: xs.drop (k + 1)))) := by unfold Hid; rw [HA.out, all_drop HX.out]; congr 2; exact drop_at HX.out
      by_cases ho : op = 0
      · subst ho
        go_wp2
        go_ret
        exact ⟨ret_bool (by rw [HA2.out, fit_0c]; simp), rfl⟩
      have hoi : ((op : Int) == 0) = false := by simp; omega
      obtain ⟨q, rfl⟩ : ∃ q, op = q + 1 := ⟨op - 1, by omega⟩
      have HA3 : Hid (v = ((lOk x && (xs.drop (k + 1)).all lOk) && fit lFol (q + lFol x) (xs.drop (k + 1)))) := by unfold Hid; rw [HA2.out, fit_sc]
      clear ho HA2
      rcases Bool.eq_false_or_eq_true (inB x.a 0 2) with h | h
      rotate_left
      · have H2 := Lib.hid h; clear h
        go_wp2_with fail
        refine (l00In_is _ _ _ false H2.out _).mono ?_
        rintro e w1 ⟨rfl, rfl⟩
        go_wp2
        go_ret
        exact ⟨ret_bool (by rw [HA3.out, lOk_out H2.out]; rfl), rfl⟩
      have H2 := Lib.hid h; clear h
      have hf := lFol_le x
      by_cases h1 : x.a = 0
      · have e1 : (x.a == 0) = true := by simpa using h1
        have e1' : (x.a != 0) = false := by simpa using h1
        rcases Bool.eq_false_or_eq_true (inB x.b 0 399) with h | h
        · have H3 := Lib.hid h; clear h
          have H4 : Hid (lOk x = true) := by unfold Hid; rw [lOk_v h1, H3.out]
          clear h1
          go_wp2_with fail
          refine (l00In_is _ _ _ true H2.out _).mono ?_
          rintro e w1 ⟨rfl, rfl⟩
          go_wp2_with fail
          refine (l00In_is _ _ _ true H3.out _).mono ?_
          rintro e w1 ⟨rfl, rfl⟩
          go_wp2_with fail
          refine (l12Many_any x _).mono ?_
          rintro e w1 ⟨rfl, rfl⟩
          go_wp2
          go_round
          case rel => exact ⟨k + 1, q + lFol x, by omega, by omega, by go_num, by congr 1; omega, by unfold Hid; rw [HA3.out, H4.out, Bool.true_and]⟩
          case measure => simp [intOf]; omega
        · have H3 := Lib.hid h; clear h
          have H4 : Hid (lOk x = false) := by unfold Hid; rw [lOk_v h1, H3.out]
          clear h1
          go_wp2_with fail
          refine (l00In_is _ _ _ true H2.out _).mono ?_
          rintro e w1 ⟨rfl, rfl⟩
          go_wp2_with fail
          refine (l00In_is _ _ _ false H3.out _).mono ?_
          rintro e w1 ⟨rfl, rfl⟩
          go_wp2
          go_ret
          exact ⟨ret_bool (by rw [HA3.out, H4.out]; rfl), rfl⟩
      · have e1 : (x.a == 0) = false := by simpa using h1
        have e1' : (x.a != 0) = true := by simpa using h1
        by_cases h2 : x.b = 0
        · have e2 : (x.b != 0) = false := by simpa using h2
          have H4 : Hid (lOk x = true) := by exact lOk_z H2.out h1 h2
          clear h1 h2
          go_wp2_with fail
          refine (l00In_is _ _ _ true H2.out _).mono ?_
          rintro e w1 ⟨rfl, rfl⟩
          go_wp2_with fail
          refine (l12Many_any x _).mono ?_
          rintro e w1 ⟨rfl, rfl⟩
          go_wp2
          go_round
          case rel => exact ⟨k + 1, q + lFol x, by omega, by omega, by go_num, by congr 1; omega, by unfold Hid; rw [HA3.out, H4.out, Bool.true_and]⟩
          case measure => simp [intOf]; omega
        · have e2 : (x.b != 0) = true := by simpa using h2
          have H4 : Hid (lOk x = false) := by exact lOk_nz h1 h2
          clear h1 h2
          go_wp2_with fail
          refine (l00In_is _ _ _ true H2.out _).mono ?_
          rintro e w1 ⟨rfl, rfl⟩
          go_wp2
          go_ret
          exact ⟨ret_bool (by rw [HA3.out, H4.out]; rfl), rfl⟩
    · have HA2 : Hid (v = fit lFol op []) := by unfold Hid; rw [HA.out, List.drop_of_length_le (by have := HL.out; omega)]; rfl
      by_cases ho : op = 0
      · subst ho
        go_wp2
        go_ret
        exact ⟨ret_bool (by rw [HA2.out, fit_00]), rfl⟩
      · have hoi : ((op : Int) == 0) = false := by simp; omega
        obtain ⟨q, rfl⟩ : ∃ q, op = q + 1 := ⟨op - 1, by omega⟩
        clear ho
        go_wp2
        go_ret
        exact ⟨ret_bool (by rw [HA2.out, fit_s0]; simp; omega), rfl⟩

end Go.Proofs.YtkiaclajjlidoaaGreatDoor
