/- Expressions of while programs: which are valid. exprFollow, isWhileVariable, ValidExpr and the reference's l22Many, l22Expr, ValidExpr. -/
import Derived.Test.YtgcedfpjgdeakaaTermExpr
namespace Go.Proofs.Ytgcedfpjgdeakaa
open Go.RowKit
set_option linter.all false

def eFol (x : R2) : Nat := if x.a = 3 ∨ x.a = 4 then 1 else if x.a = 2 ∨ x.a = 5 then 2 else 0
theorem eFol_le (x : R2) : eFol x ≤ 2 := by unfold eFol; split; omega; split <;> omega
def eOk (x : R2) : Bool := inB x.a 0 5 && inB x.b 0 5 && (decide (x.a = 1) || decide (x.b = 0))
def validE (xs : List R2) : Bool := inB xs.length 1 40 && (xs.all eOk && fit eFol 1 xs)

theorem isWhileVariable_is (n : Int) (v : Bool) (h : inB n 0 5 = v) (w : World) : Calls Try.prog 63 #[.int .i64 n] w fun e w' => e = .returned (.bool v) ∧ w = w' := by
  go_enter Try.func63, Try.ntmps63
  go_wp2_with (go_at_call 61; refine (within_is _ _ _ v h _).mono ?_; rintro e w' ⟨rfl, rfl⟩)
  go_ret
  exact ⟨rfl, rfl⟩

theorem eFol_cases (a : Int) (P : Prop) (h3 : a = 3 → P) (h4 : a = 4 → P) (h2 : a = 2 → P) (h5 : a = 5 → P) (h : (a == 3) = false → (a == 4) = false → (a == 2) = false → (a == 5) = false → P) : P := by
  by_cases e3 : a = 3
  · exact h3 e3
  by_cases e4 : a = 4
  · exact h4 e4
  by_cases e2 : a = 2
  · exact h2 e2
  by_cases e5 : a = 5
  · exact h5 e5
  exact h (by simpa using e3) (by simpa using e4) (by simpa using e2) (by simpa using e5)

theorem exprFollow_any (x : R2) (w : World) : Calls Try.prog 65 #[.agg #[.int .i64 x.a, .int .i64 x.b]] w fun e w' => e = .returned (.int .i64 (eFol x : Nat)) ∧ Below w.heap.size w w' := by
  obtain ⟨a, b⟩ := x
  have h0 : Below w.heap.size w (w.alloc (.cells #[.int .i64 a, .int .i64 b] 62)) := laid_below _ _
  apply eFol_cases a
  all_goals first
    | (intro h; subst h; go_enter Try.func65, Try.ntmps65; go_wp2; go_ret; exact ⟨ret_int (by simp [eFol]), h0⟩)
    | (intro h3 h4 h2 h5
       have HE : Hid (((eFol ⟨a, b⟩ : Nat) : Int) = 0) := by unfold Hid; simp at h3 h4 h2 h5; simp [eFol, h3, h4, h2, h5]
       go_enter Try.func65, Try.ntmps65
       go_wp2
       go_ret
       exact ⟨ret_int HE.out.symm, h0⟩)

theorem l22Many_any (x : R2) (w : World) : Calls Try.prog 53 #[.int .i64 x.a] w fun e w' => e = .returned (.int .i64 (eFol x : Nat)) ∧ w = w' := by
  obtain ⟨a, b⟩ := x
  apply eFol_cases a
  all_goals first
    | (intro h; subst h; go_enter Try.func53, Try.ntmps53; go_wp2; go_ret; exact ⟨ret_int (by simp [eFol]), rfl⟩)
    | (intro h3 h4 h2 h5
       have HE : Hid (((eFol ⟨a, b⟩ : Nat) : Int) = 0) := by unfold Hid; simp at h3 h4 h2 h5; simp [eFol, h3, h4, h2, h5]
       go_enter Try.func53, Try.ntmps53
       go_wp2
       go_ret
       exact ⟨ret_int HE.out.symm, rfl⟩)

theorem all_drop {α : Type} {p : α → Bool} {xs : List α} {k : Nat} {x : α} (h : xs[k]? = some x) : (xs.drop k).all p = (p x && (xs.drop (k + 1)).all p) := by rw [drop_at h]; simp

set_option maxRecDepth 100000 in
set_option maxHeartbeats 1000000 in
theorem implValidExpr_is (A : Option Addr) (n c : Nat) (xs : List R2) (v : Bool) (hv : validE xs = v) (w : World) (ha : Args 2 w A n (rows R2.vs xs)) (hn : n ≤ 1048576) :
    Calls Try.prog 33 #[.slice A n c] w fun e w' => e = .returned (.bool v) ∧ Below w.heap.size w w' := by
  have HL : Hid (xs.length = n) := by have := ha.1; rw [rows_len R2.vs_len] at this; unfold Hid; omega
  rcases Bool.eq_false_or_eq_true (inB n 1 40) with h | h
  rotate_left
  · have HV : Hid (v = false) := by unfold Hid; rw [← hv, validE, HL.out, h]; rfl
    have H1 := Lib.hid h; clear h hv
    go_enter Try.func33, Try.ntmps33
    go_wp2_with fail
    refine (size_Expr_any _ _ _ _).mono ?_
    rintro e w1 ⟨rfl, rfl⟩
    go_wp2_with fail
    refine (within_is _ _ _ false H1.out _).mono ?_
    rintro e w1 ⟨rfl, rfl⟩
    go_wp2
    go_ret
    exact ⟨ret_bool HV.out.symm, Below.refl _ _⟩
  have HV : Hid (v = (xs.all eOk && fit eFol 1 xs)) := by unfold Hid; rw [← hv, validE, HL.out, h]; rfl
  have H1 := Lib.hid h; clear h hv
  have hn1 : n ≤ 40 := by have := (inB_iff _ _ _).1 H1.out; omega
  go_enter Try.func33, Try.ntmps33
  go_wp2_with fail
  refine (size_Expr_any _ _ _ _).mono ?_
  rintro e w1 ⟨rfl, rfl⟩
  go_wp2_with fail
  refine (within_is _ _ _ true H1.out _).mono ?_
  rintro e w1 ⟨rfl, rfl⟩
  go_wp2
  go_loopw [11] (fun i wr => ∃ k : Nat, k ≤ n ∧ i = .int .i64 k ∧ Below w.heap.size w wr ∧ Hid (xs.all eOk = (xs.drop k).all eOk)) (fun i _ => n - (intOf i).toNat)
  case atStart => exact ⟨0, Nat.zero_le _, rfl, Below.refl _ _, by unfold Hid; rw [List.drop_zero]⟩
  case round =>
    obtain ⟨k, hk, rfl, hB, HA⟩ := hrel
    by_cases hlt : k < n
    · obtain ⟨b, off, rfl, hs⟩ := ha.sl hlt
      obtain ⟨x, HX⟩ := hget HL hlt
      obtain ⟨p0, p1⟩ := (hs.below' hB).rec2 HX.out
      have HA2 := Lib.hid (HA.out.trans (all_drop HX.out))
      rcases Bool.eq_false_or_eq_true (inB x.a 0 5) with h | h
      rotate_left
      · have H2 := Lib.hid h; clear h
        go_wp2_with fail
        refine (within_is _ _ _ false H2.out _).mono ?_
        rintro e w1 ⟨rfl, hw⟩
        obtain ⟨c0, c1, hb1⟩ := alloc2 hw
        have hB1 := below_step hB hb1
        clear hw p0 p1 hb1
        go_wp2
        go_ret
        exact ⟨ret_bool (by rw [HV.out, HA2.out, eOk, H2.out]; rfl), hB1⟩
      have H2 := Lib.hid h; clear h
      rcases Bool.eq_false_or_eq_true (inB x.b 0 5) with h | h
      rotate_left
      · have H3 := Lib.hid h; clear h
        go_wp2_with fail
        refine (within_is _ _ _ true H2.out _).mono ?_
        rintro e w1 ⟨rfl, hw⟩
        obtain ⟨c0, c1, hb1⟩ := alloc2 hw
        have hB1 := below_step hB hb1
        clear hw p0 p1 hb1
        go_wp2_with fail
        refine (isWhileVariable_is _ false H3.out _).mono ?_
        rintro e w2 ⟨rfl, rfl⟩
        go_wp2
        go_ret
        exact ⟨ret_bool (by rw [HV.out, HA2.out, eOk, H2.out, H3.out]; rfl), hB1⟩
      have H3 := Lib.hid h; clear h
      by_cases h1 : x.a = 1
      · have e1 : (x.a != 1) = false := by simpa using h1
        have H4 : Hid (eOk x = true) := by unfold Hid; rw [eOk, H2.out, H3.out]; simp [h1]
        clear h1
        go_wp2_with fail
        refine (within_is _ _ _ true H2.out _).mono ?_
        rintro e w1 ⟨rfl, hw⟩
        obtain ⟨c0, c1, hb1⟩ := alloc2 hw
        have hB1 := below_step hB hb1
        clear hw p0 p1 hb1
        go_wp2_with fail
        refine (isWhileVariable_is _ true H3.out _).mono ?_
        rintro e w2 ⟨rfl, rfl⟩
        go_wp2
        go_roundw
        case rel => exact ⟨k + 1, by omega, by go_num, hB1, by unfold Hid; rw [HA2.out, H4.out, Bool.true_and]⟩
        case measure => simp [intOf]; omega
      · have e1 : (x.a != 1) = true := by simpa using h1
        by_cases h2 : x.b = 0
        · have e2 : (x.b != 0) = false := by simpa using h2
          have H4 : Hid (eOk x = true) := by unfold Hid; rw [eOk, H2.out, H3.out]; simp [h2]
          clear h1 h2
          go_wp2_with fail
          refine (within_is _ _ _ true H2.out _).mono ?_
          rintro e w1 ⟨rfl, hw⟩
          obtain ⟨c0, c1, hb1⟩ := alloc2 hw
          have hB1 := below_step hB hb1
          clear hw p0 p1 hb1
          go_wp2_with fail
          refine (isWhileVariable_is _ true H3.out _).mono ?_
          rintro e w2 ⟨rfl, rfl⟩
          go_wp2
          go_roundw
          case rel => exact ⟨k + 1, by omega, by go_num, hB1, by unfold Hid; rw [HA2.out, H4.out, Bool.true_and]⟩
          case measure => simp [intOf]; omega
        · have e2 : (x.b != 0) = true := by simpa using h2
          have H4 : Hid (eOk x = false) := by unfold Hid; rw [eOk, H2.out, H3.out]; simp [h1, h2]
          clear h1 h2
          go_wp2_with fail
          refine (within_is _ _ _ true H2.out _).mono ?_
          rintro e w1 ⟨rfl, hw⟩
          obtain ⟨c0, c1, hb1⟩ := alloc2 hw
          have hB1 := below_step hB hb1
          clear hw p0 p1 hb1
          go_wp2_with fail
          refine (isWhileVariable_is _ true H3.out _).mono ?_
          rintro e w2 ⟨rfl, rfl⟩
          go_wp2
          go_ret
          exact ⟨ret_bool (by rw [HV.out, HA2.out, H4.out]; rfl), hB1⟩
    · have HA2 : Hid (v = fit eFol 1 xs) := by unfold Hid; rw [HV.out, HA.out, List.drop_of_length_le (by have := HL.out; omega)]; rfl
      have HP := Lib.hid (fit_pos eFol xs)
      rw [HL.out, ← HA2.out] at HP
      go_wp2_with fail
      refine (termEnd_Expr_any 65 #[] eFol _ n c 0 xs _ (ha.below hB) hn (Nat.zero_le _) eFol_le (enters_of' Try.func65 (by kernel_rfl) rfl) (fun x W => exprFollow_any x W)).mono ?_
      rintro e w1 ⟨rfl, hb1⟩
      have hB1 := below_step hB hb1
      go_wp2
      go_ret
      exact ⟨ret_bool (by rw [← HP.out]; rfl), hB1⟩

set_option maxRecDepth 100000 in
set_option maxHeartbeats 1000000 in
theorem l22Expr_is (A : Option Addr) (n c : Nat) (xs : List R2) (v : Bool) (hv : validE xs = v) (w : World) (ha : Args 2 w A n (rows R2.vs xs)) (hn : n ≤ 1048576) :
    Calls Try.prog 27 #[.slice A n c] w fun e w' => e = .returned (.bool v) ∧ w = w' := by
  have HL : Hid (xs.length = n) := by have := ha.1; rw [rows_len R2.vs_len] at this; unfold Hid; omega
  rcases Bool.eq_false_or_eq_true (inB n 1 40) with h | h
  rotate_left
  · have HV : Hid (v = false) := by unfold Hid; rw [← hv, validE, HL.out, h]; rfl
    clear hv
    rcases (inB_false _ _ _).1 h with h | h
    · have h1 : n < 1 := by omega
      clear h
      go_enter Try.func27, Try.ntmps27
      go_wp2
      go_ret
      exact ⟨ret_bool HV.out.symm, rfl⟩
    · have h1 : ¬ n < 1 := by omega
      have h2 : 40 < n := by omega
      clear h
      go_enter Try.func27, Try.ntmps27
      go_wp2
      go_ret
      exact ⟨ret_bool HV.out.symm, rfl⟩
  have HV : Hid (v = (xs.all eOk && fit eFol 1 xs)) := by unfold Hid; rw [← hv, validE, HL.out, h]; rfl
  have hn1 : n ≤ 40 := by have := (inB_iff _ _ _).1 h; omega
  have hn0 : ¬ n < 1 := by have := (inB_iff _ _ _).1 h; omega
  clear h hv
  go_enter Try.func27, Try.ntmps27
  go_wp2
  go_loop [3, 4] (fun o i => ∃ k op : Nat, k ≤ n ∧ op ≤ 2 * k + 1 ∧ i = .int .i64 k ∧ o = .int .i64 op ∧ Hid (v = ((xs.drop k).all eOk && fit eFol op (xs.drop k)))) (fun _ i => n - (intOf i).toNat)
  case atStart => exact ⟨0, 1, Nat.zero_le _, by omega, rfl, rfl, by unfold Hid; rw [List.drop_zero]; exact HV.out⟩
  case round =>
    obtain ⟨k, op, hk, hop, rfl, rfl, HA⟩ := hrel
    by_cases hlt : k < n
    · obtain ⟨b, off, rfl, hs⟩ := ha.sl hlt
      obtain ⟨x, HX⟩ := hget HL hlt
      obtain ⟨p0, p1⟩ := hs.rec2 HX.out
      have HA2 : Hid (v = ((eOk x && (xs.drop (k + 1)).all eOk) && fit eFol op (x :: xs.drop (k + 1)))) := by unfold Hid; rw [HA.out, all_drop HX.out]; congr 2; exact drop_at HX.out
      by_cases ho : op = 0
      · subst ho
        go_wp2
        go_ret
        exact ⟨ret_bool (by rw [HA2.out, fit_0c]; simp), rfl⟩
      have hoi : ((op : Int) == 0) = false := by simp; omega
      obtain ⟨q, rfl⟩ : ∃ q, op = q + 1 := ⟨op - 1, by omega⟩
      have HA3 : Hid (v = ((eOk x && (xs.drop (k + 1)).all eOk) && fit eFol (q + eFol x) (xs.drop (k + 1)))) := by unfold Hid; rw [HA2.out, fit_sc]
      clear ho HA2
      rcases Bool.eq_false_or_eq_true (inB x.a 0 5) with h | h
      rotate_left
      · have H2 := Lib.hid h; clear h
        go_wp2_with fail
        refine (l00In_is _ _ _ false H2.out _).mono ?_
        rintro e w1 ⟨rfl, rfl⟩
        go_wp2
        go_ret
        exact ⟨ret_bool (by rw [HA3.out, eOk, H2.out]; rfl), rfl⟩
      have H2 := Lib.hid h; clear h
      have hf := eFol_le x
      by_cases h1 : x.a = 1
      · have e1 : (x.a == 1) = true := by simpa using h1
        have e1' : (x.a != 1) = false := by simpa using h1
        rcases Bool.eq_false_or_eq_true (inB x.b 0 5) with h | h
        · have H3 := Lib.hid h; clear h
          have H4 : Hid (eOk x = true) := by unfold Hid; rw [eOk, H2.out, H3.out]; simp [h1]
          clear h1
          go_wp2_with fail
          refine (l00In_is _ _ _ true H2.out _).mono ?_
          rintro e w1 ⟨rfl, rfl⟩
          go_wp2_with fail
          refine (l00In_is _ _ _ true H3.out _).mono ?_
          rintro e w1 ⟨rfl, rfl⟩
          go_wp2_with fail
          refine (l22Many_any x _).mono ?_
          rintro e w1 ⟨rfl, rfl⟩
          go_wp2
          go_round
          case rel => exact ⟨k + 1, q + eFol x, by omega, by omega, by go_num, by congr 1; omega, by unfold Hid; rw [HA3.out, H4.out, Bool.true_and]⟩
          case measure => simp [intOf]; omega
        · have H3 := Lib.hid h; clear h
          clear h1
          go_wp2_with fail
          refine (l00In_is _ _ _ true H2.out _).mono ?_
          rintro e w1 ⟨rfl, rfl⟩
          go_wp2_with fail
          refine (l00In_is _ _ _ false H3.out _).mono ?_
          rintro e w1 ⟨rfl, rfl⟩
          go_wp2
          go_ret
          exact ⟨ret_bool (by rw [HA3.out, eOk, H2.out, H3.out]; rfl), rfl⟩
      · have e1 : (x.a == 1) = false := by simpa using h1
        have e1' : (x.a != 1) = true := by simpa using h1
        by_cases h2 : x.b = 0
        · have e2 : (x.b != 0) = false := by simpa using h2
          have H4 : Hid (eOk x = true) := by unfold Hid; rw [eOk, H2.out]; simp [h2, inB]
          clear h1 h2
          go_wp2_with fail
          refine (l00In_is _ _ _ true H2.out _).mono ?_
          rintro e w1 ⟨rfl, rfl⟩
          go_wp2_with fail
          refine (l22Many_any x _).mono ?_
          rintro e w1 ⟨rfl, rfl⟩
          go_wp2
          go_round
          case rel => exact ⟨k + 1, q + eFol x, by omega, by omega, by go_num, by congr 1; omega, by unfold Hid; rw [HA3.out, H4.out, Bool.true_and]⟩
          case measure => simp [intOf]; omega
        · have e2 : (x.b != 0) = true := by simpa using h2
          have H4 : Hid (eOk x = false) := by unfold Hid; rw [eOk]; simp [h1, h2]
          clear h1 h2
          go_wp2_with fail
          refine (l00In_is _ _ _ true H2.out _).mono ?_
          rintro e w1 ⟨rfl, rfl⟩
          go_wp2
          go_ret
          exact ⟨ret_bool (by rw [HA3.out, H4.out]; rfl), rfl⟩
    · have HA2 : Hid (v = fit eFol op []) := by unfold Hid; rw [HA.out, List.drop_of_length_le (by have := HL.out; omega)]; rfl
      by_cases ho : op = 0
      · subst ho
        go_wp2
        go_ret
        exact ⟨ret_bool (by rw [HA2.out, fit_00]), rfl⟩
      · have hoi : ((op : Int) == 0) = false := by simp; omega
        obtain ⟨q, rfl⟩ : ∃ q, op = q + 1 := ⟨op - 1, by omega⟩
        clear ho
        go_wp2
        go_ret
        exact ⟨ret_bool (by rw [HA2.out, fit_s0]; simp; omega), rfl⟩

end Go.Proofs.Ytgcedfpjgdeakaa
