/- Register programs: which are valid. isRegister, validInstr, ValidProgram and the reference's l07Register, l07Is. -/
import Derived.Test.YthjehhiaedfodaaSeqInstr
import Derived.Test.YthjehhiaedfodaaNums
import Derived.Deep.DrawnRows
namespace Go.Proofs.Ythjehhiaedfodaa
open Go.RowKit
set_option linter.all false
attribute [local go_sem ↓] Go.wp_at_zero Go.wp_at_succ

def iOk (n : Int) (x : R4) : Bool := inB x.b 0 23 && (inB x.c 0 n && (if x.a = 0 then decide (x.d = 0) else decide (x.a = 1) && inB x.d 0 n))
def validP (xs : List R4) : Bool := decide (xs.length ≤ 400) && xs.all (iOk xs.length)

theorem any_not {α : Type} (p : α → Bool) (xs : List α) : (xs.any fun x => !p x) = !xs.all p := by
  induction xs with
  | nil => rfl
  | cons x l ih => simp only [List.any_cons, List.all_cons, ih, Bool.not_and]
theorem isRegister_is (n : Int) (v : Bool) (h : inB n 0 23 = v) (w : World) : Calls Try.prog 65 #[.int .i64 n] w fun e w' => e = .returned (.bool v) ∧ w = w' := by
  go_enter Try.func65, Try.ntmps65
  go_wp2_with (go_at_call 92; refine (within_is _ _ _ v h _).mono ?_; rintro e w' ⟨rfl, rfl⟩)
  go_ret
  exact ⟨rfl, rfl⟩
theorem l07Register_is (n : Int) (v : Bool) (h : inB n 0 23 = v) (w : World) : Calls Try.prog 60 #[.int .i64 n] w fun e w' => e = .returned (.bool v) ∧ w = w' := by
  go_enter Try.func60, Try.ntmps60
  go_wp2_with (go_at_call 98; refine (l00In_is _ _ _ v h _).mono ?_; rintro e w' ⟨rfl, rfl⟩)
  go_ret
  exact ⟨rfl, rfl⟩

set_option maxRecDepth 100000 in
set_option maxHeartbeats 400000 in
theorem validInstr_is (x : R4) (n : Nat) (v : Bool) (h : iOk n x = v) (w : World) :
    Calls Try.prog 102 #[.agg #[.int .i64 x.a, .int .i64 x.b, .int .i64 x.c, .int .i64 x.d], .int .i64 n] w fun e w' => e = .returned (.bool v) ∧ Below w.heap.size w w' := by
  have hB := laid_below w (.cells #[.int .i64 x.a, .int .i64 x.b, .int .i64 x.c, .int .i64 x.d] 77)
  have HV := Lib.hid h; clear h
  rcases Bool.eq_false_or_eq_true (inB x.b 0 23) with h | h
  rotate_left
  · have H1 := Lib.hid h; clear h
    have HW : Hid (v = false) := by unfold Hid; rw [← HV.out, iOk, H1.out]; rfl
    go_enter Try.func102, Try.ntmps102
    go_wp2_with fail
    refine (isRegister_is _ false H1.out _).mono ?_
    rintro e w1 ⟨rfl, rfl⟩
    go_wp2
    go_ret
    exact ⟨ret_bool HW.out.symm, hB⟩
  have H1 := Lib.hid h; clear h
  rcases Bool.eq_false_or_eq_true (inB x.c 0 n) with h | h
  rotate_left
  · have H2 := Lib.hid h; clear h
    have HW : Hid (v = false) := by unfold Hid; rw [← HV.out, iOk, H1.out, H2.out]; rfl
    go_enter Try.func102, Try.ntmps102
    go_wp2_with fail
    refine (isRegister_is _ true H1.out _).mono ?_
    rintro e w1 ⟨rfl, rfl⟩
    go_wp2_with fail
    refine (within_is _ _ _ false H2.out _).mono ?_
    rintro e w1 ⟨rfl, rfl⟩
    go_wp2
    go_ret
    exact ⟨ret_bool HW.out.symm, hB⟩
  have H2 := Lib.hid h; clear h
  by_cases h0 : x.a = 0
  · have e0 : (x.a == 0) = true := by simpa using h0
    have HW : Hid ((x.d == 0) = v) := by unfold Hid; rw [← HV.out, iOk, H1.out, H2.out]; simp [h0]; rfl
    clear h0
    go_enter Try.func102, Try.ntmps102
    go_wp2_with fail
    refine (isRegister_is _ true H1.out _).mono ?_
    rintro e w1 ⟨rfl, rfl⟩
    go_wp2_with fail
    refine (within_is _ _ _ true H2.out _).mono ?_
    rintro e w1 ⟨rfl, rfl⟩
    go_wp2
    go_ret
    exact ⟨ret_bool HW.out, hB⟩
  have e0 : (x.a == 0) = false := by simpa using h0
  by_cases h1 : x.a = 1
  · have e1 : (x.a == 1) = true := by simpa using h1
    have HW : Hid (inB x.d 0 n = v) := by unfold Hid; rw [← HV.out, iOk, H1.out, H2.out]; simp [h1]
    clear h0 h1
    go_enter Try.func102, Try.ntmps102
    go_wp2_with fail
    refine (isRegister_is _ true H1.out _).mono ?_
    rintro e w1 ⟨rfl, rfl⟩
    go_wp2_with fail
    refine (within_is _ _ _ true H2.out _).mono ?_
    rintro e w1 ⟨rfl, rfl⟩
    go_wp2_with fail
    refine (within_is _ _ _ v HW.out _).mono ?_
    rintro e w1 ⟨rfl, rfl⟩
    go_wp2
    go_ret
    exact ⟨rfl, hB⟩
  · have e1 : (x.a == 1) = false := by simpa using h1
    have HW : Hid (v = false) := by unfold Hid; rw [← HV.out, iOk, H1.out, H2.out]; simp [h0, h1]
    clear h0 h1
    go_enter Try.func102, Try.ntmps102
    go_wp2_with fail
    refine (isRegister_is _ true H1.out _).mono ?_
    rintro e w1 ⟨rfl, rfl⟩
    go_wp2_with fail
    refine (within_is _ _ _ true H2.out _).mono ?_
    rintro e w1 ⟨rfl, rfl⟩
    go_wp2
    go_ret
    exact ⟨ret_bool HW.out.symm, hB⟩

set_option maxRecDepth 100000 in
set_option maxHeartbeats 400000 in
theorem validProgram1_is (x : R4) (A : Option Addr) (n c g : Nat) (v : Bool) (h : (!iOk n x) = v) (w : World) (hg : w.cell? ⟨g, 0, none⟩ = some (.slice A n c)) :
    Calls Try.prog 101 #[.agg #[.int .i64 x.a, .int .i64 x.b, .int .i64 x.c, .int .i64 x.d], .pointer (some ⟨g, 0, none⟩)] w fun e w' => e = .returned (.bool v) ∧ Below w.heap.size w w' := by
  have hB := laid_below w (.cells #[.int .i64 x.a, .int .i64 x.b, .int .i64 x.c, .int .i64 x.d] 77)
  have hg1 := cell_step hg hB
  have HV : Hid (iOk n x = !v) := by unfold Hid; rw [← h]; simp
  clear h hg
  go_enter Try.func101, Try.ntmps101
  go_wp2
  go_region_with ((first | (go_at_call 67; refine (sizeOf_Instr_any _ _ _ _).mono ?_; rintro e w1 ⟨rfl, rfl⟩) | (go_at_call 102; refine (validInstr_is x n _ HV.out _).mono ?_; rintro e w2 ⟨rfl, hb2⟩)))
  all_goals
    go_wp2
    go_ret
    exact ⟨ret_bool (by simp), below_step hB (below_of_drew hb2)⟩

set_option maxRecDepth 100000 in
set_option maxHeartbeats 400000 in
theorem validProgram_is (A : Option Addr) (n c : Nat) (xs : List R4) (v : Bool) (hv : validP xs = v) (w : World) (ha : Args 4 w A n (rows R4.vs xs)) (hn : n ≤ 1048576) :
    Calls Try.prog 64 #[.slice A n c] w fun e w' => e = .returned (.bool v) ∧ Below w.heap.size w w' := by
  have HL : Hid (xs.length = n) := by have := ha.1; rw [rows_len R4.vs_len] at this; unfold Hid; omega
  have hB := laid_below w (.cells #[.slice A n c] 33)
  have HV := Lib.hid hv; clear hv
  by_cases h : n ≤ 400
  · have hi : (n : Int) ≤ 400 := by omega
    have HW : Hid (xs.any (fun x => !iOk n x) = !v) := by
      unfold Hid
      rw [← HV.out, validP, HL.out]
      simp only [decide_eq_true h, Bool.true_and]
      exact any_not _ xs
    have hcell : (w.alloc (.cells #[.slice A n c] 33)).cell? ⟨w.heap.size, 0, none⟩ = some (.slice A n c) := by simp [go_sem]
    have HC := Lib.hid hcell; clear hcell
    go_enter Try.func64, Try.ntmps64
    go_wp2_with fail
    refine (containsFuncAt_Instr 101 #[.pointer (some ⟨w.heap.size, 0, none⟩)] (fun x => !iOk n x) A n c xs _ (ha.below hB) hn (enters_of' Try.func101 (by kernel_rfl) rfl) (fun x u W _ hu hW => validProgram1_is x A n c w.heap.size u hu W (cell_step HC.out hW)) (!v) HW.out).mono ?_
    rintro e w1 ⟨rfl, hb1⟩
    go_wp2
    go_ret
    exact ⟨ret_bool (by simp), below_step hB hb1⟩
  · have hi : ¬ (n : Int) ≤ 400 := by omega
    have HW : Hid (v = false) := by unfold Hid; rw [← HV.out, validP, HL.out]; simp [h]
    go_enter Try.func64, Try.ntmps64
    go_wp2
    go_ret
    exact ⟨ret_bool HW.out.symm, hB⟩

theorem iOk_no1 {n : Int} {x : R4} (h : inB x.b 0 23 = false) : iOk n x = false := by simp [iOk, h]
theorem iOk_no2 {n : Int} {x : R4} (h : inB x.c 0 n = false) : iOk n x = false := by simp [iOk, h]

set_option maxRecDepth 100000 in
set_option maxHeartbeats 1000000 in
theorem l07Is_is (A : Option Addr) (n c : Nat) (xs : List R4) (v : Bool) (hv : validP xs = v) (w : World) (ha : Args 4 w A n (rows R4.vs xs)) (hn : n ≤ 1048576) :
    Calls Try.prog 59 #[.slice A n c] w fun e w' => e = .returned (.bool v) ∧ Below w.heap.size w w' := by
  have HL : Hid (xs.length = n) := by have := ha.1; rw [rows_len R4.vs_len] at this; unfold Hid; omega
  have HV : Hid (v = (decide (n ≤ 400) && xs.all (iOk n))) := by unfold Hid; rw [← hv, validP, HL.out]
  clear hv
  go_enter Try.func59, Try.ntmps59
  go_wp2
  go_loopw [4] (fun i wr => ∃ k : Nat, k ≤ n ∧ i = .int .i64 k ∧ Below w.heap.size w wr ∧ Hid (v = (decide (n ≤ 400) && (xs.drop k).all (iOk n)))) (fun i _ => n - (intOf i).toNat)
  case atStart => exact ⟨0, Nat.zero_le _, rfl, Below.refl _ _, by unfold Hid; rw [List.drop_zero]; exact HV.out⟩
  case round =>
    obtain ⟨k, hk, rfl, hB, HA⟩ := hrel
    by_cases hlt : k < n
    · obtain ⟨b, off, rfl, hs⟩ := ha.sl hlt
      obtain ⟨x, HX⟩ := hget HL hlt
      obtain ⟨p0, p1, p2, p3⟩ := (hs.below' hB).rec4 HX.out
      have HA2 : Hid (v = (decide (n ≤ 400) && (iOk n x && (xs.drop (k + 1)).all (iOk n)))) := by unfold Hid; rw [HA.out, drop_at HX.out]; simp
      rcases Bool.eq_false_or_eq_true (inB x.b 0 23) with h | h
      rotate_left
      · have H1 := Lib.hid h; clear h
        go_wp2_with fail
        refine (l07Register_is _ false H1.out _).mono ?_
        rintro e w1 ⟨rfl, hw⟩
        obtain ⟨c0, c1, c2, c3, hb1⟩ := alloc4 hw
        have hB1 := below_step hB hb1
        clear hw p0 p1 p2 p3 hb1
        go_wp2
        go_ret
        exact ⟨ret_bool (by rw [HA2.out, iOk_no1 H1.out]; simp), hB1⟩
      have H1 := Lib.hid h; clear h
      rcases Bool.eq_false_or_eq_true (inB x.c 0 n) with h | h
      rotate_left
      · have H2 := Lib.hid h; clear h
        go_wp2_with fail
        refine (l07Register_is _ true H1.out _).mono ?_
        rintro e w1 ⟨rfl, hw⟩
        obtain ⟨c0, c1, c2, c3, hb1⟩ := alloc4 hw
        have hB1 := below_step hB hb1
        clear hw p0 p1 p2 p3 hb1
        go_wp2_with fail
        refine (l00In_is _ _ _ false H2.out _).mono ?_
        rintro e w2 ⟨rfl, rfl⟩
        go_wp2
        go_ret
        exact ⟨ret_bool (by rw [HA2.out, iOk_no2 H2.out]; simp), hB1⟩
      have H2 := Lib.hid h; clear h
      go_wp2_with fail
      refine (l07Register_is _ true H1.out _).mono ?_
      rintro e w1 ⟨rfl, hw⟩
      obtain ⟨c0, c1, c2, c3, hb1⟩ := alloc4 hw
      have hB1 := below_step hB hb1
      clear hw p0 p1 p2 p3 hb1
      go_wp2_with fail
      refine (l00In_is _ _ _ true H2.out _).mono ?_
      rintro e w2 ⟨rfl, rfl⟩
      have HI : Hid (iOk n x = (if x.a = 0 then decide (x.d = 0) else decide (x.a = 1) && inB x.d 0 n)) := by unfold Hid; rw [iOk, H1.out, H2.out]; rfl
      by_cases h0 : x.a = 0
      · have e0 : (x.a == 0) = true := by simpa using h0
        have e0' : (x.a != 0) = false := by simpa using h0
        by_cases hd : x.d = 0
        · have e3 : (x.d != 0) = false := by simpa using hd
          have H3 : Hid (inB x.d 0 n = true) := by unfold Hid; rw [hd, inB_iff]; omega
          have H4 : Hid (iOk n x = true) := by unfold Hid; rw [HI.out, if_pos h0]; simp [hd]
          clear h0 hd
          go_wp2_with fail
          refine (l00In_is _ _ _ true H3.out _).mono ?_
          rintro e w2 ⟨rfl, rfl⟩
          go_wp2
          go_roundw
          case rel => exact ⟨k + 1, by omega, by go_num, hB1, by unfold Hid; rw [HA2.out, H4.out, Bool.true_and]⟩
          case measure => simp [intOf]; omega
        · have e3 : (x.d != 0) = true := by simpa using hd
          have H4 : Hid (iOk n x = false) := by unfold Hid; rw [HI.out, if_pos h0]; simp [hd]
          clear h0 hd
          go_wp2
          go_ret
          exact ⟨ret_bool (by rw [HA2.out, H4.out]; simp), hB1⟩
      · have e0 : (x.a == 0) = false := by simpa using h0
        have e0' : (x.a != 0) = true := by simpa using h0
        by_cases h1 : x.a = 1
        · have e1 : (x.a != 1) = false := by simpa using h1
          rcases Bool.eq_false_or_eq_true (inB x.d 0 n) with h | h
          · have H3 := Lib.hid h; clear h
            have H4 : Hid (iOk n x = true) := by unfold Hid; rw [HI.out, if_neg h0, H3.out]; simp [h1]
            clear h0 h1
            go_wp2_with fail
            refine (l00In_is _ _ _ true H3.out _).mono ?_
            rintro e w2 ⟨rfl, rfl⟩
            go_wp2
            go_roundw
            case rel => exact ⟨k + 1, by omega, by go_num, hB1, by unfold Hid; rw [HA2.out, H4.out, Bool.true_and]⟩
            case measure => simp [intOf]; omega
          · have H3 := Lib.hid h; clear h
            have H4 : Hid (iOk n x = false) := by unfold Hid; rw [HI.out, if_neg h0, H3.out]; simp
            clear h0 h1
            go_wp2_with fail
            refine (l00In_is _ _ _ false H3.out _).mono ?_
            rintro e w2 ⟨rfl, rfl⟩
            go_wp2
            go_ret
            exact ⟨ret_bool (by rw [HA2.out, H4.out]; simp), hB1⟩
        · have e1 : (x.a != 1) = true := by simpa using h1
          have H4 : Hid (iOk n x = false) := by unfold Hid; rw [HI.out, if_neg h0]; simp [h1]
          clear h0 h1
          go_wp2
          go_ret
          exact ⟨ret_bool (by rw [HA2.out, H4.out]; simp), hB1⟩
    · have HA2 : Hid (v = decide (n ≤ 400)) := by unfold Hid; rw [HA.out, List.drop_of_length_le (by have := HL.out; omega)]; simp
      by_cases h : n ≤ 400
      · have hi : (n : Int) ≤ 400 := by omega
        go_wp2
        go_ret
        exact ⟨ret_bool (by rw [HA2.out]; simp; omega), hB⟩
      · have hi : ¬ (n : Int) ≤ 400 := by omega
        go_wp2
        go_ret
        exact ⟨ret_bool (by rw [HA2.out]; simp; omega), hB⟩

end Go.Proofs.Ythjehhiaedfodaa
