/- Combinator terms: which are valid; combFollow, combEnd, ValidComb and the reference's l12Comb, l12CombEnd. -/
import Derived.Test.YtkiaclajjlidoaaGreatDoorTermComb
namespace Go.Proofs.YtkiaclajjlidoaaGreatDoor
open Go.RowKit
set_option linter.all false

def kFol (x : R2) : Nat := if x.a = 0 then 2 else 0
theorem kFol_le (x : R2) : kFol x ≤ 2 := by unfold kFol; split <;> omega
def kOk (x : R2) : Bool := inB x.a 0 4 && inB x.b 0 399 && (decide (x.a = 4) || decide (x.b = 0))
def validC (xs : List R2) : Bool := inB xs.length 1 400 && (xs.all kOk && fit kFol 1 xs)
theorem all_drop {α : Type} {p : α → Bool} {xs : List α} {k : Nat} {x : α} (h : xs[k]? = some x) : (xs.drop k).all p = (p x && (xs.drop (k + 1)).all p) := by rw [drop_at h]; simp

theorem combFollow_any (x : R2) (w : World) : Calls Tryz.prog 64 #[.agg #[.int .i64 x.a, .int .i64 x.b]] w fun e w' => e = .returned (.int .i64 (kFol x : Nat)) ∧ Below w.heap.size w w' := by
  obtain ⟨a, b⟩ := x
  have h0 : Below w.heap.size w (w.alloc (.cells #[.int .i64 a, .int .i64 b] 44)) := laid_below _ _
  by_cases h : a = 0
  · subst h
    go_enter Tryz.func64, Tryz.ntmps64
    go_wp2
    go_ret
    exact ⟨ret_int (by simp [kFol]), h0⟩
  · have e : (a == 0) = false := by simpa using h
    have HE : Hid (((kFol ⟨a, b⟩ : Nat) : Int) = 0) := by unfold Hid; simp [kFol, h]
    clear h
    go_enter Tryz.func64, Tryz.ntmps64
    go_wp2
    go_ret
    exact ⟨ret_int HE.out.symm, h0⟩

theorem combEnd_any (A : Option Addr) (n c k0 : Nat) (xs : List R2) (w : World) (ha : Args 2 w A n (rows R2.vs xs)) (hn : n ≤ 1048576) (hk0 : k0 ≤ n) :
    Calls Tryz.prog 45 #[.slice A n c, .int .i64 k0] w fun e w' => e = .returned (.int .i64 (tPos kFol k0 (xs.drop k0))) ∧ Below w.heap.size w w' := by
  go_enter Tryz.func45, Tryz.ntmps45
  go_wp2_with fail
  refine (termEnd_Comb_any 64 #[] kFol _ n c k0 xs _ ha hn hk0 kFol_le (enters_of' Tryz.func64 (by kernel_rfl) rfl) (fun x W => combFollow_any x W)).mono ?_
  rintro e w1 ⟨rfl, hb1⟩
  go_wp2
  go_ret
  exact ⟨rfl, hb1⟩

set_option maxRecDepth 100000 in
set_option maxHeartbeats 1000000 in
theorem validComb_is (A : Option Addr) (n c : Nat) (xs : List R2) (v : Bool) (hv : validC xs = v) (w : World) (ha : Args 2 w A n (rows R2.vs xs)) (hn : n ≤ 1048576) :
    Calls Tryz.prog 24 #[.slice A n c] w fun e w' => e = .returned (.bool v) ∧ Below w.heap.size w w' := by
  have HL : Hid (xs.length = n) := by have := ha.1; rw [rows_len R2.vs_len] at this; unfold Hid; omega
  rcases Bool.eq_false_or_eq_true (inB n 1 400) with h | h
  rotate_left
  · have HV : Hid (v = false) := by unfold Hid; rw [← hv, validC, HL.out, h]; rfl
    have H1 := Lib.hid h; clear h hv
    go_enter Tryz.func24, Tryz.ntmps24
    go_wp2_with fail
    refine (size_Comb_any _ _ _ _).mono ?_
    rintro e w1 ⟨rfl, rfl⟩
    go_wp2_with fail
    refine (within_is _ _ _ false H1.out _).mono ?_
    rintro e w1 ⟨rfl, rfl⟩
    go_wp2
    go_ret
    exact ⟨ret_bool HV.out.symm, Below.refl _ _⟩
  have HV : Hid (v = (xs.all kOk && fit kFol 1 xs)) := by unfold Hid; rw [← hv, validC, HL.out, h]; rfl
  have H1 := Lib.hid h; clear h hv
  have hn1 : n ≤ 400 := by have := (inB_iff _ _ _).1 H1.out; omega
  go_enter Tryz.func24, Tryz.ntmps24
  go_wp2_with fail
  refine (size_Comb_any _ _ _ _).mono ?_
  rintro e w1 ⟨rfl, rfl⟩
  go_wp2_with fail
  refine (within_is _ _ _ true H1.out _).mono ?_
  rintro e w1 ⟨rfl, rfl⟩
  go_wp2
  go_loopw [11] (fun i wr => ∃ k : Nat, k ≤ n ∧ i = .int .i64 k ∧ Below w.heap.size w wr ∧ Hid (xs.all kOk = (xs.drop k).all kOk)) (fun i _ => n - (intOf i).toNat)
  case atStart => exact ⟨0, Nat.zero_le _, rfl, Below.refl _ _, by unfold Hid; rw [List.drop_zero]⟩
  case round =>
    obtain ⟨k, hk, rfl, hB, HA⟩ := hrel
    by_cases hlt : k < n
    · obtain ⟨b, off, rfl, hs⟩ := ha.sl hlt
      obtain ⟨x, HX⟩ := hget HL hlt
      obtain ⟨p0, p1⟩ := (hs.below' hB).rec2 HX.out
      have HA2 := Lib.hid (HA.out.trans (all_drop HX.out))
      rcases Bool.eq_false_or_eq_true (inB x.a 0 4) with h | h
      rotate_left
      · have H2 := Lib.hid h; clear h
        go_wp2_with fail
        refine (within_is _ _ _ false H2.out _).mono ?_
        rintro e w1 ⟨rfl, hw⟩
        obtain ⟨c0, c1, hb1⟩ := alloc2 hw
        have hB1 := below_step hB hb1
        clear hw p0 p1 hb1
        go_wp2
        go_ret
        exact ⟨ret_bool (by rw [HV.out, HA2.out, kOk, H2.out]; rfl), hB1⟩
      have H2 := Lib.hid h; clear h
      rcases Bool.eq_false_or_eq_true (inB x.b 0 399) with h | h
      rotate_left
      · have H3 := Lib.hid h; clear h
        go_wp2_with fail
        refine (within_is _ _ _ true H2.out _).mono ?_
        rintro e w1 ⟨rfl, hw⟩
        obtain ⟨c0, c1, hb1⟩ := alloc2 hw
        have hB1 := below_step hB hb1
        clear hw p0 p1 hb1
        go_wp2_with fail
        refine (within_is _ _ _ false H3.out _).mono ?_
        rintro e w2 ⟨rfl, rfl⟩
        go_wp2
        go_ret
        exact ⟨ret_bool (by rw [HV.out, HA2.out, kOk, H2.out, H3.out]; rfl), hB1⟩
      have H3 := Lib.hid h; clear h
      by_cases h1 : x.a = 4
      · have e1 : (x.a != 4) = false := by simpa using h1
        have H4 : Hid (kOk x = true) := by unfold Hid; rw [kOk, H2.out, H3.out]; simp [h1]
        clear h1
        go_wp2_with fail
        refine (within_is _ _ _ true H2.out _).mono ?_
        rintro e w1 ⟨rfl, hw⟩
        obtain ⟨c0, c1, hb1⟩ := alloc2 hw
        have hB1 := below_step hB hb1
        clear hw p0 p1 hb1
        go_wp2_with fail
        refine (within_is _ _ _ true H3.out _).mono ?_
        rintro e w2 ⟨rfl, rfl⟩
        go_wp2
        go_roundw
        case rel => exact ⟨k + 1, by omega, by go_num, hB1, by unfold Hid; rw [HA2.out, H4.out, Bool.true_and]⟩
        case measure => simp [intOf]; omega
      · have e1 : (x.a != 4) = true := by simpa using h1
        by_cases h2 : x.b = 0
        · have e2 : (x.b != 0) = false := by simpa using h2
          have H4 : Hid (kOk x = true) := by unfold Hid; rw [kOk, H2.out, H3.out]; simp [h2]
          clear h1 h2
          go_wp2_with fail
          refine (within_is _ _ _ true H2.out _).mono ?_
          rintro e w1 ⟨rfl, hw⟩
          obtain ⟨c0, c1, hb1⟩ := alloc2 hw
          have hB1 := below_step hB hb1
          clear hw p0 p1 hb1
          go_wp2_with fail
          refine (within_is _ _ _ true H3.out _).mono ?_
          rintro e w2 ⟨rfl, rfl⟩
          go_wp2
          go_roundw
          case rel => exact ⟨k + 1, by omega, by go_num, hB1, by unfold Hid; rw [HA2.out, H4.out, Bool.true_and]⟩
          case measure => simp [intOf]; omega
        · have e2 : (x.b != 0) = true := by simpa using h2
          have H4 : Hid (kOk x = false) := by unfold Hid; rw [kOk, H2.out, H3.out]; simp [h1, h2]
          clear h1 h2
          go_wp2_with fail
          refine (within_is _ _ _ true H2.out _).mono ?_
          rintro e w1 ⟨rfl, hw⟩
          obtain ⟨c0, c1, hb1⟩ := alloc2 hw
          have hB1 := below_step hB hb1
          clear hw p0 p1 hb1
          go_wp2_with fail
          refine (within_is _ _ _ true H3.out _).mono ?_
          rintro e w2 ⟨rfl, rfl⟩
          go_wp2
          go_ret
          exact ⟨ret_bool (by rw [HV.out, HA2.out, H4.out]; rfl), hB1⟩
    · have HA2 : Hid (v = fit kFol 1 xs) := by unfold Hid; rw [HV.out, HA.out, List.drop_of_length_le (by have := HL.out; omega)]; rfl
      have HP := Lib.hid (fit_pos kFol xs)
      rw [HL.out, ← HA2.out] at HP
      go_wp2_with fail
      refine (combEnd_any _ n c 0 xs _ (ha.below hB) hn (Nat.zero_le _)).mono ?_
      rintro e w1 ⟨rfl, hb1⟩
      have hB1 := below_step hB hb1
      go_wp2
      go_ret
      exact ⟨ret_bool (by rw [← HP.out]; rfl), hB1⟩

set_option maxRecDepth 100000 in
set_option maxHeartbeats 1000000 in
theorem l12Comb_is (A : Option Addr) (n c : Nat) (xs : List R2) (v : Bool) (hv : validC xs = v) (w : World) (ha : Args 2 w A n (rows R2.vs xs)) (hn : n ≤ 1048576) :
    Calls Tryz.prog 20 #[.slice A n c] w fun e w' => e = .returned (.bool v) ∧ w = w' := by
  have HL : Hid (xs.length = n) := by have := ha.1; rw [rows_len R2.vs_len] at this; unfold Hid; omega
  rcases Bool.eq_false_or_eq_true (inB n 1 400) with h | h
  rotate_left
  · have HV : Hid (v = false) := by unfold Hid; rw [← hv, validC, HL.out, h]; rfl
    clear hv
    rcases (inB_false _ _ _).1 h with h | h
    · have h1 : n < 1 := by omega
      clear h
      go_enter Tryz.func20, Tryz.ntmps20
      go_wp2
      go_ret
      exact ⟨ret_bool HV.out.symm, rfl⟩
    · have h1 : ¬ n < 1 := by omega
      have h2 : 400 < n := by omega
      clear h
      go_enter Tryz.func20, Tryz.ntmps20
      go_wp2
      go_ret
      exact ⟨ret_bool HV.out.symm, rfl⟩
  have HV : Hid (v = (xs.all kOk && fit kFol 1 xs)) := by unfold Hid; rw [← hv, validC, HL.out, h]; rfl
  have hn1 : n ≤ 400 := by have := (inB_iff _ _ _).1 h; omega
  have hn0 : ¬ n < 1 := by have := (inB_iff _ _ _).1 h; omega
  clear h hv
  go_enter Tryz.func20, Tryz.ntmps20
  go_wp2
  go_loop [3, 4] (fun o i => ∃ k op : Nat, k ≤ n ∧ op ≤ 2 * k + 1 ∧ i = .int .i64 k ∧ o = .int .i64 op ∧ Hid (v = ((xs.drop k).all kOk && fit kFol op (xs.drop k)))) (fun _ i => n - (intOf i).toNat)
  case atStart => exact ⟨0, 1, Nat.zero_le _, by omega, rfl, rfl, by unfold Hid; rw [List.drop_zero]; exact HV.out⟩
  case round =>
    obtain ⟨k, op, hk, hop, rfl, rfl, HA⟩ := hrel
    by_cases hlt : k < n
    · obtain ⟨b, off, rfl, hs⟩ := ha.sl hlt
      obtain ⟨x, HX⟩ := hget HL hlt
      obtain ⟨p0, p1⟩ := hs.rec2 HX.out
      have HA2 : Hid (v = ((kOk x && (xs.drop (k + 1)).all kOk) && fit kFol op (x :: xs.drop (k + 1)))) := by unfold Hid; rw [HA.out, all_drop HX.out]; congr 2; exact drop_at HX.out
      by_cases ho : op = 0
      · subst ho
        go_wp2
        go_ret
        exact ⟨ret_bool (by rw [HA2.out, fit_0c]; simp), rfl⟩
      have hoi : ((op : Int) == 0) = false := by simp; omega
      obtain ⟨q, rfl⟩ : ∃ q, op = q + 1 := ⟨op - 1, by omega⟩
      have HA3 : Hid (v = ((kOk x && (xs.drop (k + 1)).all kOk) && fit kFol (q + kFol x) (xs.drop (k + 1)))) := by unfold Hid; rw [HA2.out, fit_sc]
      clear ho HA2
      rcases Bool.eq_false_or_eq_true (inB x.a 0 4) with h | h
      rotate_left
      · have H2 := Lib.hid h; clear h
        go_wp2_with fail
        refine (l00In_is _ _ _ false H2.out _).mono ?_
        rintro e w1 ⟨rfl, rfl⟩
        go_wp2
        go_ret
        exact ⟨ret_bool (by rw [HA3.out, kOk, H2.out]; rfl), rfl⟩
      have H2 := Lib.hid h; clear h
      have hf := kFol_le x
      by_cases h1 : x.a = 4
      · have e1 : (x.a == 4) = true := by simpa using h1
        have e1' : (x.a != 4) = false := by simpa using h1
        rcases Bool.eq_false_or_eq_true (inB x.b 0 399) with h | h
        · have H3 := Lib.hid h; clear h
          have H4 : Hid (kOk x = true) := by unfold Hid; rw [kOk, H2.out, H3.out]; simp [h1]
          have e0 : (x.a == 0) = false := by rw [h1]; rfl
          have HK : Hid (kFol x = 0) := by unfold Hid kFol; rw [h1]; rfl
          clear h1
          go_wp2_with fail
          refine (l00In_is _ _ _ true H2.out _).mono ?_
          rintro e w1 ⟨rfl, rfl⟩
          go_wp2_with fail
          refine (l00In_is _ _ _ true H3.out _).mono ?_
          rintro e w1 ⟨rfl, rfl⟩
          go_wp2
          go_round
          case rel => exact ⟨k + 1, q, by omega, by omega, by go_num, (by first | (congr 1; done) | (congr 1; omega)), (by unfold Hid; rw [HA3.out, H4.out, Bool.true_and, HK.out]; try rfl)⟩
          case measure => simp [intOf]; omega
        · have H3 := Lib.hid h; clear h
          clear h1
          go_wp2_with fail
          refine (l00In_is _ _ _ true H2.out _).mono ?_
          rintro e w1 ⟨rfl, rfl⟩
          go_wp2_with fail
          refine (l00In_is _ _ _ false H3.out _).mono ?_
          rintro e w1 ⟨rfl, rfl⟩
          go_wp2
          go_ret
          exact ⟨ret_bool (by rw [HA3.out, kOk, H2.out, H3.out]; rfl), rfl⟩
      · have e1 : (x.a == 4) = false := by simpa using h1
        have e1' : (x.a != 4) = true := by simpa using h1
        by_cases h2 : x.b = 0
        · have e2 : (x.b != 0) = false := by simpa using h2
          have H4 : Hid (kOk x = true) := by unfold Hid; rw [kOk, H2.out]; simp [h2, inB]
          by_cases h0 : x.a = 0
          · have e0 : (x.a == 0) = true := by simp [h0]
            have HK : Hid (kFol x = 2) := by unfold Hid kFol; simp [h0]
            clear h1 h2 h0
            go_wp2_with fail
            refine (l00In_is _ _ _ true H2.out _).mono ?_
            rintro e w1 ⟨rfl, rfl⟩
            go_wp2
            go_round
            case rel => exact ⟨k + 1, q + 2, by omega, by omega, by go_num, (by first | (congr 1; done) | (congr 1; omega)), (by unfold Hid; rw [HA3.out, H4.out, Bool.true_and, HK.out]; try rfl)⟩
            case measure => simp [intOf]; omega
          · have e0 : (x.a == 0) = false := by simp [h0]
            have HK : Hid (kFol x = 0) := by unfold Hid kFol; simp [h0]
            clear h1 h2 h0
            go_wp2_with fail
            refine (l00In_is _ _ _ true H2.out _).mono ?_
            rintro e w1 ⟨rfl, rfl⟩
            go_wp2
            go_round
            case rel => exact ⟨k + 1, q, by omega, by omega, by go_num, (by first | (congr 1; done) | (congr 1; omega)), (by unfold Hid; rw [HA3.out, H4.out, Bool.true_and, HK.out]; try rfl)⟩
            case measure => simp [intOf]; omega
        · have e2 : (x.b != 0) = true := by simpa using h2
          have H4 : Hid (kOk x = false) := by unfold Hid; rw [kOk]; simp [h1, h2]
          clear h1 h2
          go_wp2_with fail
          refine (l00In_is _ _ _ true H2.out _).mono ?_
          rintro e w1 ⟨rfl, rfl⟩
          go_wp2
          go_ret
          exact ⟨ret_bool (by rw [HA3.out, H4.out]; rfl), rfl⟩
    · have HA2 : Hid (v = fit kFol op []) := by unfold Hid; rw [HA.out, List.drop_of_length_le (by have := HL.out; omega)]; rfl
      by_cases ho : op = 0
      · subst ho
        go_wp2
        go_ret
        exact ⟨ret_bool (by rw [HA2.out, fit_00]), rfl⟩
      · have hoi : ((op : Int) == 0) = false := by simp; omega
        obtain ⟨q, rfl⟩ : ∃ q, op = q + 1 := ⟨op - 1, by omega⟩
        clear ho
        go_wp2
        go_ret
        exact ⟨ret_bool (by rw [HA2.out, fit_s0]; simp; omega), rfl⟩

end Go.Proofs.YtkiaclajjlidoaaGreatDoor
