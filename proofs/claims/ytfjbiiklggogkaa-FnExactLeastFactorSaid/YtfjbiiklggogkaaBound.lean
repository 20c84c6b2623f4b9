/- BoundHolds and LeastFactor, the reference's and the program's. -/
import Derived.Test.YtfjbiiklggogkaaNums
namespace Go.Proofs.Ytfjbiiklggogkaa
open Go.RowKit
set_option linter.all false

def readyB (xs : List Int) (f d c : Int) : Bool := decide (xs.length ≤ 64) && xs.all (inB · (-1) 1000000000000) && inB f 0 1000000000000 && inB c 0 1000000000000 && inB d 0 4

theorem pow_le (i d : Nat) (hi : i ≤ 64) (hd : d ≤ 4) : i ^ d ≤ 16777216 := by
  have h1 : i ^ d ≤ 64 ^ d := Nat.pow_le_pow_left hi d
  have h2 : 64 ^ d ≤ 64 ^ 4 := Nat.pow_le_pow_right (by omega) hd
  have h3 : (64 : Nat) ^ 4 = 16777216 := by decide
  omega

theorem l00Min_any (a b : Int) (w : World) : Calls Try.prog 115 #[.int .i64 a, .int .i64 b] w fun e w' => e = .returned (.int .i64 (min a b)) ∧ w = w' := by
  by_cases h : a < b
  · go_enter Try.func115, Try.ntmps115
    go_wp2
    go_ret
    exact ⟨ret_int (by omega), rfl⟩
  · go_enter Try.func115, Try.ntmps115
    go_wp2
    go_ret
    exact ⟨ret_int (by omega), rfl⟩
theorem l00Max_any (a b : Int) (w : World) : Calls Try.prog 66 #[.int .i64 a, .int .i64 b] w fun e w' => e = .returned (.int .i64 (max a b)) ∧ w = w' := by
  by_cases h : b < a
  · go_enter Try.func66, Try.ntmps66
    go_wp2
    go_ret
    exact ⟨ret_int (by omega), rfl⟩
  · go_enter Try.func66, Try.ntmps66
    go_wp2
    go_ret
    exact ⟨ret_int (by omega), rfl⟩

theorem l00Min_is (a b r : Int) (h : min a b = r) (w : World) : Calls Try.prog 115 #[.int .i64 a, .int .i64 b] w fun e w' => e = .returned (.int .i64 r) ∧ w = w' := by
  subst h; exact l00Min_any a b w
theorem l00Max_is (a b r : Int) (h : max a b = r) (w : World) : Calls Try.prog 66 #[.int .i64 a, .int .i64 b] w fun e w' => e = .returned (.int .i64 r) ∧ w = w' := by
  subst h; exact l00Max_any a b w
set_option maxHeartbeats 400000 in
theorem l20Power_any (i d : Nat) (w : World) (hi : i ≤ 64) (hd : d ≤ 4) : Calls Try.prog 63 #[.int .i64 i, .int .i64 d] w fun e w' => e = .returned (.int .i64 (i ^ d : Nat)) ∧ w = w' := by
  go_enter Try.func63, Try.ntmps63
  go_wp2_with fail
  go_loop [1, 5] (fun dd o => ∃ k j : Nat, k + j = d ∧ dd = .int .i64 k ∧ o = .int .i64 (i ^ j : Nat)) (fun dd _ => (intOf dd).toNat)
  case atStart => exact ⟨d, 0, rfl, rfl, by simp⟩
  case round =>
    obtain ⟨k, j, hkj, rfl, rfl⟩ := hrel
    have HK := Lib.hid hkj
    have hk : k ≤ 4 := by omega
    clear hkj
    rcases Nat.eq_zero_or_pos k with h0 | h0
    · subst h0
      go_wp2_with fail
      go_ret
      obtain rfl : j = d := by have := HK.out; omega
      exact ⟨rfl, rfl⟩
    · have hp := pow_le i (j + 1) hi (by have := HK.out; omega)
      rw [Nat.pow_succ] at hp
      have HP := Lib.hid (Nat.pow_succ (n := i) (m := j))
      generalize i ^ j = y at *
      have hmul : ((y : Int) * (i : Int)) = ((y * i : Nat) : Int) := by simp
      have hw : IntKind.i64.wrap ((y : Int) * (i : Int)) = ((y * i : Nat) : Int) := by rw [hmul]; exact IntWalk.i64_in _ (by omega)
      have HW := Lib.hid hmul
      clear hmul
      generalize y * i = z at *
      go_wp2_with fail
      refine (l00Min_is z 1000000000001 z (by omega) _).mono ?_
      rintro e w' ⟨rfl, rfl⟩
      clear hw
      go_wp2_with fail
      go_round
      case rel => exact ⟨k - 1, j + 1, by have := HK.out; omega, by go_num, by rw [HP.out]⟩
      case measure => simp [intOf]; omega

set_option maxHeartbeats 400000 in
theorem powerOf_any (i d : Nat) (w : World) (hi : i ≤ 64) (hd : d ≤ 4) : Calls Try.prog 65 #[.int .i64 i, .int .i64 d] w fun e w' => e = .returned (.tuple #[.int .i64 (i ^ d : Nat), .int .i64 0]) ∧ w = w' := by
  go_enter Try.func65, Try.ntmps65
  go_wp2_with fail
  refine (within_is i 0 1000000000000 true (by rw [inB_iff]; omega) _).mono ?_
  rintro e w' ⟨rfl, rfl⟩
  go_wp2_with fail
  refine (within_is d 0 64 true (by rw [inB_iff]; omega) _).mono ?_
  rintro e w' ⟨rfl, rfl⟩
  go_wp2_with fail
  go_loop [1, 6] (fun dd o => ∃ k j : Nat, k + j = d ∧ dd = .int .i64 k ∧ o = .int .i64 (i ^ j : Nat)) (fun dd _ => (intOf dd).toNat)
  case atStart => exact ⟨d, 0, rfl, rfl, by simp⟩
  case round =>
    obtain ⟨k, j, hkj, rfl, rfl⟩ := hrel
    have HK := Lib.hid hkj
    have hk : k ≤ 4 := by omega
    clear hkj
    rcases Nat.eq_zero_or_pos k with h0 | h0
    · subst h0
      go_wp2_with fail
      go_ret2
      obtain rfl : j = d := by have := HK.out; omega
      exact ⟨rfl, rfl⟩
    · have hp := pow_le i (j + 1) hi (by have := HK.out; omega)
      have hp0 := pow_le i j hi (by have := HK.out; omega)
      rw [Nat.pow_succ] at hp
      have HP := Lib.hid (Nat.pow_succ (n := i) (m := j))
      generalize i ^ j = y at *
      have hmul : ((y : Int) * (i : Int)) = ((y * i : Nat) : Int) := by simp
      have hw : IntKind.i64.wrap ((y : Int) * (i : Int)) = ((y * i : Nat) : Int) := by rw [hmul]; exact IntWalk.i64_in _ (by omega)
      clear hmul
      generalize y * i = z at *
      rcases Nat.eq_zero_or_pos i with hi0 | hi0
      · subst hi0
        have hd0 : decide ((0 : Int) < ((0 : Nat) : Int)) = false := by simp
        have hw2 : IntKind.i64.wrap ((y : Int) * 0) = (z : Int) := by simpa using hw
        have hw3 : IntKind.i64.wrap 0 = (z : Int) := by simpa using hw2
        go_wp2_with fail
        go_round
        case rel => exact ⟨k - 1, j + 1, by have := HK.out; omega, by go_num, by rw [HP.out]⟩
        case measure => simp [intOf]; omega
      · have hq : (y : Int) ≤ 1000000000000 / (i : Int) := by
          apply Int.le_ediv_of_mul_le (by omega)
          have h1 : y * i ≤ 16777216 * 64 := Nat.mul_le_mul hp0 hi
          have h2 : ((y * i : Nat) : Int) ≤ 1000000000000 := by omega
          rw [Int.natCast_mul] at h2
          exact h2
        go_wp2_with fail
        go_round
        case rel => exact ⟨k - 1, j + 1, by have := HK.out; omega, by go_num, by rw [HP.out]⟩
        case measure => simp [intOf]; omega

set_option maxRecDepth 100000 in
set_option maxHeartbeats 1000000 in
theorem l20Ready_is (b off n cc : Nat) (xs : List Int) (f d c : Int) (v : Bool) (hv : readyB xs f d c = v) (w : World) (hs : Sl w b off (xs.map (.int .i64))) (hl : xs.length = n) (hn : n ≤ 4194304) :
    Calls Try.prog 61 #[.slice (some ⟨b, off, none⟩) n cc, .int .i64 f, .int .i64 d, .int .i64 c] w fun e w' => e = .returned (.bool v) ∧ w = w' := by
  subst hv
  have HL := Lib.hid hl; clear hl
  by_cases h64 : n ≤ 64
  rotate_left
  · have HF : Hid (readyB xs f d c = false) := by have := HL.out; unfold Hid readyB; rw [decide_eq_false (by omega)]; simp
    go_enter Try.func61, Try.ntmps61
    go_wp2_with fail
    go_ret
    exact ⟨ret_bool HF.out.symm, rfl⟩
  rcases Bool.eq_false_or_eq_true (inB f 0 1000000000000) with hf | hf
  rotate_left
  · have H1 := Lib.hid hf; clear hf
    have HF : Hid (readyB xs f d c = false) := by unfold Hid readyB; rw [H1.out]; simp
    go_enter Try.func61, Try.ntmps61
    go_wp2_with fail
    refine (l00In_is f 0 1000000000000 false H1.out _).mono ?_
    rintro e w' ⟨rfl, rfl⟩
    go_wp2_with fail
    go_ret
    exact ⟨ret_bool HF.out.symm, rfl⟩
  have H1 := Lib.hid hf; clear hf
  rcases Bool.eq_false_or_eq_true (inB c 0 1000000000000) with hc | hc
  rotate_left
  · have H2 := Lib.hid hc; clear hc
    have HF : Hid (readyB xs f d c = false) := by unfold Hid readyB; rw [H2.out]; simp
    go_enter Try.func61, Try.ntmps61
    go_wp2_with fail
    refine (l00In_is f 0 1000000000000 true H1.out _).mono ?_
    rintro e w' ⟨rfl, rfl⟩
    go_wp2_with fail
    refine (l00In_is c 0 1000000000000 false H2.out _).mono ?_
    rintro e w' ⟨rfl, rfl⟩
    go_wp2_with fail
    go_ret
    exact ⟨ret_bool HF.out.symm, rfl⟩
  have H2 := Lib.hid hc; clear hc
  rcases Bool.eq_false_or_eq_true (inB d 0 4) with hd | hd
  rotate_left
  · have H3 := Lib.hid hd; clear hd
    have HF : Hid (readyB xs f d c = false) := by unfold Hid readyB; rw [H3.out]; simp
    go_enter Try.func61, Try.ntmps61
    go_wp2_with fail
    refine (l00In_is f 0 1000000000000 true H1.out _).mono ?_
    rintro e w' ⟨rfl, rfl⟩
    go_wp2_with fail
    refine (l00In_is c 0 1000000000000 true H2.out _).mono ?_
    rintro e w' ⟨rfl, rfl⟩
    go_wp2_with fail
    refine (l00In_is d 0 4 false H3.out _).mono ?_
    rintro e w' ⟨rfl, rfl⟩
    go_wp2_with fail
    go_ret
    exact ⟨ret_bool HF.out.symm, rfl⟩
  have H3 := Lib.hid hd; clear hd
  have HE : Hid (readyB xs f d c = xs.all (inB · (-1) 1000000000000)) := by have := HL.out; unfold Hid readyB; rw [H1.out, H2.out, H3.out, decide_eq_true (by omega)]; simp
  go_enter Try.func61, Try.ntmps61
  go_wp2_with fail
  refine (l00In_is f 0 1000000000000 true H1.out _).mono ?_
  rintro e w' ⟨rfl, rfl⟩
  go_wp2_with fail
  refine (l00In_is c 0 1000000000000 true H2.out _).mono ?_
  rintro e w' ⟨rfl, rfl⟩
  go_wp2_with fail
  refine (l00In_is d 0 4 true H3.out _).mono ?_
  rintro e w' ⟨rfl, rfl⟩
  go_wp2_with fail
  go_loop [9] (fun i => ∃ k : Nat, k ≤ n ∧ i = .int .i64 k ∧ Hid (∀ j x, j < k → xs[j]? = some x → inB x (-1) 1000000000000 = true)) (fun i => n - (intOf i).toNat)
  case atStart => exact ⟨0, Nat.zero_le _, rfl, by intro j x hj; omega⟩
  case round =>
    obtain ⟨k, hk, rfl, HR⟩ := hrel
    by_cases hlt : k < n
    · obtain ⟨y, HY, hy⟩ := map_at (Value.int .i64) xs (k := k) (by have := HL.out; omega)
      have hcb := hs.at hy
      clear hy
      rcases Bool.eq_false_or_eq_true (inB y (-1) 1000000000000) with hb | hb
      rotate_left
      · have HB := Lib.hid hb
        clear hb
        go_wp2_with (go_at_call 79; refine (l00In_is y _ _ _ HB.out _).mono ?_; rintro e w' ⟨rfl, rfl⟩)
        go_ret
        exact ⟨ret_bool (by rw [HE.out, all_no (p := (inB · (-1) 1000000000000)) HY.out HB.out]), rfl⟩
      · have HB := Lib.hid hb
        clear hb
        go_wp2_with (go_at_call 79; refine (l00In_is y _ _ _ HB.out _).mono ?_; rintro e w' ⟨rfl, rfl⟩)
        go_round
        case rel => exact ⟨k + 1, by omega, by go_num, by
          intro j x hj hx
          by_cases ej : j = k
          · subst ej
            have h2 := HY.out
            rw [hx] at h2; injection h2 with h2; subst h2; exact HB.out
          · exact HR.out j x (by omega) hx⟩
        case measure => simp [intOf]; omega
    · go_wp2_with fail
      go_ret
      refine ⟨ret_bool ?_, rfl⟩
      symm
      have hl := HL.out
      rw [HE.out, List.all_eq_true]
      intro x hx
      obtain ⟨j, hj⟩ := List.getElem?_of_mem hx
      exact HR.out j x (by have := (List.getElem?_eq_some_iff.1 hj).1; omega) hj

theorem allWithin_is (b off n c : Nat) (xs : List Int) (lo hi : Int) (v : Bool) (hv : xs.all (inB · lo hi) = v) (w : World) (hs : Sl w b off (xs.map (.int .i64))) (hl : xs.length = n) (hn : n ≤ 4194304) :
    Calls Try.prog 71 #[.slice (some ⟨b, off, none⟩) n c, .int .i64 lo, .int .i64 hi] w fun e w' => e = .returned (.bool v) ∧ w = w' := by
  subst hv; exact allWithin_any b off n c xs lo hi w hs hl hn

set_option maxRecDepth 100000 in
set_option maxHeartbeats 1000000 in
theorem boundCode_is (b off n cc : Nat) (xs : List Int) (f d c : Int) (v : Int) (hv : (if readyB xs f d c then 0 else 2) = v) (w : World) (hs : Sl w b off (xs.map (.int .i64))) (hl : xs.length = n) (hn : n ≤ 4194304) :
    Calls Try.prog 64 #[.slice (some ⟨b, off, none⟩) n cc, .int .i64 f, .int .i64 d, .int .i64 c] w fun e w' => e = .returned (.int .i64 v) ∧ w = w' := by
  have HV := Lib.hid hv
  clear hv
  have HL := Lib.hid hl; clear hl
  by_cases h64 : n ≤ 64
  rotate_left
  · have HF : Hid (readyB xs f d c = false) := by have := HL.out; unfold Hid readyB; rw [decide_eq_false (by omega)]; simp
    have HV2 : Hid (2 = v) := by have := HV.out; rw [HF.out] at this; exact this
    go_enter Try.func64, Try.ntmps64
    go_wp2_with fail
    go_ret
    exact ⟨ret_int HV2.out, rfl⟩
  rcases Bool.eq_false_or_eq_true (xs.all (inB · (-1) 1000000000000)) with hf | hf
  rotate_left
  · have H0 := Lib.hid hf; clear hf
    have HF : Hid (readyB xs f d c = false) := by unfold Hid readyB; rw [H0.out]; simp
    have HV2 : Hid (2 = v) := by have := HV.out; rw [HF.out] at this; exact this
    go_enter Try.func64, Try.ntmps64
    go_wp2_with fail
    refine (allWithin_is b off n cc xs _ _ false H0.out _ hs HL.out hn).mono ?_
    rintro e w' ⟨rfl, rfl⟩
    go_wp2_with fail
    go_ret
    exact ⟨ret_int HV2.out, rfl⟩
  have H0 := Lib.hid hf; clear hf
  rcases Bool.eq_false_or_eq_true (inB f 0 1000000000000) with hf | hf
  rotate_left
  · have H1 := Lib.hid hf; clear hf
    have HF : Hid (readyB xs f d c = false) := by unfold Hid readyB; rw [H1.out]; simp
    have HV2 : Hid (2 = v) := by have := HV.out; rw [HF.out] at this; exact this
    go_enter Try.func64, Try.ntmps64
    go_wp2_with fail
    refine (allWithin_is b off n cc xs _ _ true H0.out _ hs HL.out hn).mono ?_
    rintro e w' ⟨rfl, rfl⟩
    go_wp2_with fail
    refine (within_is f 0 1000000000000 false H1.out _).mono ?_
    rintro e w' ⟨rfl, rfl⟩
    go_wp2_with fail
    go_ret
    exact ⟨ret_int HV2.out, rfl⟩
  have H1 := Lib.hid hf; clear hf
  rcases Bool.eq_false_or_eq_true (inB c 0 1000000000000) with hc | hc
  rotate_left
  · have H2 := Lib.hid hc; clear hc
    have HF : Hid (readyB xs f d c = false) := by unfold Hid readyB; rw [H2.out]; simp
    have HV2 : Hid (2 = v) := by have := HV.out; rw [HF.out] at this; exact this
    go_enter Try.func64, Try.ntmps64
    go_wp2_with fail
    refine (allWithin_is b off n cc xs _ _ true H0.out _ hs HL.out hn).mono ?_
    rintro e w' ⟨rfl, rfl⟩
    go_wp2_with fail
    refine (within_is f 0 1000000000000 true H1.out _).mono ?_
    rintro e w' ⟨rfl, rfl⟩
    go_wp2_with fail
    refine (within_is c 0 1000000000000 false H2.out _).mono ?_
    rintro e w' ⟨rfl, rfl⟩
    go_wp2_with fail
    go_ret
    exact ⟨ret_int HV2.out, rfl⟩
  have H2 := Lib.hid hc; clear hc
  rcases Bool.eq_false_or_eq_true (inB d 0 4) with hd | hd
  rotate_left
  · have H3 := Lib.hid hd; clear hd
    have HF : Hid (readyB xs f d c = false) := by unfold Hid readyB; rw [H3.out]; simp
    have HV2 : Hid (2 = v) := by have := HV.out; rw [HF.out] at this; exact this
    go_enter Try.func64, Try.ntmps64
    go_wp2_with fail
    refine (allWithin_is b off n cc xs _ _ true H0.out _ hs HL.out hn).mono ?_
    rintro e w' ⟨rfl, rfl⟩
    go_wp2_with fail
    refine (within_is f 0 1000000000000 true H1.out _).mono ?_
    rintro e w' ⟨rfl, rfl⟩
    go_wp2_with fail
    refine (within_is c 0 1000000000000 true H2.out _).mono ?_
    rintro e w' ⟨rfl, rfl⟩
    go_wp2_with fail
    refine (within_is d 0 4 false H3.out _).mono ?_
    rintro e w' ⟨rfl, rfl⟩
    go_wp2_with fail
    go_ret
    exact ⟨ret_int HV2.out, rfl⟩
  have H3 := Lib.hid hd; clear hd
  have HV2 : Hid (0 = v) := by have := HL.out; have := HV.out; unfold readyB at this; rw [H0.out, H1.out, H2.out, H3.out, decide_eq_true (by omega)] at this; exact this
  go_enter Try.func64, Try.ntmps64
  go_wp2_with fail
  refine (allWithin_is b off n cc xs _ _ true H0.out _ hs HL.out hn).mono ?_
  rintro e w' ⟨rfl, rfl⟩
  go_wp2_with fail
  refine (within_is f 0 1000000000000 true H1.out _).mono ?_
  rintro e w' ⟨rfl, rfl⟩
  go_wp2_with fail
  refine (within_is c 0 1000000000000 true H2.out _).mono ?_
  rintro e w' ⟨rfl, rfl⟩
  go_wp2_with fail
  refine (within_is d 0 4 true H3.out _).mono ?_
  rintro e w' ⟨rfl, rfl⟩
  go_wp2_with fail
  go_ret
  exact ⟨ret_int HV2.out, rfl⟩
end Go.Proofs.Ytfjbiiklggogkaa

