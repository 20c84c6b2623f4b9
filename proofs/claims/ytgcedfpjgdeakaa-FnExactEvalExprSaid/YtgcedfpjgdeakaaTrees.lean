/- Trees as lists of nodes: where a tree ends, and whether a list is one; the reference's and the program's. -/
import Derived.Test.YtgcedfpjgdeakaaNums
import Derived.Test.YtgcedfpjgdeakaaTreesPlain
namespace Go.Proofs.Ytgcedfpjgdeakaa
open Go.RowKit
set_option linter.all false

/-- Where the tree from k on ends: (end, true), or (length, false). -/
def endAt (t : List Bool) (k : Nat) : Nat × Bool := match scan 1 (t.drop k) with
  | some r => (t.length - r.length, true)
  | none => (t.length, false)

set_option maxHeartbeats 400000 in
theorem l21End_any (b off n c k0 : Nat) (t : List Bool) (w : World) (hs : Sl w b off (t.map .bool)) (hl : t.length = n) (hn : n ≤ 4194304) (hk0 : k0 ≤ n) :
    Calls Try.prog 89 #[.slice (some ⟨b, off, none⟩) n c, .int .i64 k0] w fun e w' => e = .returned (.tuple #[.int .i64 (endAt t k0).1, .bool (endAt t k0).2]) ∧ w = w' := by
  have HL := Lib.hid hl; clear hl
  go_enter Try.func89, Try.ntmps89
  go_wp2
  go_loop [1, 6] (fun kk nd => ∃ k m : Nat, k0 ≤ k ∧ k ≤ n ∧ m ≤ 1 + k ∧ kk = .int .i64 k ∧ nd = .int .i64 m ∧ Hid (scan m (t.drop k) = scan 1 (t.drop k0))) (fun kk _ => n - (intOf kk).toNat)
  case atStart => exact ⟨k0, 1, Nat.le_refl _, hk0, by omega, rfl, rfl, rfl⟩
  case round =>
    obtain ⟨k, m, hk1, hk, hm, rfl, rfl, HR⟩ := hrel
    rcases Nat.eq_zero_or_pos m with h0 | h0
    · subst h0
      go_wp2
      go_ret2
      have e : endAt t k0 = (k, true) := by
        unfold endAt; rw [← HR.out]; simp [scan]; have := HL.out; omega
      rw [e]; exact ⟨rfl, rfl⟩
    · obtain ⟨m', rfl⟩ : ∃ m', m = m' + 1 := ⟨m - 1, by omega⟩
      by_cases hlt : k < n
      · have hne : ((k : Int) == (n : Int)) = false := by simp; omega
        obtain ⟨x, HX, hx⟩ := map_at Value.bool t (k := k) (by have := HL.out; omega)
        have hc := hs.at hx
        clear hx
        cases x with
        | true =>
          go_wp2
          go_round
          case rel => exact ⟨k + 1, m' + 2, by omega, by omega, by omega, by go_num, by go_num, by rw [← scan_step_true HX.out]; exact HR.out⟩
          case measure => simp [intOf]; omega
        | false =>
          go_wp2
          go_round
          case rel => exact ⟨k + 1, m', by omega, by omega, by omega, by go_num, by go_num, by rw [← scan_step_false HX.out]; exact HR.out⟩
          case measure => simp [intOf]; omega
      · obtain rfl : k = n := by omega
        have heq : ((k : Int) == (k : Int)) = true := by simp
        go_wp2
        go_ret2
        have e : endAt t k0 = (k, false) := by
          unfold endAt; rw [← HR.out, List.drop_of_length_le (by have := HL.out; omega)]; simp [scan]; exact HL.out
        rw [e]; exact ⟨rfl, rfl⟩

theorem follows_any (x : Bool) (w : World) : Calls Try.prog 114 #[.bool x] w fun e w' => e = .returned (.int .i64 (if x then 2 else 0)) ∧ w = w' := by
  cases x
  all_goals
    go_enter Try.func114, Try.ntmps114
    go_wp2
    go_ret
    exact ⟨rfl, rfl⟩

/-- Where the tree from k on ends, or -1. -/
def endOr (t : List Bool) (k : Nat) : Int := if (endAt t k).2 then (endAt t k).1 else -1

set_option maxHeartbeats 400000 in
theorem termEnd_bool_any (b off n c k0 : Nat) (t : List Bool) (w : World) (hs : Sl w b off (t.map .bool)) (hl : t.length = n) (hn : n ≤ 4194304) (hk0 : k0 ≤ n) :
    Calls Try.prog 113 #[.slice (some ⟨b, off, none⟩) n c, .int .i64 k0, .func (.func 114) #[] #[]] w fun e w' => e = .returned (.int .i64 (endOr t k0)) ∧ w = w' := by
  have HL := Lib.hid hl; clear hl
  go_enter Try.func113, Try.ntmps113
  go_wp2
  go_loop [1, 7] (fun kk nd => ∃ k m : Nat, k0 ≤ k ∧ k ≤ n ∧ m ≤ 1 + k ∧ kk = .int .i64 k ∧ nd = .int .i64 m ∧ Hid (scan m (t.drop k) = scan 1 (t.drop k0))) (fun kk _ => n - (intOf kk).toNat)
  case atStart => exact ⟨k0, 1, Nat.le_refl _, hk0, by omega, rfl, rfl, rfl⟩
  case round =>
    obtain ⟨k, m, hk1, hk, hm, rfl, rfl, HR⟩ := hrel
    rcases Nat.eq_zero_or_pos m with h0 | h0
    · subst h0
      go_wp2
      go_ret
      have e : endAt t k0 = (k, true) := by
        unfold endAt; rw [← HR.out]; simp [scan]; have := HL.out; omega
      exact ⟨ret_int (by unfold endOr; rw [e]; rfl), rfl⟩
    · obtain ⟨m', rfl⟩ : ∃ m', m = m' + 1 := ⟨m - 1, by omega⟩
      by_cases hlt : k < n
      · obtain ⟨x, HX, hx⟩ := map_at Value.bool t (k := k) (by have := HL.out; omega)
        have hc := hs.at hx
        clear hx
        cases x with
        | true =>
          go_wp2_with (go_at_call 114; refine (follows_any true _).mono ?_; rintro e w' ⟨rfl, rfl⟩)
          go_round
          case rel => exact ⟨k + 1, m' + 2, by omega, by omega, by omega, by go_num, by go_num, by rw [← scan_step_true HX.out]; exact HR.out⟩
          case measure => simp [intOf]; omega
        | false =>
          go_wp2_with (go_at_call 114; refine (follows_any false _).mono ?_; rintro e w' ⟨rfl, rfl⟩)
          go_round
          case rel => exact ⟨k + 1, m', by omega, by omega, by omega, by go_num, by go_num, by rw [← scan_step_false HX.out]; exact HR.out⟩
          case measure => simp [intOf]; omega
      · obtain rfl : k = n := by omega
        go_wp2
        go_ret
        have e : endAt t k0 = (k, false) := by
          unfold endAt; rw [← HR.out, List.drop_of_length_le (by have := HL.out; omega)]; simp [scan]; exact HL.out
        exact ⟨ret_int (by unfold endOr; rw [e]; rfl), rfl⟩

theorem isTree_end (t : List Bool) (h : t.length ≤ 2000) : isTreeB t = ((endAt t 0).2 && decide ((endAt t 0).1 = t.length)) := by
  unfold isTreeB endAt
  simp only [h, decide_true, Bool.true_and, List.drop_zero]
  cases hs : scan 1 t with
  | none => simp
  | some r =>
    obtain ⟨p, hp⟩ := scan_suffix _ _ _ hs
    simp only [Option.some.injEq, Bool.true_and]
    have hlen : t.length = p.length + r.length := by rw [hp]; simp
    have hpos : 0 < t.length ∨ r = [] := by
      cases t with
      | nil => simp [scan] at hs
      | cons _ _ => left; simp
    congr 1
    apply propext
    constructor
    · rintro rfl; simp
    · intro h2
      rcases r with _ | ⟨x, r⟩
      · rfl
      · simp at h2 hlen; omega

theorem size_bool_any (A : Option Addr) (n c : Nat) (w : World) : Calls Try.prog 112 #[.slice A n c] w fun e w' => e = .returned (.int .i64 n) ∧ w = w' := by
  go_enter Try.func112, Try.ntmps112
  go_wp2
  go_ret
  exact ⟨rfl, rfl⟩

theorem l21Whole_any (b off n c : Nat) (t : List Bool) (w : World) (hs : Sl w b off (t.map .bool)) (hl : t.length = n) (hn : n ≤ 2000) :
    Calls Try.prog 87 #[.slice (some ⟨b, off, none⟩) n c] w fun e w' => e = .returned (.bool (isTreeB t)) ∧ w = w' := by
  have HE := Lib.hid (isTree_end t (by omega))
  have HL := Lib.hid hl; clear hl
  go_enter Try.func87, Try.ntmps87
  go_wp2_with fail
  refine (l21End_any b off n c 0 t _ hs HL.out (by omega) (by omega)).mono ?_
  rintro e w' ⟨rfl, rfl⟩
  generalize endAt t 0 = p at *
  obtain ⟨p1, p2⟩ := p
  cases p2
  · go_wp2_with fail
    go_ret
    exact ⟨ret_bool HE.out.symm, rfl⟩
  · by_cases e : p1 = n
    · subst e
      go_wp2_with fail
      go_ret
      exact ⟨ret_bool (by rw [HE.out, HL.out]; simp), rfl⟩
    · have hne : ((p1 : Int) == (n : Int)) = false := by simp; omega
      go_wp2_with fail
      go_ret
      exact ⟨ret_bool (by rw [HE.out, HL.out]; simp [e]), rfl⟩

theorem l21Is_any (b off n c : Nat) (t : List Bool) (w : World) (hs : Sl w b off (t.map .bool)) (hl : t.length = n) (hn : n ≤ 4194304) :
    Calls Try.prog 54 #[.slice (some ⟨b, off, none⟩) n c] w fun e w' => e = .returned (.bool (isTreeB t)) ∧ w = w' := by
  have HL := Lib.hid hl; clear hl
  by_cases h : n ≤ 2000
  · go_enter Try.func54, Try.ntmps54
    go_wp2_with fail
    refine (l21Whole_any b off n c t _ hs HL.out h).mono ?_
    rintro e w' ⟨rfl, rfl⟩
    go_wp2_with fail
    go_ret
    exact ⟨rfl, rfl⟩
  · have HF : Hid (isTreeB t = false) := by have := HL.out; unfold Hid isTreeB; rw [decide_eq_false (by omega), Bool.false_and]
    go_enter Try.func54, Try.ntmps54
    go_wp2_with fail
    go_ret
    exact ⟨ret_bool HF.out.symm, rfl⟩

theorem isTree_any (b off n c : Nat) (t : List Bool) (w : World) (hs : Sl w b off (t.map .bool)) (hl : t.length = n) (hn : n ≤ 4194304) :
    Calls Try.prog 93 #[.slice (some ⟨b, off, none⟩) n c] w fun e w' => e = .returned (.bool (isTreeB t)) ∧ w = w' := by
  have HL := Lib.hid hl; clear hl
  by_cases h : 1 ≤ n ∧ n ≤ 2000
  · obtain ⟨h1, h2⟩ := h
    have HE := Lib.hid (isTree_end t (by have := HL.out; omega))
    go_enter Try.func93, Try.ntmps93
    go_wp2_with fail
    refine (size_bool_any _ n c _).mono ?_
    rintro e w' ⟨rfl, rfl⟩
    go_wp2_with fail
    refine (within_is n 1 2000 true (by rw [inB_iff]; omega) _).mono ?_
    rintro e w' ⟨rfl, rfl⟩
    go_wp2_with fail
    refine (termEnd_bool_any b off n c 0 t _ hs HL.out hn (by omega)).mono ?_
    rintro e w' ⟨rfl, rfl⟩
    have e1 : isTreeB t = ((endOr t 0 == (n : Int))) := by
      rw [HE.out, ← HL.out]
      unfold endOr
      generalize endAt t 0 = p
      obtain ⟨p1, p2⟩ := p
      cases p2
      · simp only [Bool.false_and, Bool.false_eq_true, if_false]
        symm
        rw [beq_eq_false_iff_ne]
        omega
      · simp only [Bool.true_and, if_true]
        by_cases e : p1 = t.length
        · simp [e]
        · simp [e]; omega
    have HE1 := Lib.hid e1
    clear e1
    generalize endOr t 0 = z at *
    go_wp2_with fail
    go_ret
    exact ⟨ret_bool HE1.out.symm, rfl⟩
  · have HF : Hid (isTreeB t = false) := by
      have := HL.out
      unfold Hid isTreeB
      rcases Nat.lt_or_ge n 1 with h1 | h1
      · obtain rfl : t = [] := List.eq_nil_of_length_eq_zero (by omega)
        rfl
      · rw [decide_eq_false (by omega), Bool.false_and]
    go_enter Try.func93, Try.ntmps93
    go_wp2_with fail
    refine (size_bool_any _ n c _).mono ?_
    rintro e w' ⟨rfl, rfl⟩
    go_wp2_with fail
    refine (within_is n 1 2000 false (by rw [inB_false]; omega) _).mono ?_
    rintro e w' ⟨rfl, rfl⟩
    go_wp2_with fail
    go_ret
    exact ⟨ret_bool HF.out.symm, rfl⟩
