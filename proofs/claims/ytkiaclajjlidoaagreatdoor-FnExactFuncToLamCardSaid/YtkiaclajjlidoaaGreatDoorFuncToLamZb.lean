/- The law FnExactFuncToLam returns true for every input, and each argument reads afterwards as before: the proof, part 2. No conditions. -/
import Derived.Test.YtkiaclajjlidoaaGreatDoorFuncToLamZa
import Derived.Sort.Grow
import Derived.Lib.RowBridge
import Derived.Lib.ItoaNum
/- Combinator terms: which are valid; combFollow, combEnd, ValidComb and the reference's l12Comb, l12CombEnd. -/
namespace Go.Proofs.YtkiaclajjlidoaaGreatDoor
open Go.RowKit
set_option linter.all false

def kFol (x : R2) : Nat := if x.a = 0 then 2 else 0
theorem kFol_le (x : R2) : kFol x ≤ 2 := by unfold kFol; split <;> omega
def kOk (x : R2) : Bool := inB x.a 0 4 && inB x.b 0 399 && (decide (x.a = 4) || decide (x.b = 0))
def validC (xs : List R2) : Bool := inB xs.length 1 400 && (xs.all kOk && fit kFol 1 xs)
theorem all_drop {α : Type} {p : α → Bool} {xs : List α} {k : Nat} {x : α} (h : xs[k]? = some x) : (xs.drop k).all p = (p x && (xs.drop (k + 1)).all p) := by rw [drop_at h]; simp

theorem combFollow_any (x : R2) (w : World) : Calls Tryz.prog 64 #[.agg #[.int .i64 x.a, .int .i64 x.b]] w fun e w' => e = .returned (.int .i64 (kFol x : Nat)) ∧ Below w.heap.size w w' := by
  obtain ⟨a, b⟩ := x
  have h0 : Below w.heap.size w (w.alloc (.cells #[.int .i64 a, .int .i64 b] 44)) := laid_below _ _
  by_cases h : a = 0
  · subst h
    go_enter Tryz.func64, Tryz.ntmps64
    go_wp2
    go_ret
    exact ⟨ret_int (by simp [kFol]), h0⟩
  · have e : (a == 0) = false := by simpa using h
    have HE : Hid (((kFol ⟨a, b⟩ : Nat) : Int) = 0) := by unfold Hid; simp [kFol, h]
    clear h
    go_enter Tryz.func64, Tryz.ntmps64
    go_wp2
    go_ret
    exact ⟨ret_int HE.out.symm, h0⟩

theorem combEnd_any (A : Option Addr) (n c k0 : Nat) (xs : List R2) (w : World) (ha : Args 2 w A n (rows R2.vs xs)) (hn : n ≤ 1048576) (hk0 : k0 ≤ n) :
    Calls Tryz.prog 45 #[.slice A n c, .int .i64 k0] w fun e w' => e = .returned (.int .i64 (tPos kFol k0 (xs.drop k0))) ∧ Below w.heap.size w w' := by
  go_enter Tryz.func45, Tryz.ntmps45
  go_wp2_with fail
  refine (termEnd_Comb_any 64 #[] kFol _ n c k0 xs _ ha hn hk0 kFol_le (enters_of' Tryz.func64 (by kernel_rfl) rfl) (fun x W => combFollow_any x W)).mono ?_
  rintro e w1 ⟨rfl, hb1⟩
  go_wp2
  go_ret
  exact ⟨rfl, hb1⟩

set_option maxRecDepth 100000 in
set_option maxHeartbeats 1000000 in
theorem validComb_is (A : Option Addr) (n c : Nat) (xs : List R2) (v : Bool) (hv : validC xs = v) (w : World) (ha : Args 2 w A n (rows R2.vs xs)) (hn : n ≤ 1048576) :
    Calls Tryz.prog 24 #[.slice A n c] w fun e w' => e = .returned (.bool v) ∧ Below w.heap.size w w' := by
  have HL : Hid (xs.length = n) := by have := ha.1; rw [rows_len R2.vs_len] at this; unfold Hid; omega
  rcases Bool.eq_false_or_eq_true (inB n 1 400) with h | h
  rotate_left
  · have HV : Hid (v = false) := by unfold Hid; rw [← hv, validC, HL.out, h]; rfl
    have H1 := Lib.hid h; clear h hv
    go_enter Tryz.func24, Tryz.ntmps24
    go_wp2_with fail
    refine (size_Comb_any _ _ _ _).mono ?_
    rintro e w1 ⟨rfl, rfl⟩
    go_wp2_with fail
    refine (within_is _ _ _ false H1.out _).mono ?_
    rintro e w1 ⟨rfl, rfl⟩
    go_wp2
    go_ret
    exact ⟨ret_bool HV.out.symm, Below.refl _ _⟩
  have HV : Hid (v = (xs.all kOk && fit kFol 1 xs)) := by unfold Hid; rw [← hv, validC, HL.out, h]; rfl
  have H1 := Lib.hid h; clear h hv
  have hn1 : n ≤ 400 := by have := (inB_iff _ _ _).1 H1.out; omega
  go_enter Tryz.func24, Tryz.ntmps24
  go_wp2_with fail
  refine (size_Comb_any _ _ _ _).mono ?_
  rintro e w1 ⟨rfl, rfl⟩
  go_wp2_with fail
  refine (within_is _ _ _ true H1.out _).mono ?_
  rintro e w1 ⟨rfl, rfl⟩
  go_wp2
  go_loopw [11] (fun i wr => ∃ k : Nat, k ≤ n ∧ i = .int .i64 k ∧ Below w.heap.size w wr ∧ Hid (xs.all kOk = (xs.drop k).all kOk)) (fun i _ => n - (intOf i).toNat)
  case atStart => exact ⟨0, Nat.zero_le _, rfl, Below.refl _ _, by unfold Hid; rw [List.drop_zero]⟩
  case round =>
    obtain ⟨k, hk, rfl, hB, HA⟩ := hrel
    by_cases hlt : k < n
    · obtain ⟨b, off, rfl, hs⟩ := ha.sl hlt
      obtain ⟨x, HX⟩ := hget HL hlt
      obtain ⟨p0, p1⟩ := (hs.below' hB).rec2 HX.out
      have HA2 := Lib.hid (HA.out.trans (all_drop HX.out))
      rcases Bool.eq_false_or_eq_true (inB x.a 0 4) with h | h
      rotate_left
      · have H2 := Lib.hid h; clear h
        go_wp2_with fail
        refine (within_is _ _ _ false H2.out _).mono ?_
        rintro e w1 ⟨rfl, hw⟩
        obtain ⟨c0, c1, hb1⟩ := alloc2 hw
        have hB1 := below_step hB hb1
        clear hw p0 p1 hb1
        go_wp2
        go_ret
        exact ⟨ret_bool (by rw [HV.out, HA2.out, kOk, H2.out]; rfl), hB1⟩
      have H2 := Lib.hid h; clear h
      rcases Bool.eq_false_or_eq_true (inB x.b 0 399) with h | h
      rotate_left
      · have H3 := Lib.hid h; clear h
        go_wp2_with fail
        refine (within_is _ _ _ true H2.out _).mono ?_
        rintro e w1 ⟨rfl, hw⟩
        obtain ⟨c0, c1, hb1⟩ := alloc2 hw
        have hB1 := below_step hB hb1
        clear hw p0 p1 hb1
        go_wp2_with fail
        refine (within_is _ _ _ false H3.out _).mono ?_
        rintro e w2 ⟨rfl, rfl⟩
        go_wp2
        go_ret
        exact ⟨ret_bool (by rw [HV.out, HA2.out, kOk, H2.out, H3.out]; rfl), hB1⟩
      have H3 := Lib.hid h; clear h
      by_cases h1 : x.a = 4
      · have e1 : (x.a != 4) = false := by simpa using h1
        have H4 : Hid (kOk x = true) := by unfold Hid; rw [kOk, H2.out, H3.out]; simp [h1]
        clear h1
        go_wp2_with fail
        refine (within_is _ _ _ true H2.out _).mono ?_
        rintro e w1 ⟨rfl, hw⟩
        obtain ⟨c0, c1, hb1⟩ := alloc2 hw
        have hB1 := below_step hB hb1
        clear hw p0 p1 hb1
        go_wp2_with fail
        refine (within_is _ _ _ true H3.out _).mono ?_
        rintro e w2 ⟨rfl, rfl⟩
        go_wp2
        go_roundw
        case rel => exact ⟨k + 1, by omega, by go_num, hB1, by unfold Hid; rw [HA2.out, H4.out, Bool.true_and]⟩
        case measure => simp [intOf]; omega
      · have e1 : (x.a != 4) = true := by simpa using h1
        by_cases h2 : x.b = 0
        · have e2 : (x.b != 0) = false := by simpa using h2
          have H4 : Hid (kOk x = true) := by unfold Hid; rw [kOk, H2.out, H3.out]; simp [h2]
          clear h1 h2
          go_wp2_with fail
          refine (within_is _ _ _ true H2.out _).mono ?_
          rintro e w1 ⟨rfl, hw⟩
          obtain ⟨c0, c1, hb1⟩ := alloc2 hw
          have hB1 := below_step hB hb1
          clear hw p0 p1 hb1
          go_wp2_with fail
          refine (within_is _ _ _ true H3.out _).mono ?_
          rintro e w2 ⟨rfl, rfl⟩
          go_wp2
          go_roundw
          case rel => exact ⟨k + 1, by omega, by go_num, hB1, by unfold Hid; rw [HA2.out, H4.out, Bool.true_and]⟩
          case measure => simp [intOf]; omega
        · have e2 : (x.b != 0) = true := by simpa using h2
          have H4 : Hid (kOk x = false) := by unfold Hid; rw [kOk, H2.out, H3.out]; simp [h1, h2]
          clear h1 h2
          go_wp2_with fail
          refine (within_is _ _ _ true H2.out _).mono ?_
          rintro e w1 ⟨rfl, hw⟩
          obtain ⟨c0, c1, hb1⟩ := alloc2 hw
          have hB1 := below_step hB hb1
          clear hw p0 p1 hb1
          go_wp2_with fail
          refine (within_is _ _ _ true H3.out _).mono ?_
          rintro e w2 ⟨rfl, rfl⟩
          go_wp2
          go_ret
          exact ⟨ret_bool (by rw [HV.out, HA2.out, H4.out]; rfl), hB1⟩
    · have HA2 : Hid (v = fit kFol 1 xs) := by unfold Hid; rw [HV.out, HA.out, List.drop_of_length_le (by have := HL.out; omega)]; rfl
      have HP := Lib.hid (fit_pos kFol xs)
      rw [HL.out, ← HA2.out] at HP
      go_wp2_with fail
      refine (combEnd_any _ n c 0 xs _ (ha.below hB) hn (Nat.zero_le _)).mono ?_
      rintro e w1 ⟨rfl, hb1⟩
      have hB1 := below_step hB hb1
      go_wp2
      go_ret
      exact ⟨ret_bool (by rw [← HP.out]; rfl), hB1⟩

set_option maxRecDepth 100000 in
set_option maxHeartbeats 1000000 in
theorem l12Comb_is (A : Option Addr) (n c : Nat) (xs : List R2) (v : Bool) (hv : validC xs = v) (w : World) (ha : Args 2 w A n (rows R2.vs xs)) (hn : n ≤ 1048576) :
    Calls Tryz.prog 20 #[.slice A n c] w fun e w' => e = .returned (.bool v) ∧ w = w' := by
  have HL : Hid (xs.length = n) := by have := ha.1; rw [rows_len R2.vs_len] at this; unfold Hid; omega
  rcases Bool.eq_false_or_eq_true (inB n 1 400) with h | h
  rotate_left
  · have HV : Hid (v = false) := by unfold Hid; rw [← hv, validC, HL.out, h]; rfl
    clear hv
    rcases (inB_false _ _ _).1 h with h | h
    · have h1 : n < 1 := by omega
      clear h
      go_enter Tryz.func20, Tryz.ntmps20
      go_wp2
      go_ret
      exact ⟨ret_bool HV.out.symm, rfl⟩
    · have h1 : ¬ n < 1 := by omega
      have h2 : 400 < n := by omega
      clear h
      go_enter Tryz.func20, Tryz.ntmps20
      go_wp2
      go_ret
      exact ⟨ret_bool HV.out.symm, rfl⟩
  have HV : Hid (v = (xs.all kOk && fit kFol 1 xs)) := by unfold Hid; rw [← hv, validC, HL.out, h]; rfl
  have hn1 : n ≤ 400 := by have := (inB_iff _ _ _).1 h; omega
  have hn0 : ¬ n < 1 := by have := (inB_iff _ _ _).1 h; omega
  clear h hv
  go_enter Tryz.func20, Tryz.ntmps20
  go_wp2
  go_loop [3, 4] (fun o i => ∃ k op : Nat, k ≤ n ∧ op ≤ 2 * k + 1 ∧ i = .int .i64 k ∧ o = .int .i64 op ∧ Hid (v = ((xs.drop k).all kOk && fit kFol op (xs.drop k)))) (fun _ i => n - (intOf i).toNat)
  case atStart => exact ⟨0, 1, Nat.zero_le _, by omega, rfl, rfl, by unfold Hid; rw [List.drop_zero]; exact HV.out⟩
  case round =>
    obtain ⟨k, op, hk, hop, rfl, rfl, HA⟩ := hrel
    by_cases hlt : k < n
    · obtain ⟨b, off, rfl, hs⟩ := ha.sl hlt
      obtain ⟨x, HX⟩ := hget HL hlt
      obtain ⟨p0, p1⟩ := hs.rec2 HX.out
      have HA2 : Hid (v = ((kOk x && (xs.drop (k + 1)).all kOk) && fit kFol op (x :: xs.drop (k + 1)))) := by unfold Hid; rw [HA.out, all_drop HX.out]; congr 2; exact drop_at HX.out
      by_cases ho : op = 0
      · subst ho
        go_wp2
        go_ret
        exact ⟨ret_bool (by rw [HA2.out, fit_0c]; simp), rfl⟩
      have hoi : ((op : Int) == 0) = false := by simp; omega
      obtain ⟨q, rfl⟩ : ∃ q, op = q + 1 := ⟨op - 1, by omega⟩
      have HA3 : Hid (v = ((kOk x && (xs.drop (k + 1)).all kOk) && fit kFol (q + kFol x) (xs.drop (k + 1)))) := by unfold Hid; rw [HA2.out, fit_sc]
      clear ho HA2
      rcases Bool.eq_false_or_eq_true (inB x.a 0 4) with h | h
      rotate_left
      · have H2 := Lib.hid h; clear h
        go_wp2_with fail
        refine (l00In_is _ _ _ false H2.out _).mono ?_
        rintro e w1 ⟨rfl, rfl⟩
        go_wp2
        go_ret
        exact ⟨ret_bool (by rw [HA3.out, kOk, H2.out]; rfl), rfl⟩
      have H2 := Lib.hid h; clear h
      have hf := kFol_le x
      by_cases h1 : x.a = 4
      · have e1 : (x.a == 4) = true := by simpa using h1
        have e1' : (x.a != 4) = false := by simpa using h1
        rcases Bool.eq_false_or_eq_true (inB x.b 0 399) with h | h
        · have H3 := Lib.hid h; clear h
          have H4 : Hid (kOk x = true) := by unfold Hid; rw [kOk, H2.out, H3.out]; simp [h1]
          have e0 : (x.a == 0) = false := by rw [h1]; rfl
          have HK : Hid (kFol x = 0) := by unfold Hid kFol; rw [h1]; rfl
          clear h1
          go_wp2_with fail
          refine (l00In_is _ _ _ true H2.out _).mono ?_
          rintro e w1 ⟨rfl, rfl⟩
          go_wp2_with fail
          refine (l00In_is _ _ _ true H3.out _).mono ?_
          rintro e w1 ⟨rfl, rfl⟩
          go_wp2
          go_round
          case rel => exact ⟨k + 1, q, by omega, by omega, by go_num, (by first | (congr 1; done) | (congr 1; omega)), (by unfold Hid; rw [HA3.out, H4.out, Bool.true_and, HK.out]; try rfl)⟩
          case measure => simp [intOf]; omega
        · have H3 := Lib.hid h; clear h
          clear h1
          go_wp2_with fail
          refine (l00In_is _ _ _ true H2.out _).mono ?_
          rintro e w1 ⟨rfl, rfl⟩
          go_wp2_with fail
          refine (l00In_is _ _ _ false H3.out _).mono ?_
          rintro e w1 ⟨rfl, rfl⟩
          go_wp2
          go_ret
          exact ⟨ret_bool (by rw [HA3.out, kOk, H2.out, H3.out]; rfl), rfl⟩
      · have e1 : (x.a == 4) = false := by simpa using h1
        have e1' : (x.a != 4) = true := by simpa using h1
        by_cases h2 : x.b = 0
        · have e2 : (x.b != 0) = false := by simpa using h2
          have H4 : Hid (kOk x = true) := by unfold Hid; rw [kOk, H2.out]; simp [h2, inB]
          by_cases h0 : x.a = 0
          · have e0 : (x.a == 0) = true := by simp [h0]
            have HK : Hid (kFol x = 2) := by unfold Hid kFol; simp [h0]
            clear h1 h2 h0
            go_wp2_with fail
            refine (l00In_is _ _ _ true H2.out _).mono ?_
            rintro e w1 ⟨rfl, rfl⟩
            go_wp2
            go_round
            case rel => exact ⟨k + 1, q + 2, by omega, by omega, by go_num, (by first | (congr 1; done) | (congr 1; omega)), (by unfold Hid; rw [HA3.out, H4.out, Bool.true_and, HK.out]; try rfl)⟩
            case measure => simp [intOf]; omega
          · have e0 : (x.a == 0) = false := by simp [h0]
            have HK : Hid (kFol x = 0) := by unfold Hid kFol; simp [h0]
            clear h1 h2 h0
            go_wp2_with fail
            refine (l00In_is _ _ _ true H2.out _).mono ?_
            rintro e w1 ⟨rfl, rfl⟩
            go_wp2
            go_round
            case rel => exact ⟨k + 1, q, by omega, by omega, by go_num, (by first | (congr 1; done) | (congr 1; omega)), (by unfold Hid; rw [HA3.out, H4.out, Bool.true_and, HK.out]; try rfl)⟩
            case measure => simp [intOf]; omega
        · have e2 : (x.b != 0) = true := by simpa using h2
          have H4 : Hid (kOk x = false) := by unfold Hid; rw [kOk]; simp [h1, h2]
          clear h1 h2
          go_wp2_with fail
          refine (l00In_is _ _ _ true H2.out _).mono ?_
          rintro e w1 ⟨rfl, rfl⟩
          go_wp2
          go_ret
          exact ⟨ret_bool (by rw [HA3.out, H4.out]; rfl), rfl⟩
    · have HA2 : Hid (v = fit kFol op []) := by unfold Hid; rw [HA.out, List.drop_of_length_le (by have := HL.out; omega)]; rfl
      by_cases ho : op = 0
      · subst ho
        go_wp2
        go_ret
        exact ⟨ret_bool (by rw [HA2.out, fit_00]), rfl⟩
      · have hoi : ((op : Int) == 0) = false := by simp; omega
        obtain ⟨q, rfl⟩ : ∃ q, op = q + 1 := ⟨op - 1, by omega⟩
        clear ho
        go_wp2
        go_ret
        exact ⟨ret_bool (by rw [HA2.out, fit_s0]; simp; omega), rfl⟩

end Go.Proofs.YtkiaclajjlidoaaGreatDoor

/- What a sort leaves of a row of the call's own. Plain lemmas on worlds. -/
namespace Go.Proofs.YtkiaclajjlidoaaGreatDoor
open Go.RowKit Go.Sort
set_option linter.all false

theorem holds_of_own {w : World} {base : Nat} {e : TypeId} {g n cap : Nat} {zs : List Int} (h : w.ownsRow base e 1 (.slice (some ⟨g, 0, none⟩) n cap) n (zs.map (Value.int .i64))) : Holds (Value.int .i64) w g 0 zs.toArray := by
  intro j hj
  have hj' : j < zs.length := by simpa using hj
  have hn : zs.length = n := by have := h.1; simpa using this
  refine ⟨?_, by have := h.frozenAt (0 + j); simpa using this⟩
  have := h.cellAt j (by omega)
  rw [Nat.zero_add, this]
  simp [hj']
theorem own_putRow {w : World} {base : Nat} {e : TypeId} {g n cap : Nat} {xs : List Value} (h : w.ownsRow base e 1 (.slice (some ⟨g, 0, none⟩) n cap) n xs) (d : List Int) (hd : d.length = n) (q : Nat) :
    (putRow (Value.int .i64) (Sort.ahead w q) g 0 d.toArray).ownsRow base e 1 (.slice (some ⟨g, 0, none⟩) n cap) n (d.map (Value.int .i64)) ∧ w.grownBy (putRow (Value.int .i64) (Sort.ahead w q) g 0 d.toArray) (some g) := by
  rcases h.2 with ⟨h0, _⟩ | ⟨g', cap', cur, hv, hb, hg, hn, hm, hs, hx⟩
  · cases h0
  · injection hv with e1 e2 e3
    injection e1 with e1
    injection e1 with e1
    subst e1 e3
    refine ⟨⟨by simp [hd], .inr ⟨g, cap, putCells (Value.int .i64) 0 d.toArray cur, rfl, hb, ?_, hn, hm, by simp [putCells, hs], ?_⟩⟩, ?_⟩
    · show (w.heap.modify g (onCells (putCells (Value.int .i64) 0 d.toArray)))[g]? = _
      rw [Array.getElem?_modify, if_pos rfl, hg]
      rfl
    · apply List.ext_getElem?
      intro j
      by_cases hj : j < n
      · rw [List.getElem?_take, if_pos (by omega)]
        have hc : j < cur.size := by omega
        simp only [putCells, Array.getElem?_toList, Array.getElem?_mapIdx]
        rw [Array.getElem?_eq_getElem hc, Option.map_some, if_pos (by simp; omega)]
        simp [show j < d.length by omega]
      · rw [List.getElem?_eq_none (by simp; omega), List.getElem?_eq_none (by simp; omega)]
    · refine ⟨rfl, rfl, rfl, by simp, fun k hk hne => ?_⟩
      show (w.heap.modify g _)[k]? = _
      rw [Array.getElem?_modify, if_neg (by intro e; exact hne (by rw [e]))]
theorem below_growS (w : World) (os : Array Obj) : Below w.heap.size w (grow w os) := ⟨rfl, rfl, rfl, by simp, fun k hk => heap_grow_old w os hk⟩
theorem grown_grow {w w' : World} {g : Nat} (h : w.grownBy w' (some g)) (os : Array Obj) : w.grownBy (grow w' os) (some g) :=
  ⟨h.os, h.tape, h.output, by have := h.size; simp; omega, fun k hk hne => (heap_grow_old w' os (by have := h.size; omega)).trans (h.block k hk hne)⟩
/-- Fewer elements of a row of one's own. -/
theorem own_shorter {w : World} {base : Nat} {e : TypeId} {g n m cap : Nat} {xs : List Value} (h : w.ownsRow base e 1 (.slice (some ⟨g, 0, none⟩) n cap) n xs) (hm : m ≤ n) : w.ownsRow base e 1 (.slice (some ⟨g, 0, none⟩) m cap) m (xs.take m) := by
  have hl := h.1
  rcases h.2 with ⟨h0, _⟩ | ⟨g', cap', cur, hv, hb, hg, hn, hmx, hs, hx⟩
  · cases h0
  · injection hv with e1 e2 e3
    injection e1 with e1
    injection e1 with e1
    subst e1 e3
    refine ⟨by rw [List.length_take]; omega, .inr ⟨g, cap, cur, rfl, hb, hg, by omega, hmx, hs, ?_⟩⟩
    rw [← hx, List.take_take, Nat.min_eq_left (by omega), Nat.mul_one]
end Go.Proofs.YtkiaclajjlidoaaGreatDoor

/- Contracts of the laws' helpers on []int64: copy, compare, mark, look at the marks. For slices of at most 1048576 elements. -/
namespace Go.Proofs.YtkiaclajjlidoaaGreatDoor
open Go.RowKit

theorem infoInt64S : (Tryz.prog.info? 2).map (fun i => (i.zero, i.size, i.bytes)) = some (some (Value.int .i64 0), 1, 8) := by kernel_rfl

def mkInt64S (k : Int) : Value := .int .i64 k

end Go.Proofs.YtkiaclajjlidoaaGreatDoor

/- slices.Sort, slices.Compact and slices.Clone on rows of numbers of the call's own; SortList, rising, l00Put. -/
namespace Go.Proofs.YtkiaclajjlidoaaGreatDoor
open Go.RowKit Go.Sort
set_option linter.all false
end Go.Proofs.YtkiaclajjlidoaaGreatDoor

/- l00Put puts a number to its place among rising ones. -/
namespace Go.Proofs.YtkiaclajjlidoaaGreatDoor
open Go.RowKit
set_option linter.all false

theorem own_cap' {w : World} {base : Nat} {e : TypeId} {size n : Nat} {v : Value} {xs : List Value} (h : w.ownsRow base e size v n xs) : ∀ A c, v = .slice A n c → n ≤ c := by
  intro A c hv
  rcases h.2 with ⟨h0, h1⟩ | ⟨g, cap, cur, h0, _, _, h1, _⟩
  · omega
  · rw [h0] at hv; injection hv with _ _ h3; omega
theorem grown_cell_new {wr w2 : World} {o : Obj} {base : Nat} {e : TypeId} {size n : Nat} {v : Value} {xs : List Value} (hown : wr.ownsRow base e size v n xs) (hg : (wr.alloc o).grownBy w2 v.ownBlock) {j : Nat} {u : Value} (h : (wr.alloc o).cell? ⟨wr.heap.size, j, none⟩ = some u) : w2.cell? ⟨wr.heap.size, j, none⟩ = some u :=
  hg.cell h (by intro e; have := hown.lt _ e.symm; simp at this)

theorem put_lt {n y : Int} {xs : List Int} {k : Nat} (hy : xs[k]? = some y) (h : n < y) : put n (xs.drop k) = n :: y :: xs.drop (k + 1) := by
  rw [drop_at hy, put, if_pos (by omega), if_pos h]
theorem put_eqv {n y : Int} {xs : List Int} {k : Nat} (hy : xs[k]? = some y) (h : n = y) : put n (xs.drop k) = y :: xs.drop (k + 1) := by
  rw [drop_at hy, put, if_pos (by omega), if_neg (by omega)]
theorem put_gt {n y : Int} {xs : List Int} {k : Nat} (hy : xs[k]? = some y) (h : y < n) : put n (xs.drop k) = y :: put n (xs.drop (k + 1)) := by
  rw [drop_at hy, put, if_neg (by omega)]
theorem take_snoc' {xs : List Int} {k : Nat} {y : Int} (hy : xs[k]? = some y) : xs.take (k + 1) = xs.take k ++ [y] := by
  rw [List.take_add_one, hy]; rfl

end Go.Proofs.YtkiaclajjlidoaaGreatDoor

/- The variables of a combinator term: combVariables, CombVariables and the reference's l18Names, CombVariables. -/
namespace Go.Proofs.YtkiaclajjlidoaaGreatDoor
open Go.RowKit
set_option linter.all false

/-- The variables, in order. -/
def varsC : List R2 → List Int
  | [] => []
  | x :: l => (if x.a = 4 then [x.b] else []) ++ varsC l
theorem varsC_app (xs ys : List R2) : varsC (xs ++ ys) = varsC xs ++ varsC ys := by
  induction xs with
  | nil => rfl
  | cons x l ih => simp [varsC, ih]
theorem varsC_len (xs : List R2) : (varsC xs).length ≤ xs.length := by
  induction xs with
  | nil => simp [varsC]
  | cons x l ih => rw [varsC]; split <;> simp <;> omega
theorem varsC_step {xs : List R2} {k : Nat} {x : R2} (h : xs[k]? = some x) : varsC (xs.take (k + 1)) = varsC (xs.take k) ++ (if x.a = 4 then [x.b] else []) := by
  rw [List.take_add_one, h, varsC_app]; simp [varsC]
theorem validC_len {xs : List R2} (h : validC xs = true) : 1 ≤ xs.length ∧ xs.length ≤ 400 := by
  unfold validC at h
  have := (inB_iff _ _ _).1 (Bool.and_eq_true _ _ ▸ h).1
  omega

def combVars (xs : List R2) : List Int × Int := if validC xs then (sortU (varsC xs), 0) else ([], 1)
theorem bndCombVariables0 (xs : List R2) (h : xs.length ≤ 1048576) : (combVars xs).1.length ≤ 1048576 := by
  unfold combVars
  split
  · have h1 := sortU_len (varsC xs)
    have h2 := varsC_len xs
    show (sortU (varsC xs)).length ≤ _
    omega
  · simp
end Go.Proofs.YtkiaclajjlidoaaGreatDoor

/- Abstraction of combinator terms: what it gives. Plain lemmas. -/
namespace Go.Proofs.YtkiaclajjlidoaaGreatDoor
set_option linter.all false

instance : DecidableEq R2 := fun x y => decidable_of_iff (x.a = y.a ∧ x.b = y.b) ⟨fun ⟨h1, h2⟩ => by cases x; cases y; simp_all, fun h => by subst h; exact ⟨rfl, rfl⟩⟩
def isV (k : Int) (x : R2) : Bool := decide (x.a = 4) && decide (x.b = k)
def hasV (k : Int) (c : List R2) : Bool := c.any (isV k)
/-- Where the second part of an application begins. -/
def midC (c : List R2) : Nat := max 1 (tPos kFol 1 (c.drop 1)).toNat
def oneV (k : Int) : List R2 → Bool
  | [x] => isV k x
  | _ => false
def absC (k : Int) (short : Bool) (c : List R2) : List R2 :=
  if oneV k c then [⟨3, 0⟩]
  else if h : hasV k c = false then ⟨0, 0⟩ :: ⟨2, 0⟩ :: c
  else if short && oneV k (c.drop (midC c)) && !hasV k ((c.drop 1).take (midC c - 1)) then (c.drop 1).take (midC c - 1)
  else ⟨0, 0⟩ :: ⟨0, 0⟩ :: ⟨1, 0⟩ :: (absC k short ((c.drop 1).take (midC c - 1)) ++ absC k short (c.drop (midC c)))
  termination_by c.length
  decreasing_by
    all_goals
      have hc : 0 < c.length := by
        cases c with
        | nil => simp [hasV] at h
        | cons x l => simp
      have hm : 1 ≤ midC c := by unfold midC; omega
      simp_wf
      omega
theorem abs_one {k : Int} {short : Bool} {c : List R2} (h : oneV k c = true) : absC k short c = [⟨3, 0⟩] := by rw [absC, if_pos h]
theorem abs_not {k : Int} {short : Bool} {c : List R2} (h1 : oneV k c = false) (h : hasV k c = false) : absC k short c = ⟨0, 0⟩ :: ⟨2, 0⟩ :: c := by
  rw [absC, if_neg (by simp [h1]), dif_pos h]
theorem abs_eta {k : Int} {short : Bool} {c d e : List R2} (h1 : oneV k c = false) (h : hasV k c = true) (hd : (c.drop 1).take (midC c - 1) = d) (he : c.drop (midC c) = e) (h3 : (short && oneV k e && !hasV k d) = true) : absC k short c = d := by
  rw [absC, if_neg (by simp [h1]), dif_neg (by simp [h]), hd, he, if_pos h3]
theorem abs_app {k : Int} {short : Bool} {c d e : List R2} (h1 : oneV k c = false) (h : hasV k c = true) (hd : (c.drop 1).take (midC c - 1) = d) (he : c.drop (midC c) = e) (h3 : (short && oneV k e && !hasV k d) = false) : absC k short c = ⟨0, 0⟩ :: ⟨0, 0⟩ :: ⟨1, 0⟩ :: (absC k short d ++ absC k short e) := by
  rw [absC, if_neg (by simp [h1]), dif_neg (by simp [h]), hd, he, if_neg (by simp [h3])]
/-- A term in which a variable occurs, and which is not it, is an application of two terms. -/
theorem abs_parts {k : Int} {c : List R2} (hf : fit kFol 1 c = true) (h1 : oneV k c = false) (h : hasV k c = true) :
    ∃ q, 1 ≤ q ∧ q + 1 < c.length ∧ midC c = q + 1 ∧ tPos kFol 1 (c.drop 1) = ((q + 1 : Nat) : Int) ∧ fit kFol 1 ((c.drop 1).take q) = true ∧ fit kFol 1 (c.drop (q + 1)) = true := by
  cases c with
  | nil => simp [hasV] at h
  | cons x l =>
    rw [show (1 : Nat) = 0 + 1 from rfl, fit_sc, Nat.zero_add] at hf
    unfold kFol at hf
    by_cases ha : x.a = 0
    · rw [if_pos ha] at hf
      obtain ⟨q, g1, g2, g3, g4, g5⟩ := fit_split kFol l 1 1 1 hf
      have hne := fit_ne kFol _ 0 g4
      rw [List.length_drop] at hne
      have ht : tPos kFol 1 l = ((q + 1 : Nat) : Int) := by unfold tPos; rw [g2]; congr 1; omega
      refine ⟨q, g5 (by omega), by simp; omega, ?_, ht, g3, g4⟩
      show max 1 (tPos kFol 1 l).toNat = _
      rw [ht]; simp
    · rw [if_neg ha] at hf
      cases l with
      | nil =>
        simp only [oneV] at h1
        simp [hasV, h1] at h
      | cons y l => rw [fit_0c] at hf; cases hf
theorem absC_len (k : Int) (short : Bool) (N : Nat) : ∀ c : List R2, c.length ≤ N → fit kFol 1 c = true → (absC k short c).length ≤ 4 * c.length := by
  induction N with
  | zero => intro c h hf; have := fit_ne kFol c 0 hf; omega
  | succ N ih =>
    intro c h hf
    have hc := fit_ne kFol c 0 hf
    cases h1 : oneV k c with
    | true => rw [abs_one h1]; simp; omega
    | false =>
      cases h2 : hasV k c with
      | false => rw [abs_not h1 h2]; simp; omega
      | true =>
        obtain ⟨q, q1, q2, q3, q4, q5, q6⟩ := abs_parts hf h1 h2
        have hd : (c.drop 1).take (midC c - 1) = (c.drop 1).take q := by rw [q3]; rfl
        have he : c.drop (midC c) = c.drop (q + 1) := by rw [q3]
        have ld : ((c.drop 1).take q).length = q := by rw [List.length_take, List.length_drop]; omega
        have le : (c.drop (q + 1)).length = c.length - (q + 1) := List.length_drop
        cases h3 : (short && oneV k (c.drop (q + 1)) && !hasV k ((c.drop 1).take q)) with
        | true => rw [abs_eta h1 h2 hd he h3, ld]; omega
        | false =>
          rw [abs_app h1 h2 hd he h3]
          have i1 := ih _ (by omega) q5
          have i2 := ih _ (by omega) q6
          rw [ld] at i1
          rw [le] at i2
          simp only [List.length_cons, List.length_append]
          omega
theorem absC_ne (k : Int) (short : Bool) (c : List R2) (hf : fit kFol 1 c = true) : 1 ≤ (absC k short c).length := by
  have hc := fit_ne kFol c 0 hf
  cases h1 : oneV k c with
  | true => rw [abs_one h1]; simp
  | false =>
    cases h2 : hasV k c with
    | false => rw [abs_not h1 h2]; simp
    | true =>
      obtain ⟨q, q1, q2, q3, q4, q5, q6⟩ := abs_parts hf h1 h2
      have hd : (c.drop 1).take (midC c - 1) = (c.drop 1).take q := by rw [q3]; rfl
      have he : c.drop (midC c) = c.drop (q + 1) := by rw [q3]
      cases h3 : (short && oneV k (c.drop (q + 1)) && !hasV k ((c.drop 1).take q)) with
      | true => rw [abs_eta h1 h2 hd he h3, List.length_take, List.length_drop]; omega
      | false => rw [abs_app h1 h2 hd he h3]; simp
theorem mem_varsC (k : Int) (c : List R2) : k ∈ varsC c ↔ hasV k c = true := by
  induction c with
  | nil => simp [varsC, hasV]
  | cons x l ih =>
    unfold hasV at ih ⊢
    rw [varsC, List.mem_append, ih, List.any_cons, Bool.or_eq_true]
    unfold isV
    by_cases h : x.a = 4
    · rw [if_pos h, List.mem_singleton, decide_eq_true h, Bool.true_and, decide_eq_true_eq, eq_comm (a := k)]
    · simp [h]
theorem has_names (k : Int) (c : List R2) : decide (k ∈ sortU (varsC c)) = hasV k c := by
  rw [Bool.eq_iff_iff, decide_eq_true_eq, (sortU_asc (varsC c)).2 k, mem_varsC]
end Go.Proofs.YtkiaclajjlidoaaGreatDoor

/- From lambda terms to combinator terms: what it gives, and that the two ways of naming bound variables agree. Plain lemmas. -/
namespace Go.Proofs.YtkiaclajjlidoaaGreatDoor
set_option linter.all false

def lFol (x : R2) : Nat := if x.a = 1 then 1 else if x.a = 2 then 2 else 0
theorem lFol_le (x : R2) : lFol x ≤ 2 := by
  unfold lFol
  split
  · omega
  · split <;> omega
theorem lFol_0 {x : R2} (h : x.a = 0) : lFol x = 0 := by unfold lFol; rw [h]; rfl
theorem lFol_1 {x : R2} (h : x.a = 1) : lFol x = 1 := by unfold lFol; rw [if_pos h]
theorem lFol_2 {x : R2} (h : x.a = 2) : lFol x = 2 := by unfold lFol; rw [h]; rfl
def lOk (x : R2) : Bool := (decide (x.a = 0) && inB x.b 0 399) || ((decide (x.a = 1) || decide (x.a = 2)) && decide (x.b = 0))
def validT (xs : List R2) : Bool := inB xs.length 1 400 && (xs.all lOk && fit lFol 1 xs)
theorem lOk_cases {x : R2} (h : lOk x = true) : (x.a = 0 ∧ 0 ≤ x.b ∧ x.b ≤ 399) ∨ x.a = 1 ∨ x.a = 2 := by
  unfold lOk at h
  simp only [Bool.or_eq_true, Bool.and_eq_true, decide_eq_true_eq, inB_iff] at h
  omega

/-- A term that is not too long. -/
def capC (c : List R2) : Option (List R2) := if c.length ≤ 400 then some c else none
/-- Where the second part of an application begins. -/
def midL (l : List R2) : Nat := (tPos lFol 0 l).toNat
def lamC (ix : Int → Int → Int) (bx : Int → Int) (short : Bool) (dep : Int) (t : List R2) : Option (List R2) :=
  match t with
  | [] => none
  | x :: l =>
    if x.a = 0 then some [⟨4, ix x.b dep⟩]
    else if x.a = 1 then
      match lamC ix bx short (dep + 1) l with
      | none => none
      | some c => capC (absC (bx dep) short c)
    else
      match lamC ix bx short dep (l.take (midL l)) with
      | none => none
      | some d =>
        match lamC ix bx short dep (l.drop (midL l)) with
        | none => none
        | some e => capC (⟨0, 0⟩ :: (d ++ e))
  termination_by t.length
  decreasing_by all_goals simp_wf; try omega
section
variable (ix : Int → Int → Int) (bx : Int → Int) (short : Bool) (dep : Int)
theorem lam_var {x : R2} {l : List R2} (h : x.a = 0) : lamC ix bx short dep (x :: l) = some [⟨4, ix x.b dep⟩] := by rw [lamC, if_pos h]
theorem lam_abs {x : R2} {l : List R2} (h : x.a = 1) : lamC ix bx short dep (x :: l) = match lamC ix bx short (dep + 1) l with | none => none | some c => capC (absC (bx dep) short c) := by
  rw [lamC, if_neg (by omega), if_pos h]
theorem lam_abs_none {x : R2} {l : List R2} (h : x.a = 1) (h1 : lamC ix bx short (dep + 1) l = none) : lamC ix bx short dep (x :: l) = none := by rw [lam_abs _ _ _ _ h, h1]
theorem lam_abs_some {x : R2} {l c : List R2} (h : x.a = 1) (h1 : lamC ix bx short (dep + 1) l = some c) : lamC ix bx short dep (x :: l) = capC (absC (bx dep) short c) := by rw [lam_abs _ _ _ _ h, h1]
theorem lam_app {x : R2} {l : List R2} (h0 : x.a ≠ 0) (h1 : x.a ≠ 1) : lamC ix bx short dep (x :: l) = match lamC ix bx short dep (l.take (midL l)) with | none => none | some d => (match lamC ix bx short dep (l.drop (midL l)) with | none => none | some e => capC (⟨0, 0⟩ :: (d ++ e))) := by
  rw [lamC, if_neg h0, if_neg h1]
theorem lam_app_none1 {x : R2} {l : List R2} (h : x.a = 2) (h1 : lamC ix bx short dep (l.take (midL l)) = none) : lamC ix bx short dep (x :: l) = none := by rw [lam_app _ _ _ _ (by omega) (by omega), h1]
theorem lam_app_none2 {x : R2} {l d : List R2} (h : x.a = 2) (h1 : lamC ix bx short dep (l.take (midL l)) = some d) (h2 : lamC ix bx short dep (l.drop (midL l)) = none) : lamC ix bx short dep (x :: l) = none := by rw [lam_app _ _ _ _ (by omega) (by omega), h1, h2]
theorem lam_app_some {x : R2} {l d e : List R2} (h : x.a = 2) (h1 : lamC ix bx short dep (l.take (midL l)) = some d) (h2 : lamC ix bx short dep (l.drop (midL l)) = some e) : lamC ix bx short dep (x :: l) = capC (⟨0, 0⟩ :: (d ++ e)) := by rw [lam_app _ _ _ _ (by omega) (by omega), h1, h2]
end
theorem capC_yes {c : List R2} (h : c.length ≤ 400) : capC c = some c := by rw [capC, if_pos h]
theorem capC_no {c : List R2} (h : 400 < c.length) : capC c = none := by rw [capC, if_neg (by omega)]
theorem capC_some {c d : List R2} (h : capC c = some d) : c = d ∧ d.length ≤ 400 := by
  unfold capC at h
  split at h
  · injection h with h; subst h; exact ⟨rfl, by assumption⟩
  · cases h

theorem fit_app {α : Type} (fol : α → Nat) (l : List α) : ∀ (a b : Nat) (m : List α), fit fol a l = true → fit fol b m = true → fit fol (a + b) (l ++ m) = true := by
  induction l with
  | nil =>
    intro a b m h1 h2
    cases a with
    | zero => simpa using h2
    | succ a => rw [fit_s0] at h1; cases h1
  | cons x l ih =>
    intro a b m h1 h2
    cases a with
    | zero => rw [fit_0c] at h1; cases h1
    | succ a =>
      rw [fit_sc] at h1
      rw [show a + 1 + b = (a + b) + 1 by omega, List.cons_append, fit_sc, show a + b + fol x = (a + fol x) + b by omega]
      exact ih _ _ _ h1 h2
theorem fit_one0 {k v : Int} (h : k ≠ 0) : fit kFol 1 [⟨k, v⟩] = true := by
  rw [show (1 : Nat) = 0 + 1 from rfl, fit_sc]
  unfold kFol
  rw [if_neg h]
  exact fit_00 kFol
theorem fit_ap {d e : List R2} (h1 : fit kFol 1 d = true) (h2 : fit kFol 1 e = true) : fit kFol 1 (⟨0, 0⟩ :: (d ++ e)) = true := by
  rw [show (1 : Nat) = 0 + 1 from rfl, fit_sc]
  exact fit_app kFol d 1 1 e h1 h2
theorem absC_fit (k : Int) (short : Bool) (N : Nat) : ∀ c : List R2, c.length ≤ N → fit kFol 1 c = true → fit kFol 1 (absC k short c) = true := by
  induction N with
  | zero => intro c h hf; have := fit_ne kFol c 0 hf; omega
  | succ N ih =>
    intro c h hf
    cases h1 : oneV k c with
    | true => rw [abs_one h1]; exact fit_one0 (by decide)
    | false =>
      cases h2 : hasV k c with
      | false => rw [abs_not h1 h2]; exact fit_ap (d := [⟨2, 0⟩]) (fit_one0 (by decide)) hf
      | true =>
        obtain ⟨q, q1, q2, q3, q4, q5, q6⟩ := abs_parts hf h1 h2
        have hd : (c.drop 1).take (midC c - 1) = (c.drop 1).take q := by rw [q3]; rfl
        have he : c.drop (midC c) = c.drop (q + 1) := by rw [q3]
        have ld : ((c.drop 1).take q).length = q := by rw [List.length_take, List.length_drop]; omega
        have le : (c.drop (q + 1)).length = c.length - (q + 1) := List.length_drop
        cases h3 : (short && oneV k (c.drop (q + 1)) && !hasV k ((c.drop 1).take q)) with
        | true => rw [abs_eta h1 h2 hd he h3]; exact q5
        | false =>
          rw [abs_app h1 h2 hd he h3]
          have i1 := ih _ (by omega) q5
          have i2 := ih _ (by omega) q6
          have := fit_ap (fit_ap (d := [⟨1, 0⟩]) (fit_one0 (by decide)) i1) i2
          simpa using this
/-- Which variables an abstraction has. -/
theorem absC_vars (k : Int) (short : Bool) (N : Nat) : ∀ c : List R2, c.length ≤ N → ∀ x ∈ absC k short c, x.a = 4 → x ∈ c ∧ isV k x = false := by
  induction N with
  | zero =>
    intro c h x hx h4
    have hc : c = [] := List.length_eq_zero_iff.1 (by omega)
    subst hc
    rw [abs_not rfl rfl] at hx
    simp at hx
    rcases hx with rfl | rfl <;> simp at h4
  | succ N ih =>
    intro c h x hx h4
    cases h1 : oneV k c with
    | true => rw [abs_one h1] at hx; simp at hx; subst hx; simp at h4
    | false =>
      cases h2 : hasV k c with
      | false =>
        rw [abs_not h1 h2] at hx
        simp only [List.mem_cons] at hx
        rcases hx with rfl | rfl | hx
        · simp at h4
        · simp at h4
        · refine ⟨hx, ?_⟩
          unfold hasV at h2
          rw [List.any_eq_false] at h2
          simpa using h2 x hx
      | true =>
        have hc : 0 < c.length := by
          cases c with
          | nil => simp [hasV] at h2
          | cons y l => simp
        have hm : 1 ≤ midC c := by unfold midC; omega
        cases h3 : (short && oneV k (c.drop (midC c)) && !hasV k ((c.drop 1).take (midC c - 1))) with
        | true =>
          rw [abs_eta h1 h2 rfl rfl h3] at hx
          refine ⟨List.mem_of_mem_drop (List.mem_of_mem_take hx), ?_⟩
          simp only [Bool.and_eq_true, Bool.not_eq_true'] at h3
          have h5 := h3.2
          unfold hasV at h5
          rw [List.any_eq_false] at h5
          simpa using h5 x hx
        | false =>
          rw [abs_app h1 h2 rfl rfl h3] at hx
          simp only [List.mem_cons, List.mem_append] at hx
          rcases hx with rfl | rfl | rfl | hx | hx
          · simp at h4
          · simp at h4
          · simp at h4
          · obtain ⟨i1, i2⟩ := ih _ (by rw [List.length_take, List.length_drop]; omega) x hx h4
            exact ⟨List.mem_of_mem_drop (List.mem_of_mem_take i1), i2⟩
          · obtain ⟨i1, i2⟩ := ih _ (by rw [List.length_drop]; omega) x hx h4
            exact ⟨List.mem_of_mem_drop i1, i2⟩
/-- Renaming. -/
theorem tPosAt_map {α : Type} (fol : α → Nat) (f : α → α) (hf : ∀ x, fol (f x) = fol x) (l : List α) : ∀ a k : Nat, tPosAt fol a k (l.map f) = tPosAt fol a k l := by
  induction l with
  | nil => intro a k; rfl
  | cons x l ih =>
    intro a k
    cases a with
    | zero => rw [tPosAt_zero, tPosAt_zero]
    | succ a => rw [List.map_cons, tPosAt_succ, tPosAt_succ, hf, ih]
def ren (x : R2) : R2 := if x.a = 4 ∧ x.b < 0 then ⟨4, 399 - x.b⟩ else x
theorem ren_not {x : R2} (h : x.a ≠ 4) : ren x = x := by unfold ren; rw [if_neg (fun h2 => h h2.1)]
theorem ren_a (x : R2) : (ren x).a = x.a := by
  unfold ren
  split
  · rename_i h; exact h.1.symm
  · rfl
theorem ren_fol (x : R2) : kFol (ren x) = kFol x := by unfold kFol; rw [ren_a]
theorem midC_ren (c : List R2) : midC (c.map ren) = midC c := by
  unfold midC tPos
  rw [← List.map_drop, tPosAt_map kFol ren ren_fol]
theorem hasV_ren {k k' : Int} {c : List R2} (h : ∀ x ∈ c, isV k' (ren x) = isV k x) : hasV k' (c.map ren) = hasV k c := by
  unfold hasV
  rw [List.any_map]
  induction c with
  | nil => rfl
  | cons x l ih =>
    rw [List.any_cons, List.any_cons, ih (fun y hy => h y (List.mem_cons_of_mem _ hy))]
    rw [show (isV k' ∘ ren) x = isV k' (ren x) from rfl, h x (by simp)]
theorem oneV_ren {k k' : Int} {c : List R2} (h : ∀ x ∈ c, isV k' (ren x) = isV k x) : oneV k' (c.map ren) = oneV k c := by
  match c, h with
  | [], _ => rfl
  | [x], h => exact h x (by simp)
  | _ :: _ :: _, _ => rfl
theorem absC_ren (k k' : Int) (short : Bool) (N : Nat) : ∀ c : List R2, c.length ≤ N → (∀ x ∈ c, isV k' (ren x) = isV k x) → absC k' short (c.map ren) = (absC k short c).map ren := by
  induction N with
  | zero =>
    intro c h _
    have hc : c = [] := List.length_eq_zero_iff.1 (by omega)
    subst hc
    rw [List.map_nil, abs_not rfl rfl, abs_not rfl rfl]
    rfl
  | succ N ih =>
    intro c h hv
    have e1 := oneV_ren hv
    have e2 := hasV_ren hv
    have em := midC_ren c
    have hvd : ∀ x ∈ (c.drop 1).take (midC c - 1), isV k' (ren x) = isV k x := fun x hx => hv x (List.mem_of_mem_drop (List.mem_of_mem_take hx))
    have hve : ∀ x ∈ c.drop (midC c), isV k' (ren x) = isV k x := fun x hx => hv x (List.mem_of_mem_drop hx)
    have hd : ((c.map ren).drop 1).take (midC (c.map ren) - 1) = ((c.drop 1).take (midC c - 1)).map ren := by rw [em, List.map_take, List.map_drop]
    have he : (c.map ren).drop (midC (c.map ren)) = (c.drop (midC c)).map ren := by rw [em, List.map_drop]
    have e3 := oneV_ren hve
    have e4 := hasV_ren hvd
    cases h1 : oneV k c with
    | true => rw [abs_one (e1.trans h1), abs_one h1]; rfl
    | false =>
      cases h2 : hasV k c with
      | false => rw [abs_not (e1.trans h1) (e2.trans h2), abs_not h1 h2]; rfl
      | true =>
        have hc : 0 < c.length := by
          cases c with
          | nil => simp [hasV] at h2
          | cons y l => simp
        have hm : 1 ≤ midC c := by unfold midC; omega
        cases h3 : (short && oneV k (c.drop (midC c)) && !hasV k ((c.drop 1).take (midC c - 1))) with
        | true => rw [abs_eta (e1.trans h1) (e2.trans h2) hd he (by rw [e3, e4]; exact h3), abs_eta h1 h2 rfl rfl h3]
        | false =>
          rw [abs_app (e1.trans h1) (e2.trans h2) hd he (by rw [e3, e4]; exact h3), abs_app h1 h2 rfl rfl h3]
          rw [ih _ (by rw [List.length_take, List.length_drop]; omega) hvd, ih _ (by rw [List.length_drop]; omega) hve]
          simp only [List.map_cons, List.map_append]
          rfl
def ixI (i d : Int) : Int := i - d
def bxI (d : Int) : Int := -1 - d
def ixS (i d : Int) : Int := if i - d < 0 then 400 + d - 1 - i else i - d
def bxS (d : Int) : Int := 400 + d
theorem midL_le (l : List R2) : midL l ≤ l.length := by
  unfold midL tPos
  have := tPosAt_le lFol l 1 0
  omega
/-- What is true of each term that is given. -/
theorem lamC_facts (short : Bool) (N : Nat) : ∀ (t : List R2) (dep : Int) (c : List R2), t.length ≤ N → t.all lOk = true → 0 ≤ dep → lamC ixI bxI short dep t = some c →
    c.length ≤ 400 ∧ fit kFol 1 c = true ∧ (∀ x ∈ c, x.a = 4 → -dep ≤ x.b ∧ x.b ≤ 399) ∧ lamC ixS bxS short dep t = some (c.map ren) := by
  induction N with
  | zero => intro t dep c h _ _ hc; have : t = [] := List.length_eq_zero_iff.1 (by omega); subst this; rw [lamC] at hc; cases hc
  | succ N ih =>
    intro t dep c h hok hdep hc
    cases t with
    | nil => rw [lamC] at hc; cases hc
    | cons x l =>
      simp only [List.all_cons, Bool.and_eq_true] at hok
      have hx := lOk_cases hok.1
      have hl : l.length ≤ N := by simp at h; omega
      have hall : ∀ m, (l.take m).all lOk = true ∧ (l.drop m).all lOk = true := fun m => ⟨List.all_eq_true.2 fun y hy => List.all_eq_true.1 hok.2 y (List.mem_of_mem_take hy), List.all_eq_true.2 fun y hy => List.all_eq_true.1 hok.2 y (List.mem_of_mem_drop hy)⟩
      by_cases h0 : x.a = 0
      · rw [lam_var _ _ _ _ h0] at hc
        injection hc with hc
        subst hc
        refine ⟨by simp, fit_one0 (by decide), ?_, ?_⟩
        · intro y hy _
          simp at hy
          subst hy
          simp only [ixI]
          omega
        · rw [lam_var _ _ _ _ h0]
          have e : ren ⟨4, ixI x.b dep⟩ = ⟨4, ixS x.b dep⟩ := by
            unfold ixS ixI
            by_cases hn : x.b - dep < 0
            · rw [ren, if_pos ⟨rfl, hn⟩, if_pos hn]
              exact R2.ext' rfl (by show 399 - (x.b - dep) = 400 + dep - 1 - x.b; omega)
            · rw [ren, if_neg (fun h => hn h.2), if_neg hn]
          rw [List.map_cons, List.map_nil, e]
      · by_cases h1 : x.a = 1
        · cases h2 : lamC ixI bxI short (dep + 1) l with
          | none => rw [lam_abs_none _ _ _ _ h1 h2] at hc; cases hc
          | some b =>
            rw [lam_abs_some _ _ _ _ h1 h2] at hc
            obtain ⟨hc, hlen⟩ := capC_some hc
            obtain ⟨f1, f2, f3, f4⟩ := ih l (dep + 1) b hl hok.2 (by omega) h2
            have hv : ∀ y ∈ b, isV (bxS dep) (ren y) = isV (bxI dep) y := by
              intro y hy
              unfold isV bxS bxI
              rw [ren_a]
              by_cases h4 : y.a = 4
              · have := f3 y hy h4
                rw [decide_eq_true h4, Bool.true_and, Bool.true_and]
                unfold ren
                by_cases hn : y.b < 0
                · rw [if_pos ⟨h4, hn⟩]
                  simp only [decide_eq_decide]
                  omega
                · rw [if_neg (fun h => hn h.2)]
                  simp only [decide_eq_decide]
                  omega
              · simp [h4]
            refine ⟨hlen, hc ▸ absC_fit _ short _ b (Nat.le_refl _) f2, ?_, ?_⟩
            · intro y hy h4
              rw [← hc] at hy
              obtain ⟨g1, g2⟩ := absC_vars _ short _ b (Nat.le_refl _) y hy h4
              have := f3 y g1 h4
              unfold isV bxI at g2
              simp [h4] at g2
              omega
            · rw [lam_abs_some _ _ _ _ h1 f4, absC_ren _ _ short _ b (Nat.le_refl _) hv, hc, capC_yes (by simpa using hlen)]
        · have h2' : x.a = 2 := by omega
          cases h2 : lamC ixI bxI short dep (l.take (midL l)) with
          | none => rw [lam_app_none1 _ _ _ _ h2' h2] at hc; cases hc
          | some d =>
            cases h3 : lamC ixI bxI short dep (l.drop (midL l)) with
            | none => rw [lam_app_none2 _ _ _ _ h2' h2 h3] at hc; cases hc
            | some e =>
              rw [lam_app_some _ _ _ _ h2' h2 h3] at hc
              obtain ⟨hc, hlen⟩ := capC_some hc
              obtain ⟨f1, f2, f3, f4⟩ := ih _ dep d (by rw [List.length_take]; omega) (hall _).1 hdep h2
              obtain ⟨g1, g2, g3, g4⟩ := ih _ dep e (by rw [List.length_drop]; omega) (hall _).2 hdep h3
              refine ⟨hlen, hc ▸ fit_ap f2 g2, ?_, ?_⟩
              · intro y hy h4
                rw [← hc] at hy
                simp only [List.mem_cons, List.mem_append] at hy
                rcases hy with rfl | hy | hy
                · simp at h4
                · exact f3 y hy h4
                · exact g3 y hy h4
              · rw [lam_app_some _ _ _ _ h2' f4 g4, ← hc]
                have : (⟨0, 0⟩ :: (d.map ren ++ e.map ren) : List R2) = (⟨0, 0⟩ :: (d ++ e) : List R2).map ren := by simp only [List.map_cons, List.map_append]; rfl
                rw [this, capC_yes (by rw [List.length_map, hc]; exact hlen)]
theorem lamC_none (short : Bool) (N : Nat) : ∀ (t : List R2) (dep : Int), t.length ≤ N → t.all lOk = true → 0 ≤ dep → lamC ixI bxI short dep t = none → lamC ixS bxS short dep t = none := by
  induction N with
  | zero => intro t dep h _ _ hc; have : t = [] := List.length_eq_zero_iff.1 (by omega); subst this; rw [lamC]
  | succ N ih =>
    intro t dep h hok hdep hc
    cases t with
    | nil => rw [lamC]
    | cons x l =>
      simp only [List.all_cons, Bool.and_eq_true] at hok
      have hx := lOk_cases hok.1
      have hl : l.length ≤ N := by simp at h; omega
      have hall : ∀ m, (l.take m).all lOk = true ∧ (l.drop m).all lOk = true := fun m => ⟨List.all_eq_true.2 fun y hy => List.all_eq_true.1 hok.2 y (List.mem_of_mem_take hy), List.all_eq_true.2 fun y hy => List.all_eq_true.1 hok.2 y (List.mem_of_mem_drop hy)⟩
      by_cases h0 : x.a = 0
      · rw [lam_var _ _ _ _ h0] at hc; cases hc
      · by_cases h1 : x.a = 1
        · cases h2 : lamC ixI bxI short (dep + 1) l with
          | none => rw [lam_abs_none _ _ _ _ h1 (ih l (dep + 1) hl hok.2 (by omega) h2)]
          | some b =>
            rw [lam_abs_some _ _ _ _ h1 h2] at hc
            obtain ⟨f1, f2, f3, f4⟩ := lamC_facts short _ l (dep + 1) b (Nat.le_refl _) hok.2 (by omega) h2
            have hv : ∀ y ∈ b, isV (bxS dep) (ren y) = isV (bxI dep) y := by
              intro y hy
              unfold isV bxS bxI
              rw [ren_a]
              by_cases h4 : y.a = 4
              · have := f3 y hy h4
                rw [decide_eq_true h4, Bool.true_and, Bool.true_and]
                unfold ren
                by_cases hn : y.b < 0
                · rw [if_pos ⟨h4, hn⟩]
                  simp only [decide_eq_decide]
                  omega
                · rw [if_neg (fun h => hn h.2)]
                  simp only [decide_eq_decide]
                  omega
              · simp [h4]
            rw [lam_abs_some _ _ _ _ h1 f4, absC_ren _ _ short _ b (Nat.le_refl _) hv]
            unfold capC at hc ⊢
            rw [List.length_map]
            split at hc
            · cases hc
            · rename_i hh; rw [if_neg hh]
        · have h2' : x.a = 2 := by omega
          cases h2 : lamC ixI bxI short dep (l.take (midL l)) with
          | none => rw [lam_app_none1 _ _ _ _ h2' (ih _ dep (by rw [List.length_take]; omega) (hall _).1 hdep h2)]
          | some d =>
            obtain ⟨f1, f2, f3, f4⟩ := lamC_facts short _ _ dep d (Nat.le_refl _) (hall _).1 hdep h2
            cases h3 : lamC ixI bxI short dep (l.drop (midL l)) with
            | none => rw [lam_app_none2 _ _ _ _ h2' f4 (ih _ dep (by rw [List.length_drop]; omega) (hall _).2 hdep h3)]
            | some e =>
              obtain ⟨g1, g2, g3, g4⟩ := lamC_facts short _ _ dep e (Nat.le_refl _) (hall _).2 hdep h3
              rw [lam_app_some _ _ _ _ h2' h2 h3] at hc
              rw [lam_app_some _ _ _ _ h2' f4 g4]
              unfold capC at hc ⊢
              split at hc
              · cases hc
              · rename_i hh; rw [if_neg (by simpa using hh)]
/-- What LamToComb gives. -/
def lamToComb (t : List R2) (short : Bool) : List R2 × Int := if validT t then (match lamC ixI bxI short 0 t with | some c => (c, 0) | none => ([], 5)) else ([], 1)
theorem ren_id {c : List R2} (h : ∀ x ∈ c, x.a = 4 → 0 ≤ x.b) : c.map ren = c := by
  induction c with
  | nil => rfl
  | cons x l ih =>
    rw [List.map_cons, ih fun y hy => h y (List.mem_cons_of_mem _ hy)]
    congr 1
    unfold ren
    rw [if_neg]
    rintro ⟨h1, h2⟩
    have := h x (by simp) h1
    omega
theorem lamC_same (short : Bool) {t : List R2} (h : t.all lOk = true) : lamC ixS bxS short 0 t = lamC ixI bxI short 0 t := by
  cases h1 : lamC ixI bxI short 0 t with
  | none => exact lamC_none short _ t 0 (Nat.le_refl _) h (by omega) h1
  | some c =>
    obtain ⟨f1, f2, f3, f4⟩ := lamC_facts short _ t 0 c (Nat.le_refl _) h (by omega) h1
    rw [f4, ren_id fun x hx h4 => by have := f3 x hx h4; omega]
theorem bndLamToComb0 (t : List R2) (short : Bool) (h : t.length ≤ 1048576) : (lamToComb t short).1.length ≤ 1048576 := by
  unfold lamToComb
  split
  · rename_i hv
    have hok : t.all lOk = true := by unfold validT at hv; exact (Bool.and_eq_true _ _ ▸ (Bool.and_eq_true _ _ ▸ hv).2).1
    cases h1 : lamC ixI bxI short 0 t with
    | none => simp
    | some c => have := (lamC_facts short _ t 0 c (Nat.le_refl _) hok (by omega) h1).1; simp only; omega
  · simp
end Go.Proofs.YtkiaclajjlidoaaGreatDoor

/- Lambda terms as trees, their elements and their texts; a text whose numbers are single digits, read. Plain lemmas. -/
namespace Go.Proofs.YtkiaclajjlidoaaGreatDoor
open Go.RowKit
set_option linter.all false

inductive LTm where
  | v (n : Nat)
  | ab (t : LTm)
  | ap (s t : LTm)
def LTm.flat : LTm → List R2
  | .v n => [⟨0, (n : Int)⟩]
  | .ab t => ⟨1, 0⟩ :: t.flat
  | .ap s t => ⟨2, 0⟩ :: (s.flat ++ t.flat)
def LTm.text : LTm → List UInt8
  | .v n => [UInt8.ofNat (48 + n)]
  | .ab t => 94 :: t.text
  | .ap s t => 40 :: (s.text ++ 32 :: (t.text ++ [41]))
def LTm.small : LTm → Bool
  | .v n => decide (n < 10)
  | .ab t => t.small
  | .ap s t => s.small && t.small
theorem lOk_v0 {x : R2} (h : x.a = 0) : lOk x = inB x.b 0 399 := by unfold lOk; rw [h]; simp
def digB (b : UInt8) : Bool := decide (48 ≤ b.toNat) && decide (b.toNat ≤ 57)
/-- The elements of a text, each digit a number. -/
def rdT : List UInt8 → List R2
  | [] => []
  | b :: r => if b = 40 then ⟨2, 0⟩ :: rdT r else if b = 32 ∨ b = 41 then rdT r else if b = 94 then ⟨1, 0⟩ :: rdT r else ⟨0, (b.toNat : Int) - 48⟩ :: rdT r
/-- No other byte, and no digit behind a digit. -/
def okT : List UInt8 → Bool
  | [] => true
  | b :: r => (b == 40 || b == 32 || b == 41 || b == 94 || (digB b && !digB (r.headD 0))) && okT r
theorem rdT_app (r : List UInt8) : rdT (40 :: r) = ⟨2, 0⟩ :: rdT r := by rw [rdT, if_pos rfl]
theorem rdT_abs (r : List UInt8) : rdT (94 :: r) = ⟨1, 0⟩ :: rdT r := by
  rw [rdT, if_neg (by decide), if_neg (by decide), if_pos rfl]
theorem rdT_blank (r : List UInt8) : rdT (32 :: r) = rdT r := by rw [rdT, if_neg (by decide), if_pos (by decide)]
theorem rdT_close (r : List UInt8) : rdT (41 :: r) = rdT r := by rw [rdT, if_neg (by decide), if_pos (by decide)]
theorem dig_toNat {d : Nat} (h : d < 10) : (UInt8.ofNat (48 + d)).toNat = 48 + d := by rw [UInt8.toNat_ofNat']; omega
theorem rdT_dig {d : Nat} (h : d < 10) (r : List UInt8) : rdT (UInt8.ofNat (48 + d) :: r) = ⟨0, (d : Int)⟩ :: rdT r := by
  have h1 := dig_toNat h
  have ne : ∀ b : UInt8, b.toNat < 48 ∨ 57 < b.toNat → ¬ UInt8.ofNat (48 + d) = b := by
    intro b hb e
    rw [e] at h1; omega
  rw [rdT, if_neg (ne 40 (by decide)), if_neg (by intro e; rcases e with e | e; exact ne 32 (by decide) e; exact ne 41 (by decide) e), if_neg (ne 94 (by decide)), h1]
  congr 2
  omega
theorem okT_cases {b : UInt8} {r : List UInt8} (h : okT (b :: r) = true) : okT r = true ∧
    (b = 40 ∨ b = 32 ∨ b = 41 ∨ b = 94 ∨ ∃ d : Nat, d < 10 ∧ b = UInt8.ofNat (48 + d) ∧ digB (r.headD 0) = false) := by
  rw [okT, Bool.and_eq_true] at h
  refine ⟨h.2, ?_⟩
  have h1 := h.1
  simp only [Bool.or_eq_true, beq_iff_eq, Bool.and_eq_true, digB, decide_eq_true_eq, Bool.not_eq_true'] at h1
  rcases h1 with (((h1 | h1) | h1) | h1) | ⟨⟨h1, h2⟩, h3⟩
  · exact .inl h1
  · exact .inr (.inl h1)
  · exact .inr (.inr (.inl h1))
  · exact .inr (.inr (.inr (.inl h1)))
  · refine .inr (.inr (.inr (.inr ⟨b.toNat - 48, by omega, ?_, h3⟩)))
    apply UInt8.toNat_inj.1
    rw [dig_toNat (by omega)]; omega
theorem rdT_len (l : List UInt8) : (rdT l).length ≤ l.length := by
  induction l with
  | nil => exact Nat.le_refl _
  | cons b r ih =>
    rw [rdT]
    split
    · rw [List.length_cons, List.length_cons]; omega
    split
    · rw [List.length_cons]; omega
    split
    · rw [List.length_cons, List.length_cons]; omega
    · rw [List.length_cons, List.length_cons]; omega
theorem LTm.flat_pos (t : LTm) : 0 < t.flat.length := by cases t <;> simp [LTm.flat]
theorem LTm.text_len (t : LTm) : t.text.length ≤ 4 * t.flat.length ∧ t.flat.length ≤ t.text.length := by
  induction t with
  | v n => simp [LTm.text, LTm.flat]
  | ab t ih => simp only [LTm.text, LTm.flat, List.length_cons]; omega
  | ap s t ih1 ih2 => simp only [LTm.text, LTm.flat, List.length_cons, List.length_append, List.length_nil]; omega
/-- All indices are below 400. -/
def LTm.idx : LTm → Bool
  | .v n => decide (n < 400)
  | .ab t => t.idx
  | .ap s t => s.idx && t.idx
theorem LTm.small_idx : ∀ t : LTm, t.small = true → t.idx = true
  | .v n, h => by
    have h1 : n < 10 := by simpa [LTm.small] using h
    simp only [LTm.idx, decide_eq_true_eq]; omega
  | .ab t, h => by
    rw [LTm.idx]; exact LTm.small_idx t (by simpa [LTm.small] using h)
  | .ap s t, h => by
    have h1 : s.small = true ∧ t.small = true := by simpa [LTm.small] using h
    rw [LTm.idx, LTm.small_idx s h1.1, LTm.small_idx t h1.2]; rfl
theorem LTm.flat_fit : ∀ t : LTm, fit lFol 1 t.flat = true
  | .v n => by
    rw [LTm.flat, show (1 : Nat) = 0 + 1 from rfl, fit_sc, lFol_0 rfl]
    exact fit_00 lFol
  | .ab t => by
    rw [LTm.flat, show (1 : Nat) = 0 + 1 from rfl, fit_sc, lFol_1 rfl]
    exact LTm.flat_fit t
  | .ap s t => by
    rw [LTm.flat, show (1 : Nat) = 0 + 1 from rfl, fit_sc, lFol_2 rfl]
    exact fit_app lFol s.flat 1 1 t.flat (LTm.flat_fit s) (LTm.flat_fit t)
theorem LTm.flat_ok : ∀ t : LTm, t.idx = true → t.flat.all lOk = true
  | .v n, h => by
    have h1 : n < 400 := by simpa [LTm.idx] using h
    rw [LTm.flat, List.all_cons, lOk_v0 rfl, (inB_iff _ _ _).2 (by simp only; omega)]; rfl
  | .ab t, h => by
    rw [LTm.flat, List.all_cons, LTm.flat_ok t (by simpa [LTm.idx] using h)]; rfl
  | .ap s t, h => by
    have h1 : s.idx = true ∧ t.idx = true := by simpa [LTm.idx] using h
    rw [LTm.flat, List.all_cons, List.all_append, LTm.flat_ok s h1.1, LTm.flat_ok t h1.2]; rfl
theorem LTm.flat_validI (t : LTm) (h : t.idx = true) (hl : t.flat.length ≤ 400) : validT t.flat = true := by
  unfold validT
  rw [(inB_iff _ _ _).2 (by have := t.flat_pos; omega), t.flat_ok h, t.flat_fit]; rfl
theorem LTm.flat_valid (t : LTm) (h : t.small = true) (hl : t.flat.length ≤ 400) : validT t.flat = true := t.flat_validI (t.small_idx h) hl
/-- A text that is a valid term's. -/
structure TxOk (l : List UInt8) (t : LTm) : Prop where
  text : t.text = l
  ok : okT l = true
  rd : rdT l = t.flat
  small : t.small = true
  valid : validT t.flat = true
  len : l.length ≤ 60
end Go.Proofs.YtkiaclajjlidoaaGreatDoor

/- The standard lambda terms: their names and texts, and that each text is a term's. Plain lemmas. -/
namespace Go.Proofs.YtkiaclajjlidoaaGreatDoor
open Go.RowKit
set_option linter.all false

/-- A term out of its elements. -/
def mkT : Nat → List R2 → LTm × List R2
  | 0, l => (.v 0, l)
  | _ + 1, [] => (.v 0, [])
  | n + 1, x :: l =>
    if x.a = 0 then (.v x.b.toNat, l)
    else if x.a = 1 then (.ab (mkT n l).1, (mkT n l).2)
    else (.ap (mkT n l).1 (mkT n (mkT n l).2).1, (mkT n (mkT n l).2).2)
def tmOf (l : List UInt8) : LTm := (mkT 40 (rdT l)).1
def txOkB (l : List UInt8) : Bool := decide ((tmOf l).text = l) && (okT l && (decide (rdT l = (tmOf l).flat) && ((tmOf l).small && decide (l.length ≤ 60))))
theorem TxOk.of {l : List UInt8} (h : txOkB l = true) : TxOk l (tmOf l) := by
  unfold txOkB at h
  simp only [Bool.and_eq_true, decide_eq_true_eq] at h
  exact ⟨h.1, h.2.1, h.2.2.1, h.2.2.2.1, (LTm.flat_valid _ h.2.2.2.1 (by have := (tmOf l).text_len.2; rw [h.1] at this; omega)), h.2.2.2.2⟩
def stdTab : List (List UInt8 × List UInt8) := [
  ([116, 114, 117, 101], [94, 94, 49]),
  ([102, 97, 108, 115, 101], [94, 94, 48]),
  ([110, 101, 120, 116], [94, 94, 94, 40, 49, 32, 40, 40, 50, 32, 49, 41, 32, 48, 41, 41]),
  ([97, 100, 100], [94, 94, 94, 94, 40, 40, 51, 32, 49, 41, 32, 40, 40, 50, 32, 49, 41, 32, 48, 41, 41]),
  ([109, 117, 108, 116, 105, 112, 108, 121], [94, 94, 94, 40, 50, 32, 40, 49, 32, 48, 41, 41]),
  ([112, 111, 119, 101, 114], [94, 94, 40, 48, 32, 49, 41]),
  ([122, 101, 114, 111], [94, 40, 40, 48, 32, 94, 94, 94, 48, 41, 32, 94, 94, 49, 41]),
  ([112, 97, 105, 114], [94, 94, 94, 40, 40, 48, 32, 50, 41, 32, 49, 41]),
  ([102, 105, 114, 115, 116], [94, 40, 48, 32, 94, 94, 49, 41]),
  ([115, 101, 99, 111, 110, 100], [94, 40, 48, 32, 94, 94, 48, 41]),
  ([102, 105, 120], [94, 40, 94, 40, 49, 32, 40, 48, 32, 48, 41, 41, 32, 94, 40, 49, 32, 40, 48, 32, 48, 41, 41, 41])]
def stdRev : List (List UInt8 × List UInt8) := [
  ([102, 105, 120], [94, 40, 94, 40, 49, 32, 40, 48, 32, 48, 41, 41, 32, 94, 40, 49, 32, 40, 48, 32, 48, 41, 41, 41]),
  ([115, 101, 99, 111, 110, 100], [94, 40, 48, 32, 94, 94, 48, 41]),
  ([102, 105, 114, 115, 116], [94, 40, 48, 32, 94, 94, 49, 41]),
  ([112, 97, 105, 114], [94, 94, 94, 40, 40, 48, 32, 50, 41, 32, 49, 41]),
  ([122, 101, 114, 111], [94, 40, 40, 48, 32, 94, 94, 94, 48, 41, 32, 94, 94, 49, 41]),
  ([112, 111, 119, 101, 114], [94, 94, 40, 48, 32, 49, 41]),
  ([109, 117, 108, 116, 105, 112, 108, 121], [94, 94, 94, 40, 50, 32, 40, 49, 32, 48, 41, 41]),
  ([97, 100, 100], [94, 94, 94, 94, 40, 40, 51, 32, 49, 41, 32, 40, 40, 50, 32, 49, 41, 32, 48, 41, 41]),
  ([110, 101, 120, 116], [94, 94, 94, 40, 49, 32, 40, 40, 50, 32, 49, 41, 32, 48, 41, 41]),
  ([102, 97, 108, 115, 101], [94, 94, 48]),
  ([116, 114, 117, 101], [94, 94, 49])]
def look (ps : List (List UInt8 × List UInt8)) (z : List UInt8) : Option (List UInt8) := (ps.find? fun p => p.1 == z).map (·.2)
theorem look_cons_same (k d : List UInt8) (ps : List (List UInt8 × List UInt8)) : look ((k, d) :: ps) k = some d := by simp [look]
theorem look_cons_other {k z : List UInt8} (d : List UInt8) (ps : List (List UInt8 × List UInt8)) (h : z ≠ k) : look ((k, d) :: ps) z = look ps z := by
  unfold look
  rw [List.find?_cons_of_neg (by simpa using fun e => h e.symm)]
theorem look_none {ps : List (List UInt8 × List UInt8)} {z : List UInt8} (h : ∀ p ∈ ps, p.1 ≠ z) : look ps z = none := by
  unfold look
  rw [List.find?_eq_none.2 (fun p hp => by simpa using h p hp)]; rfl
set_option maxRecDepth 100000 in
theorem std_ok : ∀ p ∈ stdTab, txOkB p.2 = true := by decide
set_option maxRecDepth 100000 in
theorem std_same : ∀ p ∈ stdTab, look stdRev p.1 = some p.2 ∧ look stdTab p.1 = some p.2 := by decide
set_option maxRecDepth 100000 in
theorem std_rev : ∀ p ∈ stdRev, p ∈ stdTab := by decide
theorem look_mem {ps : List (List UInt8 × List UInt8)} {z l : List UInt8} (h : look ps z = some l) : ∃ p ∈ ps, p.1 = z ∧ p.2 = l := by
  unfold look at h
  obtain ⟨p, h1, h2⟩ := Option.map_eq_some_iff.1 h
  exact ⟨p, List.mem_of_find?_eq_some h1, by simpa using List.find?_some h1, h2⟩
theorem look_rev (z : List UInt8) : look stdRev z = look stdTab z := by
  by_cases h : ∃ p ∈ stdTab, p.1 = z
  · obtain ⟨p, hp, rfl⟩ := h
    rw [(std_same p hp).1, (std_same p hp).2]
  · rw [look_none (fun p hp e => h ⟨p, std_rev p hp, e⟩), look_none (fun p hp e => h ⟨p, hp, e⟩)]
/-- What StandardLam gives. -/
def stdLam (s : ByteArray) : List R2 × Int := match look stdTab s.data.toList with
  | none => ([], 3)
  | some l => ((tmOf l).flat, 0)
theorem stdLam_none {s : ByteArray} (h : look stdTab s.data.toList = none) : stdLam s = ([], 3) := by unfold stdLam; rw [h]
theorem stdLam_some {s : ByteArray} {l : List UInt8} (h : look stdTab s.data.toList = some l) : stdLam s = ((tmOf l).flat, 0) := by unfold stdLam; rw [h]
theorem look_ok {z l : List UInt8} (h : look stdTab z = some l) : TxOk l (tmOf l) := by
  obtain ⟨p, h1, _, h3⟩ := look_mem h
  have := std_ok p h1
  rw [h3] at this
  exact TxOk.of this
theorem bndStandardLam0 (s : ByteArray) : (stdLam s).1.length ≤ 1048576 := by
  cases h : look stdTab s.data.toList with
  | none => rw [stdLam_none h]; simp
  | some l =>
    rw [stdLam_some h]
    have h1 := look_ok h
    have h2 := (tmOf l).text_len.2
    have h3 := h1.len
    rw [h1.text] at h2
    show (tmOf l).flat.length ≤ 1048576
    omega
end Go.Proofs.YtkiaclajjlidoaaGreatDoor

/- Recursive functions as lists of nodes: which are valid, told in two ways. Plain lemmas. -/
namespace Go.Proofs.YtkiaclajjlidoaaGreatDoor
set_option linter.all false

def fOkN (x : R3) : Bool :=
  (decide (x.a = 0) && (inB x.b 0 4 && decide (x.c = 0))) ||
  (decide (x.a = 1) && (decide (x.b = 1) && decide (x.c = 0))) ||
  (decide (x.a = 2) && (inB x.b 1 4 && inB x.c 0 (x.b - 1))) ||
  (decide (x.a = 3) && (inB x.b 0 4 && inB x.c 1 4)) ||
  (decide (x.a = 4) && (inB x.b 1 3 && decide (x.c = 0))) ||
  (decide (x.a = 5) && (inB x.b 0 3 && decide (x.c = 0)))
theorem fOkN_iff (x : R3) : fOkN x = true ↔ (x.a = 0 ∧ 0 ≤ x.b ∧ x.b ≤ 4 ∧ x.c = 0) ∨ (x.a = 1 ∧ x.b = 1 ∧ x.c = 0) ∨ (x.a = 2 ∧ 1 ≤ x.b ∧ x.b ≤ 4 ∧ 0 ≤ x.c ∧ x.c ≤ x.b - 1) ∨ (x.a = 3 ∧ 0 ≤ x.b ∧ x.b ≤ 4 ∧ 1 ≤ x.c ∧ x.c ≤ 4) ∨ (x.a = 4 ∧ 1 ≤ x.b ∧ x.b ≤ 3 ∧ x.c = 0) ∨ (x.a = 5 ∧ 0 ≤ x.b ∧ x.b ≤ 3 ∧ x.c = 0) := by
  unfold fOkN
  simp only [Bool.or_eq_true, Bool.and_eq_true, decide_eq_true_eq, inB_iff, or_assoc, and_assoc]
theorem fOkN_0 {x : R3} (h : x.a = 0) : fOkN x = (inB x.b 0 4 && decide (x.c = 0)) := by simp [fOkN, h]
theorem fOkN_1 {x : R3} (h : x.a = 1) : fOkN x = (decide (x.b = 1) && decide (x.c = 0)) := by simp [fOkN, h]
theorem fOkN_2 {x : R3} (h : x.a = 2) : fOkN x = (inB x.b 1 4 && inB x.c 0 (x.b - 1)) := by simp [fOkN, h]
theorem fOkN_3 {x : R3} (h : x.a = 3) : fOkN x = (inB x.b 0 4 && inB x.c 1 4) := by simp [fOkN, h]
theorem fOkN_4 {x : R3} (h : x.a = 4) : fOkN x = (inB x.b 1 3 && decide (x.c = 0)) := by simp [fOkN, h]
theorem fOkN_5 {x : R3} (h : x.a = 5) : fOkN x = (inB x.b 0 3 && decide (x.c = 0)) := by simp [fOkN, h]
theorem fOkN_6 {x : R3} (h0 : x.a ≠ 0) (h1 : x.a ≠ 1) (h2 : x.a ≠ 2) (h3 : x.a ≠ 3) (h4 : x.a ≠ 4) (h5 : x.a ≠ 5) : fOkN x = false := by simp [fOkN, h0, h1, h2, h3, h4, h5]
/-- How many functions follow a node. -/
def fMany (x : R3) : Nat := if x.a = 3 then (x.c + 1).toNat else if x.a = 4 then 2 else if x.a = 5 then 1 else 0
/-- Their arities. -/
def fFols (x : R3) : List Int := if x.a = 3 then x.c :: List.replicate x.c.toNat x.b else if x.a = 4 then [x.b - 1, x.b + 1] else if x.a = 5 then [x.b + 1] else []
theorem fMany_3 {x : R3} (h : x.a = 3) : fMany x = (x.c + 1).toNat := by simp [fMany, h]
theorem fMany_4 {x : R3} (h : x.a = 4) : fMany x = 2 := by simp [fMany, h]
theorem fMany_5 {x : R3} (h : x.a = 5) : fMany x = 1 := by simp [fMany, h]
theorem fMany_0 {x : R3} (h3 : x.a ≠ 3) (h4 : x.a ≠ 4) (h5 : x.a ≠ 5) : fMany x = 0 := by simp [fMany, h3, h4, h5]
theorem fFols_3 {x : R3} (h : x.a = 3) : fFols x = x.c :: List.replicate x.c.toNat x.b := by simp [fFols, h]
theorem fFols_4 {x : R3} (h : x.a = 4) : fFols x = [x.b - 1, x.b + 1] := by simp [fFols, h]
theorem fFols_5 {x : R3} (h : x.a = 5) : fFols x = [x.b + 1] := by simp [fFols, h]
theorem fFols_0 {x : R3} (h3 : x.a ≠ 3) (h4 : x.a ≠ 4) (h5 : x.a ≠ 5) : fFols x = [] := by simp [fFols, h3, h4, h5]
theorem fMany_le {x : R3} (h : fOkN x = true) : fMany x ≤ 5 := by
  have := (fOkN_iff x).1 h
  unfold fMany
  split
  · omega
  · split
    · omega
    · split <;> omega
theorem fFols_len {x : R3} (h : fOkN x = true) : (fFols x).length = fMany x := by
  have := (fOkN_iff x).1 h
  unfold fFols fMany
  split
  · simp; omega
  · split
    · rfl
    · split <;> rfl
theorem fFols_pos {x : R3} (h : fOkN x = true) : ∀ a ∈ fFols x, 0 ≤ a := by
  have := (fOkN_iff x).1 h
  intro a ha
  unfold fFols at ha
  split at ha
  · rcases List.mem_cons.1 ha with rfl | ha
    · omega
    · have := List.eq_of_mem_replicate ha; omega
  · split at ha
    · simp at ha; omega
    · split at ha
      · simp at ha; omega
      · simp at ha

/-- Functions of demanded arities (-1: any), one behind the other: what is left. -/
def fRun : List Int → List R3 → Option (List R3)
  | [], l => some l
  | _ :: _, [] => none
  | a :: st, x :: l => if (a < 0 ∨ x.b = a) ∧ fOkN x = true then fRun (fFols x ++ st) l else none
  termination_by _ l => l.length
theorem fRun_nil (l : List R3) : fRun [] l = some l := by rw [fRun]
theorem fRun_none (a : Int) (st : List Int) : fRun (a :: st) [] = none := by rw [fRun]
theorem fRun_cons {a : Int} {x : R3} (h : (a < 0 ∨ x.b = a) ∧ fOkN x = true) (st : List Int) (l : List R3) : fRun (a :: st) (x :: l) = fRun (fFols x ++ st) l := by rw [fRun, if_pos h]
theorem fRun_bad {a : Int} {x : R3} (h : ¬ ((a < 0 ∨ x.b = a) ∧ fOkN x = true)) (st : List Int) (l : List R3) : fRun (a :: st) (x :: l) = none := by rw [fRun, if_neg h]
theorem fRun_app (l : List R3) : ∀ s t : List Int, fRun (s ++ t) l = (fRun s l).bind (fRun t) := by
  induction l with
  | nil =>
    intro s t
    cases s with
    | nil => rw [List.nil_append, fRun_nil]; rfl
    | cons a s => rw [List.cons_append, fRun_none, fRun_none]; rfl
  | cons x l ih =>
    intro s t
    cases s with
    | nil => rw [List.nil_append, fRun_nil]; rfl
    | cons a s =>
      by_cases h : (a < 0 ∨ x.b = a) ∧ fOkN x = true
      · rw [List.cons_append, fRun_cons h, fRun_cons h, ← List.append_assoc, ih]
      · rw [List.cons_append, fRun_bad h, fRun_bad h]; rfl
theorem fRun_suffix (l : List R3) : ∀ (s : List Int) (r : List R3), fRun s l = some r → ∃ q, r = l.drop q ∧ q ≤ l.length ∧ (s ≠ [] → 0 < q) := by
  induction l with
  | nil =>
    intro s r h
    cases s with
    | nil => rw [fRun_nil] at h; injection h with h; exact ⟨0, by simp [← h], by simp, by simp⟩
    | cons a s => rw [fRun_none] at h; cases h
  | cons x l ih =>
    intro s r h
    cases s with
    | nil => rw [fRun_nil] at h; injection h with h; exact ⟨0, by simp [← h], by simp, by simp⟩
    | cons a s =>
      by_cases hh : (a < 0 ∨ x.b = a) ∧ fOkN x = true
      · rw [fRun_cons hh] at h
        obtain ⟨q, h1, h2, _⟩ := ih _ _ h
        exact ⟨q + 1, by simpa using h1, by simp; omega, by omega⟩
      · rw [fRun_bad hh] at h; cases h
/-- The place behind, or -1. -/
def fPos (k : Nat) (a : Int) (l : List R3) : Int := match fRun [a] l with | none => -1 | some r => ((k + (l.length - r.length) : Nat) : Int)
theorem fPos_none {k : Nat} {a : Int} {l : List R3} (h : fRun [a] l = none) : fPos k a l = -1 := by unfold fPos; rw [h]
theorem fPos_some {k : Nat} {a : Int} {l r : List R3} (h : fRun [a] l = some r) : fPos k a l = ((k + (l.length - r.length) : Nat) : Int) := by unfold fPos; rw [h]

/-- The arities of m functions, behind s others. -/
def rts : Nat → Nat → List R3 → List Int
  | _, _, [] => []
  | m, s + 1, x :: l => rts m (s + fMany x) l
  | m + 1, 0, x :: l => x.b :: rts m (fMany x) l
  | 0, 0, _ :: _ => []
  termination_by _ _ l => l.length
theorem rts_nil (m s : Nat) : rts m s [] = [] := by rw [rts]
theorem rts_skip (m s : Nat) (x : R3) (l : List R3) : rts m (s + 1) (x :: l) = rts m (s + fMany x) l := by rw [rts]
theorem rts_take (m : Nat) (x : R3) (l : List R3) : rts (m + 1) 0 (x :: l) = x.b :: rts m (fMany x) l := by rw [rts]
theorem rts_zero (x : R3) (l : List R3) : rts 0 0 (x :: l) = [] := by rw [rts]
theorem rts_0 (l : List R3) : ∀ s, rts 0 s l = [] := by
  induction l with
  | nil => intro s; rw [rts_nil]
  | cons x l ih => intro s; cases s with
    | zero => rw [rts_zero]
    | succ s => rw [rts_skip, ih]
theorem rts_app (b : Nat) (l : List R3) : ∀ a s : Nat, rts (a + b) s l = rts a s l ++ rts b (s + a) l := by
  induction l with
  | nil => intro a s; rw [rts_nil, rts_nil, rts_nil]; rfl
  | cons x l ih =>
    intro a s
    cases s with
    | succ s =>
      rw [rts_skip, ih, rts_skip, show s + 1 + a = (s + a) + 1 by omega, rts_skip, show s + fMany x + a = s + a + fMany x by omega]
    | zero =>
      cases a with
      | zero => rw [Nat.zero_add, rts_zero, Nat.add_zero]; rfl
      | succ a =>
        rw [show a + 1 + b = (a + b) + 1 by omega, rts_take, rts_take, ih, Nat.zero_add, rts_skip, Nat.add_comm (fMany x) a]
        rfl
theorem rts_len (l : List R3) : ∀ a s b : Nat, fit fMany (s + a + b) l = true → (rts a s l).length = a := by
  induction l with
  | nil =>
    intro a s b h
    obtain rfl : a = 0 := by
      cases a with
      | zero => rfl
      | succ a => rw [show s + (a + 1) + b = (s + a + b) + 1 by omega, fit_s0] at h; cases h
    rw [rts_nil]; rfl
  | cons x l ih =>
    intro a s b h
    cases s with
    | succ s =>
      rw [show s + 1 + a + b = (s + a + b) + 1 by omega, fit_sc] at h
      rw [rts_skip]
      exact ih a (s + fMany x) b (by rw [← h]; congr 1; omega)
    | zero =>
      cases a with
      | zero => rw [rts_zero]; rfl
      | succ a =>
        rw [show 0 + (a + 1) + b = (a + b) + 1 by omega, fit_sc] at h
        rw [rts_take, List.length_cons, ih a (fMany x) b (by rw [← h]; congr 1; omega)]
/-- Demanded arities meet arities. -/
def mt : List Int → List Int → Prop
  | [], [] => True
  | a :: s, b :: t => (a < 0 ∨ b = a) ∧ mt s t
  | _, _ => False
theorem mt_app : ∀ (s t s' t' : List Int), s.length = s'.length → (mt (s ++ t) (s' ++ t') ↔ mt s s' ∧ mt t t')
  | [], t, [], t', _ => by simp [mt]
  | a :: s, t, b :: s', t', h => by
    simp only [List.cons_append, mt]
    rw [mt_app s t s' t' (by simpa using h), and_assoc]
theorem mt_eq : ∀ (s t : List Int), (∀ a ∈ s, 0 ≤ a) → (mt s t ↔ t = s)
  | [], [], _ => by simp [mt]
  | [], _ :: _, _ => by simp [mt]
  | _ :: _, [], _ => by simp [mt]
  | a :: s, b :: t, h => by
    have h0 := h a (List.mem_cons_self ..)
    simp only [mt, List.cons.injEq]
    rw [mt_eq s t fun x hx => h x (List.mem_cons_of_mem _ hx)]
    constructor
    · rintro ⟨h1, h2⟩; exact ⟨by omega, h2⟩
    · rintro ⟨h1, h2⟩; exact ⟨.inr h1, h2⟩
/-- Each node has what it demands. -/
def fLoc : List R3 → Prop
  | [] => True
  | x :: l => rts (fMany x) 0 l = fFols x ∧ fLoc l
theorem fRun_iff (l : List R3) : ∀ st : List Int, fRun st l = some [] ↔ (fit fMany st.length l = true ∧ l.all fOkN = true ∧ mt st (rts st.length 0 l) ∧ fLoc l) := by
  induction l with
  | nil =>
    intro st
    cases st with
    | nil => rw [fRun_nil]; simp [fit_00, rts_nil, mt, fLoc]
    | cons a st => rw [fRun_none]; simp [fit_s0]
  | cons x l ih =>
    intro st
    cases st with
    | nil => rw [fRun_nil]; simp [fit_0c]
    | cons a st =>
      by_cases hok : fOkN x = true
      · have hl := fFols_len hok
        rw [List.length_cons, fit_sc, rts_take, List.all_cons, hok, Bool.true_and]
        simp only [mt, fLoc]
        by_cases ha : a < 0 ∨ x.b = a
        · rw [fRun_cons ⟨ha, hok⟩, ih, List.length_append, hl, Nat.add_comm st.length (fMany x)]
          constructor
          · rintro ⟨h1, h2, h3, h4⟩
            have hlen := rts_len l (fMany x) 0 st.length (by rw [Nat.zero_add]; exact h1)
            rw [rts_app, Nat.zero_add, mt_app _ _ _ _ (by rw [hl, hlen]), mt_eq _ _ (fFols_pos hok)] at h3
            exact ⟨h1, h2, ⟨ha, h3.2⟩, h3.1, h4⟩
          · rintro ⟨h1, h2, ⟨_, h3⟩, h5, h4⟩
            have hlen := rts_len l (fMany x) 0 st.length (by rw [Nat.zero_add]; exact h1)
            refine ⟨h1, h2, ?_, h4⟩
            rw [rts_app, Nat.zero_add, mt_app _ _ _ _ (by rw [hl, hlen]), mt_eq _ _ (fFols_pos hok)]
            exact ⟨h5, h3⟩
        · rw [fRun_bad (fun h => ha h.1)]
          constructor
          · intro h; cases h
          · rintro ⟨_, _, ⟨h, _⟩, _⟩; exact absurd h ha
      · rw [fRun_bad (fun h => hok h.2), List.all_cons]
        simp [hok]
/-- The nodes that are one function. -/
def validF (xs : List R3) : Bool := inB xs.length 1 60 && decide (fRun [-1] xs = some [])
theorem fLoc_iff (l : List R3) : fLoc l ↔ ∀ (k : Nat) (x : R3), l[k]? = some x → rts (fMany x) 0 (l.drop (k + 1)) = fFols x := by
  induction l with
  | nil => simp [fLoc]
  | cons y l ih =>
    rw [fLoc, ih]
    constructor
    · rintro ⟨h1, h2⟩ k x hx
      cases k with
      | zero => simp at hx; subst hx; simpa using h1
      | succ k => simpa using h2 k x (by simpa using hx)
    · intro h
      exact ⟨by simpa using h 0 y (by simp), fun k x hx => by simpa using h (k + 1) x (by simpa using hx)⟩
/-- The local rule at a node. -/
def fFit (l : List R3) (k : Nat) : Bool := match l[k]? with | some x => decide (rts (fMany x) 0 (l.drop (k + 1)) = fFols x) | none => true
theorem fit_ne0 {α : Type} {fol : α → Nat} {l : List α} (h : fit fol 1 l = true) : l ≠ [] := by
  rintro rfl; rw [show (1 : Nat) = 0 + 1 from rfl, fit_s0] at h; cases h
theorem rts_one {l : List R3} (h : l ≠ []) : ∃ b, rts 1 0 l = [b] := by
  cases l with
  | nil => exact absurd rfl h
  | cons x l => exact ⟨x.b, by rw [show (1 : Nat) = 0 + 1 from rfl, rts_take, rts_0]⟩
theorem validF_iff (xs : List R3) : validF xs = true ↔ xs.length ≤ 60 ∧ fit fMany 1 xs = true ∧ xs.all fOkN = true ∧ ∀ k, k < xs.length → fFit xs k = true := by
  have h2 : (∀ k, k < xs.length → fFit xs k = true) ↔ fLoc xs := by
    rw [fLoc_iff]
    constructor
    · intro h k x hx
      have := h k (List.getElem?_eq_some_iff.1 hx).1
      unfold fFit at this
      rw [hx] at this
      simpa using this
    · intro h k hk
      unfold fFit
      rw [List.getElem?_eq_getElem hk]
      simpa using h k _ (List.getElem?_eq_getElem hk)
  rw [h2]
  unfold validF
  rw [Bool.and_eq_true, inB_iff, decide_eq_true_eq, fRun_iff]
  constructor
  · rintro ⟨h1, h3, h4, h5, h6⟩
    exact ⟨by omega, h3, h4, h6⟩
  · rintro ⟨h1, h3, h4, h6⟩
    have h0 := fit_ne fMany xs 0 h3
    obtain ⟨b, hb⟩ := rts_one (fit_ne0 h3)
    refine ⟨by omega, h3, h4, ?_, h6⟩
    show mt [-1] (rts 1 0 xs)
    rw [hb]
    simp [mt]
end Go.Proofs.YtkiaclajjlidoaaGreatDoor

/- Where terms end, told from another place. Plain lemmas. -/
namespace Go.Proofs.YtkiaclajjlidoaaGreatDoor
set_option linter.all false

theorem tPosAt_shift {α : Type} (fol : α → Nat) (l : List α) : ∀ a k k' : Nat, (tPosAt fol a k l = -1 ∧ tPosAt fol a k' l = -1) ∨ ∃ q : Nat, tPosAt fol a k l = ((k + q : Nat) : Int) ∧ tPosAt fol a k' l = ((k' + q : Nat) : Int) := by
  induction l with
  | nil =>
    intro a k k'
    cases a with
    | zero => exact .inr ⟨0, by rw [tPosAt_zero]; rfl, by rw [tPosAt_zero]; rfl⟩
    | succ a => exact .inl ⟨tPosAt_none fol a k, tPosAt_none fol a k'⟩
  | cons x l ih =>
    intro a k k'
    cases a with
    | zero => exact .inr ⟨0, by rw [tPosAt_zero]; rfl, by rw [tPosAt_zero]; rfl⟩
    | succ a =>
      rw [tPosAt_succ, tPosAt_succ]
      rcases ih (a + fol x) (k + 1) (k' + 1) with h | ⟨q, h1, h2⟩
      · exact .inl h
      · exact .inr ⟨q + 1, by rw [h1]; congr 1; omega, by rw [h2]; congr 1; omega⟩
theorem tPosAt_from {α : Type} {fol : α → Nat} {l : List α} {a k q : Nat} (h : tPosAt fol a k l = ((k + q : Nat) : Int)) (k' : Nat) : tPosAt fol a k' l = ((k' + q : Nat) : Int) := by
  rcases tPosAt_shift fol l a k k' with ⟨h1, _⟩ | ⟨q', h1, h2⟩
  · rw [h1] at h; omega
  · have : q' = q := by rw [h1] at h; omega
    subst this
    exact h2
/-- Only the elements of the terms count. -/
theorem tPosAt_take {α : Type} (fol : α → Nat) (l : List α) : ∀ a k q m : Nat, tPosAt fol a k l = ((k + q : Nat) : Int) → q ≤ m → tPosAt fol a k (l.take m) = ((k + q : Nat) : Int) := by
  induction l with
  | nil => intro a k q m h _; rw [List.take_nil]; exact h
  | cons x l ih =>
    intro a k q m h hm
    cases a with
    | zero => rw [tPosAt_zero] at h ⊢; exact h
    | succ a =>
      rw [tPosAt_succ] at h
      have hq : 1 ≤ q := by
        rcases tPosAt_shift fol l (a + fol x) (k + 1) 0 with ⟨h1, _⟩ | ⟨q', h1, _⟩
        · rw [h1] at h; omega
        · rw [h1] at h; omega
      obtain ⟨m', rfl⟩ : ∃ m', m = m' + 1 := ⟨m - 1, by omega⟩
      obtain ⟨q', rfl⟩ : ∃ q', q = q' + 1 := ⟨q - 1, by omega⟩
      rw [List.take_succ_cons, tPosAt_succ]
      have := ih (a + fol x) (k + 1) q' m' (by rw [h]; congr 1; omega) (by omega)
      rw [this]; congr 1; omega
end Go.Proofs.YtkiaclajjlidoaaGreatDoor

/- Loop programs of recursive functions: what they are. Plain lemmas. -/
namespace Go.Proofs.YtkiaclajjlidoaaGreatDoor
set_option linter.all false

/-- Where the first function of a row of functions ends. -/
def endL (l : List R3) : Nat := (tPosAt fMany 1 0 l).toNat
/-- The functions of a row, m of them. -/
def cut : Nat → List R3 → List (List R3)
  | 0, _ => []
  | m + 1, l => l.take (endL l) :: cut m (l.drop (endL l))
theorem cut_len : ∀ (m : Nat) (l : List R3), (cut m l).length = m
  | 0, _ => rfl
  | m + 1, l => by rw [cut, List.length_cons, cut_len]
theorem fRun_end (l : List R3) : ∀ (st : List Int) (r : List R3), fRun st l = some r → ∃ q : Nat, q ≤ l.length ∧ tPosAt fMany st.length 0 l = (q : Int) ∧ r = l.drop q ∧ fRun st (l.take q) = some [] := by
  induction l with
  | nil =>
    intro st r h
    cases st with
    | nil => rw [fRun_nil] at h; injection h with h; exact ⟨0, by simp, by rw [List.length_nil, tPosAt_zero], h.symm, by rw [List.take_nil, fRun_nil]⟩
    | cons a st => rw [fRun_none] at h; cases h
  | cons x l ih =>
    intro st r h
    cases st with
    | nil => rw [fRun_nil] at h; injection h with h; exact ⟨0, by simp, by rw [List.length_nil, tPosAt_zero], h.symm, by rw [List.take_zero, fRun_nil]⟩
    | cons a st =>
      by_cases hh : (a < 0 ∨ x.b = a) ∧ fOkN x = true
      · rw [fRun_cons hh] at h
        obtain ⟨q, h1, h2, h3, h4⟩ := ih _ _ h
        refine ⟨q + 1, by simp; omega, ?_, by rw [List.drop_succ_cons]; exact h3, by rw [List.take_succ_cons, fRun_cons hh]; exact h4⟩
        rw [List.length_cons, tPosAt_succ]
        rw [List.length_append, fFols_len hh.2] at h2
        have h5 := tPosAt_from (q := q) (k := 0) (by rw [h2]; simp) (0 + 1)
        rw [Nat.add_comm st.length, h5]
        congr 1
        omega
      · rw [fRun_bad hh] at h; cases h
theorem fRun_wild {a : Int} {l r : List R3} (h : fRun [a] l = some r) : fRun [-1] l = some r := by
  cases l with
  | nil => rw [fRun_none] at h; cases h
  | cons x l =>
    by_cases hh : (a < 0 ∨ x.b = a) ∧ fOkN x = true
    · rw [fRun_cons hh] at h; rw [fRun_cons ⟨.inl (by decide), hh.2⟩]; exact h
    · rw [fRun_bad hh] at h; cases h
theorem fRun_one {a : Int} {st : List Int} {l r : List R3} (h : fRun (a :: st) l = some r) : endL l ≤ l.length ∧ 0 < endL l ∧ tPosAt fMany 1 0 l = (endL l : Int) ∧ fRun [a] l = some (l.drop (endL l)) ∧ fRun [a] (l.take (endL l)) = some [] ∧ fRun st (l.drop (endL l)) = some r := by
  rw [show a :: st = [a] ++ st from rfl, fRun_app] at h
  cases h1 : fRun [a] l with
  | none => rw [h1] at h; cases h
  | some r1 =>
    rw [h1] at h
    obtain ⟨q, g1, g2, g3, g4⟩ := fRun_end l _ _ h1
    have hq : endL l = q := by unfold endL; rw [show ([a] : List Int).length = 1 from rfl] at g2; rw [g2]; simp
    obtain ⟨q2, s1, s2, s3⟩ := fRun_suffix l _ _ h1
    rw [hq]
    refine ⟨g1, ?_, g2, by rw [g3], g4, by rw [← g3]; exact h⟩
    rcases Nat.eq_zero_or_pos q with h0 | h0
    · subst h0
      rw [List.take_zero, fRun_none] at g4; cases g4
    · exact h0
/-- Each part of a row has the arity that is asked of it. -/
theorem cut_run : ∀ (st : List Int) (l : List R3), fRun st l = some [] → ((cut st.length l).map List.length).sum = l.length ∧ ∀ (i : Nat) (a : Int) (p : List R3), st[i]? = some a → (cut st.length l)[i]? = some p → fRun [a] p = some [] ∧ p.length ≤ l.length
  | [], l, h => by
    rw [fRun_nil] at h; injection h with h; subst h
    exact ⟨rfl, by simp⟩
  | a :: st, l, h => by
    obtain ⟨h1, h2, h3, h4, h5, h6⟩ := fRun_one h
    obtain ⟨i1, i2⟩ := cut_run st _ h6
    rw [List.length_drop] at i1 i2
    rw [List.length_cons, cut]
    refine ⟨by rw [List.map_cons, List.sum_cons, i1, List.length_take]; omega, fun i b p hb hp => ?_⟩
    cases i with
    | zero => simp at hb hp; subst hb hp; exact ⟨h5, by rw [List.length_take]; omega⟩
    | succ i =>
      rw [List.getElem?_cons_succ] at hb hp
      obtain ⟨j1, j2⟩ := i2 i b p hb hp
      exact ⟨j1, by omega⟩

/-- The loop program of a function for some variables, into one, with free ones from a number on. -/
def lpF : Nat → List R3 → List Int → Int → Int → List R3
  | 0, _, _, _, _ => []
  | _ + 1, [], _, _, _ => []
  | N + 1, x :: l, xs, out, v =>
    if x.a = 0 then [⟨0, out, 0⟩]
    else if x.a = 1 then [⟨2, out, xs.getD 0 0⟩, ⟨1, out, 0⟩]
    else if x.a = 2 then [⟨2, out, xs.getD x.c.toNat 0⟩]
    else if x.a = 3 then ((List.range x.c.toNat).flatMap fun t => lpF N ((cut (fMany x) l).getD (t + 1) []) xs (v + (t : Int)) (v + x.c)) ++ lpF N ((cut (fMany x) l).getD 0 []) ((List.range x.c.toNat).map fun t : Nat => v + (t : Int)) out (v + x.c)
    else if x.a = 4 then
      lpF N ((cut (fMany x) l).getD 0 []) (xs.drop 1) v (v + 3) ++ (⟨0, v + 1, 0⟩ :: ⟨3, xs.getD 0 0, ((lpF N ((cut (fMany x) l).getD 1 []) ((v + 1) :: v :: xs.drop 1) (v + 2) (v + 3) ++ ([⟨2, v, v + 2⟩, ⟨1, v + 1, 0⟩] : List R3)).length : Nat)⟩ ::
        ((lpF N ((cut (fMany x) l).getD 1 []) ((v + 1) :: v :: xs.drop 1) (v + 2) (v + 3) ++ ([⟨2, v, v + 2⟩, ⟨1, v + 1, 0⟩] : List R3)) ++ [⟨2, out, v⟩]))
    else
      ⟨0, v, 0⟩ :: ⟨0, v + 1, 0⟩ :: ⟨1, v + 1, 0⟩ :: ⟨4, v + 1, (((⟨2, v + 2, v⟩ : R3) :: (lpF N ((cut (fMany x) l).getD 0 []) (v :: xs) (v + 1) (v + 3) ++ [⟨1, v, 0⟩])).length : Nat)⟩ ::
        (((⟨2, v + 2, v⟩ : R3) :: (lpF N ((cut (fMany x) l).getD 0 []) (v :: xs) (v + 1) (v + 3) ++ [⟨1, v, 0⟩])) ++ [⟨2, out, v + 2⟩])
section
variable {N : Nat} {x : R3} {l : List R3} {xs : List Int} {out v : Int}
theorem lp0 (h : x.a = 0) : lpF (N + 1) (x :: l) xs out v = [⟨0, out, 0⟩] := by rw [lpF, if_pos h]
theorem lp1 (h : x.a = 1) : lpF (N + 1) (x :: l) xs out v = [⟨2, out, xs.getD 0 0⟩, ⟨1, out, 0⟩] := by rw [lpF, if_neg (by omega), if_pos h]
theorem lp2 (h : x.a = 2) : lpF (N + 1) (x :: l) xs out v = [⟨2, out, xs.getD x.c.toNat 0⟩] := by rw [lpF, if_neg (by omega), if_neg (by omega), if_pos h]
/-- The commands of the first t inner functions. -/
def inn (N : Nat) (ps : List (List R3)) (xs : List Int) (v f : Int) (t : Nat) : List R3 := (List.range t).flatMap fun t => lpF N (ps.getD (t + 1) []) xs (v + (t : Int)) f
def vars (v : Int) (t : Nat) : List Int := (List.range t).map fun t : Nat => v + (t : Int)
theorem inn_zero (N : Nat) (ps : List (List R3)) (xs : List Int) (v f : Int) : inn N ps xs v f 0 = [] := rfl
theorem inn_succ (N : Nat) (ps : List (List R3)) (xs : List Int) (v f : Int) (t : Nat) : inn N ps xs v f (t + 1) = inn N ps xs v f t ++ lpF N (ps.getD (t + 1) []) xs (v + (t : Int)) f := by
  unfold inn; rw [List.range_succ, List.flatMap_append]; simp
theorem vars_succ (v : Int) (t : Nat) : vars v (t + 1) = vars v t ++ [v + (t : Int)] := by unfold vars; rw [List.range_succ, List.map_append]; rfl
theorem vars_len (v : Int) (t : Nat) : (vars v t).length = t := by simp [vars]
theorem lp3 (h : x.a = 3) {k : Nat} (hk : x.c = (k : Int)) : lpF (N + 1) (x :: l) xs out v = inn N (cut (fMany x) l) xs v (v + (k : Int)) k ++ lpF N ((cut (fMany x) l).getD 0 []) (vars v k) out (v + (k : Int)) := by
  rw [lpF, if_neg (by omega), if_neg (by omega), if_neg (by omega), if_pos h, hk]
  simp [inn, vars]
theorem lp4 (h : x.a = 4) {p q : List R3} (hp : (cut (fMany x) l).getD 0 [] = p) (hq : (cut (fMany x) l).getD 1 [] = q) : lpF (N + 1) (x :: l) xs out v =
    lpF N p (xs.drop 1) v (v + 3) ++ (⟨0, v + 1, 0⟩ :: ⟨3, xs.getD 0 0, ((lpF N q ((v + 1) :: v :: xs.drop 1) (v + 2) (v + 3) ++ ([⟨2, v, v + 2⟩, ⟨1, v + 1, 0⟩] : List R3)).length : Nat)⟩ ::
        ((lpF N q ((v + 1) :: v :: xs.drop 1) (v + 2) (v + 3) ++ ([⟨2, v, v + 2⟩, ⟨1, v + 1, 0⟩] : List R3)) ++ [⟨2, out, v⟩])) := by
  subst hp hq
  rw [lpF, if_neg (by omega), if_neg (by omega), if_neg (by omega), if_neg (by omega), if_pos h]
theorem lp5 (h : x.a = 5) {p : List R3} (hp : (cut (fMany x) l).getD 0 [] = p) : lpF (N + 1) (x :: l) xs out v =
    ⟨0, v, 0⟩ :: ⟨0, v + 1, 0⟩ :: ⟨1, v + 1, 0⟩ :: ⟨4, v + 1, (((⟨2, v + 2, v⟩ : R3) :: (lpF N p (v :: xs) (v + 1) (v + 3) ++ [⟨1, v, 0⟩])).length : Nat)⟩ ::
        (((⟨2, v + 2, v⟩ : R3) :: (lpF N p (v :: xs) (v + 1) (v + 3) ++ [⟨1, v, 0⟩])) ++ [⟨2, out, v + 2⟩]) := by
  subst hp
  rw [lpF, if_neg (by omega), if_neg (by omega), if_neg (by omega), if_neg (by omega), if_neg (by omega)]
end
/-- The parts of a function that is valid. -/
theorem parts_of {x : R3} {l : List R3} {a : Int} (h : fRun [a] (x :: l) = some []) : fOkN x = true ∧ (a < 0 ∨ x.b = a) ∧ fRun (fFols x) l = some [] := by
  by_cases hh : (a < 0 ∨ x.b = a) ∧ fOkN x = true
  · rw [fRun_cons hh, List.append_nil] at h; exact ⟨hh.2, hh.1, h⟩
  · rw [fRun_bad hh] at h; cases h
theorem part_at {x : R3} {l : List R3} (hok : fOkN x = true) (h : fRun (fFols x) l = some []) {i : Nat} {a : Int} (ha : (fFols x)[i]? = some a) : ∃ p, (cut (fMany x) l)[i]? = some p ∧ (cut (fMany x) l).getD i [] = p ∧ fRun [a] p = some [] ∧ p.length ≤ l.length := by
  have hlen := fFols_len hok
  obtain ⟨h1, h2⟩ := cut_run _ _ h
  rw [hlen] at h1 h2
  have hi : i < (cut (fMany x) l).length := by rw [cut_len, ← hlen]; exact (List.getElem?_eq_some_iff.1 ha).1
  have hp : (cut (fMany x) l)[i]? = some ((cut (fMany x) l)[i]) := List.getElem?_eq_getElem hi
  obtain ⟨h3, h4⟩ := h2 i a _ ha hp
  exact ⟨_, hp, by rw [List.getD_eq_getElem?_getD, hp]; rfl, h3, h4⟩
theorem sum_two {p q : Nat} {ls : List Nat} (h0 : ls[0]? = some p) (h1 : ls[1]? = some q) : p + q ≤ ls.sum := by
  match ls, h0, h1 with
  | a :: b :: r, h0, h1 => simp at h0 h1; subst h0 h1; simp only [List.sum_cons]; omega
theorem inn_len (N : Nat) (ps : List (List R3)) (xs : List Int) (v f : Int) (hb : ∀ (p : List R3) (xs : List Int) (o u : Int), (lpF N p xs o u).length ≤ 8 * p.length) : ∀ t : Nat, (inn N ps xs v f t).length ≤ 8 * ((List.range t).map fun i => (ps.getD (i + 1) []).length).sum
  | 0 => by rw [inn_zero]; simp
  | t + 1 => by
    rw [inn_succ, List.length_append, List.range_succ, List.map_append, List.sum_append]
    have h1 := inn_len N ps xs v f hb t
    have h2 := hb (ps.getD (t + 1) []) xs (v + (t : Int)) f
    simp only [List.map_cons, List.map_nil, List.sum_cons, List.sum_nil]
    omega
theorem sum_tail : ∀ (ps : List (List R3)) (t : Nat), ((List.range t).map fun i => (ps.getD i []).length).sum ≤ (ps.map List.length).sum
  | [], t => by
    have : ((List.range t).map fun i => (([] : List (List R3)).getD i []).length) = (List.range t).map fun _ => 0 := by simp
    rw [this]
    induction t with
    | zero => simp
    | succ t ih => rw [List.range_succ, List.map_append, List.sum_append]; simpa using ih (by simp)
  | p :: ps, 0 => by simp
  | p :: ps, t + 1 => by
    rw [List.range_succ_eq_map, List.map_cons, List.sum_cons, List.map_map, List.map_cons, List.sum_cons]
    have := sum_tail ps t
    have e : ((fun i => ((p :: ps).getD i []).length) ∘ Nat.succ) = fun i => (ps.getD i []).length := rfl
    rw [e]
    have e2 : ((p :: ps).getD 0 []).length = p.length := rfl
    rw [e2]
    omega
theorem cut_sum : ∀ (m : Nat) (l : List R3), ((cut m l).map List.length).sum ≤ l.length
  | 0, l => by simp [cut]
  | m + 1, l => by
    rw [cut, List.map_cons, List.sum_cons]
    have := cut_sum m (l.drop (endL l))
    rw [List.length_drop] at this
    rw [List.length_take]
    omega
theorem lpF_len (N : Nat) : ∀ (p : List R3) (xs : List Int) (o u : Int), (lpF N p xs o u).length ≤ 8 * p.length := by
  induction N with
  | zero => intro p xs o u; simp [lpF]
  | succ N ih =>
    intro p xs o u
    cases p with
    | nil => simp [lpF]
    | cons x l =>
      have hs := cut_sum (fMany x) l
      have hd : ∀ i, ((cut (fMany x) l).getD i []).length ≤ l.length := by
        intro i
        have := sum_tail (cut (fMany x) l) (i + 1)
        rw [List.range_succ, List.map_append, List.sum_append] at this
        simp only [List.map_cons, List.map_nil, List.sum_cons, List.sum_nil] at this
        omega
      have h2 : ((cut (fMany x) l).getD 0 []).length + ((cut (fMany x) l).getD 1 []).length ≤ l.length := by
        have := sum_tail (cut (fMany x) l) 2
        simp only [List.range_succ, List.range_zero, List.nil_append, List.map_append, List.map_cons, List.map_nil, List.sum_append, List.sum_cons, List.sum_nil] at this
        omega
      rw [lpF]
      split
      · simp; omega
      · split
        · simp; omega
        · split
          · simp; omega
          · split
            · have h3 := inn_len N (cut (fMany x) l) xs u (u + x.c) ih x.c.toNat
              have h4 := ih ((cut (fMany x) l).getD 0 []) (vars u x.c.toNat) o (u + x.c)
              have h5 := sum_tail (cut (fMany x) l) (x.c.toNat + 1)
              rw [List.range_succ_eq_map, List.map_cons, List.sum_cons, List.map_map] at h5
              have e : ((fun i => ((cut (fMany x) l).getD i []).length) ∘ Nat.succ) = fun i => ((cut (fMany x) l).getD (i + 1) []).length := rfl
              rw [e] at h5
              unfold inn at h3
              unfold vars at h4
              rw [List.length_append, List.length_cons]
              omega
            · split
              · have h3 := ih ((cut (fMany x) l).getD 0 []) (xs.drop 1) u (u + 3)
                have h4 := ih ((cut (fMany x) l).getD 1 []) ((u + 1) :: u :: xs.drop 1) (u + 2) (u + 3)
                simp only [List.length_append, List.length_cons, List.length_nil]
                omega
              · have h3 := ih ((cut (fMany x) l).getD 0 []) (u :: xs) (u + 1) (u + 3)
                have h4 := hd 0
                simp only [List.length_append, List.length_cons, List.length_nil]
                omega
end Go.Proofs.YtkiaclajjlidoaaGreatDoor

/- Lambda terms of recursive functions: what they are. Plain lemmas. -/
namespace Go.Proofs.YtkiaclajjlidoaaGreatDoor
open Go.RowKit
set_option linter.all false

def numT0 : LTm := .ab (.ab (.v 0))
def appsL : LTm → List LTm → LTm
  | t, [] => t
  | t, a :: us => appsL (.ap t a) us
def absL : Nat → LTm → LTm
  | 0, t => t
  | n + 1, t => .ab (absL n t)
def flats (ts : List LTm) : List (List R2) := ts.map LTm.flat
theorem rep_snoc {α : Type} (x : α) (m : Nat) (l : List α) : List.replicate m x ++ x :: l = List.replicate (m + 1) x ++ l := by
  rw [List.replicate_succ', List.append_assoc]; rfl
theorem appsL_flat (us : List LTm) : ∀ t : LTm, (appsL t us).flat = List.replicate us.length ⟨2, 0⟩ ++ t.flat ++ (flats us).flatten := by
  induction us with
  | nil => intro t; simp [appsL, flats]
  | cons a us ih =>
    intro t
    rw [appsL, ih, LTm.flat, List.length_cons, show flats (a :: us) = a.flat :: flats us from rfl, List.flatten_cons, rep_snoc]
    simp
theorem absL_flat (n : Nat) (t : LTm) : (absL n t).flat = List.replicate n ⟨1, 0⟩ ++ t.flat := by
  induction n with
  | zero => rfl
  | succ n ih => rw [absL, LTm.flat, ih, List.replicate_succ]; rfl
theorem appsL_idx (us : List LTm) : ∀ t : LTm, t.idx = true → (∀ a ∈ us, a.idx = true) → (appsL t us).idx = true := by
  induction us with
  | nil => intro t h _; exact h
  | cons a us ih =>
    intro t h h2
    exact ih _ (by rw [LTm.idx, h, h2 a (by simp)]; rfl) (fun b hb => h2 b (by simp [hb]))
theorem absL_idx (n : Nat) (t : LTm) (h : t.idx = true) : (absL n t).idx = true := by
  induction n with
  | zero => exact h
  | succ n ih => exact ih
theorem appsL_len (t : LTm) (us : List LTm) : (appsL t us).flat.length = us.length + t.flat.length + (flats us).flatten.length := by
  rw [appsL_flat, List.length_append, List.length_append, List.length_replicate]
theorem absL_len (n : Nat) (t : LTm) : (absL n t).flat.length = n + t.flat.length := by rw [absL_flat, List.length_append, List.length_replicate]
/-- The variables of the arguments with an index from a number on. -/
def vL (n k w : Nat) : List LTm := (List.range (n - k)).map fun j => .v (n - 1 - (k + j) + w)
theorem vL_len (n k w : Nat) : (vL n k w).length = n - k := by simp [vL]
theorem flats_len {ts : List LTm} {m : Nat} (h : ∀ t ∈ ts, t.flat.length ≤ m) : (flats ts).flatten.length ≤ m * ts.length := by
  induction ts with
  | nil => simp [flats]
  | cons t ts ih =>
    rw [flats, List.map_cons, List.flatten_cons, List.length_append, List.length_cons, Nat.mul_succ]
    have h1 := h t (by simp)
    have h2 := ih (fun u hu => h u (by simp [hu]))
    unfold flats at h2
    omega
theorem vL_flat (n k w : Nat) : ∀ t ∈ vL n k w, t.flat.length ≤ 1 := by
  intro t ht
  obtain ⟨j, _, rfl⟩ := List.mem_map.1 ht
  simp [LTm.flat]
theorem vL_idx {n k w : Nat} (hn : n ≤ 10) (hw : w ≤ 10) : ∀ t ∈ vL n k w, t.idx = true := by
  intro t ht
  obtain ⟨j, _, rfl⟩ := List.mem_map.1 ht
  simp only [LTm.idx, decide_eq_true_eq]; omega
def txNext : List UInt8 := [94, 94, 94, 40, 49, 32, 40, 40, 50, 32, 49, 41, 32, 48, 41, 41]
def txFalse : List UInt8 := [94, 94, 48]
set_option maxRecDepth 100000 in
theorem txNext_ok : txOkB txNext = true := by decide
set_option maxRecDepth 100000 in
theorem txFalse_ok : txOkB txFalse = true := by decide
def nextT : LTm := tmOf txNext
def falseT : LTm := tmOf txFalse
theorem tx_len {l : List UInt8} (h : txOkB l = true) : (tmOf l).flat.length ≤ 60 := by
  have h1 := TxOk.of h
  have h2 := (tmOf l).text_len.2
  rw [h1.text] at h2
  have := h1.len
  omega
theorem next_len : nextT.flat.length ≤ 60 := tx_len txNext_ok
theorem false_len : falseT.flat.length ≤ 60 := tx_len txFalse_ok
theorem next_idx : nextT.idx = true := LTm.small_idx _ (TxOk.of txNext_ok).small
theorem false_idx : falseT.idx = true := LTm.small_idx _ (TxOk.of txFalse_ok).small
def repT (n : Nat) (p : LTm) : LTm := absL 3 (appsL (.v 2) [appsL nextT [.v 1], appsL p ([.v 1, .v 0] ++ vL n 1 3)])
def againT : LTm := absL 1 (appsL (.v 2) [.v 2, appsL nextT [.v 1]])
def leastT (n : Nat) (p : LTm) : LTm := absL 2 (appsL (appsL p ([.v 0] ++ vL n 0 2)) [againT, .v 0])
def dT : LTm := .v 0
def innT (n : Nat) (ps : List LTm) : List LTm := (ps.drop 1).map fun p => appsL p (vL n 0 0)
def bodyT (a : Int) (n c : Nat) (ps : List LTm) : LTm :=
  if a = 0 then numT0
  else if a = 1 then appsL nextT [.v 0]
  else if a = 2 then .v (n - 1 - c)
  else if a = 3 then appsL (ps.getD 0 dT) (innT n ps)
  else if a = 4 then appsL (.v (n - 1)) [repT n (ps.getD 1 dT), falseT, numT0, appsL (ps.getD 0 dT) (vL n 1 0)]
  else appsL (leastT n (ps.getD 0 dT)) [leastT n (ps.getD 0 dT), numT0]
/-- The term of a function. -/
def fT : Nat → List R3 → LTm
  | 0, _ => dT
  | _ + 1, [] => dT
  | N + 1, x :: l => absL x.b.toNat (bodyT x.a x.b.toNat x.c.toNat ((cut (fMany x) l).map (fT N)))
/-- No part is too long. -/
def fitF : Nat → List R3 → Bool
  | 0, _ => true
  | _ + 1, [] => true
  | N + 1, x :: l => (cut (fMany x) l).all fun p => fitF N p && decide ((fT N p).flat.length ≤ 400)
def okF (N : Nat) (f : List R3) : Bool := fitF N f && decide ((fT N f).flat.length ≤ 400)
theorem fitF_succ (N : Nat) (x : R3) (l : List R3) : fitF (N + 1) (x :: l) = (cut (fMany x) l).all (okF N) := rfl
theorem fT_succ (N : Nat) (x : R3) (l : List R3) : fT (N + 1) (x :: l) = absL x.b.toNat (bodyT x.a x.b.toNat x.c.toNat ((cut (fMany x) l).map (fT N))) := rfl
section
variable {n c : Nat} {ps : List LTm} (hn : n ≤ 4) (hps : ∀ p ∈ ps, p.flat.length ≤ 400)
include hps
theorem getD_len (i : Nat) : (ps.getD i dT).flat.length ≤ 400 := by
  rw [List.getD_eq_getElem?_getD]
  cases h : ps[i]? with
  | none => simp [dT, LTm.flat]
  | some p => exact hps p (List.mem_of_getElem? h)
theorem appsV_len {m k w : Nat} (hn : m ≤ 4) {p : LTm} (h : p.flat.length ≤ 400) : (appsL p (vL m k w)).flat.length ≤ 408 := by
  rw [appsL_len, vL_len]
  have := flats_len (vL_flat m k w)
  rw [vL_len] at this
  omega
end
theorem appsW_len {p : LTm} {us : List LTm} {m k w : Nat} (hm : m ≤ 4) (h : p.flat.length ≤ 400) (ha : us.length ≤ 2) (h1 : ∀ a ∈ us, a.flat.length ≤ 1) : (appsL p (us ++ vL m k w)).flat.length ≤ 412 := by
  rw [appsL_len, List.length_append, vL_len, flats, List.map_append, List.flatten_append, List.length_append]
  have e1 := flats_len (vL_flat m k w)
  have e2 := flats_len h1
  rw [vL_len] at e1
  unfold flats at e1 e2
  omega
theorem repT_len {n : Nat} (hn : n ≤ 4) {p : LTm} (h : p.flat.length ≤ 400) : (repT n p).flat.length ≤ 490 := by
  unfold repT
  have h1 := next_len
  have h2 := appsW_len (us := [.v 1, .v 0]) (k := 1) (w := 3) hn h (by simp) (by intro a ha; simp at ha; rcases ha with rfl | rfl <;> simp [LTm.flat])
  rw [absL_len, appsL_len]
  simp only [flats, List.map_cons, List.map_nil, List.flatten_cons, List.flatten_nil, List.length_append, List.length_cons, List.length_nil, LTm.flat, appsL_len] at h2 ⊢
  omega
theorem againT_len : againT.flat.length ≤ 70 := by
  unfold againT
  have h1 := next_len
  rw [absL_len, appsL_len]
  simp only [flats, List.map_cons, List.map_nil, List.flatten_cons, List.flatten_nil, List.length_append, List.length_cons, List.length_nil, LTm.flat, appsL_len]
  omega
theorem leastT_len {n : Nat} (hn : n ≤ 4) {p : LTm} (h : p.flat.length ≤ 400) : (leastT n p).flat.length ≤ 490 := by
  unfold leastT
  have h1 := againT_len
  have h2 := appsW_len (us := [.v 0]) (k := 0) (w := 2) hn h (by simp) (by intro a ha; simp at ha; subst ha; simp [LTm.flat])
  rw [absL_len, appsL_len]
  simp only [flats, List.map_cons, List.map_nil, List.flatten_cons, List.flatten_nil, List.length_append, List.length_cons, List.length_nil, LTm.flat]
  omega
theorem innT_len {n : Nat} (hn : n ≤ 4) {ps : List LTm} (hps : ∀ p ∈ ps, p.flat.length ≤ 400) : ∀ t ∈ innT n ps, t.flat.length ≤ 408 := by
  intro t ht
  obtain ⟨p, hp, rfl⟩ := List.mem_map.1 ht
  exact appsV_len hps hn (hps p (List.mem_of_mem_drop hp))
theorem bodyT_len {a : Int} {n c : Nat} {ps : List LTm} (hn : n ≤ 4) (hl : ps.length ≤ 5) (hps : ∀ p ∈ ps, p.flat.length ≤ 400) : (bodyT a n c ps).flat.length ≤ 3000 := by
  have g0 := getD_len hps 0
  have g1 := getD_len hps 1
  unfold bodyT
  split
  · simp [numT0, LTm.flat]
  split
  · rw [appsL_len]; have := next_len; simp [flats, LTm.flat]; omega
  split
  · simp [LTm.flat]
  split
  · rw [appsL_len]
    have := flats_len (innT_len hn hps)
    have h2 : (innT n ps).length ≤ 5 := by simp [innT]; omega
    have h3 : 408 * (innT n ps).length ≤ 408 * 5 := Nat.mul_le_mul_left _ h2
    omega
  split
  · have h1 := repT_len hn g1
    have h2 := false_len
    have h3 := appsV_len (k := 1) (w := 0) hps hn g0
    rw [appsL_len]
    simp only [flats, List.map_cons, List.map_nil, List.flatten_cons, List.flatten_nil, List.length_append, List.length_cons, List.length_nil, LTm.flat, numT0]
    omega
  · have h1 := leastT_len hn g0
    rw [appsL_len]
    simp only [flats, List.map_cons, List.map_nil, List.flatten_cons, List.flatten_nil, List.length_append, List.length_cons, List.length_nil, LTm.flat, numT0]
    omega
theorem getD_idx {ps : List LTm} (h : ∀ p ∈ ps, p.idx = true) (i : Nat) : (ps.getD i dT).idx = true := by
  rw [List.getD_eq_getElem?_getD]
  cases hh : ps[i]? with
  | none => rfl
  | some p => exact h p (List.mem_of_getElem? hh)
theorem repT_idx {n : Nat} (hn : n ≤ 4) {p : LTm} (h : p.idx = true) : (repT n p).idx = true := by
  unfold repT
  refine absL_idx _ _ (appsL_idx _ _ rfl ?_)
  intro a ha
  simp at ha
  rcases ha with rfl | rfl
  · exact appsL_idx _ _ next_idx (by intro a ha; simp at ha; subst ha; rfl)
  · refine appsL_idx _ _ h ?_
    intro a ha
    simp at ha
    rcases ha with rfl | rfl | ha
    · rfl
    · rfl
    · exact vL_idx (by omega) (by omega) a ha
theorem leastT_idx {n : Nat} (hn : n ≤ 4) {p : LTm} (h : p.idx = true) : (leastT n p).idx = true := by
  unfold leastT
  refine absL_idx _ _ (appsL_idx _ _ (appsL_idx _ _ h ?_) ?_)
  · intro a ha
    simp at ha
    rcases ha with rfl | ha
    · rfl
    · exact vL_idx (by omega) (by omega) a ha
  · intro a ha
    simp at ha
    rcases ha with rfl | rfl
    · unfold againT
      refine absL_idx _ _ (appsL_idx _ _ rfl ?_)
      intro a ha
      simp at ha
      rcases ha with rfl | rfl
      · rfl
      · exact appsL_idx _ _ next_idx (by intro a ha; simp at ha; subst ha; rfl)
    · rfl
theorem bodyT_idx {a : Int} {n c : Nat} {ps : List LTm} (hn : n ≤ 4) (hps : ∀ p ∈ ps, p.idx = true) : (bodyT a n c ps).idx = true := by
  unfold bodyT
  split
  · rfl
  split
  · exact appsL_idx _ _ next_idx (by intro a ha; simp at ha; subst ha; rfl)
  split
  · simp only [LTm.idx, decide_eq_true_eq]; omega
  split
  · refine appsL_idx _ _ (getD_idx hps 0) ?_
    intro t ht
    obtain ⟨p, hp, rfl⟩ := List.mem_map.1 ht
    exact appsL_idx _ _ (hps p (List.mem_of_mem_drop hp)) (vL_idx (by omega) (by omega))
  split
  · refine appsL_idx _ _ (by simp only [LTm.idx, decide_eq_true_eq]; omega) ?_
    intro t ht
    simp at ht
    rcases ht with rfl | rfl | rfl | rfl
    · exact repT_idx hn (getD_idx hps 1)
    · exact false_idx
    · rfl
    · exact appsL_idx _ _ (getD_idx hps 0) (vL_idx (by omega) (by omega))
  · refine appsL_idx _ _ (leastT_idx hn (getD_idx hps 0)) ?_
    intro t ht
    simp at ht
    rcases ht with rfl | rfl
    · exact leastT_idx hn (getD_idx hps 0)
    · rfl
/-- What FuncToLam gives. -/
def funcLam (T : List R3) : List R2 × Int := if validF T = true then (if okF 61 T = true then ((fT 61 T).flat, 0) else ([], 5)) else ([], 1)
theorem bndFuncToLam0 (T : List R3) (h : T.length ≤ 1048576) : (funcLam T).1.length ≤ 1048576 := by
  unfold funcLam
  split
  · split
    · rename_i h1
      unfold okF at h1
      simp only [Bool.and_eq_true, decide_eq_true_eq] at h1
      show (fT 61 T).flat.length ≤ 1048576
      omega
    · simp
  · simp
end Go.Proofs.YtkiaclajjlidoaaGreatDoor
