/- Abstraction: atom, applyComb, slices.Contains, l00Has, l12CombEnd; slices of a term. -/
import Derived.Test.YtfmfpknigafnoaaAbsC
import Derived.Test.YtfmfpknigafnoaaAreCombs
import Derived.Test.YtfmfpknigafnoaaAppliedComb
import Derived.Laws.StructEq
namespace Go.Proofs.Ytfmfpknigafnoaa
open Go.RowKit
set_option linter.all false

theorem guardComb (op : BinOp) (a b : Operand) (xs ys : Array Value) (w : World) : Sem.run Try.prog (eqGuard op 136 a b (.agg xs) (.agg ys)) w = .ok () w := run_eqGuard_agg w op 136 a b xs ys (by kernel_rfl)
theorem eqComb_run (x y : R2) (w : World) : Sem.run Try.prog (binOp .eql 136 (.agg #[.int .i64 x.a, .int .i64 x.b]) (.agg #[.int .i64 y.a, .int .i64 y.b])) w = .ok (.bool (decide (x.a = y.a) && decide (x.b = y.b))) w := by
  have u3 := Try.underlying2
  have a3 := Try.isAgg2
  have z3 := Try.sizeOf2
  have hS : Try.prog.underlying 136 = some (.struct (Try.prog.fieldsOf 136)) := by kernel_rfl
  have hp : Try.prog.stoodInHeld 136 = false := by kernel_rfl
  rw [run_eql_struct, show (10000 : Nat) = 9999 + 1 from rfl, run_equalIn_agg w 9999 136 _ _ hS hp]
  simp only [Program.fieldsOf, Try.underlying136]
  go_simp
  by_cases h1 : x.a = y.a <;> by_cases h2 : x.b = y.b <;> simp [h1, h2]
/-- 'x == variable' and 'variable == x', whatever the world. -/
theorem eqVar_run (x : R2) (k : Int) (r : Bool) (h : isV k x = r) (w : World) : Sem.run Try.prog (binOp .eql 136 (.agg #[.int .i64 x.a, .int .i64 x.b]) (.agg #[.int .i64 4, .int .i64 k])) w = .ok (.bool r) w := by
  rw [eqComb_run x ⟨4, k⟩ w, ← h]; rfl
theorem eqVar_run' (x : R2) (k : Int) (r : Bool) (h : isV k x = r) (w : World) : Sem.run Try.prog (binOp .eql 136 (.agg #[.int .i64 4, .int .i64 k]) (.agg #[.int .i64 x.a, .int .i64 x.b])) w = .ok (.bool r) w := by
  rw [eqComb_run ⟨4, k⟩ x w, ← h]
  unfold isV
  simp only [eq_comm]
theorem hasV_no {k : Int} {xs : List R2} (h : ∀ (j : Nat) (x : R2), xs[j]? = some x → isV k x = false) : hasV k xs = false := by
  rw [Bool.eq_false_iff]
  intro hh
  unfold hasV at hh
  rw [List.any_eq_true] at hh
  obtain ⟨x, hx, hv⟩ := hh
  obtain ⟨j, hj⟩ := List.getElem?_of_mem hx
  rw [h j x hj] at hv
  cases hv
theorem hasV_yes {k : Int} {xs : List R2} {j : Nat} {x : R2} (hx : xs[j]? = some x) (h : isV k x = true) : hasV k xs = true := by
  unfold hasV
  rw [List.any_eq_true]
  exact ⟨x, List.mem_of_getElem? hx, h⟩

set_option maxRecDepth 100000 in
set_option maxHeartbeats 1000000 in
theorem indexComb_any (b off n c : Nat) (xs : List R2) (k : Int) (w : World) (hs : Sl w b off (rows R2.vs xs)) (hl : xs.length = n) (hn : n ≤ 1048576) :
    Calls Try.prog 220 #[.slice (some ⟨b, off, none⟩) n c, .agg #[.int .i64 4, .int .i64 k]] w fun e w' => (∃ z : Int, e = .returned (.int .i64 z) ∧ decide (0 ≤ z) = hasV k xs) ∧ Below w.heap.size w w' := by
  have HL := Lib.hid hl; clear hl
  have hb0 := laid_below w (.cells #[.int .i64 4, .int .i64 k] 136)
  obtain ⟨w0, HW, q0, q1, -⟩ : ∃ w0, Hid (w0 = w.alloc (.cells #[.int .i64 4, .int .i64 k] 136)) ∧ w0.cell? ⟨w.heap.size, 0, none⟩ = some (.int .i64 4) ∧ w0.cell? ⟨w.heap.size, 1, none⟩ = some (.int .i64 k) ∧ True := ⟨_, rfl, by simp [go_sem], by simp [go_sem], trivial⟩
  rw [← HW.out] at hb0
  have hs0 := hs.below' hb0
  go_enter Try.func220, Try.ntmps220
  go_wp2
  rw [← HW.out]
  go_loopw [8] (fun i wr => ∃ j q : Nat, j ≤ n ∧ i = .int .i64 j ∧ wr = w0.drewN q ∧ Hid (∀ i x, i < j → xs[i]? = some x → isV k x = false)) (fun i _ => n - (intOf i).toNat)
  case atStart => exact ⟨0, 0, Nat.zero_le _, rfl, rfl, by intro i x hi; omega⟩
  case round =>
    obtain ⟨j, q, hj, rfl, rfl, HR⟩ := hrel
    by_cases hlt : j < n
    · obtain ⟨x, HX⟩ := hget HL hlt
      obtain ⟨p0, p1⟩ := hs0.rec2 HX.out
      have hj0 : 0 ≤ (j : Int) := by omega
      have hjn : (j : Int) < (n : Int) := by omega
      have hgd := guardComb
      rcases Bool.eq_false_or_eq_true (isV k x) with hv | hv
      · have hq := eqVar_run' x k true hv
        have HV := Lib.hid hv; clear hv
        go_wp2
        go_quiet (fail)
        go_wp2
        go_ret
        refine ⟨⟨_, rfl, ?_⟩, ?_⟩
        · rw [hasV_yes HX.out HV.out]; simp
        · first | exact below_drewN hb0 _ | exact below_drewN (below_drewN hb0 _) _
      · have hq := eqVar_run' x k false hv
        have HV := Lib.hid hv; clear hv
        go_wp2
        go_quiet (fail)
        go_wp2
        go_roundw
        case rel => exact ⟨j + 1, _, by omega, by go_num, rfl, by
          intro i y hi hy
          by_cases e : i = j
          · subst e
            have h2 := HX.out
            rw [hy] at h2; injection h2 with h2; subst h2; exact HV.out
          · exact HR.out i y (by omega) hy⟩
        case measure => simp [intOf]; omega
    · go_wp2
      go_ret
      refine ⟨⟨_, rfl, ?_⟩, below_drewN hb0 _⟩
      rw [hasV_no fun i x hx => HR.out i x (by have := HL.out; have := (List.getElem?_eq_some_iff.1 hx).1; omega) hx]
      rfl
theorem containsComb_is (b off n c : Nat) (xs : List R2) (k : Int) (v : Bool) (hv : hasV k xs = v) (w : World) (hs : Sl w b off (rows R2.vs xs)) (hl : xs.length = n) (hn : n ≤ 1048576) :
    Calls Try.prog 191 #[.slice (some ⟨b, off, none⟩) n c, .agg #[.int .i64 4, .int .i64 k]] w fun e w' => e = .returned (.bool v) ∧ Below w.heap.size w w' := by
  have HL := Lib.hid hl; have HV := Lib.hid hv; clear hl hv
  have hb0 := laid_below w (.cells #[.int .i64 4, .int .i64 k] 136)
  go_enter Try.func191, Try.ntmps191
  go_wp2_with fail
  refine (indexComb_any b off n c xs k _ (hs.below' hb0) HL.out hn).mono ?_
  rintro e w1 ⟨⟨z, rfl, hz⟩, hb1⟩
  rw [HV.out] at hz
  go_wp2_with fail
  go_ret
  exact ⟨ret_bool (by first | exact hz | simpa using hz), below_step hb0 hb1⟩

theorem atom_any (k : Int) (w : World) : Calls Try.prog 190 #[.int .i64 k] w fun e w' => ∃ v, e = .returned v ∧ w'.ownsRow w.heap.size 136 2 v 1 (rows R2.vs [⟨k, 0⟩]) ∧ Below w.heap.size w w' := by
  go_enter Try.func190, Try.ntmps190
  go_wp2
  go_ret
  exact ⟨_, rfl, own_laid w _ 2 1 _ rfl (by simp [maxLen]), laid_below _ _⟩

theorem applyComb_any (A : Option Addr) (n c : Nat) (t : List R2) (g off m c2 : Nat) (vs : List Value) (ts : List (List R2)) (w : World) (ht : Src 2 w (.slice A n c) n (rows R2.vs t)) (hs : Sl w g off vs) (hv : Rws w vs ts) (hm : ts.length = m) (hm1 : m ≤ 1048576) (hn : n ≤ 1048576) (hsum : ts.flatten.length ≤ 4194304) :
    Calls Try.prog 151 #[.slice A n c, .slice (some ⟨g, off, none⟩) m c2] w fun e w' => ∃ v, e = .returned v ∧ w'.ownsRow w.heap.size 136 2 v (m + n + ts.flatten.length) (rows R2.vs (List.replicate m ⟨0, 0⟩ ++ t ++ ts.flatten)) ∧ Below w.heap.size w w' := by
  have HA := Lib.hid (appliedComb_any ⟨0, 0⟩ A n c t g off m c2 vs ts w ht hs hv hm hm1 hn hsum)
  obtain ⟨S, hS⟩ : ∃ S, S = ts.flatten.length := ⟨_, rfl⟩
  rw [← hS] at HA ⊢
  clear hS hm hsum
  go_enter Try.func151, Try.ntmps151
  go_wp2_with fail
  refine HA.out.mono ?_
  rintro e w1 ⟨v, rfl, hown, hb⟩
  go_wp2
  go_ret
  exact ⟨_, rfl, hown, hb⟩

theorem l00HasC_is (A : Option Addr) (n c : Nat) (xs : List Int) (x : Int) (v : Bool) (hv : decide (x ∈ xs) = v) (w : World) (ha : Arg w A n (xs.map (Value.int .i64))) (hn : n ≤ 1048576) :
    Calls Try.prog 181 #[.slice A n c, .int .i64 x] w fun e w' => e = .returned (.bool v) ∧ w = w' := by
  subst hv
  have HL : Hid (xs.length = n) := by have := ha.1; simpa [Hid] using this
  go_enter Try.func181, Try.ntmps181
  go_wp2
  go_loop [5] (fun i => ∃ k : Nat, k ≤ n ∧ i = .int .i64 k ∧ Hid (x ∉ xs.take k)) (fun i => n - (intOf i).toNat)
  case atStart => exact ⟨0, Nat.zero_le _, rfl, by simp [Hid]⟩
  case round =>
    obtain ⟨k, hk, rfl, HN⟩ := hrel
    by_cases hlt : k < n
    · obtain ⟨b, off, rfl, hs⟩ := ha.sl hlt
      obtain ⟨y, HY, hy⟩ := map_at (Value.int .i64) xs (k := k) (by have := HL.out; omega)
      have hcy := hs.at hy
      clear hy
      by_cases e : y = x
      · have e1 : (y == x) = true := by simpa using e
        have HM : Hid (decide (x ∈ xs) = true) := by unfold Hid; rw [decide_eq_true_eq, ← e]; exact getD_mem HY.out
        clear e
        go_wp2
        go_ret
        exact ⟨ret_bool HM.out.symm, rfl⟩
      · have e1 : (y == x) = false := by simpa using e
        have HM : Hid (x ∉ xs.take (k + 1)) := by
          have := HN.out
          unfold Hid
          rw [List.take_add_one, HY.out]
          simp only [Option.toList_some, List.mem_append, List.mem_singleton]
          rintro (h | h)
          · exact this h
          · exact e h.symm
        clear e
        go_wp2
        go_round
        case rel => exact ⟨k + 1, by omega, by go_num, HM⟩
        case measure => simp [intOf]; omega
    · go_wp2
      go_ret
      refine ⟨ret_bool ?_, rfl⟩
      have := HN.out
      rw [List.take_of_length_le (by have := HL.out; omega)] at this
      rw [decide_eq_false this]

set_option maxRecDepth 100000 in
theorem l12CombEnd_any (A : Option Addr) (n c k0 p : Nat) (xs : List R2) (w : World) (ha : Args 2 w A n (rows R2.vs xs)) (hn : n ≤ 1048576) (hp : tPos kFol k0 (xs.drop k0) = (p : Int)) (hk0 : k0 ≤ n) :
    Calls Try.prog 183 #[.slice A n c, .int .i64 k0] w fun e w' => e = .returned (.int .i64 (p : Int)) ∧ w = w' := by
  have HL : Hid (xs.length = n) := by have := ha.1; rw [rows_len R2.vs_len] at this; unfold Hid; omega
  have HP := Lib.hid hp; clear hp
  go_enter Try.func183, Try.ntmps183
  go_wp2
  go_loop [1, 5] (fun i o => ∃ k op : Nat, k ≤ n ∧ op ≤ k + 1 ∧ i = .int .i64 k ∧ o = .int .i64 op ∧ Hid (tPosAt kFol op k (xs.drop k) = (p : Int))) (fun i _ => n - (intOf i).toNat)
  case atStart => exact ⟨k0, 1, hk0, by omega, rfl, rfl, HP.out⟩
  case round =>
    obtain ⟨k, op, hk, hop, rfl, rfl, HT⟩ := hrel
    by_cases ho : op = 0
    · subst ho
      have HK : Hid ((k : Int) = (p : Int)) := by have := HT.out; rw [tPosAt_zero] at this; exact this
      go_wp2
      go_ret
      exact ⟨ret_int HK.out, rfl⟩
    · have ho1 : (0 : Int) < (op : Int) := by omega
      obtain ⟨q, rfl⟩ : ∃ q, op = q + 1 := ⟨op - 1, by omega⟩
      by_cases hlt : k < n
      · obtain ⟨b, off, rfl, hs⟩ := ha.sl hlt
        obtain ⟨x, HX⟩ := hget HL hlt
        obtain ⟨p0, p1⟩ := hs.rec2 HX.out
        have ht := HT.out
        rw [drop_at HX.out, tPosAt_succ] at ht
        by_cases h0 : x.a = 0
        · have e0 : (x.a == 0) = true := by simpa using h0
          have HT2 : Hid (tPosAt kFol (q + 1 + 1) (k + 1) (xs.drop (k + 1)) = (p : Int)) := by unfold Hid; rw [← ht]; unfold kFol; rw [if_pos h0]
          clear ht h0 ho
          go_wp2
          go_round
          case rel => exact ⟨k + 1, q + 1 + 1, by omega, by omega, by go_num, by go_num, HT2⟩
          case measure => simp [intOf]; omega
        · have e0 : (x.a == 0) = false := by simpa using h0
          have HT2 : Hid (tPosAt kFol q (k + 1) (xs.drop (k + 1)) = (p : Int)) := by unfold Hid; rw [← ht]; unfold kFol; rw [if_neg h0]; rfl
          clear ht h0 ho
          go_wp2
          go_round
          case rel => exact ⟨k + 1, q, by omega, by omega, by go_num, by first | (congr 1; omega) | rfl | go_num, HT2⟩
          case measure => simp [intOf]; omega
      · exfalso
        have := HT.out
        rw [List.drop_of_length_le (by have := HL.out; omega), tPosAt_none] at this
        omega
end Go.Proofs.Ytfmfpknigafnoaa
