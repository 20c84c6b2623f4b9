/- Equality of expressions: slices.Equal at []Expr and the reference's l22SameExpr. -/
import Derived.Test.YtffcggagjeoagaaHelpExpr
import Derived.Test.YtffcggagjeoagaaNums
namespace Go.Proofs.Ytffcggagjeoagaa
open Go.RowKit
set_option linter.all false

theorem guardExpr (op : BinOp) (a b : Operand) (xs ys : Array Value) (w : World) : Sem.run Try.prog (eqGuard op 101 a b (.agg xs) (.agg ys)) w = .ok () w := run_eqGuard_agg w op 101 a b xs ys (by kernel_rfl)
theorem neExpr_run (x y : R2) (r : Bool) (h : decide (x ≠ y) = r) (w : World) : Sem.run Try.prog (binOp .neq 101 (.agg #[.int .i64 x.a, .int .i64 x.b]) (.agg #[.int .i64 y.a, .int .i64 y.b])) w = .ok (.bool r) w := by
  subst h
  have u3 := Try.underlying2
  have a3 := Try.isAgg2
  have z3 := Try.sizeOf2
  have hS : Try.prog.underlying 101 = some (.struct (Try.prog.fieldsOf 101)) := by kernel_rfl
  have hp : Try.prog.stoodInHeld 101 = false := by kernel_rfl
  rw [run_neq_struct, show (10000 : Nat) = 9999 + 1 from rfl, run_equalIn_agg w 9999 101 _ _ hS hp]
  simp only [Program.fieldsOf, Try.underlying101]
  go_simp
  obtain ⟨a, b⟩ := x
  obtain ⟨c, d⟩ := y
  by_cases h1 : a = c <;> by_cases h2 : b = d <;> simp [h1, h2]

set_option maxRecDepth 100000 in
theorem equalExprs_is (A B : Option Addr) (n c m d : Nat) (xs ys : List R2) (v : Bool) (hv : decide (xs = ys) = v) (w : World) (ha : Args 2 w A n (rows R2.vs xs)) (hb : Args 2 w B m (rows R2.vs ys)) (hn : n ≤ 4194304) (hm : m ≤ 4194304) :
    Calls Try.prog 116 #[.slice A n c, .slice B m d] w fun e w' => e = .returned (.bool v) ∧ ∃ q, w' = w.drewN q := by
  subst hv
  have HA : Hid (xs.length = n) := by have := ha.1; rw [rows_len R2.vs_len] at this; unfold Hid; omega
  have HB : Hid (ys.length = m) := by have := hb.1; rw [rows_len R2.vs_len] at this; unfold Hid; omega
  have hgd := guardExpr
  by_cases hnm : n = m
  · subst hnm
    go_enter Try.func116, Try.ntmps116
    go_wp2
    go_loopw [5, 13] (fun _ i wr => ∃ k q : Nat, k ≤ n ∧ i = .int .i64 k ∧ wr = w.drewN q ∧ Hid (xs.take k = ys.take k)) (fun _ i _ => n - (intOf i).toNat)
    case atStart => exact ⟨0, 0, Nat.zero_le _, rfl, rfl, rfl⟩
    case round =>
      obtain ⟨k, q, hk, rfl, rfl, HR⟩ := hrel
      by_cases hlt : k < n
      · obtain ⟨b1, o1, rfl, hs1⟩ := ha.sl hlt
        obtain ⟨b2, o2, rfl, hs2⟩ := hb.sl hlt
        obtain ⟨x, HX⟩ := hget HA hlt
        obtain ⟨y, HY⟩ := hget HB hlt
        obtain ⟨p0, p1⟩ := hs1.rec2 HX.out
        obtain ⟨q0, q1⟩ := hs2.rec2 HY.out
        clear hs1 hs2 ha hb
        by_cases e : x = y
        · have hz := neExpr_run x y false (by simp [e])
          have E := Lib.hid e
          clear e
          go_wp2
          go_quiet (fail)
          go_wp2
          go_roundw
          case rel => exact ⟨k + 1, _, by omega, by go_num, rfl, take_succ_eq HR.out HX.out HY.out E.out⟩
          case measure => simp [intOf]; omega
        · have hz := neExpr_run x y true (by simp [e])
          have HE := Lib.hid e
          clear e
          go_wp2
          go_quiet (fail)
          go_wp2
          go_ret
          exact ⟨ret_bool (by simp [ne_of_at HX.out HY.out HE.out]), by first | exact ⟨_, rfl⟩ | exact ⟨_, World.drewN_drewN _ _ _⟩⟩
      · go_wp2
        go_ret
        refine ⟨ret_bool ?_, _, rfl⟩
        have h1 := HR.out
        have h2 := HA.out
        have h3 := HB.out
        obtain rfl : k = n := by omega
        rw [List.take_of_length_le (by omega), List.take_of_length_le (by omega)] at h1
        simp [h1]
  · go_enter Try.func116, Try.ntmps116
    go_wp2
    go_ret
    refine ⟨ret_bool ?_, 0, rfl⟩
    have h2 := HA.out
    have h3 := HB.out
    symm
    rw [decide_eq_false_iff_not]
    intro e; subst e; omega

set_option maxRecDepth 100000 in
theorem sameExpr_is (A B : Option Addr) (n c m d : Nat) (xs ys : List R2) (v : Bool) (hv : decide (xs = ys) = v) (w : World) (ha : Args 2 w A n (rows R2.vs xs)) (hb : Args 2 w B m (rows R2.vs ys)) (hn : n ≤ 4194304) (hm : m ≤ 4194304) :
    Calls Try.prog 115 #[.slice A n c, .slice B m d] w fun e w' => e = .returned (.bool v) ∧ ∃ q, w' = w.drewN q := by
  subst hv
  have HA : Hid (xs.length = n) := by have := ha.1; rw [rows_len R2.vs_len] at this; unfold Hid; omega
  have HB : Hid (ys.length = m) := by have := hb.1; rw [rows_len R2.vs_len] at this; unfold Hid; omega
  have hgd := guardExpr
  by_cases hnm : n = m
  · subst hnm
    go_enter Try.func115, Try.ntmps115
    go_wp2
    go_loopw [5] (fun i wr => ∃ k q : Nat, k ≤ n ∧ i = .int .i64 k ∧ wr = w.drewN q ∧ Hid (xs.take k = ys.take k)) (fun i _ => n - (intOf i).toNat)
    case atStart => exact ⟨0, 0, Nat.zero_le _, rfl, rfl, rfl⟩
    case round =>
      obtain ⟨k, q, hk, rfl, rfl, HR⟩ := hrel
      by_cases hlt : k < n
      · obtain ⟨b1, o1, rfl, hs1⟩ := ha.sl hlt
        obtain ⟨b2, o2, rfl, hs2⟩ := hb.sl hlt
        obtain ⟨x, HX⟩ := hget HA hlt
        obtain ⟨y, HY⟩ := hget HB hlt
        obtain ⟨p0, p1⟩ := hs1.rec2 HX.out
        obtain ⟨q0, q1⟩ := hs2.rec2 HY.out
        clear hs1 hs2 ha hb
        by_cases e : x = y
        · have hz := neExpr_run x y false (by simp [e])
          have E := Lib.hid e
          clear e
          go_wp2
          go_quiet (fail)
          go_wp2
          go_roundw
          case rel => exact ⟨k + 1, _, by omega, by go_num, rfl, take_succ_eq HR.out HX.out HY.out E.out⟩
          case measure => simp [intOf]; omega
        · have hz := neExpr_run x y true (by simp [e])
          have HE := Lib.hid e
          clear e
          go_wp2
          go_quiet (fail)
          go_wp2
          go_ret
          exact ⟨ret_bool (by simp [ne_of_at HX.out HY.out HE.out]), by first | exact ⟨_, rfl⟩ | exact ⟨_, World.drewN_drewN _ _ _⟩⟩
      · go_wp2
        go_ret
        refine ⟨ret_bool ?_, _, rfl⟩
        have h1 := HR.out
        have h2 := HA.out
        have h3 := HB.out
        obtain rfl : k = n := by omega
        rw [List.take_of_length_le (by omega), List.take_of_length_le (by omega)] at h1
        simp [h1]
  · go_enter Try.func115, Try.ntmps115
    go_wp2
    go_ret
    refine ⟨ret_bool ?_, 0, rfl⟩
    have h2 := HA.out
    have h3 := HB.out
    symm
    rw [decide_eq_false_iff_not]
    intro e; subst e; omega
end Go.Proofs.Ytffcggagjeoagaa
