/- Contracts of the laws' helpers on []Expr: copy, compare, size, mark, look at the marks. For slices of at most 1048576 elements. -/
import Derived.Test.YtgcedfpjgdeakaaRec
import Derived.StillTailTactics
namespace Go.Proofs.Ytgcedfpjgdeakaa
open Go.RowKit
set_option linter.all false

theorem infoExpr : (Try.prog.info? 62).map (fun i => (i.zero, i.size, i.bytes)) = some (some (.agg #[.int .i64 0, .int .i64 0]), 2, 16) := by kernel_rfl

theorem toExpr_any (x : R2) (w : World) : Calls Try.prog 30 #[.agg #[.int .i64 x.a, .int .i64 x.b]] w fun e w' => e = .returned (.agg #[.int .i64 x.a, .int .i64 x.b]) ∧ Below w.heap.size w w' := by
  obtain ⟨a, b⟩ := x
  go_enter Try.func30, Try.ntmps30
  go_wp2
  refine bodyPost_ret (v := .agg #[.int .i64 a, .int .i64 b]) (by simp [results, Try.results30, go_sem]) rfl ⟨rfl, ?_⟩
  repeat (first | exact Below.refl _ _ | refine Below.setCell ?_ (by simp; try omega) _ | refine Below.alloc ?_ (by simp; try omega) _)

theorem eqExpr_any (x y : R2) (w : World) : Calls Try.prog 37 #[.agg #[.int .i64 x.a, .int .i64 x.b], .agg #[.int .i64 y.a, .int .i64 y.b]] w fun e w' => e = .returned (.bool (decide (x = y))) ∧ Below w.heap.size w w' := by
  obtain ⟨a, b⟩ := x
  obtain ⟨a', b'⟩ := y
  have h0 : Below w.heap.size w ((w.alloc (.cells #[.int .i64 a, .int .i64 b] 62)).alloc (.cells #[.int .i64 a', .int .i64 b'] 62)) := ((Below.refl _ _).alloc (Nat.le_refl _) _).alloc (by simp) _
  by_cases h1 : a = a'
  rotate_left
  · have e3 : (a != a') = true := by simpa using h1
    go_enter Try.func37, Try.ntmps37
    go_wp2
    go_ret
    exact ⟨ret_bool (by simp [h1]), h0⟩
  subst h1
  by_cases h2 : b = b'
  rotate_left
  · have e3 : (b != b') = true := by simpa using h2
    go_enter Try.func37, Try.ntmps37
    go_wp2
    go_ret
    exact ⟨ret_bool (by simp [h2]), h0⟩
  subst h2
  go_enter Try.func37, Try.ntmps37
  go_wp2
  go_ret
  exact ⟨ret_bool (by simp), h0⟩

theorem eqExpr_is (x y : R2) (v : Bool) (h : decide (x = y) = v) (w : World) : Calls Try.prog 37 #[.agg #[.int .i64 x.a, .int .i64 x.b], .agg #[.int .i64 y.a, .int .i64 y.b]] w fun e w' => e = .returned (.bool v) ∧ Below w.heap.size w w' := by
  subst h; exact eqExpr_any x y w

set_option maxHeartbeats 400000 in
theorem toExprS_any (A : Option Addr) (n c : Nat) (xs : List R2) (w : World) (ha : Args 2 w A n (rows R2.vs xs)) (hn : n ≤ 1048576) :
    Calls Try.prog 8 #[.slice A n c] w fun e w' => e = .returned (.slice (some ⟨w.heap.size, 0, none⟩) n n) ∧
      w'.ownsRow w.heap.size 62 2 (.slice (some ⟨w.heap.size, 0, none⟩) n n) n (rows R2.vs xs) ∧ Below w.heap.size w w' := by
  have HL : Hid (xs.length = n) := by have := ha.1; rw [rows_len R2.vs_len] at this; unfold Hid; omega
  have hmk := fun W => run_make_rows (P := Try.prog) 29 62 _ 2 16 Try.underlying29 infoExpr .i64 .i64 n (by omega) (by omega) W
  simp only [Value.cells] at hmk
  obtain ⟨f0, hrow0⟩ := rowIs_mades w #[.int .i64 0, .int .i64 0] (n * 2) 62
  have hB0 : Below w.heap.size w (w.alloc (.cells (madeCells #[.int .i64 0, .int .i64 0] (n * 2)) 62)) := (Below.refl _ _).alloc (Nat.le_refl _) _
  go_enter Try.func8, Try.ntmps8
  go_wp2
  clear hmk
  go_loopw [4] (fun i wr => ∃ k : Nat, k ≤ n ∧ i = .int .i64 k ∧ RowUp wr w.heap.size 62 (n * 2) (rows R2.vs xs) (k * 2) ∧ Below w.heap.size w wr) (fun i _ => n - (intOf i).toNat)
  case atStart => exact ⟨0, Nat.zero_le _, rfl, by simpa using RowUp.zero hrow0 _, hB0⟩
  case round =>
    obtain ⟨k, hk, rfl, hrow, hB⟩ := hrel
    clear hrow0 hB0
    by_cases hlt : k < n
    · obtain ⟨b, off, rfl, hs⟩ := ha.sl hlt
      obtain ⟨x, HX⟩ := hget HL hlt
      obtain ⟨h0, h1⟩ := (hs.below' hB).rec2 HX.out
      have hgl := hrow.lt
      go_wp2_with fail
      refine (toExpr_any x _).mono ?_
      rintro e w1 ⟨rfl, hb⟩
      have hr1 := hrow.below hb hgl
      obtain ⟨u0, hc0⟩ := hr1.cell (i := k * 2) (by omega)
      have fz0 := hr1.frozen (k * 2)
      obtain ⟨u1, hc1⟩ := hr1.cell (i := k * 2 + 1) (by omega)
      have fz1 := hr1.frozen (k * 2 + 1)
      have HR := Lib.hid (hr1.set2 HX.out)
      have HB := Lib.hid (below_set2 (k := k) (x := x) (below_step hB hb))
      clear hrow hB ha hs hb hr1 h0 h1
      go_wp2_with fail
      go_roundw
      case rel => exact ⟨k + 1, by omega, by go_num, HR.out, HB.out⟩
      case measure => simp [intOf]; omega
    · go_wp2
      go_ret
      obtain rfl : k = n := by omega
      exact ⟨rfl, hrow.own (Nat.le_refl _) (by unfold maxLen; omega) ha.1, hB⟩

set_option maxRecDepth 100000 in
set_option maxHeartbeats 400000 in
theorem eqExprS_any (A B : Option Addr) (n m c d : Nat) (xs ys : List R2) (w : World) (ha : Args 2 w A n (rows R2.vs xs)) (hb : Args 2 w B m (rows R2.vs ys)) (hn : n ≤ 4194304) (hm : m ≤ 4194304) :
    Calls Try.prog 12 #[.slice A n c, .slice B m d] w fun e w' => e = .returned (.bool (decide (xs = ys))) ∧ Below w.heap.size w w' := by
  have HA : Hid (xs.length = n) := by have := ha.1; rw [rows_len R2.vs_len] at this; unfold Hid; omega
  have HB : Hid (ys.length = m) := by have := hb.1; rw [rows_len R2.vs_len] at this; unfold Hid; omega
  by_cases hnm : n = m
  · subst hnm
    go_enter Try.func12, Try.ntmps12
    go_wp2
    go_loopw [5] (fun i wr => ∃ k : Nat, k ≤ n ∧ i = .int .i64 k ∧ Below w.heap.size w wr ∧ Hid (xs.take k = ys.take k)) (fun i _ => n - (intOf i).toNat)
    case atStart => exact ⟨0, Nat.zero_le _, rfl, Below.refl _ _, rfl⟩
    case round =>
      obtain ⟨k, hk, rfl, hB, HR⟩ := hrel
      by_cases hlt : k < n
      · obtain ⟨b1, o1, rfl, hs1⟩ := ha.sl hlt
        obtain ⟨b2, o2, rfl, hs2⟩ := hb.sl hlt
        obtain ⟨x, HX⟩ := hget HA hlt
        obtain ⟨y, HY⟩ := hget HB hlt
        obtain ⟨p0, p1⟩ := (hs1.below' hB).rec2 HX.out
        obtain ⟨q0, q1⟩ := (hs2.below' hB).rec2 HY.out
        clear hs1 hs2 ha hb
        by_cases e : x = y
        · have E := Lib.hid (decide_eq_true e)
          have E2 := Lib.hid e
          clear e
          go_wp2
          go_still_tail 8, (by kernel_rfl)
          change wpList _ _ _ _ _ wr.drew
          have hB2 := hB.drew
          clear p0 q0 p1 q1 hB
          generalize wr.drew = w2 at hB2 ⊢
          go_wp2_with fail
          refine (eqExpr_is x y true E.out _).mono ?_
          rintro e w3 ⟨rfl, hb3⟩
          go_wp2
          go_roundw
          case rel => exact ⟨k + 1, by omega, by go_num, below_step hB2 hb3, take_succ_eq HR.out HX.out HY.out E2.out⟩
          case measure => simp [intOf]; omega
        · have E := Lib.hid (decide_eq_false e)
          have HE := Lib.hid e
          clear e
          go_wp2
          go_still_tail 8, (by kernel_rfl)
          change wpList _ _ _ _ _ wr.drew
          have hB2 := hB.drew
          clear p0 q0 p1 q1 hB
          generalize wr.drew = w2 at hB2 ⊢
          go_wp2_with fail
          refine (eqExpr_is x y false E.out _).mono ?_
          rintro e w3 ⟨rfl, hb3⟩
          go_wp2
          go_ret
          exact ⟨ret_bool (by simp [ne_of_at HX.out HY.out HE.out]), below_step hB2 hb3⟩
      · go_wp2
        go_ret
        refine ⟨ret_bool ?_, hB⟩
        have h1 := HR.out
        have h2 := HA.out
        have h3 := HB.out
        rw [List.take_of_length_le (by omega), List.take_of_length_le (by omega)] at h1
        simp [h1]
  · have hne : ((n : Int) != (m : Int)) = true := by simp; omega
    go_enter Try.func12, Try.ntmps12
    go_wp2
    go_ret
    refine ⟨ret_bool ?_, Below.refl _ _⟩
    have h2 := HA.out
    have h3 := HB.out
    symm
    apply decide_eq_false
    rintro rfl
    omega

theorem szExprS_any (A : Option Addr) (n c : Nat) (left : Int) (w : World) (h0 : 0 ≤ left) (h1 : left ≤ 1048576) (hn : n ≤ 9223372036854775807) :
    Calls Try.prog 5 #[.slice A n c, .int .i64 left] w fun e w' => e = .returned (.int .i64 (if (n : Int) ≤ left then left - n else -1)) ∧ w = w' := by
  by_cases h : (n : Int) ≤ left
  · have h' : ¬ left - (n : Int) < 0 := by omega
    go_enter Try.func5, Try.ntmps5
    go_wp2
    go_ret
    exact ⟨ret_int (by first | rfl | rw [if_pos h]), rfl⟩
  · have h' : left - (n : Int) < 0 := by omega
    go_enter Try.func5, Try.ntmps5
    go_wp2
    go_ret
    exact ⟨ret_int (by first | rfl | rw [if_neg h]), rfl⟩

theorem szExprS_yes (A : Option Addr) (n c : Nat) (left : Int) (w : World) (h0 : (n : Int) ≤ left) (h1 : left ≤ 1048576) :
    Calls Try.prog 5 #[.slice A n c, .int .i64 left] w fun e w' => e = .returned (.int .i64 (left - n)) ∧ w = w' := by
  have h := szExprS_any A n c left w (by omega) h1 (by omega)
  rw [if_pos h0] at h; exact h

theorem szExprS_no (A : Option Addr) (n c : Nat) (left : Int) (w : World) (h0 : 0 ≤ left) (h : left < (n : Int)) (h1 : left ≤ 1048576) (hn : n ≤ 9223372036854775807) :
    Calls Try.prog 5 #[.slice A n c, .int .i64 left] w fun e w' => e = .returned (.int .i64 (-1)) ∧ w = w' := by
  have h := szExprS_any A n c left w h0 h1 hn
  rw [if_neg (by omega)] at h; exact h

theorem szExprS_is (A : Option Addr) (n c left r : Nat) (w : World) (h : r + n = left) (h1 : left ≤ 1048576) :
    Calls Try.prog 5 #[.slice A n c, .int .i64 left] w fun e w' => e = .returned (.int .i64 r) ∧ w = w' := by
  have h2 := szExprS_yes A n c left w (by omega) (by omega)
  rw [show (left : Int) - n = r by omega] at h2; exact h2

theorem szExprS_not (A : Option Addr) (n c left : Nat) (w : World) (h : left < n) (h1 : left ≤ 1048576) (hn : n ≤ 9223372036854775807) :
    Calls Try.prog 5 #[.slice A n c, .int .i64 left] w fun e w' => e = .returned (.int .i64 (-1)) ∧ w = w' :=
  szExprS_no A n c left w (by omega) (by omega) (by omega) hn

set_option maxHeartbeats 800000 in
theorem markExprS_any (base : Nat) (v : Value) (n : Nat) (k0 : Int) (xs : List Value) (w : World) (ho : w.ownsRow base 62 2 v n xs) (hk0 : 0 ≤ k0) (hk1 : k0 ≤ 1099511627776) (hn : n ≤ 4194304) :
    Calls Try.prog 14 #[v, .int .i64 k0] w fun e w' => e = .returned (.int .i64 (k0 + (n * 2 : Nat))) ∧ w'.ownsRow base 62 2 v n (marks (.int .i64) k0 (n * 2)) ∧ w.grownBy w' v.ownBlock := by
  have HL : Hid (xs.length = n * 2) := ho.1
  rcases ho.2 with ⟨rfl, rfl⟩ | ⟨g, cap, cur, rfl, hbg, hh, hnc, hcm, hcs, htk⟩
  · go_enter Try.func14, Try.ntmps14
    go_wp2
    refine wp_loop_rounds 1 ?_
    rw [rounds_succ]
    go_wp2
    go_ret
    exact ⟨by simp, by simpa [marks] using World.ownsRow_nil _ _ _ _, World.grownBy.refl _ _⟩
  · clear hh hcs htk
    go_enter Try.func14, Try.ntmps14
    go_wp2
    go_loopw [1, 5] (fun kk i wr => ∃ k : Nat, k ≤ n ∧ i = .int .i64 k ∧ kk = .int .i64 (k0 + (k * 2 : Nat)) ∧ wr.ownsRow base 62 2 (.slice (some ⟨g, 0, none⟩) n cap) n (marks (.int .i64) k0 (k * 2) ++ xs.drop (k * 2)) ∧ w.grownBy wr (some g)) (fun _ i _ => n - (intOf i).toNat)
    case atStart => exact ⟨0, Nat.zero_le _, rfl, by simp, by simpa [marks] using ho, World.grownBy.refl _ _⟩
    case round =>
      obtain ⟨k, hk, rfl, rfl, hown, hgr⟩ := hrel
      clear ho
      by_cases hlt : k < n
      · obtain ⟨u0, c0⟩ := own_some hown (j := k * 2) (by omega)
        obtain ⟨u1, c1⟩ := own_some hown (j := k * 2 + 1) (by omega)
        have z0 := hown.frozenAt (k * 2)
        have z1 := hown.frozenAt (k * 2 + 1)
        have HS := Lib.hid (own_mark2 hown hgr HL.out hlt)
        have hm0 : ((k * 2 : Nat) : Int) = (k : Int) * 2 := by omega
        clear hown
        go_wp2
        go_roundw
        case rel => exact ⟨k + 1, by omega, by go_num, by go_num, by exact HS.out.1, by exact HS.out.2⟩
        case measure => simp [intOf]; omega
      · go_wp2
        go_ret
        obtain rfl : k = n := by omega
        refine ⟨rfl, ?_, hgr⟩
        rw [List.drop_of_length_le (by have := HL.out; omega), List.append_nil] at hown
        exact hown

end Go.Proofs.Ytgcedfpjgdeakaa
