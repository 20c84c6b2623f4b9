/- The variables of a loop program: l00Put, VariablesOf on both sides. -/
import Derived.Test.YthjehhiaedfodaaLoops
import Derived.Test.YthjehhiaedfodaaSort
import Derived.Test.YthjehhiaedfodaaAsm
namespace Go.Proofs.Ythjehhiaedfodaa
open Go.RowKit
set_option linter.all false
attribute [local go_sem ↓] Go.wp_at_zero Go.wp_at_succ

theorem own_cap' {w : World} {base : Nat} {e : TypeId} {size n : Nat} {v : Value} {xs : List Value} (h : w.ownsRow base e size v n xs) : ∀ A c, v = .slice A n c → n ≤ c := by
  intro A c hv
  rcases h.2 with ⟨h0, h1⟩ | ⟨g, cap, cur, h0, _, _, h1, _⟩
  · omega
  · rw [h0] at hv; injection hv with _ _ h3; omega
theorem grown_cell_new {wr w2 : World} {o : Obj} {base : Nat} {e : TypeId} {size n : Nat} {v : Value} {xs : List Value} (hown : wr.ownsRow base e size v n xs) (hg : (wr.alloc o).grownBy w2 v.ownBlock) {j : Nat} {u : Value} (h : (wr.alloc o).cell? ⟨wr.heap.size, j, none⟩ = some u) : w2.cell? ⟨wr.heap.size, j, none⟩ = some u :=
  hg.cell h (by intro e; have := hown.lt _ e.symm; simp at this)

theorem put_lt {n y : Int} {xs : List Int} {k : Nat} (hy : xs[k]? = some y) (h : n < y) : put n (xs.drop k) = n :: y :: xs.drop (k + 1) := by
  rw [drop_at hy, put, if_pos (by omega), if_pos h]
theorem put_eqv {n y : Int} {xs : List Int} {k : Nat} (hy : xs[k]? = some y) (h : n = y) : put n (xs.drop k) = y :: xs.drop (k + 1) := by
  rw [drop_at hy, put, if_pos (by omega), if_neg (by omega)]
theorem put_gt {n y : Int} {xs : List Int} {k : Nat} (hy : xs[k]? = some y) (h : y < n) : put n (xs.drop k) = y :: put n (xs.drop (k + 1)) := by
  rw [drop_at hy, put, if_neg (by omega)]
theorem take_snoc' {xs : List Int} {k : Nat} {y : Int} (hy : xs[k]? = some y) : xs.take (k + 1) = xs.take k ++ [y] := by
  rw [List.take_add_one, hy]; rfl

set_option maxRecDepth 100000 in
set_option maxHeartbeats 2000000 in
theorem l00Put_any (x : Int) (A0 : Option Addr) (n c0 : Nat) (xs : List Int) (w : World) (ha : Arg w A0 n (xs.map (Value.int .i64))) (hn : n ≤ 1048576) :
    Calls Try.prog 81 #[.slice A0 n c0, .int .i64 x] w fun e w' => ∃ v, e = .returned v ∧ w'.ownsRow w.heap.size 2 1 v (put x xs).length ((put x xs).map (Value.int .i64)) ∧ Below w.heap.size w w' := by
  have HL : Hid (xs.length = n) := by have := ha.1; simpa [Hid] using this
  have hb0 := laid_below w (.cells #[] 2)
  have hown0 : (w.alloc (.cells #[] 2)).ownsRow w.heap.size 2 1 (.slice (some ⟨w.heap.size, 0, none⟩) 0 0) 0 [] := own_empty w 2 1
  go_enter Try.func81, Try.ntmps81
  go_wp2
  go_loopw [5, 6, 7] (fun v d i wr => ∃ (k m : Nat) (b : Bool) (pre : List Int), k ≤ n ∧ m ≤ k + 1 ∧ Hid (b = false → m ≤ k) ∧ i = .int .i64 k ∧ d = .bool b ∧ Below w.heap.size w wr ∧ wr.ownsRow w.heap.size 2 1 v m (pre.map (Value.int .i64)) ∧ Hid (pre.length = m) ∧ Hid (put x xs = pre ++ (if b then xs.drop k else put x (xs.drop k)))) (fun _ _ i _ => n - (intOf i).toNat)
  case atStart => exact ⟨0, 0, false, [], Nat.zero_le _, by omega, by intro _; omega, rfl, rfl, hb0, hown0, rfl, by simp [Hid]⟩
  case round =>
    obtain ⟨k, m, b, pre, hk, hm, HMK, rfl, rfl, hB, hown, HP, HE⟩ := hrel
    clear hb0 hown0
    by_cases hlt : k < n
    · obtain ⟨bb, off, rfl, hs⟩ := ha.sl hlt
      obtain ⟨y, HY, hy⟩ := map_at (Value.int .i64) xs (k := k) (by have := HL.out; omega)
      have hcy := (hs.below' hB).at hy
      have HY2 := Lib.hid hy; clear hy
      obtain ⟨Av, cv, rfl⟩ := own_form hown
      cases b with
      | true =>
        have HE2 : Hid (put x xs = (pre ++ [y]) ++ xs.drop (k + 1)) := by have := HE.out; unfold Hid; rw [if_pos rfl, drop_at HY.out] at this; rw [this]; simp
        have HP2 : Hid ((pre ++ [y]).length = m + 1) := by have := HP.out; unfold Hid; simp [this]
        clear HE
        go_wp2_with (at_builtin; refine wpList_app rfl _ _ _ rfl Try.underlying53 infoInt64S rfl (by omega) w wr hown hB rfl 1 #[.int .i64 y] rfl (laid_below _ _) (heap_alloc_new _ _) rfl (by simp [Value.oneCell']) (by omega) (by unfold maxLen; omega) (by omega) ?_; intro g cap w1 hown1 hB1; clear hown hB)
        go_roundw
        case rel => exact ⟨k + 1, m + 1, true, pre ++ [y], by omega, by omega, (by intro h; cases h), by go_num, rfl, hB1, by rw [List.map_append]; exact hown1, HP2, by unfold Hid; rw [if_pos rfl]; exact HE2.out⟩
        case measure => simp [intOf]; omega
      | false =>
        have he := HE.out
        rw [if_neg (by decide)] at he
        have hmk := HMK.out rfl
        clear HMK
        by_cases h1 : x ≤ y
        · by_cases h2 : x < y
          · have HE2 : Hid (put x xs = (pre ++ [x] ++ [y]) ++ xs.drop (k + 1)) := by unfold Hid; rw [he, put_lt HY.out h2]; simp
            have HP2 : Hid ((pre ++ [x] ++ [y]).length = m + 1 + 1) := by have := HP.out; unfold Hid; simp [this]
            clear HE he
            go_wp2_with (first | (at_builtin; refine wpList_app rfl _ _ _ rfl Try.underlying53 infoInt64S rfl (by omega) w wr hown hB rfl 1 #[.int .i64 x] rfl (laid_below _ _) (heap_alloc_new _ _) rfl (by simp [Value.oneCell']) (by omega) (by unfold maxLen; omega) (by omega) ?_; intro g cap w1 hown1 hB1; have hcy1 := (hs.below' hB1).at HY2.out; clear hown hB hcy) | (at_builtin; refine wpList_app rfl _ _ _ rfl Try.underlying53 infoInt64S rfl (by omega) w w1 hown1 hB1 rfl 1 #[.int .i64 y] rfl (laid_below _ _) (heap_alloc_new _ _) rfl (by simp [Value.oneCell']) (by omega) (by unfold maxLen; omega) (by omega) ?_; intro g2 cap2 w2 hown2 hB2; clear hown1 hB1))
            go_roundw
            case rel => exact ⟨k + 1, m + 1 + 1, true, pre ++ [x] ++ [y], by omega, by omega, (by intro h; cases h), by go_num, rfl, hB2, by rw [List.map_append, List.map_append]; exact hown2, HP2, by unfold Hid; rw [if_pos rfl]; exact HE2.out⟩
            case measure => simp [intOf]; omega
          · have hxy : y ≤ x := by omega
            have HE2 : Hid (put x xs = (pre ++ [y]) ++ xs.drop (k + 1)) := by unfold Hid; rw [he, put_eqv HY.out (by omega)]; simp
            have HP2 : Hid ((pre ++ [y]).length = m + 1) := by have := HP.out; unfold Hid; simp [this]
            clear HE he
            go_wp2_with (at_builtin; refine wpList_app rfl _ _ _ rfl Try.underlying53 infoInt64S rfl (by omega) w wr hown hB rfl 1 #[.int .i64 y] rfl (laid_below _ _) (heap_alloc_new _ _) rfl (by simp [Value.oneCell']) (by omega) (by unfold maxLen; omega) (by omega) ?_; intro g cap w1 hown1 hB1; clear hown hB)
            go_roundw
            case rel => exact ⟨k + 1, m + 1, true, pre ++ [y], by omega, by omega, (by intro h; cases h), by go_num, rfl, hB1, by rw [List.map_append]; exact hown1, HP2, by unfold Hid; rw [if_pos rfl]; exact HE2.out⟩
            case measure => simp [intOf]; omega
        · have hxy : y < x := by omega
          have HE2 : Hid (put x xs = (pre ++ [y]) ++ put x (xs.drop (k + 1))) := by unfold Hid; rw [he, put_gt HY.out hxy]; simp
          have HP2 : Hid ((pre ++ [y]).length = m + 1) := by have := HP.out; unfold Hid; simp [this]
          clear HE he
          go_wp2_with (at_builtin; refine wpList_app rfl _ _ _ rfl Try.underlying53 infoInt64S rfl (by omega) w wr hown hB rfl 1 #[.int .i64 y] rfl (laid_below _ _) (heap_alloc_new _ _) rfl (by simp [Value.oneCell']) (by omega) (by unfold maxLen; omega) (by omega) ?_; intro g cap w1 hown1 hB1; clear hown hB)
          go_roundw
          case rel => exact ⟨k + 1, m + 1, false, pre ++ [y], by omega, by omega, (by intro _; omega), by go_num, rfl, hB1, by rw [List.map_append]; exact hown1, HP2, by unfold Hid; rw [if_neg (by decide)]; exact HE2.out⟩
          case measure => simp [intOf]; omega
    · obtain ⟨Av, cv, rfl⟩ := own_form hown
      have hd : xs.drop k = [] := List.drop_of_length_le (by have := HL.out; omega)
      cases b with
      | true =>
        have HE2 : Hid (put x xs = pre) := by have := HE.out; unfold Hid; rw [this, if_pos rfl, hd]; simp
        clear HE hd
        go_wp2
        go_ret
        exact ⟨_, rfl, by rw [HE2.out, HP.out]; exact hown, hB⟩
      | false =>
        have HE2 : Hid (put x xs = pre ++ [x]) := by have := HE.out; unfold Hid; rw [this, if_neg (by decide), hd]; rfl
        have HP2 : Hid ((pre ++ [x]).length = m + 1) := by have := HP.out; unfold Hid; simp [this]
        clear HE hd
        go_wp2_with (at_builtin; refine wpList_app rfl _ _ _ rfl Try.underlying53 infoInt64S rfl (by omega) w wr hown hB rfl 1 #[.int .i64 x] rfl (laid_below _ _) (heap_alloc_new _ _) rfl (by simp [Value.oneCell']) (by omega) (by unfold maxLen; omega) (by omega) ?_; intro g cap w1 hown1 hB1; clear hown hB)
        go_ret
        exact ⟨_, rfl, by rw [HE2.out, HP2.out, List.map_append]; exact hown1, hB1⟩

/-- The variables of commands, in order. -/
def varsL : List R3 → List Int
  | [] => []
  | x :: l => (if x.a = 2 then [x.b, x.c] else [x.b]) ++ varsL l
theorem varsL_app (xs ys : List R3) : varsL (xs ++ ys) = varsL xs ++ varsL ys := by
  induction xs with
  | nil => rfl
  | cons x l ih => simp [varsL, ih]
theorem varsL_len (xs : List R3) : (varsL xs).length ≤ 2 * xs.length := by
  induction xs with
  | nil => simp [varsL]
  | cons x l ih => rw [varsL]; split <;> simp <;> omega
theorem varsL_step {xs : List R3} {k : Nat} {x : R3} (h : xs[k]? = some x) : varsL (xs.take (k + 1)) = varsL (xs.take k) ++ (if x.a = 2 then [x.b, x.c] else [x.b]) := by
  rw [List.take_add_one, h, varsL_app]; simp [varsL]
def variablesOf (xs : List R3) : List Int × Int := if validL xs then (sortU (varsL xs), 0) else ([], 1)
theorem bndVariablesOf0 (xs : List R3) (h : xs.length ≤ 1048576) : (variablesOf xs).1.length ≤ 1048576 := by
  unfold variablesOf
  by_cases hv : validL xs = true
  · rw [if_pos hv]
    have h1 := sortU_len (varsL xs)
    have h2 := varsL_len xs
    have : xs.length ≤ 150 := by unfold validL at hv; simp at hv; exact hv.1
    show (sortU (varsL xs)).length ≤ _
    omega
  · rw [if_neg hv]; simp

set_option maxRecDepth 100000 in
set_option maxHeartbeats 2000000 in
theorem specVariablesOf_any (b off n c : Nat) (xs : List R3) (w : World) (hs : Sl w b off (rows R3.vs xs)) (hl : xs.length = n) (hn : n ≤ 1048576) (hc : n ≤ c) (hf : ∀ x ∈ xs, x.wf) :
    Calls Try.prog 41 #[.slice (some ⟨b, off, none⟩) n c] w fun e w' => ∃ v, e = .returned (.tuple #[v, .int .i64 (variablesOf xs).2]) ∧
      w'.ownsRow w.heap.size 2 1 v (variablesOf xs).1.length ((variablesOf xs).1.map (Value.int .i64)) ∧ Below w.heap.size w w' := by
  have HL := Lib.hid hl; clear hl hf
  have HA := Lib.hid (Args.of_sl (n := n) (s := 3) hs (by rw [rows_len R3.vs_len, HL.out]))
  rcases Bool.eq_false_or_eq_true (validL xs) with hv | hv
  rotate_left
  · have HM : Hid (variablesOf xs = ([], 1)) := by unfold Hid variablesOf; rw [hv]; rfl
    have HV := Lib.hid hv; clear hv
    rw [HM.out]
    go_enter Try.func41, Try.ntmps41
    go_wp2_with fail
    refine (l17Is_is b off n c xs false HV.out _ HA.out hn).mono ?_
    rintro e w1 ⟨rfl, hb1⟩
    go_wp2
    go_ret2
    exact ⟨_, rfl, World.ownsRow_nil _ _ _ _, hb1⟩
  have HM : Hid (variablesOf xs = (puts [] (varsL xs), 0)) := by unfold Hid variablesOf; rw [hv, puts_eq]; rfl
  have h150 : n ≤ 150 := by rw [← HL.out]; unfold validL at hv; simp at hv; exact hv.1
  have HV := Lib.hid hv; clear hv
  rw [HM.out]
  go_enter Try.func41, Try.ntmps41
  go_wp2_with fail
  refine (l17Is_is b off n c xs true HV.out _ HA.out hn).mono ?_
  rintro e w1 ⟨rfl, hb1⟩
  have hown0 : (w1.alloc (.cells #[] 2)).ownsRow w.heap.size 2 1 (.slice (some ⟨w1.heap.size, 0, none⟩) 0 0) 0 [] := own_base (own_empty w1 2 1) hb1.size
  have hb0 := below_step hb1 (laid_below w1 (.cells #[] 2))
  go_wp2
  go_loopw [4, 5] (fun v i wr => ∃ (k m : Nat) (acc : List Int), k ≤ n ∧ m ≤ 2 * k ∧ i = .int .i64 k ∧ Below w.heap.size w wr ∧ wr.ownsRow w.heap.size 2 1 v m (acc.map (Value.int .i64)) ∧ Hid (acc.length = m) ∧ Hid (acc = puts [] (varsL (xs.take k)))) (fun _ i _ => n - (intOf i).toNat)
  case atStart => exact ⟨0, 0, [], Nat.zero_le _, by omega, rfl, hb0, hown0, rfl, rfl⟩
  case round =>
    obtain ⟨k, m, acc, hk, hm, rfl, hB, hown, HN, HE⟩ := hrel
    clear hb0 hown0 hb1
    obtain ⟨Av, cv, rfl⟩ := own_form hown
    by_cases hlt : k < n
    · obtain ⟨x, HX⟩ := hget HL hlt
      obtain ⟨p0, p1, p2⟩ := (hs.below' hB).rec3 HX.out
      have hst := varsL_step HX.out
      have hln := put_len x.b acc
      rw [HN.out] at hln
      go_wp2_with fail
      refine (l00Put_any x.b _ m cv acc _ (arg_of_own hown) (by omega)).mono ?_
      rintro e w2 ⟨v2, rfl, hown2, hb2⟩
      have hB2 := below_step hB hb2
      have hown2' := own_base hown2 hB.size
      clear p0 p1 p2 hown hown2 hb2
      obtain ⟨q0, q1, q2⟩ := (hs.below' hB2).rec3 HX.out
      obtain ⟨A2, c2, rfl⟩ := own_form hown2'
      by_cases h2 : x.a = 2
      · have e2 : (x.a == 2) = true := by simpa using h2
        rw [if_pos h2] at hst
        have HS : Hid (put x.c (put x.b acc) = puts [] (varsL (xs.take (k + 1)))) := by unfold Hid; rw [hst, puts_app, ← HE.out]; rfl
        have hln2 := put_len x.c (put x.b acc)
        clear h2 hst
        go_wp2_with fail
        refine (l00Put_any x.c _ _ c2 (put x.b acc) _ (arg_of_own hown2') (by omega)).mono ?_
        rintro e w3 ⟨v3, rfl, hown3, hb3⟩
        have hB3 := below_step hB2 hb3
        have hown3' := own_base hown3 hB2.size
        clear q0 q1 q2 hown3 hb3
        go_wp2
        go_roundw
        case rel => exact ⟨k + 1, _, put x.c (put x.b acc), by omega, by omega, by go_num, hB3, hown3', rfl, HS⟩
        case measure => simp [intOf]; omega
      · have e2 : (x.a == 2) = false := by simpa using h2
        rw [if_neg h2] at hst
        have HS : Hid (put x.b acc = puts [] (varsL (xs.take (k + 1)))) := by unfold Hid; rw [hst, puts_app, ← HE.out]; rfl
        clear h2 hst
        go_wp2
        go_roundw
        case rel => exact ⟨k + 1, _, put x.b acc, by omega, by omega, by go_num, hB2, hown2', rfl, HS⟩
        case measure => simp [intOf]; omega
    · have HE2 : Hid (puts [] (varsL xs) = acc) := by have := HE.out; unfold Hid; rw [this, List.take_of_length_le (by have := HL.out; omega)]
      go_wp2
      go_ret2
      exact ⟨_, rfl, by show World.ownsRow _ _ _ _ _ (puts [] (varsL xs)).length ((puts [] (varsL xs)).map _); rw [HE2.out, HN.out]; exact hown, hB⟩

set_option maxRecDepth 100000 in
set_option maxHeartbeats 2000000 in
theorem implVariablesOf_any (b off n c : Nat) (xs : List R3) (w : World) (hs : Sl w b off (rows R3.vs xs)) (hl : xs.length = n) (hn : n ≤ 1048576) (hc : n ≤ c) (hf : ∀ x ∈ xs, x.wf) :
    Calls Try.prog 42 #[.slice (some ⟨b, off, none⟩) n c] w fun e w' => ∃ v, e = .returned (.tuple #[v, .int .i64 (variablesOf xs).2]) ∧
      w'.ownsRow w.heap.size 2 1 v (variablesOf xs).1.length ((variablesOf xs).1.map (Value.int .i64)) ∧ Below w.heap.size w w' := by
  have HL := Lib.hid hl; clear hl hf
  have HA := Lib.hid (Args.of_sl (n := n) (s := 3) hs (by rw [rows_len R3.vs_len, HL.out]))
  rcases Bool.eq_false_or_eq_true (validL xs) with hv | hv
  rotate_left
  · have HM : Hid (variablesOf xs = ([], 1)) := by unfold Hid variablesOf; rw [hv]; rfl
    have HV := Lib.hid hv; clear hv
    rw [HM.out]
    go_enter Try.func42, Try.ntmps42
    go_wp2_with fail
    refine (implValidLoop_is b off n c xs false HV.out _ HA.out hn hc).mono ?_
    rintro e w1 ⟨rfl, hb1⟩
    go_wp2
    go_ret2
    exact ⟨_, rfl, World.ownsRow_nil _ _ _ _, hb1⟩
  have HM : Hid (variablesOf xs = (sortU (varsL xs), 0)) := by unfold Hid variablesOf; rw [hv]; rfl
  have h150 : n ≤ 150 := by rw [← HL.out]; unfold validL at hv; simp at hv; exact hv.1
  have HV := Lib.hid hv; clear hv
  rw [HM.out]
  go_enter Try.func42, Try.ntmps42
  go_wp2_with fail
  refine (implValidLoop_is b off n c xs true HV.out _ HA.out hn hc).mono ?_
  rintro e w1 ⟨rfl, hb1⟩
  have hown0 : (w1.alloc (.cells #[] 2)).ownsRow w.heap.size 2 1 (.slice (some ⟨w1.heap.size, 0, none⟩) 0 0) 0 [] := own_base (own_empty w1 2 1) hb1.size
  have hb0 := below_step hb1 (laid_below w1 (.cells #[] 2))
  go_wp2
  go_loopw [4, 13] (fun v i wr => ∃ (k m : Nat), k ≤ n ∧ m ≤ 2 * k ∧ i = .int .i64 k ∧ Below w.heap.size w wr ∧ wr.ownsRow w.heap.size 2 1 v m ((varsL (xs.take k)).map (Value.int .i64)) ∧ Hid ((varsL (xs.take k)).length = m)) (fun _ i _ => n - (intOf i).toNat)
  case atStart => exact ⟨0, 0, Nat.zero_le _, by omega, rfl, hb0, hown0, rfl⟩
  case round =>
    obtain ⟨k, m, hk, hm, rfl, hB, hown, HN⟩ := hrel
    clear hb0 hown0 hb1
    obtain ⟨Av, cv, rfl⟩ := own_form hown
    by_cases hlt : k < n
    · obtain ⟨x, HX⟩ := hget HL hlt
      obtain ⟨p0, p1, p2⟩ := (hs.below' hB).rec3 HX.out
      have hst := varsL_step HX.out
      have hb1 := laid_below wr (.cells #[.int .i64 x.a, .int .i64 x.b, .int .i64 x.c] 64)
      have hown1 := own_below' hown hb1
      have hB1 := below_step hB hb1
      obtain ⟨q0, q1, q2, -⟩ := alloc3 (wr := wr) (t := 64) (x := .int .i64 x.a) (y := .int .i64 x.b) (z := .int .i64 x.c) rfl
      have hbase : w.heap.size ≤ (wr.alloc (.cells #[.int .i64 x.a, .int .i64 x.b, .int .i64 x.c] 64)).heap.size := hB1.size
      have Q0 := Lib.hid q0; have Q2 := Lib.hid q2
      clear q0 q1 q2
      by_cases h2 : x.a = 2
      · have e2 : (x.a == 2) = true := by simpa using h2
        rw [if_pos h2] at hst
        have HS : Hid (varsL (xs.take (k + 1)) = varsL (xs.take k) ++ [x.b] ++ [x.c]) := by unfold Hid; rw [hst]; simp
        clear h2 hst
        go_wp2_with (first | (at_builtin; refine wpList_appgh rfl _ _ _ rfl Try.underlying53 infoInt64S rfl (by omega) w.heap.size (wr.alloc (.cells #[.int .i64 x.a, .int .i64 x.b, .int .i64 x.c] 64)) (wr.heap.size + 1) (by simp) hown1 hbase rfl 1 #[.int .i64 x.b] rfl (laid_below _ _) (heap_alloc_new _ _) rfl (by simp [Value.oneCell']) (by omega) (by unfold maxLen; omega) (by omega) ?_; intro g cap w2 hown2 hg2; have r0 := grown_cell_new hown hg2 Q0.out; have r2 := grown_cell_new hown hg2 Q2.out; have hB2 := grown_below hB1 hown1 (Nat.le_refl _) hg2; clear hown1 hg2 hown) | (at_builtin; refine wpList_app rfl _ _ _ rfl Try.underlying53 infoInt64S rfl (by omega) w w2 hown2 hB2 rfl 1 #[.int .i64 x.c] rfl (laid_below _ _) (heap_alloc_new _ _) rfl (by simp [Value.oneCell']) (by omega) (by unfold maxLen; omega) (by omega) ?_; intro g2 cap2 w3 hown3 hB3; clear hown2 hB2))
        go_roundw
        case rel => exact ⟨k + 1, m + 1 + 1, by omega, by omega, by go_num, hB3, by rw [HS.out, List.map_append, List.map_append]; exact hown3, by have := HN.out; unfold Hid; rw [HS.out]; simp [this]⟩
        case measure => simp [intOf]; omega
      · have e2 : (x.a == 2) = false := by simpa using h2
        rw [if_neg h2] at hst
        have HS := Lib.hid hst
        clear h2 hst
        go_wp2_with (at_builtin; refine wpList_appgh rfl _ _ _ rfl Try.underlying53 infoInt64S rfl (by omega) w.heap.size (wr.alloc (.cells #[.int .i64 x.a, .int .i64 x.b, .int .i64 x.c] 64)) (wr.heap.size + 1) (by simp) hown1 hbase rfl 1 #[.int .i64 x.b] rfl (laid_below _ _) (heap_alloc_new _ _) rfl (by simp [Value.oneCell']) (by omega) (by unfold maxLen; omega) (by omega) ?_; intro g cap w2 hown2 hg2; have r0 := grown_cell_new hown hg2 Q0.out; have hB2 := grown_below hB1 hown1 (Nat.le_refl _) hg2; clear hown1 hg2 hown)
        go_roundw
        case rel => exact ⟨k + 1, m + 1, by omega, by omega, by go_num, hB2, by rw [HS.out, List.map_append]; exact hown2, by have := HN.out; unfold Hid; rw [HS.out]; simp [this]⟩
        case measure => simp [intOf]; omega
    · rw [List.take_of_length_le (by have := HL.out; omega)] at hown HN
      go_wp2_with fail
      refine (sort_any _ Av m cv (varsL xs) _ hown (by omega)).mono ?_
      rintro e w2 ⟨rfl, hown2, hg2⟩
      have hB2 := grown_below hB hown (Nat.le_refl _) hg2
      go_wp2_with fail
      refine (compact_any _ Av m cv (srt (varsL xs)) _ hown2 (by omega) (own_cap' hown2 _ _ rfl)).mono ?_
      rintro e w3 ⟨v3, rfl, hown3, hg3⟩
      have hB3 := grown_below hB2 hown2 (Nat.le_refl _) hg3
      go_wp2
      go_ret2
      exact ⟨_, rfl, hown3, hB3⟩
end Go.Proofs.Ythjehhiaedfodaa
