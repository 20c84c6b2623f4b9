/- Numerals as lambda terms and as combinator terms: numeralLam, NumeralLam, l12Numeral, CombNumeral on both sides. -/
import Derived.Test.YtfmfpknigafnoaaLamComb
import Derived.Test.YtfmfpknigafnoaaAppliedLam
namespace Go.Proofs.Ytfmfpknigafnoaa
open Go.RowKit
set_option linter.all false

/-- The numeral's body. -/
def numB : Nat → List R2
  | 0 => [⟨0, 0⟩]
  | n + 1 => ⟨2, 0⟩ :: ⟨0, 1⟩ :: numB n
def numL (n : Nat) : List R2 := ⟨1, 0⟩ :: ⟨1, 0⟩ :: numB n
def numA : Nat → List R2
  | 0 => []
  | n + 1 => ⟨2, 0⟩ :: ⟨0, 1⟩ :: numA n
theorem numA_snoc (n : Nat) : numA (n + 1) = numA n ++ [⟨2, 0⟩, ⟨0, 1⟩] := by
  induction n with
  | zero => rfl
  | succ n ih =>
    have h : numA (n + 1 + 1) = ⟨2, 0⟩ :: ⟨0, 1⟩ :: numA (n + 1) := rfl
    conv => lhs; rw [h, ih]
    rfl
theorem numB_eq (n : Nat) : numB n = numA n ++ [⟨0, 0⟩] := by
  induction n with
  | zero => rfl
  | succ n ih => simp [numB, numA, ih]
theorem numB_len (n : Nat) : (numB n).length = 2 * n + 1 := by
  induction n with
  | zero => rfl
  | succ n ih => simp [numB, ih]; omega
theorem numL_len (n : Nat) : (numL n).length = 2 * n + 3 := by simp [numL, numB_len]
theorem numB_ok (n : Nat) : (numB n).all lOk = true := by
  induction n with
  | zero => rfl
  | succ n ih => simp only [numB, List.all_cons, ih, Bool.and_true]; decide
theorem numB_fit (n : Nat) : fit lFol 1 (numB n) = true := by
  induction n with
  | zero => rw [numB, show (1 : Nat) = 0 + 1 from rfl, fit_sc, lFol_0 rfl, fit_00]
  | succ n ih =>
    rw [numB, show (1 : Nat) = 0 + 1 from rfl, fit_sc, lFol_2 rfl, show 0 + 2 = 1 + 1 from rfl, fit_sc, lFol_0 rfl]
    exact ih
theorem numL_ok (n : Nat) : (numL n).all lOk = true := by simp only [numL, List.all_cons, numB_ok, Bool.and_true]; decide
theorem numL_fit (n : Nat) : fit lFol 1 (numL n) = true := by
  rw [numL, show (1 : Nat) = 0 + 1 from rfl, fit_sc, lFol_1 rfl, show 0 + 1 = 0 + 1 from rfl, fit_sc, lFol_1 rfl]
  exact numB_fit n
theorem numL_valid {n : Nat} (h : n ≤ 150) : validT (numL n) = true := by
  unfold validT
  rw [numL_ok, numL_fit, numL_len, Bool.and_eq_true, inB_iff]
  exact ⟨by omega, rfl⟩
theorem numL_wf (n : Nat) : ∀ x ∈ numL n, x.wf := by
  intro x hx
  have := lOk_cases (List.all_eq_true.1 (numL_ok n) x hx)
  have h2 := List.all_eq_true.1 (numL_ok n) x hx
  unfold R2.wf Wf64
  unfold lOk at h2
  simp only [Bool.or_eq_true, Bool.and_eq_true, decide_eq_true_eq, inB_iff] at h2
  omega
/-- What CombNumeral gives. -/
def combNumeral (n : Int) (short : Bool) : List R2 × Int := if inB n 0 150 then lamToComb (numL n.toNat) short else ([], 2)
theorem bndCombNumeral0 (n : Int) (short : Bool) : (combNumeral n short).1.length ≤ 1048576 := by
  unfold combNumeral
  split
  · rename_i h
    have := (inB_iff _ _ _).1 h
    exact bndLamToComb0 _ _ (by rw [numL_len]; omega)
  · simp

theorem lamVar_any (k : Int) (w : World) : Calls Try.prog 184 #[.int .i64 k] w fun e w' => e = .returned (.agg #[.int .i64 0, .int .i64 k]) ∧ Below w.heap.size w w' := by
  have B : Below w.heap.size w (w.alloc (.cells #[.int .i64 0, .int .i64 k] 138)) := laid_below _ _
  have HI := infoLam
  go_enter Try.func184, Try.ntmps184
  go_wp2
  refine bodyPost_ret (v := .agg #[.int .i64 0, .int .i64 k]) (by simp [results, Try.results184, go_sem]) rfl ?_
  exact ⟨rfl, B⟩

theorem applyLam_any (A : Option Addr) (n c : Nat) (t : List R2) (g off m c2 : Nat) (vs : List Value) (ts : List (List R2)) (w : World) (ht : Src 2 w (.slice A n c) n (rows R2.vs t)) (hs : Sl w g off vs) (hv : Rws w vs ts) (hm : ts.length = m) (hm1 : m ≤ 1048576) (hn : n ≤ 1048576) (hsum : ts.flatten.length ≤ 4194304) :
    Calls Try.prog 185 #[.slice A n c, .slice (some ⟨g, off, none⟩) m c2] w fun e w' => ∃ v, e = .returned v ∧ w'.ownsRow w.heap.size 138 2 v (m + n + ts.flatten.length) (rows R2.vs (List.replicate m ⟨2, 0⟩ ++ t ++ ts.flatten)) ∧ Below w.heap.size w w' := by
  have HA := Lib.hid (appliedLam_any ⟨2, 0⟩ A n c t g off m c2 vs ts w ht hs hv hm hm1 hn hsum)
  obtain ⟨S, hS⟩ : ∃ S, S = ts.flatten.length := ⟨_, rfl⟩
  rw [← hS] at HA ⊢
  clear hS hm hsum
  go_enter Try.func185, Try.ntmps185
  go_wp2_with fail
  refine HA.out.mono ?_
  rintro e w1 ⟨v, rfl, hown, hb⟩
  go_wp2
  go_ret
  exact ⟨_, rfl, hown, hb⟩

theorem abstract_any (m : Nat) (A : Option Addr) (n c : Nat) (t : List R2) (w : World) (ht : Src 2 w (.slice A n c) n (rows R2.vs t)) (hm : m ≤ 1048576) (hn : n ≤ 1048576) :
    Calls Try.prog 186 #[.int .i64 m, .slice A n c] w fun e w' => ∃ v, e = .returned v ∧ w'.ownsRow w.heap.size 138 2 v (m + n) (rows R2.vs (List.replicate m ⟨1, 0⟩ ++ t)) ∧ Below w.heap.size w w' := by
  obtain ⟨w0, HW0, B0, y0⟩ := al1 w (.cells #[.int .i64 1, .int .i64 0] 138)
  have hs0 : Sl w0 w.heap.size 0 (rows R2.vs [⟨1, 0⟩]) := ⟨heap_lt y0, fun j u hu => by
    rw [Nat.zero_add, cell_of_heap y0]
    match j, hu with
    | 0, hu => simpa [rows, R2.vs] using hu
    | 1, hu => simpa [rows, R2.vs] using hu⟩
  have HO := Lib.hid (one_rows_Lam t)
  clear y0
  go_enter Try.func186, Try.ntmps186
  go_wp2_with fail
  rw [← HW0.out]
  refine (repeatLam_any w.heap.size 0 1 m ⟨1, 0⟩ _ hs0 hm).mono ?_
  rintro e w1 ⟨v1, rfl, own1, b1⟩
  have B1 := below_step B0 b1
  have own1' := own_base own1 B0.size
  have src1 := ht.below B1
  obtain ⟨A1, c1, rfl⟩ := own_form own1
  clear own1 b1 ht
  go_wp2_with (at_builtin; refine wpList_appx rfl _ _ _ rfl Try.underlying73 infoLam rfl (by omega) w.heap.size own1' B1.size rfl src1 rfl HO.out (by unfold maxLen; omega) (by omega) ?_; intro v2 w2 own2 hg2 hnil2; have B2 := grown_below B1 own1' (Nat.le_refl _) hg2; rw [← rows_app] at own2; clear hnil2 own1' src1 hg2)
  go_ret
  exact ⟨_, rfl, own2, B2⟩

set_option maxRecDepth 100000 in
set_option maxHeartbeats 1000000 in
theorem numeralLam_any (n : Nat) (w : World) (hn : n ≤ 150) :
    Calls Try.prog 142 #[.int .i64 n] w fun e w' => ∃ v, e = .returned v ∧ w'.ownsRow w.heap.size 138 2 v (2 * n + 3) (rows R2.vs (numL n)) ∧ Below w.heap.size w w' := by
  go_enter Try.func142, Try.ntmps142
  go_wp2_with fail
  refine (lamVar_any 0 _).mono ?_
  rintro e w1 ⟨rfl, b1⟩
  have own1 := own_laid w1 138 2 1 #[.int .i64 0, .int .i64 0] rfl (by simp [maxLen])
  have B1 := below_step b1 (laid_below w1 (.cells #[.int .i64 0, .int .i64 0] 138))
  have own1' := own_base own1 b1.size
  clear own1
  go_wp2
  go_loopw [3, 7] (fun v i wr => ∃ (k p : Nat) (A : Option Addr) (c : Nat), k ≤ n ∧ p ≤ 2 * k + 1 ∧ i = .int .i64 k ∧ v = .slice A p c ∧ Hid (2 * k + 1 = p) ∧ wr.ownsRow w.heap.size 138 2 (.slice A p c) p (rows R2.vs (numB k)) ∧ Below w.heap.size w wr) (fun _ i _ => n - (intOf i).toNat)
  case atStart => exact ⟨0, 1, _, _, Nat.zero_le _, by omega, rfl, rfl, rfl, own1', B1⟩
  case round =>
    obtain ⟨k, p, A, c, hk, hp, rfl, rfl, HP, own, hB⟩ := hrel
    clear own1' B1 b1
    by_cases hlt : k < n
    · have HP2 : Hid (2 * (k + 1) + 1 = 1 + 1 + p) := by have := HP.out; unfold Hid; omega
      have HFL : Hid ([numB k].flatten.length = p) := by have := HP.out; unfold Hid; simp [numB_len]; omega
      have HLN : Hid ((numB k).length = p) := by have := HP.out; unfold Hid; rw [numB_len]; exact this
      have HRR : Hid ((List.replicate 1 ⟨2, 0⟩ ++ [⟨0, 1⟩] ++ [numB k].flatten : List R2) = numB (k + 1)) := by unfold Hid; simp [List.replicate, numB]
      go_wp2_with fail
      refine (lamVar_any 1 _).mono ?_
      rintro e w2 ⟨rfl, b2⟩
      obtain ⟨w3, HW3, b3, y1, y2⟩ := al2 w2 (.cells #[.int .i64 0, .int .i64 1] 138) (.cells #[.slice A p c] 73)
      have b23 := below_step b2 b3
      have s1 : Src 2 w3 (.slice (some ⟨w2.heap.size, 0, none⟩) 1 1) 1 (rows R2.vs [⟨0, 1⟩]) := Src.of_sl ⟨heap_lt y1, fun j u hu => by
        rw [Nat.zero_add, cell_of_heap y1]
        match j, hu with
        | 0, hu => simpa [rows, R2.vs] using hu
        | 1, hu => simpa [rows, R2.vs] using hu⟩ rfl
      have s2 : Sl w3 (w2.heap.size + 1) 0 [.slice A p c] := ⟨heap_lt y2, fun j u hu => by
        rw [Nat.zero_add, cell_of_heap y2]
        match j, hu with
        | 0, hu => simpa using hu⟩
      have hr : Rws w3 [.slice A p c] [numB k] := by
        refine ⟨rfl, fun j v t h1 h2 => ?_⟩
        match j, h1, h2 with
        | 0, h1, h2 => simp at h1 h2; subst h1 h2; rw [HLN.out]; exact ⟨(Src.of_own own).below b23, by omega⟩
        | j + 1, h1, _ => simp at h1
      have B3 := below_step hB b23
      clear own hB y1 y2 b2 b3 b23
      go_wp2_with fail
      rw [← HW3.out]
      refine (applyLam_any _ 1 1 [⟨0, 1⟩] _ 0 1 1 _ [numB k] _ s1 s2 hr rfl (by omega) (by omega) (by rw [HFL.out]; omega)).mono ?_
      rintro e w4 ⟨v4, rfl, own4, b4⟩
      rw [HFL.out, HRR.out] at own4
      have B4 := below_step B3 b4
      have own4' := own_base own4 B3.size
      obtain ⟨A4, c4, rfl⟩ := own_form own4
      clear own4 s1 s2 hr
      go_wp2
      go_roundw
      case rel => exact ⟨k + 1, 1 + 1 + p, _, _, by omega, by omega, by go_num, rfl, HP2.out, own4', B4⟩
      case measure => simp [intOf]; omega
    · obtain rfl : k = n := by omega
      have HP3 : Hid (2 * k + 3 = 2 + p) := by have := HP.out; unfold Hid; omega
      go_wp2_with fail
      refine (abstract_any 2 A p c (numB k) _ (Src.of_own own) (by omega) (by omega)).mono ?_
      rintro e w2 ⟨v2, rfl, own2, b2⟩
      go_wp2
      go_ret
      rw [HP3.out]
      exact ⟨_, rfl, own_base own2 hB.size, below_step hB b2⟩

theorem numeralLam_yes (n : Nat) (w : World) (hn : n ≤ 150) :
    Calls Try.prog 96 #[.int .i64 n] w fun e w' => ∃ v, e = .returned (.tuple #[v, .int .i64 0]) ∧ w'.ownsRow w.heap.size 138 2 v (2 * n + 3) (rows R2.vs (numL n)) ∧ Below w.heap.size w w' := by
  have H1 : Hid (inB n 0 150 = true) := by unfold Hid; rw [inB_iff]; omega
  go_enter Try.func96, Try.ntmps96
  go_wp2_with fail
  refine (within_is _ _ _ true H1.out _).mono ?_
  rintro e w1 ⟨rfl, rfl⟩
  go_wp2_with fail
  refine (numeralLam_any n _ hn).mono ?_
  rintro e w2 ⟨v2, rfl, own2, b2⟩
  go_wp2
  go_ret2
  exact ⟨_, rfl, own2, b2⟩
theorem numeralLam_no (n : Int) (w : World) (h : inB n 0 150 = false) :
    Calls Try.prog 96 #[.int .i64 n] w fun e w' => e = .returned (.tuple #[.slice none 0 0, .int .i64 2]) ∧ w = w' := by
  have H1 := Lib.hid h; clear h
  go_enter Try.func96, Try.ntmps96
  go_wp2_with fail
  refine (within_is _ _ _ false H1.out _).mono ?_
  rintro e w1 ⟨rfl, rfl⟩
  go_wp2
  go_ret2
  exact ⟨rfl, rfl⟩

set_option maxRecDepth 100000 in
theorem implCombNumeral_any (n : Int) (short : Bool) (w : World) (hf : Wf64 n) :
    Calls Try.prog 44 #[.int .i64 n, .bool short] w fun e w' => ∃ v, e = .returned (.tuple #[v, .int .i64 (combNumeral n short).2]) ∧
      w'.ownsRow w.heap.size 136 2 v (combNumeral n short).1.length (rows R2.vs (combNumeral n short).1) ∧ Below w.heap.size w w' := by
  clear hf
  rcases Bool.eq_false_or_eq_true (inB n 0 150) with h | h
  rotate_left
  · have HM : Hid (combNumeral n short = ([], 2)) := by unfold Hid combNumeral; rw [h]; rfl
    have H1 := Lib.hid h; clear h
    rw [HM.out]
    go_enter Try.func44, Try.ntmps44
    go_wp2_with fail
    refine (numeralLam_no n _ H1.out).mono ?_
    rintro e w1 ⟨rfl, rfl⟩
    go_wp2
    go_ret2
    exact ⟨_, rfl, World.ownsRow_nil _ _ _ _, Below.refl _ _⟩
  have hb := (inB_iff _ _ _).1 h
  obtain ⟨k, rfl⟩ : ∃ k : Nat, n = k := ⟨n.toNat, by omega⟩
  have HM : Hid (combNumeral k short = lamToComb (numL k) short) := by unfold Hid combNumeral; rw [if_pos h]; rfl
  have hk : k ≤ 150 := by omega
  clear h hb
  rw [HM.out]
  obtain ⟨p, HP, hp1, hp2⟩ : ∃ p, Hid (2 * k + 3 = p) ∧ p ≤ 303 ∧ 0 < p := ⟨_, rfl, by omega, by omega⟩
  have HLN : Hid ((numL k).length = p) := by unfold Hid; rw [numL_len]; exact HP.out
  go_enter Try.func44, Try.ntmps44
  go_wp2_with fail
  refine (numeralLam_yes k _ hk).mono ?_
  rintro e w1 ⟨v1, rfl, own1, b1⟩
  rw [HP.out] at own1
  obtain ⟨A1, c1, rfl⟩ := own_form own1
  obtain ⟨g1, rfl, _, _⟩ := own_addr0 own1 hp2
  have hc1 := own_cap' own1 _ _ rfl
  go_wp2_with fail
  refine (implLamToComb_any g1 0 p c1 (numL k) short _ (sl_of_own own1) HLN.out (by omega) hc1 (numL_wf k)).mono ?_
  rintro e w2 ⟨v2, rfl, own2, b2⟩
  go_wp2
  go_ret2
  exact ⟨_, rfl, own_base own2 b1.size, below_step b1 b2⟩

set_option maxRecDepth 100000 in
set_option maxHeartbeats 1000000 in
theorem l12Numeral_any (n : Nat) (w : World) (hn : n ≤ 150) :
    Calls Try.prog 95 #[.int .i64 n] w fun e w' => ∃ v, e = .returned v ∧ w'.ownsRow w.heap.size 138 2 v (2 * n + 3) (rows R2.vs (numL n)) ∧ Below w.heap.size w w' := by
  have own0 := own_laid w 138 2 2 #[.int .i64 1, .int .i64 0, .int .i64 1, .int .i64 0] rfl (by simp [maxLen])
  have B0 := laid_below w (.cells #[.int .i64 1, .int .i64 0, .int .i64 1, .int .i64 0] 138)
  go_enter Try.func95, Try.ntmps95
  go_wp2
  go_loopw [0, 3] (fun i v wr => ∃ (k p : Nat) (A : Option Addr) (c : Nat), k ≤ n ∧ p ≤ 2 * k + 2 ∧ i = .int .i64 ((n : Int) - k) ∧ v = .slice A p c ∧ Hid (2 * k + 2 = p) ∧ wr.ownsRow w.heap.size 138 2 (.slice A p c) p (rows R2.vs (⟨1, 0⟩ :: ⟨1, 0⟩ :: numA k)) ∧ Below w.heap.size w wr) (fun i _ _ => (intOf i).toNat)
  case atStart => exact ⟨0, 2, _, _, Nat.zero_le _, by omega, by simp, rfl, rfl, own0, B0⟩
  case round =>
    obtain ⟨k, p, A, c, hk, hp, rfl, rfl, HP, own, hB⟩ := hrel
    clear own0 B0
    by_cases hlt : k < n
    · have HP2 : Hid (2 * (k + 1) + 2 = p + 2) := by have := HP.out; unfold Hid; omega
      have hgt : (0 : Int) < (n : Int) - (k : Int) := by omega
      have HRR : Hid (rows R2.vs (⟨1, 0⟩ :: ⟨1, 0⟩ :: numA k) ++ #[Value.int .i64 2, .int .i64 0, .int .i64 0, .int .i64 1].toList = rows R2.vs (⟨1, 0⟩ :: ⟨1, 0⟩ :: numA (k + 1))) := by
        unfold Hid
        rw [numA_snoc, ← List.cons_append, ← List.cons_append, rows_app]
        rfl
      go_wp2_with (at_builtin; refine wpList_app rfl _ _ _ rfl Try.underlying73 infoLam rfl (by omega) w wr own hB rfl 2 #[.int .i64 2, .int .i64 0, .int .i64 0, .int .i64 1] rfl (laid_below _ _) (heap_alloc_new _ _) rfl (by simp [Value.oneCell']) (by omega) (by unfold maxLen; omega) (by omega) ?_; intro g cap w2 own2 B2; rw [HRR.out] at own2; clear own hB)
      go_roundw
      case rel => exact ⟨k + 1, p + 2, _, _, by omega, by omega, by first | (congr 1; omega) | go_num, rfl, HP2.out, own2, B2⟩
      case measure => simp [intOf]; omega
    · obtain rfl : k = n := by omega
      have HP3 : Hid (2 * k + 3 = p + 1) := by have := HP.out; unfold Hid; omega
      have HRR : Hid (rows R2.vs (⟨1, 0⟩ :: ⟨1, 0⟩ :: numA k) ++ #[Value.int .i64 0, .int .i64 0].toList = rows R2.vs (numL k)) := by
        unfold Hid
        rw [numL, numB_eq, ← List.cons_append, ← List.cons_append, rows_app]
        rfl
      go_wp2_with (at_builtin; refine wpList_app rfl _ _ _ rfl Try.underlying73 infoLam rfl (by omega) w wr own hB rfl 1 #[.int .i64 0, .int .i64 0] rfl (laid_below _ _) (heap_alloc_new _ _) rfl (by simp [Value.oneCell']) (by omega) (by unfold maxLen; omega) (by omega) ?_; intro g cap w2 own2 B2; rw [HRR.out] at own2; clear own hB)
      go_ret
      rw [HP3.out]
      exact ⟨_, rfl, own2, B2⟩

set_option maxRecDepth 100000 in
theorem specCombNumeral_any (n : Int) (short : Bool) (w : World) (hf : Wf64 n) :
    Calls Try.prog 43 #[.int .i64 n, .bool short] w fun e w' => ∃ v, e = .returned (.tuple #[v, .int .i64 (combNumeral n short).2]) ∧
      w'.ownsRow w.heap.size 136 2 v (combNumeral n short).1.length (rows R2.vs (combNumeral n short).1) ∧ Below w.heap.size w w' := by
  clear hf
  rcases Bool.eq_false_or_eq_true (inB n 0 150) with h | h
  rotate_left
  · have HM : Hid (combNumeral n short = ([], 2)) := by unfold Hid combNumeral; rw [h]; rfl
    have H1 := Lib.hid h; clear h
    rw [HM.out]
    go_enter Try.func43, Try.ntmps43
    go_wp2_with fail
    refine (l00In_is _ _ _ false H1.out _).mono ?_
    rintro e w1 ⟨rfl, rfl⟩
    go_wp2
    go_ret2
    exact ⟨_, rfl, World.ownsRow_nil _ _ _ _, Below.refl _ _⟩
  have hb := (inB_iff _ _ _).1 h
  have H0 := Lib.hid h
  obtain ⟨k, rfl⟩ : ∃ k : Nat, n = k := ⟨n.toNat, by omega⟩
  have hk : k ≤ 150 := by omega
  have hvl := numL_valid hk
  have HM0 : Hid (combNumeral k short = lamToComb (numL k) short) := by unfold Hid combNumeral; rw [if_pos h]; rfl
  have HSM := Lib.hid (lamC_same short (numL_ok k))
  clear h hb
  obtain ⟨p, HP, hp1, hp2⟩ : ∃ p, Hid (2 * k + 3 = p) ∧ p ≤ 303 ∧ 0 < p := ⟨_, rfl, by omega, by omega⟩
  have HLN : Hid ((numL k).length = p) := by unfold Hid; rw [numL_len]; exact HP.out
  cases h1 : lamC ixI bxI short 0 (numL k) with
  | some cs =>
    have HM : Hid (combNumeral k short = (cs, 0)) := by unfold Hid; rw [HM0.out, lamToComb, if_pos hvl, h1]
    have H1 : Hid (lamC ixS bxS short 0 (numL k) = some cs) := by unfold Hid; rw [HSM.out]; exact h1
    clear h1 hvl
    rw [HM.out]
    go_enter Try.func43, Try.ntmps43
    go_wp2_with fail
    refine (l00In_is _ _ _ true H0.out _).mono ?_
    rintro e w1 ⟨rfl, rfl⟩
    go_wp2_with fail
    refine (l12Numeral_any k _ hk).mono ?_
    rintro e w1 ⟨v1, rfl, own1, b1⟩
    rw [HP.out] at own1
    obtain ⟨A1, c1, rfl⟩ := own_form own1
    obtain ⟨g1, rfl, _, _⟩ := own_addr0 own1 hp2
    have hc1 := own_cap' own1 _ _ rfl
    go_wp2_with fail
    refine ((l18Comb_any p g1 0 p c1 0 short (numL k) _ (Nat.le_refl _) (sl_of_own own1) HLN.out (by omega) hc1 (by omega) (by omega) (numL_fit k) (numL_ok k)).1 cs H1.out).mono ?_
    rintro e w2 ⟨⟨v2, rfl, own2⟩, b2⟩
    have own2' := own_base own2 b1.size
    have B2 := below_step b1 b2
    obtain ⟨A2, c2, rfl⟩ := own_form own2
    clear own2
    go_wp2
    go_ret2
    exact ⟨_, rfl, own2', B2⟩
  | none =>
    have HM : Hid (combNumeral k short = ([], 5)) := by unfold Hid; rw [HM0.out, lamToComb, if_pos hvl, h1]
    have H1 : Hid (lamC ixS bxS short 0 (numL k) = none) := by unfold Hid; rw [HSM.out]; exact h1
    clear h1 hvl
    rw [HM.out]
    go_enter Try.func43, Try.ntmps43
    go_wp2_with fail
    refine (l00In_is _ _ _ true H0.out _).mono ?_
    rintro e w1 ⟨rfl, rfl⟩
    go_wp2_with fail
    refine (l12Numeral_any k _ hk).mono ?_
    rintro e w1 ⟨v1, rfl, own1, b1⟩
    rw [HP.out] at own1
    obtain ⟨A1, c1, rfl⟩ := own_form own1
    obtain ⟨g1, rfl, _, _⟩ := own_addr0 own1 hp2
    have hc1 := own_cap' own1 _ _ rfl
    go_wp2_with fail
    refine ((l18Comb_any p g1 0 p c1 0 short (numL k) _ (Nat.le_refl _) (sl_of_own own1) HLN.out (by omega) hc1 (by omega) (by omega) (numL_fit k) (numL_ok k)).2 H1.out).mono ?_
    rintro e w2 ⟨⟨v2, rfl⟩, b2⟩
    have B2 := below_step b1 b2
    go_wp2
    go_ret2
    exact ⟨_, rfl, World.ownsRow_nil _ _ _ _, B2⟩
end Go.Proofs.Ytfmfpknigafnoaa
