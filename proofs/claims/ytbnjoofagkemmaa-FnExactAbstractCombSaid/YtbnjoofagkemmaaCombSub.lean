/- SubstituteComb on both sides. -/
import Derived.Test.YtbnjoofagkemmaaAreCombs
namespace Go.Proofs.Ytbnjoofagkemmaa
open Go.RowKit
set_option linter.all false

theorem validC_len' {xs : List R2} (h : validC xs = true) : 1 ≤ xs.length ∧ xs.length ≤ 400 := by
  unfold validC at h
  have := (inB_iff _ _ _).1 (Bool.and_eq_true _ _ ▸ h).1
  omega
/-- What an element becomes. -/
def subE (k : Int) (ys : List R2) (x : R2) : List R2 := if x.a = 4 ∧ x.b = k then ys else [x]
def subC (k : Int) (ys xs : List R2) : List R2 := xs.flatMap (subE k ys)
theorem flatMap_step {α β : Type} (f : α → List β) {xs : List α} {k : Nat} {x : α} (h : xs[k]? = some x) : (xs.take (k + 1)).flatMap f = (xs.take k).flatMap f ++ f x := by
  rw [List.take_add_one, h]; simp
theorem flatMap_len {α β : Type} (f : α → List β) (m : Nat) (h : ∀ x, (f x).length ≤ m) (xs : List α) : (xs.flatMap f).length ≤ m * xs.length := by
  induction xs with
  | nil => simp
  | cons x l ih => rw [List.flatMap_cons, List.length_append, List.length_cons, Nat.mul_succ]; have := h x; omega
theorem subE_len (k : Int) (ys : List R2) (x : R2) (h : 1 ≤ ys.length) : (subE k ys x).length ≤ ys.length := by unfold subE; split <;> simp <;> omega

set_option maxRecDepth 100000 in
set_option maxHeartbeats 1000000 in
/-- Each element becomes what a function gives for it. -/
theorem substituted_any (F : FuncId) (caps : Array Value) (f : R2 → List R2) (A : Option Addr) (n c mx : Nat) (xs : List R2) (w : World) (ha : Args 2 w A n (rows R2.vs xs)) (hn : n ≤ 400) (hmx : mx ≤ 10000) (hf : ∀ x, (f x).length ≤ mx)
    (hE : ∀ (args : Array Value) (W : World), (callFunc F args).run Try.prog W = .ok (.enter F args) W)
    (hF : Hid (∀ (x : R2) (W : World), x ∈ xs → Below w.heap.size w W → Calls Try.prog F (#[.agg #[.int .i64 x.a, .int .i64 x.b]] ++ caps) W fun e w' => ∃ v, e = .returned v ∧ Src 2 w' v (f x).length (rows R2.vs (f x)) ∧ Below W.heap.size W w')) :
    Calls Try.prog 44 #[.slice A n c, .func (.func F) #[] caps] w fun e w' => ∃ v, e = .returned v ∧ w'.ownsRow w.heap.size 60 2 v (xs.flatMap f).length (rows R2.vs (xs.flatMap f)) ∧ Below w.heap.size w w' := by
  have HL : Hid (xs.length = n) := by have := ha.1; rw [rows_len R2.vs_len] at this; unfold Hid; omega
  have HMX := Lib.hid hf; clear hf
  have hown0 : (w.alloc (.cells #[] 60)).ownsRow w.heap.size 60 2 (.slice (some ⟨w.heap.size, 0, none⟩) 0 0) 0 [] := own_empty w 60 2
  have hb0 := laid_below w (.cells #[] 60)
  go_enter Try.func44, Try.ntmps44
  go_wp2
  go_loopw [5, 11] (fun v i wr => ∃ (k m : Nat), k ≤ n ∧ m ≤ mx * k ∧ i = .int .i64 k ∧ Below w.heap.size w wr ∧ wr.ownsRow w.heap.size 60 2 v m (rows R2.vs ((xs.take k).flatMap f)) ∧ Hid (((xs.take k).flatMap f).length = m)) (fun _ i _ => n - (intOf i).toNat)
  case atStart => exact ⟨0, 0, Nat.zero_le _, by omega, rfl, hb0, hown0, rfl⟩
  case round =>
    obtain ⟨k, m, hk, hm, rfl, hB, hown, HN⟩ := hrel
    clear hb0 hown0
    obtain ⟨Av, cv, rfl⟩ := own_form hown
    by_cases hlt : k < n
    · obtain ⟨b, off, rfl, hs⟩ := ha.sl hlt
      obtain ⟨x, HX⟩ := hget HL hlt
      obtain ⟨p0, p1⟩ := (hs.below' hB).rec2 HX.out
      have HST := Lib.hid (flatMap_step f HX.out)
      have hfx := HMX.out x
      have hmk : mx * k ≤ 4000000 := Nat.le_trans (Nat.mul_le_mul hmx (show k ≤ 400 by omega)) (by omega)
      have hmul : mx * (k + 1) = mx * k + mx := Nat.mul_succ _ _
      have HMUL := Lib.hid hmul; clear hmul
      have hb1 := laid_below wr (.cells #[.int .i64 x.a, .int .i64 x.b] 60)
      have HF1 := Lib.hid (hF.out x _ (List.mem_of_getElem? HX.out) (below_step hB hb1))
      have HO := Lib.hid (one_rows_Comb (f x))
      go_wp2_with fail
      refine HF1.out.mono ?_
      rintro e w1 ⟨v1, rfl, hsrc1, hb2⟩
      have hb12 := below_step hb1 hb2
      have hB1 := below_step hB hb12
      have hown1 := own_below' hown hb12
      clear p0 p1 hb1 hb2 hown
      obtain ⟨A1, c1, rfl⟩ := hsrc1.form
      go_wp2_with (at_builtin; refine wpList_appx rfl _ _ _ rfl Try.underlying24 infoComb rfl (by omega) w.heap.size hown1 hB1.size rfl hsrc1 rfl HO.out (by unfold maxLen; omega) (by omega) ?_; intro v2 w2 hown2 hg2 hnil2; have hB2 := grown_below hB1 hown1 (Nat.le_refl _) hg2; clear hnil2 hown1 hsrc1 hg2)
      go_roundw
      case rel => exact ⟨k + 1, m + (f x).length, by omega, by have := HMUL.out; omega, by go_num, hB2, by rw [HST.out, rows_app]; exact hown2, by have := HN.out; unfold Hid; rw [HST.out, List.length_append, this]⟩
      case measure => simp [intOf]; omega
    · rw [List.take_of_length_le (by have := HL.out; omega)] at hown HN
      go_wp2
      go_ret
      exact ⟨_, rfl, by rw [HN.out]; exact hown, hB⟩

theorem substClosure_any (k : Int) (g1 g2 : Nat) (A : Option Addr) (n c : Nat) (ys : List R2) (x : R2) (w : World) (h1 : w.cell? ⟨g1, 0, none⟩ = some (.int .i64 k)) (h2 : w.cell? ⟨g2, 0, none⟩ = some (.slice A n c)) (hl1 : g1 < w.heap.size) (hl2 : g2 < w.heap.size) (hsrc : Src 2 w (.slice A n c) n (rows R2.vs ys)) :
    Calls Try.prog 45 #[.agg #[.int .i64 x.a, .int .i64 x.b], .pointer (some ⟨g1, 0, none⟩), .pointer (some ⟨g2, 0, none⟩)] w fun e w' => ∃ v, e = .returned v ∧ Src 2 w' v (subE k ys x).length (rows R2.vs (subE k ys x)) ∧ Below w.heap.size w w' := by
  have HL : Hid (ys.length = n) := by have := hsrc.1; rw [rows_len R2.vs_len] at this; unfold Hid; omega
  obtain ⟨a, b⟩ := x
  have hb1 := laid_below w (.cells #[.int .i64 a, .int .i64 b] 60)
  have hs1 := hsrc.below hb1
  clear hsrc
  have hne1 : g1 ≠ w.heap.size := by omega
  have hne2 : g2 ≠ w.heap.size := by omega
  by_cases h : a = 4 ∧ b = k
  · obtain ⟨rfl, rfl⟩ := h
    have HS : Hid (subE b ys ⟨4, b⟩ = ys) := by unfold Hid subE; rw [if_pos ⟨rfl, rfl⟩]
    rw [HS.out]
    go_enter Try.func45, Try.ntmps45
    go_wp2
    go_ret
    exact ⟨_, rfl, by rw [HL.out]; exact hs1, hb1⟩
  · have HS : Hid (subE k ys ⟨a, b⟩ = [⟨a, b⟩]) := by unfold Hid subE; rw [if_neg h]
    rw [HS.out]
    have hb2 := below_step hb1 (laid_below (w.alloc (.cells #[.int .i64 a, .int .i64 b] 60)) (.cells #[.int .i64 a, .int .i64 b] 60))
    by_cases h4 : a = 4
    · subst h4
      have e4 : (b == k) = false := by simp; intro e; exact h ⟨rfl, e⟩
      clear h
      go_enter Try.func45, Try.ntmps45
      go_wp2
      go_ret
      exact ⟨_, rfl, Src.of_sl (by have := sl_laid (w.alloc (.cells #[.int .i64 4, .int .i64 b] 60)) #[.int .i64 4, .int .i64 b] 60; simp at this; exact this) rfl, hb2⟩
    · have e4 : (a == 4) = false := by simpa using h4
      clear h h4
      go_enter Try.func45, Try.ntmps45
      go_wp2
      go_ret
      exact ⟨_, rfl, Src.of_sl (by have := sl_laid (w.alloc (.cells #[.int .i64 a, .int .i64 b] 60)) #[.int .i64 a, .int .i64 b] 60; simp at this; exact this) rfl, hb2⟩

/-- What SubstituteComb gives. -/
def substComb (xs : List R2) (k : Int) (ys : List R2) : List R2 × Int :=
  if validC xs && validC ys then (if inB k 0 399 then fitC (subC k ys xs) else ([], 2)) else ([], 1)
theorem bndSubstituteComb0 (xs : List R2) (k : Int) (ys : List R2) (h : xs.length ≤ 1048576) (h2 : ys.length ≤ 1048576) : (substComb xs k ys).1.length ≤ 1048576 := by
  unfold substComb
  split
  · split
    · have := fitC_len (subC k ys xs); omega
    · simp
  · simp

set_option maxRecDepth 100000 in
set_option maxHeartbeats 2000000 in
theorem implSubstituteComb_any (b1 o1 n1 c1 : Nat) (xs : List R2) (k : Int) (b2 o2 n2 c2 : Nat) (ys : List R2) (w : World) (hs1 : Sl w b1 o1 (rows R2.vs xs)) (hl1 : xs.length = n1) (hn1 : n1 ≤ 1048576) (hc1 : n1 ≤ c1) (hf1 : ∀ x ∈ xs, x.wf) (hk : Wf64 k) (hs2 : Sl w b2 o2 (rows R2.vs ys)) (hl2 : ys.length = n2) (hn2 : n2 ≤ 1048576) (hc2 : n2 ≤ c2) (hf2 : ∀ x ∈ ys, x.wf) :
    Calls Try.prog 12 #[.slice (some ⟨b1, o1, none⟩) n1 c1, .int .i64 k, .slice (some ⟨b2, o2, none⟩) n2 c2] w fun e w' => ∃ v, e = .returned (.tuple #[v, .int .i64 (substComb xs k ys).2]) ∧
      w'.ownsRow w.heap.size 60 2 v (substComb xs k ys).1.length (rows R2.vs (substComb xs k ys).1) ∧ Below w.heap.size w w' := by
  have HL1 := Lib.hid hl1; have HL2 := Lib.hid hl2
  clear hl1 hl2 hf1 hf2 hk
  have HS1 := Lib.hid (Src.of_sl (n := n1) (size := 2) (c := c1) hs1 (by rw [rows_len R2.vs_len, HL1.out]))
  have HS2 := Lib.hid (Src.of_sl (n := n2) (size := 2) (c := c2) hs2 (by rw [rows_len R2.vs_len, HL2.out]))
  clear hs1 hs2
  -- the two boxes and the list of two
  obtain ⟨w3, hw3⟩ : ∃ w3, w3 = ((w.alloc (.cells #[.int .i64 k] 2)).alloc (.cells #[.slice (some ⟨b2, o2, none⟩) n2 c2] 24)).alloc (.cells #[.slice (some ⟨b1, o1, none⟩) n1 c1, .slice (some ⟨b2, o2, none⟩) n2 c2] 24) := ⟨_, rfl⟩
  have hB3 : Below w.heap.size w w3 := by rw [hw3]; exact ((((Below.refl _ _).alloc (Nat.le_refl _) _).alloc (by simp) _).alloc (by simp; omega) _)
  have k1 : w3.cell? ⟨w.heap.size, 0, none⟩ = some (.int .i64 k) := by rw [hw3]; simp [go_sem]
  have k2 : w3.cell? ⟨w.heap.size + 1, 0, none⟩ = some (.slice (some ⟨b2, o2, none⟩) n2 c2) := by rw [hw3]; simp [go_sem]
  have hz3 : w3.heap.size = w.heap.size + 3 := by rw [hw3]; simp
  have hsl : Sl w3 (w.heap.size + 1 + 1) 0 [.slice (some ⟨b1, o1, none⟩) n1 c1, .slice (some ⟨b2, o2, none⟩) n2 c2] := by
    have := sl_laid ((w.alloc (.cells #[.int .i64 k] 2)).alloc (.cells #[.slice (some ⟨b2, o2, none⟩) n2 c2] 24)) #[.slice (some ⟨b1, o1, none⟩) n1 c1, .slice (some ⟨b2, o2, none⟩) n2 c2] 24
    rw [hw3]; simpa using this
  have HA := Lib.hid (Arg.of_sl (n := 2) hsl rfl)
  have HR : Hid (Rws w3 [.slice (some ⟨b1, o1, none⟩) n1 c1, .slice (some ⟨b2, o2, none⟩) n2 c2] [xs, ys]) := by
    refine ⟨rfl, fun j v t h1 h2 => ?_⟩
    match j, h1, h2 with
    | 0, h1, h2 =>
      have e1 : Value.slice (some ⟨b1, o1, none⟩) n1 c1 = v := by simpa using h1
      have e2 : xs = t := by simpa using h2
      subst e1 e2
      rw [HL1.out]
      exact ⟨HS1.out.below hB3, hn1⟩
    | 1, h1, h2 =>
      have e1 : Value.slice (some ⟨b2, o2, none⟩) n2 c2 = v := by simpa using h1
      have e2 : ys = t := by simpa using h2
      subst e1 e2
      rw [HL2.out]
      exact ⟨HS2.out.below hB3, hn2⟩
    | j + 2, h1, _ => simp at h1
  have HZ := Lib.hid hz3
  have HW := Lib.hid hw3
  clear hz3 hsl
  rcases Bool.eq_false_or_eq_true (validC xs && validC ys) with hv | hv
  rotate_left
  · have HM : Hid (substComb xs k ys = ([], 1)) := by unfold Hid substComb; rw [hv]; rfl
    have HV : Hid ([xs, ys].all validC = false) := by unfold Hid; simpa using hv
    clear hv
    rw [HM.out]
    go_enter Try.func12, Try.ntmps12
    go_wp2_with fail
    rw [← HW.out]
    refine (areCombs_is _ 2 2 _ [xs, ys] false HV.out _ HA.out HR.out rfl (by omega)).mono ?_
    rintro e w4 ⟨rfl, hb4⟩
    go_wp2
    go_ret2
    exact ⟨_, rfl, World.ownsRow_nil _ _ _ _, below_step hB3 hb4⟩
  have HV : Hid ([xs, ys].all validC = true) := by unfold Hid; simpa using hv
  have hv1 : validC xs = true := (Bool.and_eq_true _ _ ▸ hv).1
  have hv2 : validC ys = true := (Bool.and_eq_true _ _ ▸ hv).2
  have hx4 := validC_len' hv1
  have hy4 := validC_len' hv2
  rw [HL1.out] at hx4
  have hyl := HL2.out
  rw [hyl] at hy4
  clear hv1 hv2 hyl
  rcases Bool.eq_false_or_eq_true (inB k 0 399) with hi | hi
  rotate_left
  · have HM : Hid (substComb xs k ys = ([], 2)) := by unfold Hid substComb; rw [hv, hi]; rfl
    have HI := Lib.hid hi
    clear hv hi
    rw [HM.out]
    go_enter Try.func12, Try.ntmps12
    go_wp2_with fail
    rw [← HW.out]
    refine (areCombs_is _ 2 2 _ [xs, ys] true HV.out _ HA.out HR.out rfl (by omega)).mono ?_
    rintro e w4 ⟨rfl, hb4⟩
    have m1 := cell_step k1 hb4
    go_wp2_with fail
    refine (within_is _ _ _ false HI.out _).mono ?_
    rintro e w5 ⟨rfl, rfl⟩
    go_wp2
    go_ret2
    exact ⟨_, rfl, World.ownsRow_nil _ _ _ _, below_step hB3 hb4⟩
  have HM : Hid (substComb xs k ys = fitC (subC k ys xs)) := by unfold Hid substComb; rw [hv, hi]; rfl
  have HI := Lib.hid hi
  clear hv hi
  rw [HM.out]
  go_enter Try.func12, Try.ntmps12
  go_wp2_with fail
  rw [← HW.out]
  refine (areCombs_is _ 2 2 _ [xs, ys] true HV.out _ HA.out HR.out rfl (by omega)).mono ?_
  rintro e w4 ⟨rfl, hb4⟩
  have m1 := cell_step k1 hb4
  have m2 := cell_step k2 hb4
  have hB4 := below_step hB3 hb4
  have hg4 : w.heap.size + 3 ≤ w4.heap.size := by have := hb4.size; have := HZ.out; omega
  clear k1 k2 hb4 HW HA HR HZ hw3 hB3
  go_wp2_with fail
  refine (within_is _ _ _ true HI.out _).mono ?_
  rintro e w5 ⟨rfl, rfl⟩
  have HF4 : Hid (∀ (x : R2) (W : World), x ∈ xs → Below w4.heap.size w4 W → Calls Try.prog 45 (#[.agg #[.int .i64 x.a, .int .i64 x.b]] ++ #[.pointer (some ⟨w.heap.size, 0, none⟩), .pointer (some ⟨w.heap.size + 1, 0, none⟩)]) W fun e w' => ∃ v, e = .returned v ∧ Src 2 w' v (subE k ys x).length (rows R2.vs (subE k ys x)) ∧ Below W.heap.size W w') := by
    intro x W _ hW
    have := hW.size
    exact substClosure_any k _ _ _ n2 c2 ys x W (cell_step m1 hW) (cell_step m2 hW) (by omega) (by omega) (HS2.out.below (below_step hB4 hW))
  have HLE : Hid (∀ x, (subE k ys x).length ≤ n2) := by
    intro x
    have := subE_len k ys x (by have := HL2.out; omega)
    have := HL2.out
    omega
  have HE := Lib.hid (enters_of' (P := Try.prog) Try.func45 (by kernel_rfl) rfl)
  have hlen := flatMap_len (subE k ys) n2 HLE.out xs
  rw [HL1.out] at hlen
  have hmul : n2 * n1 ≤ 160000 := Nat.le_trans (Nat.mul_le_mul hy4.2 hx4.2) (by omega)
  go_wp2_with fail
  refine (substituted_any 45 #[.pointer (some ⟨w.heap.size, 0, none⟩), .pointer (some ⟨w.heap.size + 1, 0, none⟩)] (subE k ys) _ n1 c1 n2 xs _ (HS1.out.below hB4).args (by omega) (by omega) HLE.out HE.out HF4).mono ?_
  rintro e w5 ⟨v5, rfl, hown5, hb5⟩
  have hB5 := below_step hB4 hb5
  obtain ⟨N5, hN5⟩ : ∃ N, N = (xs.flatMap (subE k ys)).length := ⟨_, rfl⟩
  rw [← hN5] at hown5 hlen
  clear hN5
  obtain ⟨A5, c5, rfl⟩ := own_form hown5
  clear m1 m2
  go_wp2_with fail
  refine (shortComb_any _ _ c5 A5 (subC k ys xs) _ (own_base hown5 hB4.size) (by omega)).mono ?_
  rintro e w6 ⟨⟨v6, rfl, hown6⟩, rfl⟩
  go_wp2
  go_ret2
  exact ⟨_, rfl, hown6, hB5⟩

set_option maxRecDepth 100000 in
set_option maxHeartbeats 2000000 in
theorem specSubstituteComb_any (b1 o1 n1 c1 : Nat) (xs : List R2) (k : Int) (b2 o2 n2 c2 : Nat) (ys : List R2) (w : World) (hs1 : Sl w b1 o1 (rows R2.vs xs)) (hl1 : xs.length = n1) (hn1 : n1 ≤ 1048576) (hc1 : n1 ≤ c1) (hf1 : ∀ x ∈ xs, x.wf) (hk : Wf64 k) (hs2 : Sl w b2 o2 (rows R2.vs ys)) (hl2 : ys.length = n2) (hn2 : n2 ≤ 1048576) (hc2 : n2 ≤ c2) (hf2 : ∀ x ∈ ys, x.wf) :
    Calls Try.prog 10 #[.slice (some ⟨b1, o1, none⟩) n1 c1, .int .i64 k, .slice (some ⟨b2, o2, none⟩) n2 c2] w fun e w' => ∃ v, e = .returned (.tuple #[v, .int .i64 (substComb xs k ys).2]) ∧
      w'.ownsRow w.heap.size 60 2 v (substComb xs k ys).1.length (rows R2.vs (substComb xs k ys).1) ∧ Below w.heap.size w w' := by
  have HL1 := Lib.hid hl1; have HL2 := Lib.hid hl2
  clear hl1 hl2 hf1 hf2 hk
  have HA1 := Lib.hid (Args.of_sl (n := n1) (s := 2) hs1 (by rw [rows_len R2.vs_len, HL1.out]))
  have HA2 := Lib.hid (Args.of_sl (n := n2) (s := 2) hs2 (by rw [rows_len R2.vs_len, HL2.out]))
  have HS2 := Lib.hid (Src.of_sl (n := n2) (size := 2) (c := c2) hs2 (by rw [rows_len R2.vs_len, HL2.out]))
  clear hs2
  rcases Bool.eq_false_or_eq_true (validC xs) with hv | hv
  rotate_left
  · have HM : Hid (substComb xs k ys = ([], 1)) := by unfold Hid substComb; rw [hv]; rfl
    have HV := Lib.hid hv; clear hv
    rw [HM.out]
    go_enter Try.func10, Try.ntmps10
    go_wp2_with fail
    refine (l12Comb_is _ n1 c1 xs false HV.out _ HA1.out hn1).mono ?_
    rintro e w1 ⟨rfl, rfl⟩
    go_wp2
    go_ret2
    exact ⟨_, rfl, World.ownsRow_nil _ _ _ _, Below.refl _ _⟩
  have hx4 := validC_len' hv
  rw [HL1.out] at hx4
  have HV := Lib.hid hv; clear hv
  rcases Bool.eq_false_or_eq_true (validC ys) with hv | hv
  rotate_left
  · have HM : Hid (substComb xs k ys = ([], 1)) := by unfold Hid substComb; rw [HV.out, hv]; rfl
    have HV2 := Lib.hid hv; clear hv
    rw [HM.out]
    go_enter Try.func10, Try.ntmps10
    go_wp2_with fail
    refine (l12Comb_is _ n1 c1 xs true HV.out _ HA1.out hn1).mono ?_
    rintro e w1 ⟨rfl, rfl⟩
    go_wp2_with fail
    refine (l12Comb_is _ n2 c2 ys false HV2.out _ HA2.out hn2).mono ?_
    rintro e w1 ⟨rfl, rfl⟩
    go_wp2
    go_ret2
    exact ⟨_, rfl, World.ownsRow_nil _ _ _ _, Below.refl _ _⟩
  have hy4 := validC_len' hv
  have hyl := HL2.out
  rw [hyl] at hy4
  clear hyl
  have HV2 := Lib.hid hv; clear hv
  rcases Bool.eq_false_or_eq_true (inB k 0 399) with hi | hi
  rotate_left
  · have HM : Hid (substComb xs k ys = ([], 2)) := by unfold Hid substComb; rw [HV.out, HV2.out, hi]; rfl
    have HI := Lib.hid hi; clear hi
    rw [HM.out]
    go_enter Try.func10, Try.ntmps10
    go_wp2_with fail
    refine (l12Comb_is _ n1 c1 xs true HV.out _ HA1.out hn1).mono ?_
    rintro e w1 ⟨rfl, rfl⟩
    go_wp2_with fail
    refine (l12Comb_is _ n2 c2 ys true HV2.out _ HA2.out hn2).mono ?_
    rintro e w1 ⟨rfl, rfl⟩
    go_wp2_with fail
    refine (l00In_is _ _ _ false HI.out _).mono ?_
    rintro e w1 ⟨rfl, rfl⟩
    go_wp2
    go_ret2
    exact ⟨_, rfl, World.ownsRow_nil _ _ _ _, Below.refl _ _⟩
  have HM : Hid (substComb xs k ys = fitC (subC k ys xs)) := by unfold Hid substComb; rw [HV.out, HV2.out, hi]; rfl
  have HI := Lib.hid hi; clear hi
  rw [HM.out]
  have HLE : Hid (∀ x, (subE k ys x).length ≤ n2) := by
    intro x
    have := subE_len k ys x (by have := HL2.out; omega)
    have := HL2.out
    omega
  have hown0 : (w.alloc (.cells #[] 60)).ownsRow w.heap.size 60 2 (.slice (some ⟨w.heap.size, 0, none⟩) 0 0) 0 [] := own_empty w 60 2
  have hb0 := laid_below w (.cells #[] 60)
  have HO := Lib.hid (one_rows_Comb ys)
  go_enter Try.func10, Try.ntmps10
  go_wp2_with fail
  refine (l12Comb_is _ n1 c1 xs true HV.out _ HA1.out hn1).mono ?_
  rintro e w1 ⟨rfl, rfl⟩
  go_wp2_with fail
  refine (l12Comb_is _ n2 c2 ys true HV2.out _ HA2.out hn2).mono ?_
  rintro e w1 ⟨rfl, rfl⟩
  go_wp2_with fail
  refine (l00In_is _ _ _ true HI.out _).mono ?_
  rintro e w1 ⟨rfl, rfl⟩
  go_wp2
  go_loopw [8, 9] (fun v i wr => ∃ (j m : Nat), j ≤ n1 ∧ m ≤ n2 * j ∧ i = .int .i64 j ∧ Below w.heap.size w wr ∧ wr.ownsRow w.heap.size 60 2 v m (rows R2.vs ((xs.take j).flatMap (subE k ys))) ∧ Hid (((xs.take j).flatMap (subE k ys)).length = m)) (fun _ i _ => n1 - (intOf i).toNat)
  case atStart => exact ⟨0, 0, Nat.zero_le _, by omega, rfl, hb0, hown0, rfl⟩
  case round =>
    obtain ⟨j, m, hj, hm, rfl, hB, hown, HN⟩ := hrel
    clear hb0 hown0
    obtain ⟨Av, cv, rfl⟩ := own_form hown
    have hmk : n2 * j ≤ 160000 := Nat.le_trans (Nat.mul_le_mul hy4.2 (show j ≤ 400 by omega)) (by omega)
    have HMUL : Hid (n2 * (j + 1) = n2 * j + n2) := Nat.mul_succ _ _
    by_cases hlt : j < n1
    · obtain ⟨x, HX⟩ := hget HL1 hlt
      obtain ⟨p0, p1⟩ := (hs1.below' hB).rec2 HX.out
      have hst := flatMap_step (subE k ys) HX.out
      by_cases h : x.a = 4 ∧ x.b = k
      · rw [subE, if_pos h] at hst
        have HST := Lib.hid hst
        have e1 : (x.a == 4) = true := by simpa using h.1
        have e2 : (x.b == k) = true := by simpa using h.2
        clear hst h
        have hsrc2 := HS2.out.below hB
        go_wp2_with (at_builtin; refine wpList_appx rfl _ _ _ rfl Try.underlying24 infoComb rfl (by omega) w.heap.size hown hB.size rfl hsrc2 rfl HO.out (by unfold maxLen; omega) (by omega) ?_; intro v2 w2 hown2 hg2 hnil2; have hB2 := grown_below hB hown (Nat.le_refl _) hg2; clear hnil2 hown hsrc2 hg2)
        go_roundw
        case rel => exact ⟨j + 1, m + n2, by omega, by have := HMUL.out; omega, by go_num, hB2, by rw [HST.out, rows_app]; exact hown2, by have := HN.out; have := HL2.out; unfold Hid; rw [HST.out, List.length_append]; omega⟩
        case measure => simp [intOf]; omega
      · rw [subE, if_neg h] at hst
        have HST := Lib.hid hst
        clear hst
        by_cases h4 : x.a = 4
        · have e1 : (x.a == 4) = true := by simpa using h4
          have e2 : (x.b == k) = false := by simp; intro e; exact h ⟨h4, e⟩
          clear h h4
          go_wp2_with (at_builtin; refine wpList_app rfl _ _ _ rfl Try.underlying24 infoComb rfl (by omega) w wr hown hB rfl 1 #[.int .i64 x.a, .int .i64 x.b] rfl (laid_below _ _) (heap_alloc_new _ _) rfl (by simp [Value.oneCell']) (by omega) (by unfold maxLen; omega) (by omega) ?_; intro g cap w2 hown2 hB2; clear hown)
          go_roundw
          case rel => exact ⟨j + 1, m + 1, by omega, by have := HMUL.out; omega, by go_num, hB2, by rw [HST.out, rows_app, rows_one]; exact hown2, by have := HN.out; unfold Hid; rw [HST.out, List.length_append, this]; rfl⟩
          case measure => simp [intOf]; omega
        · have e1 : (x.a == 4) = false := by simpa using h4
          clear h h4
          go_wp2_with (at_builtin; refine wpList_app rfl _ _ _ rfl Try.underlying24 infoComb rfl (by omega) w wr hown hB rfl 1 #[.int .i64 x.a, .int .i64 x.b] rfl (laid_below _ _) (heap_alloc_new _ _) rfl (by simp [Value.oneCell']) (by omega) (by unfold maxLen; omega) (by omega) ?_; intro g cap w2 hown2 hB2; clear hown)
          go_roundw
          case rel => exact ⟨j + 1, m + 1, by omega, by have := HMUL.out; omega, by go_num, hB2, by rw [HST.out, rows_app, rows_one]; exact hown2, by have := HN.out; unfold Hid; rw [HST.out, List.length_append, this]; rfl⟩
          case measure => simp [intOf]; omega
    · rw [List.take_of_length_le (by have := HL1.out; omega)] at hown HN
      go_wp2_with fail
      refine (l18Fit_any _ m cv Av (subC k ys xs) _ hown (by omega)).mono ?_
      rintro e w6 ⟨⟨v6, rfl, hown6⟩, rfl⟩
      go_wp2
      go_ret2
      exact ⟨_, rfl, hown6, hB⟩
end Go.Proofs.Ytbnjoofagkemmaa
