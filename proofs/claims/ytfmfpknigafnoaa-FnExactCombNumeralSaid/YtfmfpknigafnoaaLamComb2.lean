/- From lambda terms to combinator terms: lamToComb; LamToComb on both sides. -/
import Derived.Test.YtfmfpknigafnoaaLamComb1
namespace Go.Proofs.Ytfmfpknigafnoaa
open Go.RowKit
set_option linter.all false

theorem combVar_any (k : Int) (w : World) : Calls Try.prog 149 #[.int .i64 k] w fun e w' => ∃ v, e = .returned v ∧ w'.ownsRow w.heap.size 136 2 v 1 (rows R2.vs [⟨4, k⟩]) ∧ Below w.heap.size w w' := by
  go_enter Try.func149, Try.ntmps149
  go_wp2
  go_ret
  exact ⟨_, rfl, own_laid w _ 2 1 _ rfl (by simp [maxLen]), laid_below _ _⟩

/-- A part of a list. -/
def part2 (T : List R2) (k m : Nat) : List R2 := (T.drop k).take m
theorem part2_cons {T : List R2} {k m : Nat} {x : R2} (hx : T[k]? = some x) : part2 T k (m + 1) = x :: part2 T (k + 1) m := by unfold part2; rw [drop_at hx, List.take_succ_cons]
theorem part2_take {T : List R2} {k m q : Nat} (h : q ≤ m) : (part2 T k m).take q = part2 T k q := by unfold part2; rw [List.take_take, Nat.min_eq_left h]
theorem part2_drop {T : List R2} {k m q : Nat} : (part2 T k m).drop q = part2 T (k + q) (m - q) := by unfold part2; rw [List.drop_take, List.drop_drop]
theorem part2_len {T : List R2} {k m : Nat} (h : k + m ≤ T.length) : (part2 T k m).length = m := by unfold part2; rw [List.length_take, List.length_drop]; omega
theorem part2_all {T : List R2} {k m : Nat} {p : R2 → Bool} (h : T.all p = true) : (part2 T k m).all p = true := List.all_eq_true.2 fun y hy => List.all_eq_true.1 h y (List.mem_of_mem_drop (List.mem_of_mem_take hy))

/-- What lamToComb gives for a part. -/
def ItoOk (w : World) (en : Int) (cs : List R2) (e : Ending) (w' : World) : Prop := (∃ v, e = .returned (.tuple #[v, .int .i64 en, .bool true]) ∧ w'.ownsRow w.heap.size 136 2 v cs.length (rows R2.vs cs)) ∧ Below w.heap.size w w'
def ItoNot (w : World) (m : Nat) (e : Ending) (w' : World) : Prop := (∃ (v : Value) (en : Int) (cs : List R2), e = .returned (.tuple #[v, .int .i64 en, .bool false]) ∧ w'.ownsRow w.heap.size 136 2 v cs.length (rows R2.vs cs) ∧ cs.length ≤ 402 * m + 1600) ∧ Below w.heap.size w w'

set_option maxRecDepth 100000 in
set_option maxHeartbeats 2000000 in
theorem lamToComb_any (b off n c : Nat) (T : List R2) (hok : T.all lOk = true) (short : Bool) (hl : T.length = n) (hn : n ≤ 400) (N : Nat) : ∀ (k m : Nat) (kk en dep : Int) (w : World), kk = (k : Int) → en = (k : Int) + (m : Int) → m ≤ N → Sl w b off (rows R2.vs T) → k + m ≤ n → 0 ≤ dep → dep + m ≤ 400 → fit lFol 1 (part2 T k m) = true →
    (∀ cs, lamC ixI bxI short dep (part2 T k m) = some cs → Calls Try.prog 101 #[.slice (some ⟨b, off, none⟩) n c, .int .i64 kk, .int .i64 dep, .bool short] w (ItoOk w en cs)) ∧
    (lamC ixI bxI short dep (part2 T k m) = none → Calls Try.prog 101 #[.slice (some ⟨b, off, none⟩) n c, .int .i64 kk, .int .i64 dep, .bool short] w (ItoNot w m)) := by
  have HL := Lib.hid hl; have HOK := Lib.hid hok
  clear hl hok
  induction N with
  | zero => intro k m kk en dep w hkk hen hN hs hk hd0 hd hf; have := fit_ne lFol _ 0 hf; rw [part2_len (by have := HL.out; omega)] at this; omega
  | succ N ih =>
  intro k m kk en dep w hkk hen hN hs hk hd0 hd hf
  subst hkk
  have IH := Lib.hid ih; clear ih
  have hm0 := fit_ne lFol _ 0 hf
  rw [part2_len (by have := HL.out; omega)] at hm0
  obtain ⟨m, rfl⟩ : ∃ m', m = m' + 1 := ⟨m - 1, by omega⟩
  obtain ⟨x, HX⟩ := hget (k := k) HL (by omega)
  obtain ⟨l, hl⟩ : ∃ l, l = part2 T (k + 1) m := ⟨_, rfl⟩
  have HC : Hid (part2 T k (m + 1) = x :: l) := by rw [hl]; exact part2_cons HX.out
  rw [HC.out] at hf ⊢
  have HF := Lib.hid hf
  have HPL := Lib.hid hl
  have HLL : Hid (l.length = m) := by unfold Hid; rw [hl, part2_len (by have := HL.out; omega)]
  have hx := lOk_cases (x := x) (List.all_eq_true.1 HOK.out x (List.mem_of_getElem? HX.out))
  obtain ⟨w0, HW0, B0, y0⟩ := al1 w (.cells #[.int .i64 x.a, .int .i64 x.b] 138)
  obtain ⟨p0, p1⟩ := hs.rec2 HX.out
  have HS0 := Lib.hid (hs.below' B0)
  have q0 : w0.cell? ⟨w.heap.size, 0, none⟩ = some (.int .i64 x.a) := by rw [cell_of_heap y0]; rfl
  have q1 : w0.cell? ⟨w.heap.size, 1, none⟩ = some (.int .i64 x.b) := by rw [cell_of_heap y0]; rfl
  have HB0 := Lib.hid B0
  have hk1 : (k : Int) < (n : Int) := by omega
  clear hf hl y0 B0
  rcases hx with ⟨ha, hb0, hb9⟩ | ha | ha
  · -- a variable
    have HV := Lib.hid (lam_var (l := l) ixI bxI short dep ha)
    have hm1 : m = 0 := by
      have := HF.out
      rw [show (1 : Nat) = 0 + 1 from rfl, fit_sc, lFol_0 ha] at this
      cases l with
      | nil => have := HLL.out; simpa using this.symm
      | cons y l => rw [fit_0c] at this; cases this
    subst hm1
    obtain ⟨xa, xb⟩ := x
    simp only at ha hb0 hb9 p0 p1 q0 q1
    subst ha
    refine ⟨fun cs hcs => ?_, fun hno => (by rw [HV.out] at hno; cases hno)⟩
    rw [HV.out] at hcs
    injection hcs with hcs
    have HCS := Lib.hid hcs; clear hcs
    have HEN : Hid (en = (k : Int) + 1) := by unfold Hid; omega
    clear hen
    go_enter Try.func101, Try.ntmps101
    go_wp2_with fail
    rw [← HW0.out]
    refine (combVar_any _ _).mono ?_
    rintro e w2 ⟨v2, rfl, own2, b2⟩
    have B2 := below_step HB0.out b2
    obtain ⟨A2, c2, rfl⟩ := own_form own2
    go_wp2
    go_ret3
    rw [← HCS.out, HEN.out]
    exact ⟨⟨_, rfl, own_base own2 HB0.out.size⟩, B2⟩
  · -- an abstraction
    have hfl : fit lFol 1 l = true := by have := HF.out; rw [show (1 : Nat) = 0 + 1 from rfl, fit_sc, lFol_1 ha] at this; exact this
    have HIH : Hid (∀ W, Below w.heap.size w W → _) := fun W hW => IH.out (k + 1) m ((k : Int) + 1) en (dep + 1) W (by omega) (by omega) (by omega) (hs.below' hW) (by omega) (by omega) (by omega) (by rw [← HPL.out]; exact hfl)
    rw [← HPL.out] at HIH
    have e0 : (x.a == 0) = false := by rw [ha]; rfl
    have e1 : (x.a == 1) = true := by rw [ha]; rfl
    have HBX : Hid (bxI dep = -1 - dep) := rfl
    clear hfl HF hen
    cases h2 : lamC ixI bxI short (dep + 1) l with
    | none =>
      have HN := Lib.hid (lam_abs_none _ _ _ _ ha h2)
      have H2 := Lib.hid h2
      clear h2 ha
      refine ⟨fun cs hcs => (by rw [HN.out] at hcs; cases hcs), fun _ => ?_⟩
      go_enter Try.func101, Try.ntmps101
      go_wp2_with fail
      rw [← HW0.out]
      refine ((HIH.out _ HB0.out).2 H2.out).mono ?_
      rintro e w2 ⟨⟨v2, en2, cs2, rfl, own2, hl2⟩, b2⟩
      have B2 := below_step HB0.out b2
      have own2' := own_base own2 HB0.out.size
      obtain ⟨A2, c2, rfl⟩ := own_form own2
      clear own2
      go_wp2
      go_ret3
      exact ⟨⟨_, _, cs2, rfl, own2', by omega⟩, B2⟩
    | some bd =>
      have HN := Lib.hid (lam_abs_some _ _ _ _ ha h2)
      have H2 := Lib.hid h2
      obtain ⟨hbl, hbf⟩ := lamC_fit _ _ _ _ _ _ _ (Nat.le_refl _) (by rw [HPL.out]; exact part2_all HOK.out) h2
      have HBF := Lib.hid hbf
      obtain ⟨j, hj⟩ : ∃ j, j = bd.length := ⟨_, rfl⟩
      rw [← hj] at hbl
      have HK := Lib.hid hj
      have hbne := fit_ne kFol bd 0 hbf
      rw [← hj] at hbne
      have lA := absC_len (-1 - dep) short _ bd (Nat.le_refl _) hbf
      rw [← hj] at lA
      obtain ⟨z, hz⟩ : ∃ z, z = (absC (-1 - dep) short bd).length := ⟨_, rfl⟩
      rw [← hz] at lA
      have HZ := Lib.hid hz
      clear h2 ha hj hz hbf
      by_cases hz4 : z ≤ 400
      · have HR : Hid (lamC ixI bxI short dep (x :: l) = some (absC (-1 - dep) short bd)) := by unfold Hid; rw [HN.out, HBX.out, capC_yes (by rw [← HZ.out]; exact hz4)]
        have ez : decide ((z : Int) ≤ 400) = true := decide_eq_true (by omega)
        refine ⟨fun cs hcs => ?_, fun hno => (by rw [HR.out] at hno; cases hno)⟩
        rw [HR.out] at hcs
        injection hcs with hcs
        have HCS := Lib.hid hcs; clear hcs
        go_enter Try.func101, Try.ntmps101
        go_wp2_with fail
        rw [← HW0.out]
        refine ((HIH.out _ HB0.out).1 bd H2.out).mono ?_
        rintro e w2 ⟨⟨v2, rfl, own2⟩, b2⟩
        have B2 := below_step HB0.out b2
        rw [← HK.out] at own2
        obtain ⟨A2, c2, rfl⟩ := own_form own2
        obtain ⟨g2, rfl, _, _⟩ := own_addr0 own2 hbne
        have hc2 := own_cap' own2 _ _ rfl
        go_wp2_with fail
        refine (abstraction_any j g2 0 j c2 (-1 - dep) short bd _ (Nat.le_refl _) (sl_of_own own2) HK.out.symm (by omega) hc2 HBF.out).mono ?_
        rintro e w3 ⟨v3, rfl, own3, b3⟩
        have B3 := below_step B2 b3
        rw [← HZ.out] at own3
        have own3' := own_base own3 B2.size
        obtain ⟨A3, c3, rfl⟩ := own_form own3
        clear own3 own2 b2 b3
        go_wp2
        go_ret3
        rw [← HCS.out]
        exact ⟨⟨_, rfl, by rw [← HZ.out]; exact own3'⟩, B3⟩
      · have HR : Hid (lamC ixI bxI short dep (x :: l) = none) := by unfold Hid; rw [HN.out, HBX.out, capC_no (by rw [← HZ.out]; omega)]
        have ez : decide ((z : Int) ≤ 400) = false := decide_eq_false (by omega)
        refine ⟨fun cs hcs => (by rw [HR.out] at hcs; cases hcs), fun _ => ?_⟩
        go_enter Try.func101, Try.ntmps101
        go_wp2_with fail
        rw [← HW0.out]
        refine ((HIH.out _ HB0.out).1 bd H2.out).mono ?_
        rintro e w2 ⟨⟨v2, rfl, own2⟩, b2⟩
        have B2 := below_step HB0.out b2
        rw [← HK.out] at own2
        obtain ⟨A2, c2, rfl⟩ := own_form own2
        obtain ⟨g2, rfl, _, _⟩ := own_addr0 own2 hbne
        have hc2 := own_cap' own2 _ _ rfl
        go_wp2_with fail
        refine (abstraction_any j g2 0 j c2 (-1 - dep) short bd _ (Nat.le_refl _) (sl_of_own own2) HK.out.symm (by omega) hc2 HBF.out).mono ?_
        rintro e w3 ⟨v3, rfl, own3, b3⟩
        have B3 := below_step B2 b3
        rw [← HZ.out] at own3
        have own3' := own_base own3 B2.size
        obtain ⟨A3, c3, rfl⟩ := own_form own3
        clear own3 own2 b2 b3
        go_wp2
        go_ret3
        exact ⟨⟨_, _, absC (-1 - dep) short bd, rfl, by rw [← HZ.out]; exact own3', by rw [← HZ.out]; omega⟩, B3⟩
  · -- an application
    obtain ⟨q, q1, q2, q3, q4, q5, q6⟩ := lam_split HF.out ha
    rw [HLL.out] at q2
    have HTD : Hid (l.take (midL l) = part2 T (k + 1) q) := by unfold Hid; rw [q3, HPL.out, part2_take (by omega)]
    have HTE : Hid (l.drop (midL l) = part2 T (k + 1 + q) (m - q)) := by unfold Hid; rw [q3, HPL.out, part2_drop]
    rw [HPL.out, part2_take (by omega)] at q5
    rw [HPL.out, part2_drop] at q6
    have HID : Hid (∀ W, Below w.heap.size w W → _) := fun W hW => IH.out (k + 1) q ((k : Int) + 1) ((k : Int) + 1 + (q : Int)) dep W (by omega) (by omega) (by omega) (hs.below' hW) (by omega) hd0 (by omega) q5
    have HIE : Hid (∀ W, Below w.heap.size w W → _) := fun W hW => IH.out (k + 1 + q) (m - q) ((k : Int) + 1 + (q : Int)) en dep W (by omega) (by omega) (by omega) (hs.below' hW) (by omega) hd0 (by omega) q6
    obtain ⟨D, hD⟩ : ∃ D, D = part2 T (k + 1) q := ⟨_, rfl⟩
    obtain ⟨E, hE⟩ : ∃ E, E = part2 T (k + 1 + q) (m - q) := ⟨_, rfl⟩
    rw [← hD] at HID HTD
    rw [← hE] at HIE HTE
    have HKD : Hid (D.all lOk = true) := by rw [hD]; exact part2_all HOK.out
    have HKE : Hid (E.all lOk = true) := by rw [hE]; exact part2_all HOK.out
    have e0 : (x.a == 0) = false := by rw [ha]; rfl
    have e1 : (x.a == 1) = false := by rw [ha]; rfl
    clear hD hE q3 q4 q5 q6 HF hen
    cases h1 : lamC ixI bxI short dep D with
    | none =>
      have HN : Hid (lamC ixI bxI short dep (x :: l) = none) := lam_app_none1 _ _ _ _ ha (by rw [HTD.out]; exact h1)
      have H1 := Lib.hid h1
      clear h1 ha
      refine ⟨fun cs hcs => (by rw [HN.out] at hcs; cases hcs), fun _ => ?_⟩
      go_enter Try.func101, Try.ntmps101
      go_wp2_with fail
      rw [← HW0.out]
      refine ((HID.out _ HB0.out).2 H1.out).mono ?_
      rintro e w2 ⟨⟨v2, en2, cs2, rfl, own2, hl2⟩, b2⟩
      have B2 := below_step HB0.out b2
      obtain ⟨A2, c2, rfl⟩ := own_form own2
      clear own2
      go_wp2
      go_ret3
      exact ⟨⟨_, _, [], rfl, World.ownsRow_nil _ _ _ _, by simp⟩, B2⟩
    | some d =>
      have H1 := Lib.hid h1
      obtain ⟨hd4, hdf⟩ := lamC_fit _ _ _ _ _ _ _ (Nat.le_refl _) HKD.out h1
      obtain ⟨k1, hk1'⟩ : ∃ k, k = d.length := ⟨_, rfl⟩
      rw [← hk1'] at hd4
      have HK1 := Lib.hid hk1'
      clear hk1' hdf
      cases h2 : lamC ixI bxI short dep E with
      | none =>
        have HN : Hid (lamC ixI bxI short dep (x :: l) = none) := lam_app_none2 _ _ _ _ ha (by rw [HTD.out]; exact h1) (by rw [HTE.out]; exact h2)
        have H2 := Lib.hid h2
        clear h1 h2 ha
        refine ⟨fun cs hcs => (by rw [HN.out] at hcs; cases hcs), fun _ => ?_⟩
        go_enter Try.func101, Try.ntmps101
        go_wp2_with fail
        rw [← HW0.out]
        refine ((HID.out _ HB0.out).1 d H1.out).mono ?_
        rintro e w2 ⟨⟨v2, rfl, own2⟩, b2⟩
        have B2 := below_step HB0.out b2
        rw [← HK1.out] at own2
        obtain ⟨A2, c2, rfl⟩ := own_form own2
        go_wp2_with fail
        refine ((HIE.out _ B2).2 H2.out).mono ?_
        rintro e w3 ⟨⟨v3, en3, cs3, rfl, own3, hl3⟩, b3⟩
        have B3 := below_step B2 b3
        obtain ⟨k3, hk3⟩ : ∃ k, k = cs3.length := ⟨_, rfl⟩
        rw [← hk3] at own3 hl3
        have HK3 := Lib.hid hk3; clear hk3
        have s2 := (Src.of_own own2).below b3
        obtain ⟨A3, c3, rfl⟩ := own_form own3
        have s3 := Src.of_own own3
        clear own2 own3 b2 b3
        have hb4 := laid_below w3 (.cells #[.slice A3 k3 c3] 64)
        have hsl4 : Sl (w3.alloc (.cells #[.slice A3 k3 c3] 64)) w3.heap.size 0 [.slice A3 k3 c3] := sl_laid w3 _ _
        have hrw : Rws (w3.alloc (.cells #[.slice A3 k3 c3] 64)) [.slice A3 k3 c3] [cs3] := by
          refine ⟨rfl, fun j v t h1 h2 => ?_⟩
          match j, h1, h2 with
          | 0, h1, h2 => simp at h1 h2; subst h1 h2; rw [← HK3.out]; exact ⟨s3.below hb4, by omega⟩
          | j + 1, h1, _ => simp at h1
        have HFL : Hid ([cs3].flatten.length = k3) := by unfold Hid; rw [HK3.out]; simp
        go_wp2_with fail
        refine (applyComb_any A2 k1 c2 d w3.heap.size 0 1 1 _ [cs3] _ (s2.below hb4) hsl4 hrw rfl (by omega) (by omega) (by rw [HFL.out]; omega)).mono ?_
        rintro e w5 ⟨v5, rfl, own5, b5⟩
        rw [HFL.out] at own5
        have B5 := below_step B3 (below_step hb4 b5)
        have own5' := own_base own5 (Nat.le_trans B3.size hb4.size)
        obtain ⟨A5, c5, rfl⟩ := own_form own5
        clear own5 s2 s3 hsl4 hrw hb4 b5
        have HL5 : Hid ((⟨0, 0⟩ :: (d ++ cs3) : List R2).length = 1 + k1 + k3) := by unfold Hid; rw [HK1.out, HK3.out]; simp only [List.length_cons, List.length_append]; omega
        have HR5 : Hid ((List.replicate 1 ⟨0, 0⟩ ++ d ++ [cs3].flatten : List R2) = ⟨0, 0⟩ :: (d ++ cs3)) := by unfold Hid; simp [List.replicate]
        rw [HR5.out] at own5'
        go_wp2
        go_ret3
        exact ⟨⟨_, _, ⟨0, 0⟩ :: (d ++ cs3), rfl, by rw [HL5.out]; exact own5', by rw [HL5.out]; omega⟩, B5⟩
      | some d2 =>
        have HN : Hid (lamC ixI bxI short dep (x :: l) = capC (⟨0, 0⟩ :: (d ++ d2))) := lam_app_some _ _ _ _ ha (by rw [HTD.out]; exact h1) (by rw [HTE.out]; exact h2)
        have H2 := Lib.hid h2
        obtain ⟨he4, hef⟩ := lamC_fit _ _ _ _ _ _ _ (Nat.le_refl _) HKE.out h2
        obtain ⟨k2, hk2⟩ : ∃ k, k = d2.length := ⟨_, rfl⟩
        rw [← hk2] at he4
        have HK2 := Lib.hid hk2
        clear h1 h2 ha hk2 hef
        obtain ⟨z, hz⟩ : ∃ z, z = 1 + k1 + k2 := ⟨_, rfl⟩
        have HZ : Hid ((⟨0, 0⟩ :: (d ++ d2) : List R2).length = z) := by unfold Hid; rw [hz, HK1.out, HK2.out]; simp only [List.length_cons, List.length_append]; omega
        have HZ2 : Hid (1 + k1 + k2 = z) := hz.symm
        have hz8 : z ≤ 801 := by omega
        have HFL : Hid ([d2].flatten.length = k2) := by unfold Hid; rw [HK2.out]; simp
        have HRR : Hid ((List.replicate 1 ⟨0, 0⟩ ++ d ++ [d2].flatten : List R2) = ⟨0, 0⟩ :: (d ++ d2)) := by unfold Hid; simp [List.replicate]
        clear hz
        by_cases hz4 : z ≤ 400
        · have HR : Hid (lamC ixI bxI short dep (x :: l) = some (⟨0, 0⟩ :: (d ++ d2))) := by unfold Hid; rw [HN.out, capC_yes (by rw [HZ.out]; exact hz4)]
          have ez : decide ((z : Int) ≤ 400) = true := decide_eq_true (by omega)
          refine ⟨fun cs hcs => ?_, fun hno => (by rw [HR.out] at hno; cases hno)⟩
          rw [HR.out] at hcs
          injection hcs with hcs
          have HCS := Lib.hid hcs; clear hcs
          go_enter Try.func101, Try.ntmps101
          go_wp2_with fail
          rw [← HW0.out]
          refine ((HID.out _ HB0.out).1 d H1.out).mono ?_
          rintro e w2 ⟨⟨v2, rfl, own2⟩, b2⟩
          have B2 := below_step HB0.out b2
          rw [← HK1.out] at own2
          obtain ⟨A2, c2, rfl⟩ := own_form own2
          go_wp2_with fail
          refine ((HIE.out _ B2).1 d2 H2.out).mono ?_
          rintro e w3 ⟨⟨v3, rfl, own3⟩, b3⟩
          have B3 := below_step B2 b3
          rw [← HK2.out] at own3
          have s2 := (Src.of_own own2).below b3
          obtain ⟨A3, c3, rfl⟩ := own_form own3
          have s3 := Src.of_own own3
          clear own2 own3 b2 b3
          have hb4 := laid_below w3 (.cells #[.slice A3 k2 c3] 64)
          have hsl4 : Sl (w3.alloc (.cells #[.slice A3 k2 c3] 64)) w3.heap.size 0 [.slice A3 k2 c3] := sl_laid w3 _ _
          have hrw : Rws (w3.alloc (.cells #[.slice A3 k2 c3] 64)) [.slice A3 k2 c3] [d2] := by
            refine ⟨rfl, fun j v t h1 h2 => ?_⟩
            match j, h1, h2 with
            | 0, h1, h2 => simp at h1 h2; subst h1 h2; rw [← HK2.out]; exact ⟨s3.below hb4, by omega⟩
            | j + 1, h1, _ => simp at h1
          go_wp2_with fail
          refine (applyComb_any A2 k1 c2 d w3.heap.size 0 1 1 _ [d2] _ (s2.below hb4) hsl4 hrw rfl (by omega) (by omega) (by rw [HFL.out]; omega)).mono ?_
          rintro e w5 ⟨v5, rfl, own5, b5⟩
          rw [HFL.out, HRR.out, HZ2.out] at own5
          have B5 := below_step B3 (below_step hb4 b5)
          have own5' := own_base own5 (Nat.le_trans B3.size hb4.size)
          obtain ⟨A5, c5, rfl⟩ := own_form own5
          clear own5 s2 s3 hsl4 hrw hb4 b5
          go_wp2
          go_ret3
          rw [← HCS.out]
          exact ⟨⟨_, rfl, by rw [HZ.out]; exact own5'⟩, B5⟩
        · have HR : Hid (lamC ixI bxI short dep (x :: l) = none) := by unfold Hid; rw [HN.out, capC_no (by rw [HZ.out]; omega)]
          have ez : decide ((z : Int) ≤ 400) = false := decide_eq_false (by omega)
          refine ⟨fun cs hcs => (by rw [HR.out] at hcs; cases hcs), fun _ => ?_⟩
          go_enter Try.func101, Try.ntmps101
          go_wp2_with fail
          rw [← HW0.out]
          refine ((HID.out _ HB0.out).1 d H1.out).mono ?_
          rintro e w2 ⟨⟨v2, rfl, own2⟩, b2⟩
          have B2 := below_step HB0.out b2
          rw [← HK1.out] at own2
          obtain ⟨A2, c2, rfl⟩ := own_form own2
          go_wp2_with fail
          refine ((HIE.out _ B2).1 d2 H2.out).mono ?_
          rintro e w3 ⟨⟨v3, rfl, own3⟩, b3⟩
          have B3 := below_step B2 b3
          rw [← HK2.out] at own3
          have s2 := (Src.of_own own2).below b3
          obtain ⟨A3, c3, rfl⟩ := own_form own3
          have s3 := Src.of_own own3
          clear own2 own3 b2 b3
          have hb4 := laid_below w3 (.cells #[.slice A3 k2 c3] 64)
          have hsl4 : Sl (w3.alloc (.cells #[.slice A3 k2 c3] 64)) w3.heap.size 0 [.slice A3 k2 c3] := sl_laid w3 _ _
          have hrw : Rws (w3.alloc (.cells #[.slice A3 k2 c3] 64)) [.slice A3 k2 c3] [d2] := by
            refine ⟨rfl, fun j v t h1 h2 => ?_⟩
            match j, h1, h2 with
            | 0, h1, h2 => simp at h1 h2; subst h1 h2; rw [← HK2.out]; exact ⟨s3.below hb4, by omega⟩
            | j + 1, h1, _ => simp at h1
          go_wp2_with fail
          refine (applyComb_any A2 k1 c2 d w3.heap.size 0 1 1 _ [d2] _ (s2.below hb4) hsl4 hrw rfl (by omega) (by omega) (by rw [HFL.out]; omega)).mono ?_
          rintro e w5 ⟨v5, rfl, own5, b5⟩
          rw [HFL.out, HRR.out, HZ2.out] at own5
          have B5 := below_step B3 (below_step hb4 b5)
          have own5' := own_base own5 (Nat.le_trans B3.size hb4.size)
          obtain ⟨A5, c5, rfl⟩ := own_form own5
          clear own5 s2 s3 hsl4 hrw hb4 b5
          go_wp2
          go_ret3
          exact ⟨⟨_, _, ⟨0, 0⟩ :: (d ++ d2), rfl, by rw [HZ.out]; exact own5', by rw [HZ.out]; omega⟩, B5⟩
end Go.Proofs.Ytfmfpknigafnoaa
