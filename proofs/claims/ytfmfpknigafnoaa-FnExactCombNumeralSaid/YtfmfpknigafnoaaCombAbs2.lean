/- Abstraction of combinator terms: abstraction. -/
import Derived.Test.YtfmfpknigafnoaaCombAbs
namespace Go.Proofs.Ytfmfpknigafnoaa
open Go.RowKit
set_option linter.all false

theorem eqGuard_ok : ∀ (op : BinOp) (a b : Operand) (xs ys : Array Value) (w : World), Sem.run Try.prog (eqGuard op 136 a b (.agg xs) (.agg ys)) w = .ok () w := guardComb

set_option maxRecDepth 100000 in
set_option maxHeartbeats 2000000 in
theorem abstraction_any (N : Nat) : ∀ (b off n c : Nat) (k : Int) (short : Bool) (xs : List R2) (w : World), n ≤ N → Sl w b off (rows R2.vs xs) → xs.length = n → n ≤ 2000 → n ≤ c → fit kFol 1 xs = true →
    Calls Try.prog 150 #[.int .i64 k, .slice (some ⟨b, off, none⟩) n c, .bool short] w fun e w' => ∃ v, e = .returned v ∧ w'.ownsRow w.heap.size 136 2 v (absC k short xs).length (rows R2.vs (absC k short xs)) ∧ Below w.heap.size w w' := by
  induction N with
  | zero => intro b off n c k short xs w hN hs hl hn hc hf; have := fit_ne kFol xs 0 hf; omega
  | succ N ih =>
  intro b off n c k short xs w hN hs hl hn hc hf
  have IH := Lib.hid ih; clear ih
  have HL := Lib.hid hl
  have HF := Lib.hid hf
  have hn0 : 0 < n := by have := fit_ne kFol xs 0 hf; omega
  clear hf hl
  have HA := Lib.hid (Args.of_sl (n := n) (s := 2) hs (by rw [rows_len R2.vs_len, HL.out]))
  have HS := Lib.hid (Src.of_sl (n := n) (size := 2) (c := c) hs (by rw [rows_len R2.vs_len, HL.out]))
  obtain ⟨x, HX⟩ := hget HL hn0
  obtain ⟨w0, HW, k0, k1, hB0⟩ : ∃ w0, Hid (w0 = w.alloc (.cells #[.int .i64 4, .int .i64 k] 136)) ∧ w0.cell? ⟨w.heap.size, 0, none⟩ = some (.int .i64 4) ∧ w0.cell? ⟨w.heap.size, 1, none⟩ = some (.int .i64 k) ∧ Below w.heap.size w w0 := ⟨_, rfl, by simp [go_sem], by simp [go_sem], laid_below _ _⟩
  obtain ⟨p0, p1⟩ := (hs.below' hB0).rec2 HX.out
  simp only [Nat.zero_mul, Nat.add_zero] at p0 p1
  have hgd := eqGuard_ok
  rcases Bool.eq_false_or_eq_true (oneV k xs) with h1 | h1
  · -- the variable itself
    have HR := Lib.hid (abs_one (short := short) h1)
    obtain ⟨y, hy, hv⟩ := oneV_len h1
    have hx := HX.out
    rw [hy] at hx
    simp at hx
    subst hx
    have hn1 : n = 1 := by rw [← HL.out, hy]; rfl
    have hq := eqVar_run y k true hv
    have en : ((n : Int) == 1) = true := by simp [hn1]
    clear hv hy h1
    have hn1' : (0 : Int) < (n : Int) := by omega
    clear hn1
    go_enter Try.func150, Try.ntmps150
    go_wp2
    rw [← HW.out]
    go_quiet (fail)
    go_wp2_with fail
    refine (atom_any 3 _).mono ?_
    rintro e w2 ⟨v2, rfl, hown2, hb2⟩
    go_wp2
    go_ret
    have hB2 := below_step (below_drewN hB0 _) hb2
    exact ⟨_, rfl, by rw [HR.out]; exact own_base hown2 (below_drewN hB0 _).size, hB2⟩
  have H1 := Lib.hid h1
  -- what the first test says
  have htest : (((n : Int) == 1) = false) ∨ (((n : Int) == 1) = true ∧ isV k x = false) := by
    by_cases hn1 : n = 1
    · have := oneV_one (k := k) HL.out HX.out hn1
      rw [h1] at this
      exact .inr ⟨by simp [hn1], this.symm⟩
    · exact .inl (by simp; omega)
  clear h1
  have hn1' : (0 : Int) < (n : Int) := by omega
  rcases Bool.eq_false_or_eq_true (hasV k xs) with h2 | h2
  rotate_left
  · have HR := Lib.hid (abs_not (short := short) H1.out h2)
    have HH := Lib.hid h2
    clear h2
    have HRW : Hid (∀ W, Below w.heap.size w W → Rws W [.slice (some ⟨b, off, none⟩) n c] [xs]) := by
      intro W hW
      refine ⟨rfl, fun j v t h1 h2 => ?_⟩
      match j, h1, h2 with
      | 0, h1, h2 =>
        simp at h1 h2; subst h1 h2
        rw [HL.out]
        exact ⟨HS.out.below hW, by omega⟩
      | j + 1, h1, _ => simp at h1
    rcases htest with t1 | ⟨t1, t2⟩
    rotate_left
    have hq := eqVar_run x k false t2
    clear t2
    all_goals
      go_enter Try.func150, Try.ntmps150
      go_wp2
      rw [← HW.out]
      go_quiet (fail)
      have hBd := below_drewN hB0 nq
      have kd0 : (w0.drewN nq).cell? ⟨w.heap.size, 0, none⟩ = some (.int .i64 4) := k0
      have kd1 : (w0.drewN nq).cell? ⟨w.heap.size, 1, none⟩ = some (.int .i64 k) := k1
      clear k0 k1 p0 p1 HW hB0
      generalize w0.drewN nq = w1 at hBd kd0 kd1 ⊢
      go_wp2_with fail
      refine (containsComb_is b off n c xs k false HH.out _ (hs.below' hBd) HL.out (by omega)).mono ?_
      rintro e w2 ⟨rfl, hb2⟩
      have hB2 := below_step hBd hb2
      clear kd0 kd1 hb2 hBd
      go_wp2_with fail
      refine (atom_any 2 _).mono ?_
      rintro e w3 ⟨v3, rfl, hown3, hb3⟩
      have hB3 := below_step hB2 hb3
      obtain ⟨A3, c3, rfl⟩ := own_form hown3
      have hs3 := Src.of_own hown3
      clear hb3 hown3
      have hb4 := laid_below w3 (.cells #[.slice (some ⟨b, off, none⟩) n c] 64)
      have hsl4 : Sl (w3.alloc (.cells #[.slice (some ⟨b, off, none⟩) n c] 64)) w3.heap.size 0 [.slice (some ⟨b, off, none⟩) n c] := sl_laid w3 _ _
      go_wp2_with fail
      refine (applyComb_any A3 1 c3 [⟨2, 0⟩] w3.heap.size 0 1 1 _ [xs] _ (hs3.below hb4) hsl4 (HRW.out _ (below_step hB3 hb4)) rfl (by omega) (by omega) (by have := HL.out; simp; omega)).mono ?_
      rintro e w5 ⟨v5, rfl, hown5, hb5⟩
      go_wp2
      go_ret
      refine ⟨_, rfl, ?_, below_step hB3 (below_step hb4 hb5)⟩
      have h6 := own_base hown5 (Nat.le_trans hB3.size hb4.size)
      rw [HR.out]
      have hl6 : (⟨0, 0⟩ :: ⟨2, 0⟩ :: xs : List R2).length = 1 + 1 + [xs].flatten.length := by simp; omega
      have hr6 : (⟨0, 0⟩ :: ⟨2, 0⟩ :: xs : List R2) = List.replicate 1 ⟨0, 0⟩ ++ [⟨2, 0⟩] ++ [xs].flatten := by simp
      rw [hl6, hr6]
      exact h6
  -- an application
  obtain ⟨q, hq1, hq2, hq3, hq4, hq5, hq6⟩ := abs_parts HF.out H1.out h2
  rw [HL.out] at hq2
  have hdd : (xs.drop 1).take (midC xs - 1) = (xs.drop 1).take q := by rw [hq3]; rfl
  have hee : xs.drop (midC xs) = xs.drop (q + 1) := by rw [hq3]
  obtain ⟨od, oe, hparts, hsl1, hsl2⟩ := parts_mk (c := c) hs HL.out hc hq1 hq2
  have HP := Lib.hid hparts; clear hparts
  obtain ⟨m, hm⟩ : ∃ m, n - (q + 1) = m := ⟨_, rfl⟩
  obtain ⟨cd, hcd⟩ : ∃ cd, c - 1 = cd := ⟨_, rfl⟩
  obtain ⟨ce, hce⟩ : ∃ ce, c - (q + 1) = ce := ⟨_, rfl⟩
  rw [hcd] at hsl1
  rw [hm, hce] at hsl2
  have hm1 : q + 1 + m ≤ n := by omega
  have hm2 : n ≤ q + 1 + m := by omega
  have hm3 : 0 < m := by omega
  have hcd1 : q ≤ cd := by omega
  have hce1 : m ≤ ce := by omega
  obtain ⟨D, hD⟩ : ∃ D, D = (xs.drop 1).take q := ⟨_, rfl⟩
  obtain ⟨E, hE⟩ : ∃ E, E = xs.drop (q + 1) := ⟨_, rfl⟩
  have HLD : Hid (D.length = q) := by unfold Hid; rw [hD, List.length_take, List.length_drop, HL.out]; omega
  have HLE : Hid (E.length = m) := by unfold Hid; rw [hE, List.length_drop, HL.out, hm]
  have HFD : Hid (fit kFol 1 D = true) := by rw [hD]; exact hq5
  have HFE : Hid (fit kFol 1 E = true) := by rw [hE]; exact hq6
  rw [← hD] at hdd
  rw [← hE] at hee
  have HSD : Hid (Sl w b od (rows R2.vs D)) := by rw [hD]; exact HP.out.d
  have HSE : Hid (Sl w b oe (rows R2.vs E)) := by rw [hE]; exact HP.out.e
  have H2 := Lib.hid h2
  have HDD := Lib.hid hdd; have HEE := Lib.hid hee
  have HQ4 := Lib.hid hq4
  clear h2 hD hE hdd hee hq3 hq4 hq5 hq6 HP hm hcd hce
  have hn2 : ((n : Int) == 1) = false := by simp; omega
  obtain ⟨y, HY⟩ := hget HLE hm3
  have hn3 := htest
  clear htest hn3
  have lD := absC_len k short _ D (Nat.le_refl _) HFD.out
  have lE := absC_len k short _ E (Nat.le_refl _) HFE.out
  rw [HLD.out] at lD
  rw [HLE.out] at lE
  obtain ⟨nd, hnd⟩ : ∃ nd, nd = (absC k short D).length := ⟨_, rfl⟩
  obtain ⟨ne, hne⟩ : ∃ ne, ne = (absC k short E).length := ⟨_, rfl⟩
  rw [← hnd] at lD
  rw [← hne] at lE
  have HND := Lib.hid hnd; have HNE := Lib.hid hne
  clear hnd hne
  have HIHD : Hid (∀ W, Below w.heap.size w W → Calls Try.prog 150 #[.int .i64 k, .slice (some ⟨b, od, none⟩) q cd, .bool short] W fun e w' => ∃ v, e = .returned v ∧ w'.ownsRow W.heap.size 136 2 v nd (rows R2.vs (absC k short D)) ∧ Below W.heap.size W w') := by
    intro W hW; rw [HND.out]; exact IH.out b od q cd k short D W (by omega) (HSD.out.below' hW) HLD.out (by omega) hcd1 HFD.out
  have HIHE : Hid (∀ W, Below w.heap.size w W → Calls Try.prog 150 #[.int .i64 k, .slice (some ⟨b, oe, none⟩) m ce, .bool short] W fun e w' => ∃ v, e = .returned v ∧ w'.ownsRow W.heap.size 136 2 v ne (rows R2.vs (absC k short E)) ∧ Below W.heap.size W w') := by
    intro W hW; rw [HNE.out]; exact IH.out b oe m ce k short E W (by omega) (HSE.out.below' hW) HLE.out (by omega) hce1 HFE.out
  clear IH
  have HR2W : Hid (∀ (W : World) (A1 A2 : Option Addr) (c1 c2 : Nat), Src 2 W (.slice A1 nd c1) nd (rows R2.vs (absC k short D)) → Src 2 W (.slice A2 ne c2) ne (rows R2.vs (absC k short E)) → Rws W [.slice A1 nd c1, .slice A2 ne c2] [absC k short D, absC k short E]) := by
    intro W A1 A2 c1 c2 s1 s2
    refine ⟨rfl, fun j v t h1 h2 => ?_⟩
    match j, h1, h2 with
    | 0, h1, h2 =>
      simp at h1 h2; subst h1 h2
      rw [← HND.out]
      exact ⟨s1, by omega⟩
    | 1, h1, h2 =>
      simp at h1 h2; subst h1 h2
      rw [← HNE.out]
      exact ⟨s2, by omega⟩
    | j + 2, h1, _ => simp at h1
  have HFL : Hid ([absC k short D, absC k short E].flatten.length = nd + ne) := by have := HND.out; have := HNE.out; unfold Hid; simp; omega
  -- the ways of the second test
  have hway : (short = true ∧ ((m : Int) == 1) = true ∧ isV k y = true ∧ oneV k E = true) ∨ ((short && oneV k E) = false ∧ (short = false ∨ (short = true ∧ ((m : Int) == 1) = false) ∨ (short = true ∧ ((m : Int) == 1) = true ∧ isV k y = false))) := by
    cases short with
    | false => exact .inr ⟨rfl, .inl rfl⟩
    | true =>
      by_cases hm1 : m = 1
      · have ho := oneV_one (k := k) HLE.out HY.out hm1
        cases hy : isV k y with
        | true => exact .inl ⟨rfl, by simp [hm1], rfl, by rw [ho, hy]⟩
        | false => exact .inr ⟨by rw [ho, hy]; rfl, .inr (.inr ⟨rfl, by simp [hm1], rfl⟩)⟩
      · exact .inr ⟨by rw [oneV_ne HLE.out hm1]; rfl, .inr (.inl ⟨rfl, by simp; omega⟩)⟩
  have hq21 : (1 : Int) ≤ (q : Int) + 1 := by omega
  have hm31 : (0 : Int) < (m : Int) := by omega
  rcases hway with ⟨g1, g2, g3, g5⟩ | ⟨g0, hway⟩
  · -- e is the variable
    have G5 := Lib.hid g5; clear g5
    subst g1
    have hqy := eqVar_run y k true g3
    clear g3
    rcases Bool.eq_false_or_eq_true (hasV k D) with h3 | h3
    rotate_left
    · have HR : Hid (absC k true xs = D) := abs_eta H1.out H2.out HDD.out HEE.out (by rw [G5.out, h3]; rfl)
      have H3 := Lib.hid h3
      clear h3
      go_enter Try.func150, Try.ntmps150
      go_wp2
      rw [← HW.out]
      go_quiet (fail)
      have hBd := below_drewN hB0 nq
      have kd0 : (w0.drewN nq).cell? ⟨w.heap.size, 0, none⟩ = some (.int .i64 4) := k0
      have kd1 : (w0.drewN nq).cell? ⟨w.heap.size, 1, none⟩ = some (.int .i64 k) := k1
      clear k0 k1 p0 p1 HW hB0
      generalize w0.drewN nq = w1 at hBd kd0 kd1 ⊢
      go_wp2_with fail
      refine (containsComb_is b off n c xs k true H2.out _ (hs.below' hBd) HL.out (by omega)).mono ?_
      rintro e w2 ⟨rfl, hb2⟩
      have hB2 := below_step hBd hb2
      have ke0 := cell_step kd0 hb2
      have ke1 := cell_step kd1 hb2
      clear kd0 kd1 hb2 hBd
      go_wp2_with fail
      refine (combEnd_any _ n c 1 xs _ (HA.out.below hB2) (by omega) (by omega)).mono ?_
      rintro e w3 ⟨he, hb3⟩
      rw [HQ4.out] at he
      subst he
      have hB3 := below_step hB2 hb3
      have kf0 := cell_step ke0 hb3
      have kf1 := cell_step ke1 hb3
      clear ke0 ke1 hb3 hB2
      obtain ⟨y0, y1⟩ := (HSE.out.below' hB3).rec2 HY.out
      simp only [Nat.zero_mul, Nat.add_zero] at y0 y1
      have HB3 := Lib.hid hB3
      go_wp2
      go_quiet (fail)
      have hB4 := below_drewN hB3 nq
      have kg0 : (w3.drewN nq).cell? ⟨w.heap.size, 0, none⟩ = some (.int .i64 4) := kf0
      have kg1 : (w3.drewN nq).cell? ⟨w.heap.size, 1, none⟩ = some (.int .i64 k) := kf1
      have yg0 : (w3.drewN nq).cell? ⟨b, oe, none⟩ = some (.int .i64 y.a) := y0
      have yg1 : (w3.drewN nq).cell? ⟨b, oe + 1, none⟩ = some (.int .i64 y.b) := y1
      clear kf0 kf1 y0 y1 hB3 HB3 hsl1 hsl2
      generalize w3.drewN nq = w4 at hB4 kg0 kg1 yg0 yg1 ⊢
      go_wp2
      go_region_held3 (fun w' => w'.cell? ⟨w.heap.size, 0, none⟩ = some (.int .i64 4) ∧ w'.cell? ⟨w.heap.size, 1, none⟩ = some (.int .i64 k) ∧ w'.cell? ⟨b, oe, none⟩ = some (.int .i64 y.a) ∧ w'.cell? ⟨b, oe + 1, none⟩ = some (.int .i64 y.b)) (first | go_keep | exact ⟨cell_step (by exact kg0) hb5, cell_step (by exact kg1) hb5, cell_step (by exact yg0) hb5, cell_step (by exact yg1) hb5⟩) ((first | (go_at_call 191; refine (containsComb_is b od q cd D k false H3.out _ (HSD.out.below' hB4.drew) HLD.out (by omega)).mono ?_; rintro e w5 ⟨rfl, hb5⟩)))
      have hB5 := below_step hB4 (below_drew_at hb5)
      clear hb5 kg0 kg1 yg0 yg1
      go_wp2_with fail
      refine (clone_Comb_any _ q D _ (Src.of_sl (HSD.out.below' hB5) (by rw [rows_len R2.vs_len, HLD.out])) (by omega)).mono ?_
      rintro e w6 ⟨v6, rfl, hown6, hb6⟩
      go_wp2
      go_ret
      exact ⟨_, rfl, by rw [HR.out, HLD.out]; exact own_base hown6 hB5.size, below_step hB5 hb6⟩
    · have HR : Hid (absC k true xs = _) := abs_app H1.out H2.out HDD.out HEE.out (by rw [G5.out, h3]; rfl)
      have H3 := Lib.hid h3
      clear h3
      go_enter Try.func150, Try.ntmps150
      go_wp2
      rw [← HW.out]
      go_quiet (fail)
      have hBd := below_drewN hB0 nq
      have kd0 : (w0.drewN nq).cell? ⟨w.heap.size, 0, none⟩ = some (.int .i64 4) := k0
      have kd1 : (w0.drewN nq).cell? ⟨w.heap.size, 1, none⟩ = some (.int .i64 k) := k1
      clear k0 k1 p0 p1 HW hB0
      generalize w0.drewN nq = w1 at hBd kd0 kd1 ⊢
      go_wp2_with fail
      refine (containsComb_is b off n c xs k true H2.out _ (hs.below' hBd) HL.out (by omega)).mono ?_
      rintro e w2 ⟨rfl, hb2⟩
      have hB2 := below_step hBd hb2
      have ke0 := cell_step kd0 hb2
      have ke1 := cell_step kd1 hb2
      clear kd0 kd1 hb2 hBd
      go_wp2_with fail
      refine (combEnd_any _ n c 1 xs _ (HA.out.below hB2) (by omega) (by omega)).mono ?_
      rintro e w3 ⟨he, hb3⟩
      rw [HQ4.out] at he
      subst he
      have hB3 := below_step hB2 hb3
      have kf0 := cell_step ke0 hb3
      have kf1 := cell_step ke1 hb3
      clear ke0 ke1 hb3 hB2
      obtain ⟨y0, y1⟩ := (HSE.out.below' hB3).rec2 HY.out
      simp only [Nat.zero_mul, Nat.add_zero] at y0 y1
      have HB3 := Lib.hid hB3
      go_wp2
      go_quiet (fail)
      have hB4 := below_drewN hB3 nq
      have kg0 : (w3.drewN nq).cell? ⟨w.heap.size, 0, none⟩ = some (.int .i64 4) := kf0
      have kg1 : (w3.drewN nq).cell? ⟨w.heap.size, 1, none⟩ = some (.int .i64 k) := kf1
      have yg0 : (w3.drewN nq).cell? ⟨b, oe, none⟩ = some (.int .i64 y.a) := y0
      have yg1 : (w3.drewN nq).cell? ⟨b, oe + 1, none⟩ = some (.int .i64 y.b) := y1
      clear kf0 kf1 y0 y1 hB3 HB3 hsl1 hsl2
      generalize w3.drewN nq = w4 at hB4 kg0 kg1 yg0 yg1 ⊢
      go_wp2
      go_region_held3 (fun w' => w'.cell? ⟨w.heap.size, 0, none⟩ = some (.int .i64 4) ∧ w'.cell? ⟨w.heap.size, 1, none⟩ = some (.int .i64 k) ∧ w'.cell? ⟨b, oe, none⟩ = some (.int .i64 y.a) ∧ w'.cell? ⟨b, oe + 1, none⟩ = some (.int .i64 y.b)) (first | go_keep | exact ⟨cell_step (by exact kg0) hb5, cell_step (by exact kg1) hb5, cell_step (by exact yg0) hb5, cell_step (by exact yg1) hb5⟩) ((first | (go_at_call 191; refine (containsComb_is b od q cd D k true H3.out _ (HSD.out.below' hB4.drew) HLD.out (by omega)).mono ?_; rintro e w5 ⟨rfl, hb5⟩)))
      have hB5 := below_step hB4 (below_drew_at hb5)
      clear hb5 kg0 kg1 yg0 yg1
      go_wp2_with fail
      refine (atom_any 1 _).mono ?_
      rintro e w6 ⟨v6, rfl, hown6, hb6⟩
      have hB6 := below_step hB5 hb6
      obtain ⟨A6, c6, rfl⟩ := own_form hown6
      go_wp2_with fail
      refine (HIHD.out _ hB6).mono ?_
      rintro e w7 ⟨v7, rfl, hown7, hb7⟩
      have hB7 := below_step hB6 hb7
      obtain ⟨A7, c7, rfl⟩ := own_form hown7
      have hs6 := (Src.of_own hown6).below hb7
      clear hown6 hb6 hb7
      go_wp2_with fail
      refine (HIHE.out _ hB7).mono ?_
      rintro e w8 ⟨v8, rfl, hown8, hb8⟩
      have hB8 := below_step hB7 hb8
      obtain ⟨A8, c8, rfl⟩ := own_form hown8
      have hs6' := hs6.below hb8
      have hs7 := (Src.of_own hown7).below hb8
      have hs8 := Src.of_own hown8
      clear hs6 hown7 hown8 hb8
      have hb9 := laid_below w8 (.cells #[.slice A7 nd c7, .slice A8 ne c8] 64)
      have hsl9 : Sl (w8.alloc (.cells #[.slice A7 nd c7, .slice A8 ne c8] 64)) w8.heap.size 0 [.slice A7 nd c7, .slice A8 ne c8] := sl_laid w8 _ _
      go_wp2_with fail
      refine (applyComb_any A6 1 c6 [⟨1, 0⟩] w8.heap.size 0 2 2 _ _ _ (hs6'.below hb9) hsl9 (HR2W.out _ _ _ _ _ (hs7.below hb9) (hs8.below hb9)) rfl (by omega) (by omega) (by rw [HFL.out]; omega)).mono ?_
      rintro e w10 ⟨v10, rfl, hown10, hb10⟩
      rw [HFL.out] at hown10
      obtain ⟨A10, c10, rfl⟩ := own_form hown10
      go_wp2
      go_ret
      refine ⟨_, rfl, ?_, below_step hB8 (below_step hb9 hb10)⟩
      have h12 := own_base hown10 (Nat.le_trans hB8.size hb9.size)
      have hl12 : ∀ (s : Bool), (⟨0, 0⟩ :: ⟨0, 0⟩ :: ⟨1, 0⟩ :: (absC k s D ++ absC k s E) : List R2).length = 2 + 1 + ((absC k s D).length + (absC k s E).length) := by intro s; simp; omega
      have hr12 : ∀ (u v : List R2), (⟨0, 0⟩ :: ⟨0, 0⟩ :: ⟨1, 0⟩ :: (u ++ v) : List R2) = List.replicate 2 ⟨0, 0⟩ ++ [⟨1, 0⟩] ++ [u, v].flatten := by intro u v; simp [List.replicate]
      rw [HR.out, hl12, ← HND.out, ← HNE.out, hr12]
      exact h12
  · have HR : Hid (absC k short xs = _) := abs_app H1.out H2.out HDD.out HEE.out (by rw [g0]; rfl)
    clear g0
    have hqy : ∀ r, isV k y = r → ∀ w, Sem.run Try.prog (binOp .eql 136 (.agg #[.int .i64 y.a, .int .i64 y.b]) (.agg #[.int .i64 4, .int .i64 k])) w = .ok (.bool r) w := fun r h => eqVar_run y k r h
    have HQY := Lib.hid hqy; clear hqy
    rcases hway with g1 | ⟨g1, g2⟩ | ⟨g1, g2, g3⟩
    rotate_right
    have hqy := HQY.out false g3
    clear g3
    all_goals
      subst g1
      go_enter Try.func150, Try.ntmps150
      go_wp2
      rw [← HW.out]
      go_quiet (fail)
      have hBd := below_drewN hB0 nq
      have kd0 : (w0.drewN nq).cell? ⟨w.heap.size, 0, none⟩ = some (.int .i64 4) := k0
      have kd1 : (w0.drewN nq).cell? ⟨w.heap.size, 1, none⟩ = some (.int .i64 k) := k1
      clear k0 k1 p0 p1 HW hB0
      generalize w0.drewN nq = w1 at hBd kd0 kd1 ⊢
      go_wp2_with fail
      refine (containsComb_is b off n c xs k true H2.out _ (hs.below' hBd) HL.out (by omega)).mono ?_
      rintro e w2 ⟨rfl, hb2⟩
      have hB2 := below_step hBd hb2
      have ke0 := cell_step kd0 hb2
      have ke1 := cell_step kd1 hb2
      clear kd0 kd1 hb2 hBd
      go_wp2_with fail
      refine (combEnd_any _ n c 1 xs _ (HA.out.below hB2) (by omega) (by omega)).mono ?_
      rintro e w3 ⟨he, hb3⟩
      rw [HQ4.out] at he
      subst he
      have hB3 := below_step hB2 hb3
      have kf0 := cell_step ke0 hb3
      have kf1 := cell_step ke1 hb3
      clear ke0 ke1 hb3 hB2
      obtain ⟨y0, y1⟩ := (HSE.out.below' hB3).rec2 HY.out
      simp only [Nat.zero_mul, Nat.add_zero] at y0 y1
      have HB3 := Lib.hid hB3
      go_wp2
      go_quiet (fail)
      have hB4 := below_drewN hB3 nq
      have kg0 : (w3.drewN nq).cell? ⟨w.heap.size, 0, none⟩ = some (.int .i64 4) := kf0
      have kg1 : (w3.drewN nq).cell? ⟨w.heap.size, 1, none⟩ = some (.int .i64 k) := kf1
      have yg0 : (w3.drewN nq).cell? ⟨b, oe, none⟩ = some (.int .i64 y.a) := y0
      have yg1 : (w3.drewN nq).cell? ⟨b, oe + 1, none⟩ = some (.int .i64 y.b) := y1
      clear kf0 kf1 y0 y1 hB3 HB3 hsl1 hsl2
      generalize w3.drewN nq = w4 at hB4 kg0 kg1 yg0 yg1 ⊢
      go_wp2
      go_quiet (fail)
      have hB5 := below_drewN hB4 nq
      clear kg0 kg1 yg0 yg1
      generalize w4.drewN nq = w5 at hB5 ⊢
      go_wp2_with fail
      refine (atom_any 1 _).mono ?_
      rintro e w6 ⟨v6, rfl, hown6, hb6⟩
      have hB6 := below_step hB5 hb6
      obtain ⟨A6, c6, rfl⟩ := own_form hown6
      go_wp2_with fail
      refine (HIHD.out _ hB6).mono ?_
      rintro e w7 ⟨v7, rfl, hown7, hb7⟩
      have hB7 := below_step hB6 hb7
      obtain ⟨A7, c7, rfl⟩ := own_form hown7
      have hs6 := (Src.of_own hown6).below hb7
      clear hown6 hb6 hb7
      go_wp2_with fail
      refine (HIHE.out _ hB7).mono ?_
      rintro e w8 ⟨v8, rfl, hown8, hb8⟩
      have hB8 := below_step hB7 hb8
      obtain ⟨A8, c8, rfl⟩ := own_form hown8
      have hs6' := hs6.below hb8
      have hs7 := (Src.of_own hown7).below hb8
      have hs8 := Src.of_own hown8
      clear hs6 hown7 hown8 hb8
      have hb9 := laid_below w8 (.cells #[.slice A7 nd c7, .slice A8 ne c8] 64)
      have hsl9 : Sl (w8.alloc (.cells #[.slice A7 nd c7, .slice A8 ne c8] 64)) w8.heap.size 0 [.slice A7 nd c7, .slice A8 ne c8] := sl_laid w8 _ _
      go_wp2_with fail
      refine (applyComb_any A6 1 c6 [⟨1, 0⟩] w8.heap.size 0 2 2 _ _ _ (hs6'.below hb9) hsl9 (HR2W.out _ _ _ _ _ (hs7.below hb9) (hs8.below hb9)) rfl (by omega) (by omega) (by rw [HFL.out]; omega)).mono ?_
      rintro e w10 ⟨v10, rfl, hown10, hb10⟩
      rw [HFL.out] at hown10
      obtain ⟨A10, c10, rfl⟩ := own_form hown10
      go_wp2
      go_ret
      refine ⟨_, rfl, ?_, below_step hB8 (below_step hb9 hb10)⟩
      have h12 := own_base hown10 (Nat.le_trans hB8.size hb9.size)
      have hl12 : ∀ (s : Bool), (⟨0, 0⟩ :: ⟨0, 0⟩ :: ⟨1, 0⟩ :: (absC k s D ++ absC k s E) : List R2).length = 2 + 1 + ((absC k s D).length + (absC k s E).length) := by intro s; simp; omega
      have hr12 : ∀ (u v : List R2), (⟨0, 0⟩ :: ⟨0, 0⟩ :: ⟨1, 0⟩ :: (u ++ v) : List R2) = List.replicate 2 ⟨0, 0⟩ ++ [⟨1, 0⟩] ++ [u, v].flatten := by intro u v; simp [List.replicate]
      rw [HR.out, hl12, ← HND.out, ← HNE.out, hr12]
      exact h12
end Go.Proofs.Ytfmfpknigafnoaa
