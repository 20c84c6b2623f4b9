/- From lambda terms to combinator terms: the reference's l18Comb. -/
import Derived.Test.YtfmfpknigafnoaaLams
import Derived.Test.YtfmfpknigafnoaaCombAbs2
import Derived.Test.YtfmfpknigafnoaaSGrid
import Derived.Test.YtfmfpknigafnoaaAppAt
import Derived.Test.YtfmfpknigafnoaaTermMore
namespace Go.Proofs.Ytfmfpknigafnoaa
open Go.RowKit
set_option linter.all false

theorem lamC_fit (ix : Int → Int → Int) (bx : Int → Int) (short : Bool) (N : Nat) : ∀ (t : List R2) (dep : Int) (c : List R2), t.length ≤ N → t.all lOk = true → lamC ix bx short dep t = some c → c.length ≤ 400 ∧ fit kFol 1 c = true := by
  induction N with
  | zero => intro t dep c h _ hc; have : t = [] := List.length_eq_zero_iff.1 (by omega); subst this; rw [lamC] at hc; cases hc
  | succ N ih =>
    intro t dep c h hok hc
    cases t with
    | nil => rw [lamC] at hc; cases hc
    | cons x l =>
      simp only [List.all_cons, Bool.and_eq_true] at hok
      have hx := lOk_cases hok.1
      have hl : l.length ≤ N := by simp at h; omega
      have hall : ∀ m, (l.take m).all lOk = true ∧ (l.drop m).all lOk = true := fun m => ⟨List.all_eq_true.2 fun y hy => List.all_eq_true.1 hok.2 y (List.mem_of_mem_take hy), List.all_eq_true.2 fun y hy => List.all_eq_true.1 hok.2 y (List.mem_of_mem_drop hy)⟩
      by_cases h0 : x.a = 0
      · rw [lam_var _ _ _ _ h0] at hc
        injection hc with hc
        subst hc
        exact ⟨by simp, fit_one0 (by decide)⟩
      by_cases h1 : x.a = 1
      · cases h2 : lamC ix bx short (dep + 1) l with
        | none => rw [lam_abs_none _ _ _ _ h1 h2] at hc; cases hc
        | some b =>
          rw [lam_abs_some _ _ _ _ h1 h2] at hc
          obtain ⟨hc, hlen⟩ := capC_some hc
          exact ⟨hlen, hc ▸ absC_fit _ short _ b (Nat.le_refl _) (ih l (dep + 1) b hl hok.2 h2).2⟩
      have h2' : x.a = 2 := by omega
      cases h2 : lamC ix bx short dep (l.take (midL l)) with
      | none => rw [lam_app_none1 _ _ _ _ h2' h2] at hc; cases hc
      | some d =>
        cases h3 : lamC ix bx short dep (l.drop (midL l)) with
        | none => rw [lam_app_none2 _ _ _ _ h2' h2 h3] at hc; cases hc
        | some e =>
          rw [lam_app_some _ _ _ _ h2' h2 h3] at hc
          obtain ⟨hc, hlen⟩ := capC_some hc
          exact ⟨hlen, hc ▸ fit_ap (ih _ dep d (by rw [List.length_take]; omega) (hall _).1 h2).2 (ih _ dep e (by rw [List.length_drop]; omega) (hall _).2 h3).2⟩

/-- The parts of an application. -/
theorem lam_split {x : R2} {l : List R2} (hf : fit lFol 1 (x :: l) = true) (h : x.a = 2) : ∃ q, 0 < q ∧ q < l.length ∧ midL l = q ∧ (∀ k, tPos lFol k l = ((k + q : Nat) : Int)) ∧ fit lFol 1 (l.take q) = true ∧ fit lFol 1 (l.drop q) = true := by
  rw [show (1 : Nat) = 0 + 1 from rfl, fit_sc, lFol_2 h] at hf
  obtain ⟨q, h1, h2, h3, h4, h5⟩ := fit_split lFol l 1 1 0 hf
  have hne := fit_ne lFol _ 0 h4
  rw [List.length_drop] at hne
  refine ⟨q, h5 (by omega), by omega, ?_, fun k => ?_, h3, h4⟩
  · unfold midL tPos; rw [h2]; simp
  · exact tPosAt_from (q := q) h2 k

theorem partsL_mk {w : World} {b off n c q : Nat} {xs : List R2} (hs : Sl w b off (rows R2.vs xs)) (hl : xs.length = n) (hc : n ≤ c) (hq : 1 ≤ q) (hqn : q + 1 < n) :
    ∃ od oe, Parts w b off n c q xs od oe ∧ (∀ W, (Instr.slice 73 (.slice (some ⟨b, off, none⟩) n c) (some (.int .i64 1)) (some (.int .i64 ((q : Int) + 1))) none).run Try.prog W = .ok (.slice (some ⟨b, od, none⟩) q (c - 1)) W) ∧ (∀ W, (Instr.slice 73 (.slice (some ⟨b, off, none⟩) n c) (some (.int .i64 ((q : Int) + 1))) none none).run Try.prog W = .ok (.slice (some ⟨b, oe, none⟩) (n - (q + 1)) (c - (q + 1))) W) := by
  obtain ⟨od, hod, h1⟩ := run_slice_part (P := Try.prog) 73 138 Try.underlying73 infoLam b off n c 1 q 1 ((q : Int) + 1) rfl (by omega) (by omega)
  obtain ⟨oe, hoe, h2⟩ := run_slice_tailR (P := Try.prog) 73 138 Try.underlying73 infoLam b off n c (q + 1) ((q : Int) + 1) (by omega) (by omega) hc
  refine ⟨od, oe, ⟨?_, ?_⟩, h1, h2⟩
  · have ho : od = off + 1 * 2 := by omega
    subst ho
    exact hs.part R2.vs_len 1 q
  · have ho : oe = off + (q + 1) * 2 := by omega
    subst ho
    have := hs.part R2.vs_len (q + 1) (n - (q + 1))
    rw [List.take_of_length_le (by rw [List.length_drop]; omega)] at this
    exact this

/-- What the reference gives for a term. -/
def CombOk (w : World) (cs : List R2) (e : Ending) (w' : World) : Prop := (∃ v, e = .returned (.tuple #[v, .bool true]) ∧ w'.ownsRow w.heap.size 136 2 v cs.length (rows R2.vs cs)) ∧ Below w.heap.size w w'
def CombNot (w : World) (e : Ending) (w' : World) : Prop := (∃ v, e = .returned (.tuple #[v, .bool false])) ∧ Below w.heap.size w w'

set_option maxRecDepth 100000 in
set_option maxHeartbeats 2000000 in
theorem l18Comb_any (N : Nat) : ∀ (b off n c : Nat) (dep : Int) (short : Bool) (xs : List R2) (w : World), n ≤ N → Sl w b off (rows R2.vs xs) → xs.length = n → n ≤ 400 → n ≤ c → 0 ≤ dep → dep + n ≤ 400 → fit lFol 1 xs = true → xs.all lOk = true →
    (∀ cs, lamC ixS bxS short dep xs = some cs → Calls Try.prog 94 #[.slice (some ⟨b, off, none⟩) n c, .int .i64 dep, .bool short] w (CombOk w cs)) ∧
    (lamC ixS bxS short dep xs = none → Calls Try.prog 94 #[.slice (some ⟨b, off, none⟩) n c, .int .i64 dep, .bool short] w (CombNot w)) := by
  induction N with
  | zero => intro b off n c dep short xs w hN hs hl hn hc hd0 hd hf hok; have := fit_ne lFol xs 0 hf; omega
  | succ N ih =>
  intro b off n c dep short xs w hN hs hl hn hc hd0 hd hf hok
  have IH := Lib.hid ih; clear ih
  cases xs with
  | nil => have := fit_ne lFol [] 0 hf; simp at this
  | cons x l =>
  have HL := Lib.hid hl
  have HF := Lib.hid hf
  have HOK := Lib.hid hok
  simp only [List.all_cons, Bool.and_eq_true] at hok
  have hx := lOk_cases hok.1
  have HLK : Hid (l.all lOk = true) := hok.2
  have HLL : Hid (l.length + 1 = n) := by unfold Hid; rw [← hl]; rfl
  have hn0 : 0 < n := by have := HLL.out; omega
  have HX : Hid ((x :: l)[0]? = some x) := rfl
  obtain ⟨p0, p1⟩ := (hs.below' (laid_below w (.cells #[] 136))).rec2 HX.out
  simp only [Nat.zero_mul, Nat.add_zero] at p0 p1
  have hn0' : (0 : Int) < (n : Int) := by omega
  clear hf hl hok
  rcases hx with ⟨ha, hb0, hb9⟩ | ha | ha
  · -- a variable
    have HV := Lib.hid (lam_var (l := l) ixS bxS short dep ha)
    obtain ⟨xa, xb⟩ := x
    simp only at ha hb0 hb9 p0 p1
    subst ha
    have ownE := own_empty w 136 2
    have B0 := laid_below w (.cells #[] 136)
    refine ⟨fun cs hcs => ?_, fun hno => by rw [HV.out] at hno; cases hno⟩
    rw [HV.out] at hcs
    injection hcs with hcs
    have HC := Lib.hid hcs; clear hcs
    by_cases hneg : xb - dep < 0
    · have HI : Hid (ixS xb dep = 400 + dep - 1 - xb) := by unfold Hid ixS; rw [if_pos hneg]
      go_enter Try.func94, Try.ntmps94
      go_wp2_with (at_builtin; refine wpList_app rfl _ _ _ rfl Try.underlying64 infoComb rfl (by omega) w (w.alloc (.cells #[] 136)) ownE B0 rfl 1 #[.int .i64 4, .int .i64 (400 + dep - 1 - xb)] (by first | rfl | (simp; rfl)) (laid_below _ _) (heap_alloc_new _ _) rfl (by simp [Value.oneCell']) (by omega) (by unfold maxLen; omega) (by omega) ?_; intro g cap w2 hown2 hB2)
      go_ret2
      rw [← HC.out, HI.out]
      exact ⟨⟨_, rfl, hown2⟩, hB2⟩
    · have HI : Hid (ixS xb dep = xb - dep) := by unfold Hid ixS; rw [if_neg hneg]
      go_enter Try.func94, Try.ntmps94
      go_wp2_with (at_builtin; refine wpList_app rfl _ _ _ rfl Try.underlying64 infoComb rfl (by omega) w (w.alloc (.cells #[] 136)) ownE B0 rfl 1 #[.int .i64 4, .int .i64 (xb - dep)] (by first | rfl | (simp; rfl)) (laid_below _ _) (heap_alloc_new _ _) rfl (by simp [Value.oneCell']) (by omega) (by unfold maxLen; omega) (by omega) ?_; intro g cap w2 hown2 hB2)
      go_ret2
      rw [← HC.out, HI.out]
      exact ⟨⟨_, rfl, hown2⟩, hB2⟩
  · -- an abstraction
    have hfl : fit lFol 1 l = true := by have := HF.out; rw [show (1 : Nat) = 0 + 1 from rfl, fit_sc, lFol_1 ha] at this; exact this
    have hne := fit_ne lFol l 0 hfl
    have hn2 : 2 ≤ n := by have := HLL.out; omega
    obtain ⟨o1, ho1, hsl⟩ := run_slice_tailR (P := Try.prog) 73 138 Try.underlying73 infoLam b off n c 1 1 rfl (by omega) hc
    obtain ⟨m, hm⟩ : ∃ m, n - 1 = m := ⟨_, rfl⟩
    obtain ⟨c1, hc1⟩ : ∃ c1, c - 1 = c1 := ⟨_, rfl⟩
    rw [hm, hc1] at hsl
    have ho : o1 = off + 1 * 2 := by omega
    have HSD : Hid (Sl w b o1 (rows R2.vs l)) := by
      rw [ho]
      have := hs.part R2.vs_len 1 m
      rw [List.drop_succ_cons, List.drop_zero, List.take_of_length_le (by have := HLL.out; omega)] at this
      exact this
    have HLm : Hid (l.length = m) := by have := HLL.out; unfold Hid; omega
    have hm1 : m + 1 ≤ n := by omega
    have hcm : m ≤ c1 := by omega
    have hmN : m ≤ N := by omega
    have HIH : Hid (∀ W, Below w.heap.size w W → _) := fun W hW => IH.out b o1 m c1 (dep + 1) short l W hmN (HSD.out.below' hW) HLm.out (by omega) hcm (by omega) (by omega) hfl HLK.out
    have B0 := laid_below w (.cells #[] 136)
    have e0 : (x.a == 0) = false := by rw [ha]; rfl
    have e1 : (x.a == 1) = true := by rw [ha]; rfl
    clear hm hc1 ho ho1 hfl HF
    cases h2 : lamC ixS bxS short (dep + 1) l with
    | none =>
      have HN := Lib.hid (lam_abs_none _ _ _ _ ha h2)
      have H2 := Lib.hid h2
      clear h2 ha
      refine ⟨fun cs hcs => (by rw [HN.out] at hcs; cases hcs), fun _ => ?_⟩
      go_enter Try.func94, Try.ntmps94
      go_wp2_with fail
      refine ((HIH.out _ B0).2 H2.out).mono ?_
      rintro e w2 ⟨⟨v2, rfl⟩, b2⟩
      have B2 := below_step B0 b2
      go_wp2
      go_ret2
      exact ⟨⟨_, rfl⟩, B2⟩
    | some bd =>
      have HN := Lib.hid (lam_abs_some _ _ _ _ ha h2)
      have H2 := Lib.hid h2
      obtain ⟨hbl, hbf⟩ := lamC_fit _ _ _ _ _ _ _ (Nat.le_refl _) HLK.out h2
      have HBF := Lib.hid hbf
      obtain ⟨k, hk⟩ : ∃ k, k = bd.length := ⟨_, rfl⟩
      rw [← hk] at hbl
      have HK := Lib.hid hk
      have hbne := fit_ne kFol bd 0 hbf
      rw [← hk] at hbne
      have lA := absC_len (400 + dep) short _ bd (Nat.le_refl _) hbf
      rw [← hk] at lA
      obtain ⟨z, hz⟩ : ∃ z, z = (absC (400 + dep) short bd).length := ⟨_, rfl⟩
      rw [← hz] at lA
      have HZ := Lib.hid hz
      have HBX : Hid (bxS dep = 400 + dep) := rfl
      clear h2 ha hk hz hbf
      by_cases hz4 : z ≤ 400
      · have HR : Hid (lamC ixS bxS short dep (x :: l) = some (absC (400 + dep) short bd)) := by unfold Hid; rw [HN.out, HBX.out, capC_yes (by rw [← HZ.out]; exact hz4)]
        have ez : decide ((z : Int) ≤ 400) = true := decide_eq_true (by omega)
        refine ⟨fun cs hcs => ?_, fun hno => by rw [HR.out] at hno; cases hno⟩
        rw [HR.out] at hcs
        injection hcs with hcs
        have HC := Lib.hid hcs; clear hcs
        go_enter Try.func94, Try.ntmps94
        go_wp2_with fail
        refine ((HIH.out _ B0).1 bd H2.out).mono ?_
        rintro e w2 ⟨⟨v2, rfl, own2⟩, b2⟩
        have B2 := below_step B0 b2
        rw [← HK.out] at own2
        obtain ⟨A2, c2, rfl⟩ := own_form own2
        obtain ⟨g2, rfl, _, _⟩ := own_addr0 own2 hbne
        have hc2 := own_cap' own2 _ _ rfl
        go_wp2_with fail
        refine (l18Abstract_any k g2 0 k c2 (400 + dep) short bd _ (Nat.le_refl _) (sl_of_own own2) HK.out.symm (by omega) hc2 HBF.out).mono ?_
        rintro e w3 ⟨v3, rfl, own3, b3⟩
        have B3 := below_step B2 b3
        rw [← HZ.out] at own3
        obtain ⟨A3, c3, rfl⟩ := own_form own3
        go_wp2
        go_ret2
        rw [← HC.out]
        exact ⟨⟨_, rfl, by rw [← HZ.out]; exact own_base own3 B2.size⟩, B3⟩
      · have HR : Hid (lamC ixS bxS short dep (x :: l) = none) := by unfold Hid; rw [HN.out, HBX.out, capC_no (by rw [← HZ.out]; omega)]
        have ez : decide ((z : Int) ≤ 400) = false := decide_eq_false (by omega)
        refine ⟨fun cs hcs => (by rw [HR.out] at hcs; cases hcs), fun _ => ?_⟩
        go_enter Try.func94, Try.ntmps94
        go_wp2_with fail
        refine ((HIH.out _ B0).1 bd H2.out).mono ?_
        rintro e w2 ⟨⟨v2, rfl, own2⟩, b2⟩
        have B2 := below_step B0 b2
        rw [← HK.out] at own2
        obtain ⟨A2, c2, rfl⟩ := own_form own2
        obtain ⟨g2, rfl, _, _⟩ := own_addr0 own2 hbne
        have hc2 := own_cap' own2 _ _ rfl
        go_wp2_with fail
        refine (l18Abstract_any k g2 0 k c2 (400 + dep) short bd _ (Nat.le_refl _) (sl_of_own own2) HK.out.symm (by omega) hc2 HBF.out).mono ?_
        rintro e w3 ⟨v3, rfl, own3, b3⟩
        have B3 := below_step B2 b3
        rw [← HZ.out] at own3
        obtain ⟨A3, c3, rfl⟩ := own_form own3
        go_wp2
        go_ret2
        exact ⟨⟨_, rfl⟩, B3⟩
  · -- an application
    obtain ⟨q, q1, q2, q3, q4, q5, q6⟩ := lam_split HF.out ha
    have HQ4 : Hid (tPos lFol 1 ((x :: l).drop 1) = ((q + 1 : Nat) : Int)) := by unfold Hid; rw [List.drop_succ_cons, List.drop_zero, q4 1, Nat.add_comm]
    have hqn : q + 1 < n := by have := HLL.out; omega
    obtain ⟨od, oe, hparts, hsl1, hsl2⟩ := partsL_mk (c := c) hs HL.out hc q1 hqn
    have HP := Lib.hid hparts; clear hparts
    obtain ⟨m, hm⟩ : ∃ m, n - (q + 1) = m := ⟨_, rfl⟩
    obtain ⟨cd, hcd⟩ : ∃ cd, c - 1 = cd := ⟨_, rfl⟩
    obtain ⟨ce, hce⟩ : ∃ ce, c - (q + 1) = ce := ⟨_, rfl⟩
    rw [hcd] at hsl1
    rw [hm, hce] at hsl2
    have hm1 : q + 1 + m ≤ n := by omega
    have hm3 : 0 < m := by omega
    have hcd1 : q ≤ cd := by omega
    have hce1 : m ≤ ce := by omega
    have hqN : q ≤ N := by omega
    have hmN : m ≤ N := by omega
    obtain ⟨D, hD⟩ : ∃ D, D = l.take q := ⟨_, rfl⟩
    obtain ⟨E, hE⟩ : ∃ E, E = l.drop q := ⟨_, rfl⟩
    have HLD : Hid (D.length = q) := by unfold Hid; rw [hD, List.length_take]; omega
    have HLE : Hid (E.length = m) := by have := HLL.out; unfold Hid; rw [hE, List.length_drop]; omega
    have HFD : Hid (fit lFol 1 D = true) := by rw [hD]; exact q5
    have HFE : Hid (fit lFol 1 E = true) := by rw [hE]; exact q6
    have HKD : Hid (D.all lOk = true) := by rw [hD]; exact List.all_eq_true.2 fun y hy => List.all_eq_true.1 HLK.out y (List.mem_of_mem_take hy)
    have HKE : Hid (E.all lOk = true) := by rw [hE]; exact List.all_eq_true.2 fun y hy => List.all_eq_true.1 HLK.out y (List.mem_of_mem_drop hy)
    have HSD : Hid (Sl w b od (rows R2.vs D)) := by rw [hD]; exact HP.out.d
    have HSE : Hid (Sl w b oe (rows R2.vs E)) := by rw [hE]; exact HP.out.e
    have HTD : Hid (l.take (midL l) = D) := by unfold Hid; rw [q3]; exact hD.symm
    have HTE : Hid (l.drop (midL l) = E) := by unfold Hid; rw [q3]; exact hE.symm
    have HID : Hid (∀ W, Below w.heap.size w W → _) := fun W hW => IH.out b od q cd dep short D W hqN (HSD.out.below' hW) HLD.out (by omega) hcd1 hd0 (by omega) HFD.out HKD.out
    have HIE : Hid (∀ W, Below w.heap.size w W → _) := fun W hW => IH.out b oe m ce dep short E W hmN (HSE.out.below' hW) HLE.out (by omega) hce1 hd0 (by omega) HFE.out HKE.out
    have HAW : Hid (∀ W, Below w.heap.size w W → Args 2 W (some ⟨b, off, none⟩) n (rows R2.vs (x :: l))) := fun W hW => Args.of_sl (hs.below' hW) (by rw [rows_len R2.vs_len, HL.out])
    have B0 := laid_below w (.cells #[] 136)
    have e0 : (x.a == 0) = false := by rw [ha]; rfl
    have e1 : (x.a == 1) = false := by rw [ha]; rfl
    have e2 : (x.a == 2) = true := by rw [ha]; rfl
    clear hD hE hm hcd hce q4 q5 q6 HP q3 HF
    cases h1 : lamC ixS bxS short dep D with
    | none =>
      have HN : Hid (lamC ixS bxS short dep (x :: l) = none) := lam_app_none1 _ _ _ _ ha (by rw [HTD.out]; exact h1)
      have H1 := Lib.hid h1
      clear h1 ha
      refine ⟨fun cs hcs => (by rw [HN.out] at hcs; cases hcs), fun _ => ?_⟩
      cases h2 : lamC ixS bxS short dep E with
      | none =>
        have H2 := Lib.hid h2; clear h2
        go_enter Try.func94, Try.ntmps94
        go_wp2_with fail
        refine (l12End_any _ n c 1 (q + 1) (x :: l) _ (HAW.out _ B0) (by omega) HQ4.out (by omega)).mono ?_
        rintro e w1 ⟨rfl, rfl⟩
        go_wp2_with fail
        refine ((HID.out _ B0).2 H1.out).mono ?_
        rintro e w2 ⟨⟨v2, rfl⟩, b2⟩
        have B2 := below_step B0 b2
        go_wp2_with fail
        refine ((HIE.out _ B2).2 H2.out).mono ?_
        rintro e w3 ⟨⟨v3, rfl⟩, b3⟩
        have B3 := below_step B2 b3
        go_wp2
        go_ret2
        exact ⟨⟨_, rfl⟩, B3⟩
      | some ce2 =>
        have H2 := Lib.hid h2; clear h2
        go_enter Try.func94, Try.ntmps94
        go_wp2_with fail
        refine (l12End_any _ n c 1 (q + 1) (x :: l) _ (HAW.out _ B0) (by omega) HQ4.out (by omega)).mono ?_
        rintro e w1 ⟨rfl, rfl⟩
        go_wp2_with fail
        refine ((HID.out _ B0).2 H1.out).mono ?_
        rintro e w2 ⟨⟨v2, rfl⟩, b2⟩
        have B2 := below_step B0 b2
        go_wp2_with fail
        refine ((HIE.out _ B2).1 ce2 H2.out).mono ?_
        rintro e w3 ⟨⟨v3, rfl, -⟩, b3⟩
        have B3 := below_step B2 b3
        go_wp2
        go_ret2
        exact ⟨⟨_, rfl⟩, B3⟩
    | some d =>
      have H1 := Lib.hid h1
      obtain ⟨hd4, hdf⟩ := lamC_fit _ _ _ _ _ _ _ (Nat.le_refl _) HKD.out h1
      cases h2 : lamC ixS bxS short dep E with
      | none =>
        have HN : Hid (lamC ixS bxS short dep (x :: l) = none) := lam_app_none2 _ _ _ _ ha (by rw [HTD.out]; exact h1) (by rw [HTE.out]; exact h2)
        have H2 := Lib.hid h2
        clear h1 h2 ha
        refine ⟨fun cs hcs => (by rw [HN.out] at hcs; cases hcs), fun _ => ?_⟩
        go_enter Try.func94, Try.ntmps94
        go_wp2_with fail
        refine (l12End_any _ n c 1 (q + 1) (x :: l) _ (HAW.out _ B0) (by omega) HQ4.out (by omega)).mono ?_
        rintro e w1 ⟨rfl, rfl⟩
        go_wp2_with fail
        refine ((HID.out _ B0).1 d H1.out).mono ?_
        rintro e w2 ⟨⟨v2, rfl, -⟩, b2⟩
        have B2 := below_step B0 b2
        go_wp2_with fail
        refine ((HIE.out _ B2).2 H2.out).mono ?_
        rintro e w3 ⟨⟨v3, rfl⟩, b3⟩
        have B3 := below_step B2 b3
        go_wp2
        go_ret2
        exact ⟨⟨_, rfl⟩, B3⟩
      | some d2 =>
        have HN : Hid (lamC ixS bxS short dep (x :: l) = capC (⟨0, 0⟩ :: (d ++ d2))) := lam_app_some _ _ _ _ ha (by rw [HTD.out]; exact h1) (by rw [HTE.out]; exact h2)
        have H2 := Lib.hid h2
        obtain ⟨he4, hef⟩ := lamC_fit _ _ _ _ _ _ _ (Nat.le_refl _) HKE.out h2
        obtain ⟨k1, hk1⟩ : ∃ k, k = d.length := ⟨_, rfl⟩
        obtain ⟨k2, hk2⟩ : ∃ k, k = d2.length := ⟨_, rfl⟩
        rw [← hk1] at hd4
        rw [← hk2] at he4
        have HK1 := Lib.hid hk1; have HK2 := Lib.hid hk2
        have HO1 := Lib.hid (one_rows_Comb d)
        have HO2 := Lib.hid (one_rows_Comb d2)
        clear h1 h2 ha hk1 hk2 hdf hef
        obtain ⟨z, hz⟩ : ∃ z, z = 1 + k1 + k2 := ⟨_, rfl⟩
        have HZ : Hid ((⟨0, 0⟩ :: (d ++ d2) : List R2).length = z) := by unfold Hid; rw [hz, HK1.out, HK2.out]; simp only [List.length_cons, List.length_append]; omega
        obtain ⟨y1, HY⟩ : ∃ y1, Hid (1 + k1 = y1) := ⟨_, rfl⟩
        have HZ3 : Hid (y1 + k2 = z) := by unfold Hid; rw [← HY.out]; exact hz.symm
        have hy1 : y1 ≤ 401 := by have := HY.out; omega
        have hz8 : z ≤ 801 := by omega
        clear hz
        have ownE := own_empty w 136 2
        by_cases hz4 : z ≤ 400
        · have HR : Hid (lamC ixS bxS short dep (x :: l) = some (⟨0, 0⟩ :: (d ++ d2))) := by unfold Hid; rw [HN.out, capC_yes (by rw [HZ.out]; exact hz4)]
          have ez : decide ((z : Int) ≤ 400) = true := decide_eq_true (by omega)
          refine ⟨fun cs hcs => ?_, fun hno => by rw [HR.out] at hno; cases hno⟩
          rw [HR.out] at hcs
          injection hcs with hcs
          have HC := Lib.hid hcs; clear hcs
          go_enter Try.func94, Try.ntmps94
          go_wp2_with fail
          refine (l12End_any _ n c 1 (q + 1) (x :: l) _ (HAW.out _ B0) (by omega) HQ4.out (by omega)).mono ?_
          rintro e w1 ⟨rfl, rfl⟩
          go_wp2_with fail
          refine ((HID.out _ B0).1 d H1.out).mono ?_
          rintro e w2 ⟨⟨v2, rfl, own2⟩, b2⟩
          have B2 := below_step B0 b2
          rw [← HK1.out] at own2
          obtain ⟨A2, c2, rfl⟩ := own_form own2
          go_wp2_with fail
          refine ((HIE.out _ B2).1 d2 H2.out).mono ?_
          rintro e w3 ⟨⟨v3, rfl, own3⟩, b3⟩
          have B3 := below_step B2 b3
          rw [← HK2.out] at own3
          obtain ⟨A3, c3, rfl⟩ := own_form own3
          have ownE3 := own_below' ownE (below_step b2 b3)
          have own2' := own_below' own2 b3
          have top2 : ∀ k, (Value.slice A2 k1 c2).ownBlock = some k → k < w3.heap.size := fun k hk => (own2'.lt k hk).2
          have top3 : ∀ k, (Value.slice A3 k2 c3).ownBlock = some k → k < w3.heap.size := fun k hk => (own3.lt k hk).2
          have out0 : OutB (w.alloc (.cells #[] 136)).heap.size w3.heap.size (.slice (some ⟨w.heap.size, 0, none⟩) 0 0) := OutB.low ownE (Nat.le_refl _)
          have own3' := own_base own3 b2.size
          have HB3 := Lib.hid B3
          have b03 := Nat.le_trans b2.size b3.size
          obtain ⟨w4, HW4, B34, y4⟩ := al1 w3 (.cells #[.int .i64 0, .int .i64 0] 136)
          have ownE4 := own_below' ownE3 B34
          have own24 := own_below' own2' B34
          have own34 := own_below' own3' B34
          have src4 : Src 2 w4 (.slice (some ⟨w3.heap.size, 0, none⟩) 1 1) 1 (rows R2.vs [⟨0, 0⟩]) := Src.of_sl ⟨heap_lt y4, fun j u hu => by
            rw [Nat.zero_add, cell_of_heap y4]
            match j, hu with
            | 0, hu => simpa [rows, R2.vs] using hu
            | 1, hu => simpa [rows, R2.vs] using hu⟩ rfl
          have hb4 : w.heap.size ≤ w4.heap.size := Nat.le_trans B3.size B34.size
          have B4 := Lib.hid (below_step B3 B34)
          have h34 := B34.size
          clear own2 own3 own2' own3' ownE ownE3 b2 b3 B34 y4 B2 B3
          go_wp2_with (first | (at_builtin; rw [← HW4.out]; refine wpList_appy rfl _ _ _ rfl Try.underlying64 infoComb rfl (by omega) w.heap.size ownE4 hb4 rfl src4 rfl (one_rows_Comb _) (by unfold maxLen; omega) (by omega) ?_; intro v5 w5 own5 hg5 hl5; rw [Nat.zero_add, List.nil_append] at own5; have own25 := own24.kept hg5 (out0.apart own24 top2); have own35 := own34.kept hg5 (out0.apart own34 top3); have out5 := out0.step h34 hl5; have B5 := Lib.hid (grown_below B4.out ownE4 (Nat.le_refl _) hg5); have hb5 : w.heap.size ≤ w5.heap.size := Nat.le_trans hb4 hg5.size; have h35 := Nat.le_trans h34 hg5.size; have src25 := Src.of_own own25; obtain ⟨A5, c5, rfl⟩ := own_form own5; clear own24 own34 src4 ownE4 hg5 hl5 h34 hb4) | (at_builtin; refine wpList_appy rfl _ _ _ rfl Try.underlying64 infoComb rfl (by omega) w.heap.size own5 hb5 rfl src25 rfl HO1.out (by unfold maxLen; omega) (by omega) ?_; intro v6 w6 own6 hg6 hl6; rw [HY.out] at own6; have own36 := own35.kept hg6 (out5.apart own35 top3); have B6 := Lib.hid (grown_below B5.out own5 (Nat.le_refl _) hg6); have hb6 : w.heap.size ≤ w6.heap.size := Nat.le_trans hb5 hg6.size; have src36 := Src.of_own own36; obtain ⟨A6, c6, rfl⟩ := own_form own6; clear own25 own35 src25 own5 hg6 hl6 h35 hb5) | (at_builtin; refine wpList_appy rfl _ _ _ rfl Try.underlying64 infoComb rfl (by omega) w.heap.size own6 hb6 rfl src36 rfl HO2.out (by unfold maxLen; omega) (by omega) ?_; intro v7 w7 own7 hg7 hl7; rw [HZ3.out] at own7; have hB6 := grown_below B6.out own6 (Nat.le_refl _) hg7; obtain ⟨A7, c7, rfl⟩ := own_form own7; clear own36 src36 own6 hg7 hl7 hb6))
          go_ret2
          rw [← HC.out]
          refine ⟨⟨.slice A7 z c7, rfl, ?_⟩, hB6⟩
          rw [HZ.out]
          simpa only [rows, List.flatMap_cons, List.flatMap_nil, List.flatMap_append, R2.vs, List.cons_append, List.nil_append, List.append_assoc] using own7
        · have HR : Hid (lamC ixS bxS short dep (x :: l) = none) := by unfold Hid; rw [HN.out, capC_no (by rw [HZ.out]; omega)]
          have ez : decide ((z : Int) ≤ 400) = false := decide_eq_false (by omega)
          refine ⟨fun cs hcs => (by rw [HR.out] at hcs; cases hcs), fun _ => ?_⟩
          go_enter Try.func94, Try.ntmps94
          go_wp2_with fail
          refine (l12End_any _ n c 1 (q + 1) (x :: l) _ (HAW.out _ B0) (by omega) HQ4.out (by omega)).mono ?_
          rintro e w1 ⟨rfl, rfl⟩
          go_wp2_with fail
          refine ((HID.out _ B0).1 d H1.out).mono ?_
          rintro e w2 ⟨⟨v2, rfl, own2⟩, b2⟩
          have B2 := below_step B0 b2
          rw [← HK1.out] at own2
          obtain ⟨A2, c2, rfl⟩ := own_form own2
          go_wp2_with fail
          refine ((HIE.out _ B2).1 d2 H2.out).mono ?_
          rintro e w3 ⟨⟨v3, rfl, own3⟩, b3⟩
          have B3 := below_step B2 b3
          rw [← HK2.out] at own3
          obtain ⟨A3, c3, rfl⟩ := own_form own3
          have ownE3 := own_below' ownE (below_step b2 b3)
          have own2' := own_below' own2 b3
          have top2 : ∀ k, (Value.slice A2 k1 c2).ownBlock = some k → k < w3.heap.size := fun k hk => (own2'.lt k hk).2
          have top3 : ∀ k, (Value.slice A3 k2 c3).ownBlock = some k → k < w3.heap.size := fun k hk => (own3.lt k hk).2
          have out0 : OutB (w.alloc (.cells #[] 136)).heap.size w3.heap.size (.slice (some ⟨w.heap.size, 0, none⟩) 0 0) := OutB.low ownE (Nat.le_refl _)
          have own3' := own_base own3 b2.size
          have HB3 := Lib.hid B3
          have b03 := Nat.le_trans b2.size b3.size
          obtain ⟨w4, HW4, B34, y4⟩ := al1 w3 (.cells #[.int .i64 0, .int .i64 0] 136)
          have ownE4 := own_below' ownE3 B34
          have own24 := own_below' own2' B34
          have own34 := own_below' own3' B34
          have src4 : Src 2 w4 (.slice (some ⟨w3.heap.size, 0, none⟩) 1 1) 1 (rows R2.vs [⟨0, 0⟩]) := Src.of_sl ⟨heap_lt y4, fun j u hu => by
            rw [Nat.zero_add, cell_of_heap y4]
            match j, hu with
            | 0, hu => simpa [rows, R2.vs] using hu
            | 1, hu => simpa [rows, R2.vs] using hu⟩ rfl
          have hb4 : w.heap.size ≤ w4.heap.size := Nat.le_trans B3.size B34.size
          have B4 := Lib.hid (below_step B3 B34)
          have h34 := B34.size
          clear own2 own3 own2' own3' ownE ownE3 b2 b3 B34 y4 B2 B3
          go_wp2_with (first | (at_builtin; rw [← HW4.out]; refine wpList_appy rfl _ _ _ rfl Try.underlying64 infoComb rfl (by omega) w.heap.size ownE4 hb4 rfl src4 rfl (one_rows_Comb _) (by unfold maxLen; omega) (by omega) ?_; intro v5 w5 own5 hg5 hl5; rw [Nat.zero_add, List.nil_append] at own5; have own25 := own24.kept hg5 (out0.apart own24 top2); have own35 := own34.kept hg5 (out0.apart own34 top3); have out5 := out0.step h34 hl5; have B5 := Lib.hid (grown_below B4.out ownE4 (Nat.le_refl _) hg5); have hb5 : w.heap.size ≤ w5.heap.size := Nat.le_trans hb4 hg5.size; have h35 := Nat.le_trans h34 hg5.size; have src25 := Src.of_own own25; obtain ⟨A5, c5, rfl⟩ := own_form own5; clear own24 own34 src4 ownE4 hg5 hl5 h34 hb4) | (at_builtin; refine wpList_appy rfl _ _ _ rfl Try.underlying64 infoComb rfl (by omega) w.heap.size own5 hb5 rfl src25 rfl HO1.out (by unfold maxLen; omega) (by omega) ?_; intro v6 w6 own6 hg6 hl6; rw [HY.out] at own6; have own36 := own35.kept hg6 (out5.apart own35 top3); have B6 := Lib.hid (grown_below B5.out own5 (Nat.le_refl _) hg6); have hb6 : w.heap.size ≤ w6.heap.size := Nat.le_trans hb5 hg6.size; have src36 := Src.of_own own36; obtain ⟨A6, c6, rfl⟩ := own_form own6; clear own25 own35 src25 own5 hg6 hl6 h35 hb5) | (at_builtin; refine wpList_appy rfl _ _ _ rfl Try.underlying64 infoComb rfl (by omega) w.heap.size own6 hb6 rfl src36 rfl HO2.out (by unfold maxLen; omega) (by omega) ?_; intro v7 w7 own7 hg7 hl7; rw [HZ3.out] at own7; have hB6 := grown_below B6.out own6 (Nat.le_refl _) hg7; obtain ⟨A7, c7, rfl⟩ := own_form own7; clear own36 src36 own6 hg7 hl7 hb6))
          go_ret2
          exact ⟨⟨_, rfl⟩, hB6⟩
end Go.Proofs.Ytfmfpknigafnoaa
