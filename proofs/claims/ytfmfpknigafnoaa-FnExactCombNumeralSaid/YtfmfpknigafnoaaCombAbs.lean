/- Abstraction of combinator terms: abstraction, AbstractComb and the reference's l18Abstract, AbstractComb. -/
import Derived.Test.YtfmfpknigafnoaaCombAbs1
namespace Go.Proofs.Ytfmfpknigafnoaa
open Go.RowKit
set_option linter.all false

theorem oneV_len {k : Int} {c : List R2} (h : oneV k c = true) : ∃ x, c = [x] ∧ isV k x = true := by
  match c, h with
  | [x], h => exact ⟨x, rfl, h⟩
theorem oneV_one {k : Int} {c : List R2} {x : R2} {n : Nat} (hl : c.length = n) (hx : c[0]? = some x) (h1 : n = 1) : oneV k c = isV k x := by
  match c, hl, hx with
  | [y], _, hx => simp at hx; subst hx; rfl
  | [], hl, _ => simp at hl; omega
  | _ :: _ :: _, hl, _ => simp at hl; omega
theorem oneV_ne {k : Int} {c : List R2} {n : Nat} (hl : c.length = n) (h1 : n ≠ 1) : oneV k c = false := by
  match c, hl with
  | [], _ => rfl
  | [y], hl => simp at hl; omega
  | _ :: _ :: _, _ => rfl
theorem Args.sl0 {s : Nat} {w : World} {A : Option Addr} {n : Nat} {xs : List Value} (h : Args s w A n xs) (hn : 0 < n) : ∃ b off, A = some ⟨b, off, none⟩ ∧ Sl w b off xs := h.sl (k := 0) hn

/-- The parts of an application, as slices of it. -/
structure Parts (w : World) (b off n c q : Nat) (xs : List R2) (od oe : Nat) : Prop where
  d : Sl w b od (rows R2.vs ((xs.drop 1).take q))
  e : Sl w b oe (rows R2.vs (xs.drop (q + 1)))
theorem parts_mk {w : World} {b off n c q : Nat} {xs : List R2} (hs : Sl w b off (rows R2.vs xs)) (hl : xs.length = n) (hc : n ≤ c) (hq : 1 ≤ q) (hqn : q + 1 < n) :
    ∃ od oe, Parts w b off n c q xs od oe ∧ (∀ W, (Instr.slice 64 (.slice (some ⟨b, off, none⟩) n c) (some (.int .i64 1)) (some (.int .i64 ((q : Int) + 1))) none).run Try.prog W = .ok (.slice (some ⟨b, od, none⟩) q (c - 1)) W) ∧ (∀ W, (Instr.slice 64 (.slice (some ⟨b, off, none⟩) n c) (some (.int .i64 ((q : Int) + 1))) none none).run Try.prog W = .ok (.slice (some ⟨b, oe, none⟩) (n - (q + 1)) (c - (q + 1))) W) := by
  obtain ⟨od, hod, h1⟩ := run_slice_part (P := Try.prog) 64 136 Try.underlying64 infoComb b off n c 1 q 1 ((q : Int) + 1) rfl (by omega) (by omega)
  obtain ⟨oe, hoe, h2⟩ := run_slice_tailR (P := Try.prog) 64 136 Try.underlying64 infoComb b off n c (q + 1) ((q : Int) + 1) (by omega) (by omega) hc
  refine ⟨od, oe, ⟨?_, ?_⟩, h1, h2⟩
  · have ho : od = off + 1 * 2 := by omega
    subst ho
    exact hs.part R2.vs_len 1 q
  · have ho : oe = off + (q + 1) * 2 := by omega
    subst ho
    have := hs.part R2.vs_len (q + 1) (n - (q + 1))
    rw [List.take_of_length_le (by rw [List.length_drop]; omega)] at this
    exact this
theorem Parts.below {w w' : World} {b off n c q : Nat} {xs : List R2} {od oe : Nat} (h : Parts w b off n c q xs od oe) (hb : Below w.heap.size w w') : Parts w' b off n c q xs od oe := ⟨h.d.below' hb, h.e.below' hb⟩

set_option maxRecDepth 100000 in
set_option maxHeartbeats 2000000 in
theorem l18Abstract_any (N : Nat) : ∀ (b off n c : Nat) (k : Int) (short : Bool) (xs : List R2) (w : World), n ≤ N → Sl w b off (rows R2.vs xs) → xs.length = n → n ≤ 2000 → n ≤ c → fit kFol 1 xs = true →
    Calls Try.prog 140 #[.slice (some ⟨b, off, none⟩) n c, .int .i64 k, .bool short] w fun e w' => ∃ v, e = .returned v ∧ w'.ownsRow w.heap.size 136 2 v (absC k short xs).length (rows R2.vs (absC k short xs)) ∧ Below w.heap.size w w' := by
  induction N with
  | zero => intro b off n c k short xs w hN hs hl hn hc hf; have := fit_ne kFol xs 0 hf; omega
  | succ N ih =>
  intro b off n c k short xs w hN hs hl hn hc hf
  have IH := Lib.hid ih; clear ih
  have HL := Lib.hid hl
  have HF := Lib.hid hf
  have hn0 : 0 < n := by have := fit_ne kFol xs 0 hf; omega
  clear hf hl
  have HA := Lib.hid (Args.of_sl (n := n) (s := 2) hs (by rw [rows_len R2.vs_len, HL.out]))
  obtain ⟨x, HX⟩ := hget HL hn0
  obtain ⟨p0, p1⟩ := hs.rec2 HX.out
  simp only [Nat.zero_mul, Nat.add_zero] at p0 p1
  rcases Bool.eq_false_or_eq_true (oneV k xs) with h1 | h1
  · -- the variable itself
    have HR := Lib.hid (abs_one (short := short) h1)
    obtain ⟨y, hy, hv⟩ := oneV_len h1
    have hx := HX.out
    rw [hy] at hx
    simp at hx
    subst hx
    have hn1 : n = 1 := by rw [← HL.out, hy]; rfl
    unfold isV at hv
    simp at hv
    obtain ⟨h4, hk⟩ := hv
    have e4 : (y.a == 4) = true := by simpa using h4
    have ek : (y.b == k) = true := by simpa using hk
    have en : ((n : Int) == 1) = true := by simp [hn1]
    clear h4 hk hy h1 hn1
    go_enter Try.func140, Try.ntmps140
    go_wp2
    go_ret
    exact ⟨_, rfl, by rw [HR.out]; exact own_laid w _ 2 1 _ rfl (by simp [maxLen]), laid_below _ _⟩
  have H1 := Lib.hid h1
  -- what the first test says
  have htest : ((n : Int) == 1) = false ∨ (((n : Int) == 1) = true ∧ (x.a == 4) = false) ∨ (((n : Int) == 1) = true ∧ (x.a == 4) = true ∧ (x.b == k) = false) := by
    by_cases hn1 : n = 1
    · have := oneV_one (k := k) HL.out HX.out hn1
      rw [h1] at this
      unfold isV at this
      by_cases h4 : x.a = 4
      · refine .inr (.inr ⟨by simp [hn1], by simpa using h4, ?_⟩)
        simp [h4] at this
        simpa using fun h => this h
      · exact .inr (.inl ⟨by simp [hn1], by simpa using h4⟩)
    · exact .inl (by simp; omega)
  clear h1
  rcases Bool.eq_false_or_eq_true (hasV k xs) with h2 | h2
  rotate_left
  · have HR := Lib.hid (abs_not (short := short) H1.out h2)
    have HH : Hid (decide (k ∈ sortU (varsC xs)) = false) := by unfold Hid; rw [has_names, h2]
    clear h2
    have HO := Lib.hid (one_rows_Comb xs)
    have HS := Lib.hid (Src.of_sl (n := n) (size := 2) (c := c) hs (by rw [rows_len R2.vs_len, HL.out]))
    have hlen := sortU_len (varsC xs)
    have hlen2 := varsC_len xs
    rw [HL.out] at hlen2
    rcases htest with t1 | ⟨t1, t2⟩ | ⟨t1, t2, t3⟩
    all_goals
      go_enter Try.func140, Try.ntmps140
      go_wp2_with fail
      refine (l18Names_any _ n c xs _ HA.out (by omega)).mono ?_
      rintro e w1 ⟨v1, rfl, hown1, hb1⟩
      obtain ⟨A1, c1, rfl⟩ := own_form hown1
      go_wp2_with fail
      refine (l00HasC_is A1 _ c1 _ k false HH.out _ (arg_of_own hown1) (by omega)).mono ?_
      rintro e w2 ⟨rfl, rfl⟩
      clear hown1
      have hown2 : (w1.alloc (.cells #[.int .i64 0, .int .i64 0, .int .i64 2, .int .i64 0] 136)).ownsRow w1.heap.size 136 2 (.slice (some ⟨w1.heap.size, 0, none⟩) 2 2) 2 (rows R2.vs [⟨0, 0⟩, ⟨2, 0⟩]) := own_laid w1 _ 2 2 _ rfl (by simp [maxLen])
      have hb2 := laid_below w1 (.cells #[.int .i64 0, .int .i64 0, .int .i64 2, .int .i64 0] 136)
      have hs2 := HS.out.below (below_step hb1 hb2)
      go_wp2_with (at_builtin; refine wpList_appx rfl _ _ _ rfl Try.underlying64 infoComb rfl (by omega) w1.heap.size hown2 hb2.size rfl hs2 rfl HO.out (by unfold maxLen; omega) (by omega) ?_; intro v3 w3 hown3 hg3 hnil3; have hb3 := grown_below hb2 hown2 (Nat.le_refl _) hg3; clear hnil3 hown2 hs2 hg3)
      go_ret
      refine ⟨_, rfl, ?_, below_step hb1 hb3⟩
      have h5 := own_base hown3 hb1.size
      have hl5 : (⟨0, 0⟩ :: ⟨2, 0⟩ :: xs : List R2).length = 2 + n := by have := HL.out; simp [this]; omega
      rw [HR.out, hl5]
      exact h5
  -- an application
  obtain ⟨q, hq1, hq2, hq3, hq4, hq5, hq6⟩ := abs_parts HF.out H1.out h2
  rw [HL.out] at hq2
  have hdd : (xs.drop 1).take (midC xs - 1) = (xs.drop 1).take q := by rw [hq3]; rfl
  have hee : xs.drop (midC xs) = xs.drop (q + 1) := by rw [hq3]
  obtain ⟨od, oe, hparts, hsl1, hsl2⟩ := parts_mk (c := c) hs HL.out hc hq1 hq2
  have HP := Lib.hid hparts; clear hparts
  obtain ⟨m, hm⟩ : ∃ m, n - (q + 1) = m := ⟨_, rfl⟩
  obtain ⟨cd, hcd⟩ : ∃ cd, c - 1 = cd := ⟨_, rfl⟩
  obtain ⟨ce, hce⟩ : ∃ ce, c - (q + 1) = ce := ⟨_, rfl⟩
  rw [hcd] at hsl1
  rw [hm, hce] at hsl2
  have hm1 : q + 1 + m ≤ n := by omega
  have hm2 : n ≤ q + 1 + m := by omega
  have hm3 : 0 < m := by omega
  have hcd1 : q ≤ cd := by omega
  have hce1 : m ≤ ce := by omega
  obtain ⟨D, hD⟩ : ∃ D, D = (xs.drop 1).take q := ⟨_, rfl⟩
  obtain ⟨E, hE⟩ : ∃ E, E = xs.drop (q + 1) := ⟨_, rfl⟩
  have HLD : Hid (D.length = q) := by unfold Hid; rw [hD, List.length_take, List.length_drop, HL.out]; omega
  have HLE : Hid (E.length = m) := by unfold Hid; rw [hE, List.length_drop, HL.out, hm]
  have HFD : Hid (fit kFol 1 D = true) := by rw [hD]; exact hq5
  have HFE : Hid (fit kFol 1 E = true) := by rw [hE]; exact hq6
  rw [← hD] at hdd
  rw [← hE] at hee
  have HSD : Hid (Sl w b od (rows R2.vs D)) := by rw [hD]; exact HP.out.d
  have HSE : Hid (Sl w b oe (rows R2.vs E)) := by rw [hE]; exact HP.out.e
  have H2 := Lib.hid h2
  have HDD := Lib.hid hdd; have HEE := Lib.hid hee
  have HQ4 := Lib.hid hq4
  clear h2 hD hE hdd hee hq3 hq4 hq5 hq6 HP hm hcd hce
  have hn2 : ((n : Int) == 1) = false := by simp; omega
  obtain ⟨y, HY⟩ := hget HLE hm3
  clear htest p0 p1
  have HH : Hid (decide (k ∈ sortU (varsC xs)) = true) := by unfold Hid; rw [has_names, H2.out]
  have hlen := sortU_len (varsC xs)
  have hlen2 := varsC_len xs
  rw [HL.out] at hlen2
  have hlenD := sortU_len (varsC D)
  have hlenD2 := varsC_len D
  rw [HLD.out] at hlenD2
  have lD := absC_len k short _ D (Nat.le_refl _) HFD.out
  have lE := absC_len k short _ E (Nat.le_refl _) HFE.out
  rw [HLD.out] at lD
  rw [HLE.out] at lE
  have HOD := Lib.hid (one_rows_Comb (absC k short D))
  have HOE := Lib.hid (one_rows_Comb (absC k short E))
  obtain ⟨nd, hnd⟩ : ∃ nd, nd = (absC k short D).length := ⟨_, rfl⟩
  obtain ⟨ne, hne⟩ : ∃ ne, ne = (absC k short E).length := ⟨_, rfl⟩
  rw [← hnd] at lD
  rw [← hne] at lE
  have HND := Lib.hid hnd; have HNE := Lib.hid hne
  clear hnd hne
  have HIHD : Hid (∀ W, Below w.heap.size w W → Calls Try.prog 140 #[.slice (some ⟨b, od, none⟩) q cd, .int .i64 k, .bool short] W fun e w' => ∃ v, e = .returned v ∧ w'.ownsRow W.heap.size 136 2 v nd (rows R2.vs (absC k short D)) ∧ Below W.heap.size W w') := by
    intro W hW; rw [HND.out]; exact IH.out b od q cd k short D W (by omega) (HSD.out.below' hW) HLD.out (by omega) hcd1 HFD.out
  have HIHE : Hid (∀ W, Below w.heap.size w W → Calls Try.prog 140 #[.slice (some ⟨b, oe, none⟩) m ce, .int .i64 k, .bool short] W fun e w' => ∃ v, e = .returned v ∧ w'.ownsRow W.heap.size 136 2 v ne (rows R2.vs (absC k short E)) ∧ Below W.heap.size W w') := by
    intro W hW; rw [HNE.out]; exact IH.out b oe m ce k short E W (by omega) (HSE.out.below' hW) HLE.out (by omega) hce1 HFE.out
  clear IH
  -- the ways of the second test
  have hway : (short = true ∧ ((m : Int) == 1) = true ∧ (y.a == 4) = true ∧ (y.b == k) = true ∧ oneV k E = true) ∨ ((short && oneV k E) = false ∧ (short = false ∨ (short = true ∧ ((m : Int) == 1) = false) ∨ (short = true ∧ ((m : Int) == 1) = true ∧ (y.a == 4) = false) ∨ (short = true ∧ ((m : Int) == 1) = true ∧ (y.a == 4) = true ∧ (y.b == k) = false))) := by
    cases short with
    | false => exact .inr ⟨rfl, .inl rfl⟩
    | true =>
      by_cases hm1 : m = 1
      · have ho := oneV_one (k := k) HLE.out HY.out hm1
        by_cases h4 : y.a = 4
        · by_cases hk : y.b = k
          · exact .inl ⟨rfl, by simp [hm1], by simpa using h4, by simpa using hk, by rw [ho]; simp [isV, h4, hk]⟩
          · exact .inr ⟨by rw [ho]; simp [isV, hk], .inr (.inr (.inr ⟨rfl, by simp [hm1], by simpa using h4, by simpa using hk⟩))⟩
        · exact .inr ⟨by rw [ho]; simp [isV, h4], .inr (.inr (.inl ⟨rfl, by simp [hm1], by simpa using h4⟩))⟩
      · exact .inr ⟨by rw [oneV_ne HLE.out hm1]; rfl, .inr (.inl ⟨rfl, by simp; omega⟩)⟩
  have HOD2 := Lib.hid (one_rows_Comb D)
  have hye := HSE.out
  have hq21 : (1 : Int) ≤ (q : Int) + 1 := by omega
  rcases hway with ⟨g1, g2, g3, g4, g5⟩ | ⟨g0, hway⟩
  · -- e is the variable
    have G5 := Lib.hid g5; clear g5
    subst g1
    rcases Bool.eq_false_or_eq_true (hasV k D) with h3 | h3
    rotate_left
    · have HR : Hid (absC k true xs = D) := abs_eta H1.out H2.out HDD.out HEE.out (by rw [G5.out, h3]; rfl)
      have HHD : Hid (decide (k ∈ sortU (varsC D)) = false) := by unfold Hid; rw [has_names, h3]
      clear h3
      go_enter Try.func140, Try.ntmps140
      go_wp2_with fail
      refine (l18Names_any _ n c xs _ HA.out (by omega)).mono ?_
      rintro e w1 ⟨v1, rfl, hown1, hb1⟩
      obtain ⟨A1, c1, rfl⟩ := own_form hown1
      go_wp2_with fail
      refine (l00HasC_is A1 _ c1 _ k true HH.out _ (arg_of_own hown1) (by omega)).mono ?_
      rintro e w2 ⟨rfl, rfl⟩
      clear hown1
      go_wp2_with fail
      refine (l12CombEnd_any _ n c 1 (q + 1) xs _ (HA.out.below hb1) (by omega) HQ4.out (by omega)).mono ?_
      rintro e w2 ⟨rfl, rfl⟩
      obtain ⟨y0, y1⟩ := (HSE.out.below' hb1).rec2 HY.out
      simp only [Nat.zero_mul, Nat.add_zero] at y0 y1
      go_wp2_with fail
      refine (l18Names_any _ q cd D _ (Args.of_sl (HSD.out.below' hb1) (by rw [rows_len R2.vs_len, HLD.out])) (by omega)).mono ?_
      rintro e w3 ⟨v3, rfl, hown3, hb3⟩
      have hB3 := below_step hb1 hb3
      obtain ⟨A3, c3, rfl⟩ := own_form hown3
      go_wp2_with fail
      refine (l00HasC_is A3 _ c3 _ k false HHD.out _ (arg_of_own hown3) (by omega)).mono ?_
      rintro e w4 ⟨rfl, rfl⟩
      clear hown3 y0 y1 hb3
      have hown0 : (w3.alloc (.cells #[] 136)).ownsRow w3.heap.size 136 2 (.slice (some ⟨w3.heap.size, 0, none⟩) 0 0) 0 [] := own_empty w3 136 2
      have hb0 := laid_below w3 (.cells #[] 136)
      have hsd : Src 2 (w3.alloc (.cells #[] 136)) (.slice (some ⟨b, od, none⟩) q cd) q (rows R2.vs D) := Src.of_sl (HSD.out.below' (below_step hB3 hb0)) (by rw [rows_len R2.vs_len, HLD.out])
      go_wp2_with (at_builtin; refine wpList_appx rfl _ _ _ rfl Try.underlying64 infoComb rfl (by omega) w3.heap.size hown0 hb0.size rfl hsd rfl HOD2.out (by unfold maxLen; omega) (by omega) ?_; intro v5 w5 hown5 hg5 hnil5; have hb5 := grown_below hb0 hown0 (Nat.le_refl _) hg5; clear hnil5 hown0 hsd hg5)
      go_ret
      exact ⟨_, rfl, by rw [HR.out, HLD.out]; simpa using own_base hown5 hB3.size, below_step hB3 hb5⟩
    · have HR : Hid (absC k true xs = _) := abs_app H1.out H2.out HDD.out HEE.out (by rw [G5.out, h3]; rfl)
      have HHD : Hid (decide (k ∈ sortU (varsC D)) = true) := by unfold Hid; rw [has_names, h3]
      clear h3
      go_enter Try.func140, Try.ntmps140
      go_wp2_with fail
      refine (l18Names_any _ n c xs _ HA.out (by omega)).mono ?_
      rintro e w1 ⟨v1, rfl, hown1, hb1⟩
      obtain ⟨A1, c1, rfl⟩ := own_form hown1
      go_wp2_with fail
      refine (l00HasC_is A1 _ c1 _ k true HH.out _ (arg_of_own hown1) (by omega)).mono ?_
      rintro e w2 ⟨rfl, rfl⟩
      clear hown1
      go_wp2_with fail
      refine (l12CombEnd_any _ n c 1 (q + 1) xs _ (HA.out.below hb1) (by omega) HQ4.out (by omega)).mono ?_
      rintro e w2 ⟨rfl, rfl⟩
      obtain ⟨y0, y1⟩ := (HSE.out.below' hb1).rec2 HY.out
      simp only [Nat.zero_mul, Nat.add_zero] at y0 y1
      go_wp2_with fail
      refine (l18Names_any _ q cd D _ (Args.of_sl (HSD.out.below' hb1) (by rw [rows_len R2.vs_len, HLD.out])) (by omega)).mono ?_
      rintro e w3 ⟨v3, rfl, hown3, hb3⟩
      have hB3 := below_step hb1 hb3
      obtain ⟨A3, c3, rfl⟩ := own_form hown3
      go_wp2_with fail
      refine (l00HasC_is A3 _ c3 _ k true HHD.out _ (arg_of_own hown3) (by omega)).mono ?_
      rintro e w4 ⟨rfl, rfl⟩
      clear hown3 y0 y1 hb3 hb1
      have hown5 : (w3.alloc (.cells #[.int .i64 0, .int .i64 0, .int .i64 0, .int .i64 0, .int .i64 1, .int .i64 0] 136)).ownsRow w3.heap.size 136 2 (.slice (some ⟨w3.heap.size, 0, none⟩) 3 3) 3 (rows R2.vs [⟨0, 0⟩, ⟨0, 0⟩, ⟨1, 0⟩]) := own_laid w3 _ 2 3 _ rfl (by simp [maxLen])
      have hb5 := laid_below w3 (.cells #[.int .i64 0, .int .i64 0, .int .i64 0, .int .i64 0, .int .i64 1, .int .i64 0] 136)
      go_wp2_with fail
      refine (HIHD.out _ (below_step hB3 hb5)).mono ?_
      rintro e w6 ⟨v6, rfl, hown6, hb6⟩
      have hown7 := own_below' hown5 hb6
      have hb56 := below_step hb5 hb6
      have hsrc6 := Src.of_own hown6
      clear hown5 hown6 hb5 hb6
      go_wp2_with (first | (at_builtin; refine wpList_appx rfl _ _ _ rfl Try.underlying64 infoComb rfl (by omega) w3.heap.size hown7 hb56.size rfl hsrc6 rfl HOD.out (by unfold maxLen; omega) (by omega) ?_; intro v8 w8 hown8 hg8 hnil8; have hb8 := grown_below hb56 hown7 (Nat.le_refl _) hg8; clear hnil8 hown7 hsrc6 hg8 hb56; obtain ⟨A8, c8, rfl⟩ := own_form hown8))
      refine (HIHE.out _ (below_step hB3 hb8)).mono ?_
      rintro e w9 ⟨v9, rfl, hown9, hb9⟩
      have hown10 := own_below' hown8 hb9
      have hb89 := below_step hb8 hb9
      have hsrc9 := Src.of_own hown9
      clear hown8 hown9 hb8 hb9
      go_wp2_with (first | (at_builtin; refine wpList_appx rfl _ _ _ rfl Try.underlying64 infoComb rfl (by omega) w3.heap.size hown10 hb89.size rfl hsrc9 rfl HOE.out (by unfold maxLen; omega) (by omega) ?_; intro v11 w11 hown11 hg11 hnil11; have hb11 := grown_below hb89 hown10 (Nat.le_refl _) hg11; clear hnil11 hown10 hsrc9 hg11 hb89))
      go_ret
      refine ⟨_, rfl, ?_, below_step hB3 hb11⟩
      have h12 := own_base hown11 hB3.size
      have hl12 : ∀ (s : Bool), (⟨0, 0⟩ :: ⟨0, 0⟩ :: ⟨1, 0⟩ :: (absC k s D ++ absC k s E) : List R2).length = 3 + (absC k s D).length + (absC k s E).length := by intro s; simp; omega
      rw [HR.out, hl12, ← HND.out, ← HNE.out]
      have hr12 : ∀ (u v : List R2), rows R2.vs (⟨0, 0⟩ :: ⟨0, 0⟩ :: ⟨1, 0⟩ :: (u ++ v)) = rows R2.vs [⟨0, 0⟩, ⟨0, 0⟩, ⟨1, 0⟩] ++ rows R2.vs u ++ rows R2.vs v := by intro u v; rw [← rows_app, ← rows_app]; rfl
      rw [hr12]
      exact h12
  · have HR : Hid (absC k short xs = _) := abs_app H1.out H2.out HDD.out HEE.out (by rw [g0]; rfl)
    clear g0
    rcases hway with g1 | ⟨g1, g2⟩ | ⟨g1, g2, g3⟩ | ⟨g1, g2, g3, g4⟩
    all_goals
      subst g1
      go_enter Try.func140, Try.ntmps140
      go_wp2_with fail
      refine (l18Names_any _ n c xs _ HA.out (by omega)).mono ?_
      rintro e w1 ⟨v1, rfl, hown1, hb1⟩
      obtain ⟨A1, c1, rfl⟩ := own_form hown1
      go_wp2_with fail
      refine (l00HasC_is A1 _ c1 _ k true HH.out _ (arg_of_own hown1) (by omega)).mono ?_
      rintro e w2 ⟨rfl, rfl⟩
      clear hown1
      go_wp2_with fail
      refine (l12CombEnd_any _ n c 1 (q + 1) xs _ (HA.out.below hb1) (by omega) HQ4.out (by omega)).mono ?_
      rintro e w2 ⟨rfl, rfl⟩
      obtain ⟨y0, y1⟩ := (HSE.out.below' hb1).rec2 HY.out
      simp only [Nat.zero_mul, Nat.add_zero] at y0 y1
      obtain ⟨w3, hw3⟩ : ∃ w3, w3 = w1 := ⟨_, rfl⟩
      rw [← hw3] at hb1 y0 y1 ⊢
      have hB3 := hb1
      clear hb1 hw3
      have hown5 : (w3.alloc (.cells #[.int .i64 0, .int .i64 0, .int .i64 0, .int .i64 0, .int .i64 1, .int .i64 0] 136)).ownsRow w3.heap.size 136 2 (.slice (some ⟨w3.heap.size, 0, none⟩) 3 3) 3 (rows R2.vs [⟨0, 0⟩, ⟨0, 0⟩, ⟨1, 0⟩]) := own_laid w3 _ 2 3 _ rfl (by simp [maxLen])
      have hb5 := laid_below w3 (.cells #[.int .i64 0, .int .i64 0, .int .i64 0, .int .i64 0, .int .i64 1, .int .i64 0] 136)
      go_wp2_with fail
      refine (HIHD.out _ (below_step hB3 hb5)).mono ?_
      rintro e w6 ⟨v6, rfl, hown6, hb6⟩
      have hown7 := own_below' hown5 hb6
      have hb56 := below_step hb5 hb6
      have hsrc6 := Src.of_own hown6
      clear hown5 hown6 hb5 hb6
      go_wp2_with (first | (at_builtin; refine wpList_appx rfl _ _ _ rfl Try.underlying64 infoComb rfl (by omega) w3.heap.size hown7 hb56.size rfl hsrc6 rfl HOD.out (by unfold maxLen; omega) (by omega) ?_; intro v8 w8 hown8 hg8 hnil8; have hb8 := grown_below hb56 hown7 (Nat.le_refl _) hg8; clear hnil8 hown7 hsrc6 hg8 hb56; obtain ⟨A8, c8, rfl⟩ := own_form hown8))
      refine (HIHE.out _ (below_step hB3 hb8)).mono ?_
      rintro e w9 ⟨v9, rfl, hown9, hb9⟩
      have hown10 := own_below' hown8 hb9
      have hb89 := below_step hb8 hb9
      have hsrc9 := Src.of_own hown9
      clear hown8 hown9 hb8 hb9
      go_wp2_with (first | (at_builtin; refine wpList_appx rfl _ _ _ rfl Try.underlying64 infoComb rfl (by omega) w3.heap.size hown10 hb89.size rfl hsrc9 rfl HOE.out (by unfold maxLen; omega) (by omega) ?_; intro v11 w11 hown11 hg11 hnil11; have hb11 := grown_below hb89 hown10 (Nat.le_refl _) hg11; clear hnil11 hown10 hsrc9 hg11 hb89))
      go_ret
      refine ⟨_, rfl, ?_, below_step hB3 hb11⟩
      have h12 := own_base hown11 hB3.size
      have hl12 : ∀ (s : Bool), (⟨0, 0⟩ :: ⟨0, 0⟩ :: ⟨1, 0⟩ :: (absC k s D ++ absC k s E) : List R2).length = 3 + (absC k s D).length + (absC k s E).length := by intro s; simp; omega
      rw [HR.out, hl12, ← HND.out, ← HNE.out]
      have hr12 : ∀ (u v : List R2), rows R2.vs (⟨0, 0⟩ :: ⟨0, 0⟩ :: ⟨1, 0⟩ :: (u ++ v)) = rows R2.vs [⟨0, 0⟩, ⟨0, 0⟩, ⟨1, 0⟩] ++ rows R2.vs u ++ rows R2.vs v := by intro u v; rw [← rows_app, ← rows_app]; rfl
      rw [hr12]
      exact h12
end Go.Proofs.Ytfmfpknigafnoaa
