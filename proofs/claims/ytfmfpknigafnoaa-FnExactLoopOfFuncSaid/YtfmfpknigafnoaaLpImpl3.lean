/- Loop programs of recursive functions, the program's side: loopsOf, the kind 3. -/
import Derived.Test.YtfmfpknigafnoaaLpImpl1
namespace Go.Proofs.Ytfmfpknigafnoaa
open Go.RowKit
set_option linter.all false

theorem inn_monoI (N : Nat) (ps : List (List R3)) (xs : List Int) (v f : Int) {t k : Nat} (h : t ≤ k) : (inn N ps xs v f t).length ≤ (inn N ps xs v f k).length := by
  induction k with
  | zero =>
    obtain rfl : t = 0 := by omega
    exact Nat.le_refl _
  | succ k ih =>
    rcases Nat.lt_or_ge t (k + 1) with h1 | h1
    · rw [inn_succ, List.length_append]; have := ih (by omega); omega
    · obtain rfl : t = k + 1 := by omega
      exact Nat.le_refl _

set_option maxRecDepth 100000 in
set_option maxHeartbeats 4000000 in
theorem loops3_any (N : Nat) (IH : Hid (LpIHi N)) (b off n c : Nat) (T : List R3) (x : R3) (l : List R3) (hT : T = x :: l) (hl : T.length = n) (hnN : n ≤ N + 1) (hn60 : n ≤ 60) (hc : n ≤ c) (A : Option Addr) (na ca : Nat) (xs : List Int) (out v : Int) (w : World) (hs : Sl w b off (rows R3.vs T)) (hsr : Src 1 w (.slice A na ca) na (xs.map (Value.int .i64))) (hca : na ≤ ca) (hna10 : na ≤ 10)
    (hb : x.b = (xs.length : Int)) (hok : fOkN x = true) (hrun : fRun (fFols x) l = some []) (hv0 : 0 ≤ v) (hv : v + 4 * (n : Int) ≤ 1000) (h3 : x.a = 3) :
    Calls Try.prog 139 #[.slice (some ⟨b, off, none⟩) n c, .slice A na ca, .int .i64 out, .int .i64 v] w (LpOk w (lpF (N + 1) (x :: l) xs out v)) := by
  have HL := Lib.hid hl
  have ha := hsr.arg
  have hna : xs.length = na := by have := ha.1; simpa using this
  have HNA := Lib.hid hna
  have hcs := (fOkN_iff x).1 hok
  have hx0 : T[0]? = some x := by rw [hT]; rfl
  have hll : l.length + 1 = n := by rw [← hl, hT]; rfl
  have HPA := Lib.hid (partsAt_any b off n c T x l hT hl hn60 hc hok hrun w hs)
  obtain ⟨p0, p1, p2⟩ := hs.rec3 hx0
  rw [Nat.zero_mul, Nat.add_zero] at p0 p1 p2
  have hn1 : (0 : Int) < (n : Int) := by omega
  have hff := fFols_3 h3
  obtain ⟨kc, hkc⟩ : ∃ kc : Nat, x.c = (kc : Int) := ⟨x.c.toNat, by omega⟩
  have hk1 : 1 ≤ kc := by omega
  have hk4 : kc ≤ 4 := by omega
  have hm2 : fMany x = kc + 1 := by rw [fMany_3 h3]; omega
  obtain ⟨P0, C0, c0, R0, l0⟩ := part_at (i := 0) (a := (kc : Int)) hok hrun (by rw [hff, hkc]; rfl)
  have hLT := lpF_len (N + 1) (x :: l) xs out v
  have hHR := lp3 (N := N) (l := l) (xs := xs) (out := out) (v := v) h3 hkc
  have HPT : Hid (∀ t, t < kc → ∃ P pn, (cut (fMany x) l)[t + 1]? = some P ∧ P.length = pn ∧ ∀ W o1 k1, Below w.heap.size w W → Sl w b o1 (rows R3.vs P) → pn ≤ k1 → Calls Try.prog 139 #[.slice (some ⟨b, o1, none⟩) pn k1, .slice A na ca, .int .i64 (v + (t : Int)), .int .i64 (v + (kc : Int))] W (LpOk W (lpF N ((cut (fMany x) l).getD (t + 1) []) xs (v + (t : Int)) (v + (kc : Int))))) := by
    intro t ht
    obtain ⟨P, CP, cP, RP, lP⟩ := part_at (i := t + 1) (a := x.b) hok hrun (by rw [hff, hkc, Int.toNat_natCast, List.getElem?_cons_succ, List.getElem?_replicate, if_pos ht])
    refine ⟨P, P.length, CP, rfl, fun W o1 k1 hW hS hk => ?_⟩
    rw [cP]
    exact IH.out b o1 P.length k1 P A na ca xs _ _ W rfl (by omega) (by omega) hk (hS.below' hW) (hsr.below hW) hca hna10 (by rw [← hb]; exact RP) (by omega) (by omega)
  rw [hm2] at HPA HPT C0 c0 hHR
  obtain ⟨pl, hpl⟩ : ∃ pl, pl = cut (kc + 1) l := ⟨_, rfl⟩
  rw [← hpl] at HPA HPT C0 c0 hHR
  rw [hHR, List.length_append, List.length_cons] at hLT
  rw [c0] at hLT hHR
  have HIN : Hid (∀ t, t ≤ kc → (inn N pl xs v (v + (kc : Int)) t).length ≤ 480) := fun t ht => by have := inn_monoI N pl xs v (v + (kc : Int)) ht; omega
  have e0 : (x.a == 0) = false := by rw [h3]; rfl
  have e1 : (x.a == 1) = false := by rw [h3]; rfl
  have e2 : (x.a == 2) = false := by rw [h3]; rfl
  have e3 : (x.a == 3) = true := by rw [h3]; rfl
  obtain ⟨n0, hn0⟩ : ∃ n0, n0 = P0.length := ⟨_, rfl⟩
  have HN0 := Lib.hid hn0
  have HIH0 : Hid (∀ W o0 k0 A1 c1, Below w.heap.size w W → Sl w b o0 (rows R3.vs P0) → n0 ≤ k0 → Src 1 W (.slice A1 kc c1) kc ((vars v kc).map (Value.int .i64)) → kc ≤ c1 → Calls Try.prog 139 #[.slice (some ⟨b, o0, none⟩) n0 k0, .slice A1 kc c1, .int .i64 out, .int .i64 (v + (kc : Int))] W (LpOk W (lpF N P0 (vars v kc) out (v + (kc : Int))))) := fun W o0 k0 A1 c1 hW hS hk hA1 hc1 =>
    IH.out b o0 n0 k0 P0 A1 kc c1 _ out (v + (kc : Int)) W hn0.symm (by omega) (by omega) hk (hS.below' hW) hA1 hc1 (by omega) (by rw [vars_len]; exact R0) (by omega) (by omega)
  obtain ⟨X0, hX0⟩ : ∃ X0, X0 = lpF N P0 (vars v kc) out (v + (kc : Int)) := ⟨_, rfl⟩
  rw [← hX0] at HIH0 hHR hLT
  obtain ⟨a0, ha0⟩ : ∃ a0, a0 = X0.length := ⟨_, rfl⟩
  rw [← ha0] at hLT
  have HA0 := Lib.hid ha0
  have ha480 : a0 ≤ 480 := by omega
  have HR := Lib.hid hHR
  have HO0 := Lib.hid (one_rows_R3 X0)
  have HC0 := Lib.hid C0
  rw [hkc] at p2
  clear hx0 hok hb hcs h3 hT hl hna ha hrun IH hff hm2 c0 C0 R0 hX0 ha0 hLT hHR l0 hsr hpl hll hkc hn0
  go_enter Try.func139, Try.ntmps139
  go_wp2_with fail
  refine HPA.out.mono ?_
  rintro e w1 ⟨v1, vs, rfl, own1, hpv, b1⟩
  obtain ⟨A1, c1, rfl⟩ := own_form own1
  have r0 := cell_step (by exact p0) b1
  have r2 := cell_step (by exact p2) b1
  obtain ⟨g1, rfl, _, _⟩ := own_addr0 own1 (by omega)
  have hc1 := own_capL own1 _ _ rfl
  have HSL := Lib.hid (sl_of_own own1)
  have HPV := Lib.hid hpv
  clear own1 p0 p1 p2 hpv
  obtain ⟨o', ho', hsl⟩ := run_slice_tailR (P := Try.prog) 208 52 Try.underlying208 infoFuncsE g1 0 (kc + 1) c1 1 1 rfl (by omega) hc1
  have ho1 : o' = 1 := by omega
  subst ho1
  rw [show kc + 1 - 1 = kc by omega] at hsl
  obtain ⟨ct0, hct0⟩ : ∃ ct0, c1 - 1 = ct0 := ⟨_, rfl⟩
  rw [hct0] at hsl
  have hkk : (1 : Int) ≤ ((kc + 1 : Nat) : Int) := by omega
  obtain ⟨wa, HWA, BA, yA⟩ := al1 w1 (.cells #[] 128)
  obtain ⟨wb, HWB, BB, yB⟩ := al1 wa (.cells #[] 2)
  have ownO : wb.ownsRow w1.heap.size 128 3 (.slice (some ⟨w1.heap.size, 0, none⟩) 0 0) 0 [] := own_below' (by rw [HWA.out]; exact own_empty w1 128 3) BB
  have ownI : wb.ownsRow w1.heap.size 2 1 (.slice (some ⟨wa.heap.size, 0, none⟩) 0 0) 0 [] := own_base (by rw [HWB.out]; exact own_empty wa 2 1) BA.size
  have B1b := below_step BA BB
  clear yA yB BA BB ho' hct0
  have HSB := Lib.hid (show wa.heap.size = w1.heap.size + 1 by rw [HWA.out]; simp)
  rw [HSB.out] at ownI
  go_wp2
  rw [← HWA.out, ← HWB.out]
  go_loopw [11, 12, 59] (fun vo vi i wr => ∃ t ct : Nat, t ≤ kc ∧ Hid (ct = (inn N pl xs v (v + (kc : Int)) t).length) ∧ ct ≤ 480 ∧ i = .int .i64 (t : Nat) ∧ (∃ A c, vo = .slice A ct c ∧ Hid (wr.ownsRow w1.heap.size 128 3 (.slice A ct c) ct (rows R3.vs (inn N pl xs v (v + (kc : Int)) t)))) ∧ (∃ A c, vi = .slice A t c ∧ Hid (wr.ownsRow w1.heap.size 2 1 (.slice A t c) t ((vars v t).map (Value.int .i64)))) ∧ Below w1.heap.size w1 wr) (fun _ _ i _ => kc - (intOf i).toNat)
  case atStart => exact ⟨0, 0, by omega, rfl, by omega, rfl, ⟨_, _, rfl, ownO⟩, ⟨_, _, rfl, ownI⟩, B1b⟩
  case round =>
    obtain ⟨t, ct, ht, HCT, hct, rfl, ⟨A3, c3, rfl, ho⟩, ⟨A4, c4, rfl, hi⟩, hB⟩ := hrel
    clear ownO ownI B1b
    by_cases hlt : t < kc
    · obtain ⟨P, pn, hCP, hpn, hC⟩ := HPT.out t hlt
      obtain ⟨o1, k1, V1, m1, S1⟩ := HPV.out.2 (t + 1) P hCP
      rw [hpn] at V1 m1
      have k9 := (HSL.out.below' hB).at V1
      rw [Nat.zero_add, Nat.add_comm] at k9
      obtain ⟨Xt, hXt⟩ : ∃ Xt, Xt = lpF N (pl.getD (t + 1) []) xs (v + (t : Int)) (v + (kc : Int)) := ⟨_, rfl⟩
      rw [← hXt] at hC
      have hin1 : inn N pl xs v (v + (kc : Int)) (t + 1) = inn N pl xs v (v + (kc : Int)) t ++ Xt := by rw [inn_succ, ← hXt]
      obtain ⟨ta, hta⟩ : ∃ ta, ta = Xt.length := ⟨_, rfl⟩
      have hle := HIN.out (t + 1) (by omega)
      rw [hin1, List.length_append, ← HCT.out, ← hta] at hle
      have HTA := Lib.hid hta
      have HCT1 : Hid (ct + ta = (inn N pl xs v (v + (kc : Int)) (t + 1)).length) := by unfold Hid; rw [hin1, List.length_append, ← HCT.out, hta]
      have HRS : Hid (rows R3.vs (inn N pl xs v (v + (kc : Int)) t) ++ rows R3.vs Xt = rows R3.vs (inn N pl xs v (v + (kc : Int)) (t + 1))) := by unfold Hid; rw [hin1, rows_app]
      have HVS : Hid ((vars v t).map (Value.int .i64) ++ [.int .i64 (v + (t : Int))] = (vars v (t + 1)).map (Value.int .i64)) := by unfold Hid; rw [vars_succ, List.map_append]; rfl
      have HOX := Lib.hid (one_rows_R3 Xt)
      have HC := Lib.hid hC
      clear hXt hin1 hta hC V1 hCP hpn
      obtain ⟨wrb, HWR, BR, yR⟩ := al1 wr (.cells #[.int .i64 (v + (t : Int))] 2)
      have ob := own_below' ho.out BR
      have ib := own_below' hi.out BR
      have src : Src 1 wrb (.slice (some ⟨wr.heap.size, 0, none⟩) 1 1) 1 [.int .i64 (v + (t : Int))] := Src.of_own (own_laid' HWR.out rfl (by unfold maxLen; omega))
      have hBb := below_step hB BR
      have hlt' : (t : Int) < (kc : Int) := by omega
      clear yR ho hi BR
      go_wp2_with (at_builtin; rw [← HWR.out]; refine wpList_appx rfl _ _ _ rfl Try.underlying176 infoInt64S rfl (by omega) w1.heap.size ib hBb.size rfl src rfl (one_of_all rfl) (by unfold maxLen; omega) (by omega) ?_; intro v5 w5 own5 hg5 hnil5; clear hnil5 src; have B15 := grown_below hBb ib (Nat.le_refl _) hg5; have ob5 := ob.kept hg5 (own_apart_ty ob ib (by decide)); rw [HVS.out] at own5; obtain ⟨A5, c5, rfl⟩ := own_form own5; clear ib ob hg5 hBb k9)
      refine (HC.out _ o1 k1 (below_step b1 B15) S1 m1).mono ?_
      rintro e w6 ⟨⟨v6, rfl, own6⟩, b6⟩
      rw [← HTA.out] at own6
      obtain ⟨A6, c6, rfl⟩ := own_form own6
      have ob6 := own_below' ob5 b6
      have ib6 := own_below' own5 b6
      have B16 := below_step B15 b6
      have src6 := Src.of_own own6
      clear ob5 own5 own6
      go_wp2_with (at_builtin; refine wpList_appx rfl _ _ _ rfl Try.underlying59 infoLoop rfl (by omega) w1.heap.size ob6 B16.size rfl src6 rfl HOX.out (by unfold maxLen; omega) (by omega) ?_; intro v7 w7 own7 hg7 hnil7; clear hnil7; have B17 := grown_below B16 ob6 (Nat.le_refl _) hg7; have ib7 := ib6.kept hg7 (own_apart_ty ib6 ob6 (by decide)); rw [HRS.out] at own7; obtain ⟨A7, c7, rfl⟩ := own_form own7)
      go_roundw
      case rel => exact ⟨t + 1, ct + ta, hlt, HCT1, hle, by go_num, ⟨_, _, rfl, own7⟩, ⟨_, _, rfl, ib7⟩, B17⟩
      case measure => simp [intOf]; omega
    · obtain rfl : t = kc := by omega
      obtain ⟨o0, k0, V0, m0, S0⟩ := HPV.out.2 0 P0 HC0.out
      rw [← HN0.out] at V0 m0
      have k9 := (HSL.out.below' hB).at V0
      rw [Nat.zero_add] at k9
      have hc4 := own_capL hi.out _ _ rfl
      have srcI := Src.of_own hi.out
      have hm0 : (0 : Int) < ((t + 1 : Nat) : Int) := by omega
      have HRS : Hid (rows R3.vs (inn N pl xs v (v + (t : Int)) t) ++ rows R3.vs X0 = rows R3.vs (inn N pl xs v (v + (t : Int)) t ++ X0)) := by unfold Hid; rw [rows_app]
      clear V0
      go_wp2_with fail
      refine (HIH0.out _ o0 k0 A4 c4 (below_step b1 hB) S0 m0 srcI hc4).mono ?_
      rintro e w6 ⟨⟨v6, rfl, own6⟩, b6⟩
      rw [← HA0.out] at own6
      obtain ⟨A6, c6, rfl⟩ := own_form own6
      have ob6 := own_below' ho.out b6
      have B16 := below_step hB b6
      have src6 := Src.of_own own6
      clear own6 srcI k9
      go_wp2_with (at_builtin; refine wpList_appx rfl _ _ _ rfl Try.underlying59 infoLoop rfl (by omega) w1.heap.size ob6 B16.size rfl src6 rfl HO0.out (by unfold maxLen; omega) (by omega) ?_; intro v7 w7 own7 hg7 hnil7; clear hnil7; have B17 := grown_below B16 ob6 (Nat.le_refl _) hg7; rw [HRS.out] at own7; obtain ⟨A7, c7, rfl⟩ := own_form own7)
      go_ret
      refine ⟨⟨_, rfl, ?_⟩, below_step b1 B17⟩
      rw [HR.out, List.length_append, ← HCT.out, ← HA0.out]
      exact own_base own7 b1.size
end Go.Proofs.Ytfmfpknigafnoaa
