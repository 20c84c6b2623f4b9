/- Loop programs of recursive functions, the reference's side: the kind 3. -/
import Derived.Test.YtfmfpknigafnoaaLpSpec2
namespace Go.Proofs.Ytfmfpknigafnoaa
open Go.RowKit
set_option linter.all false

theorem inn_mono (N : Nat) (ps : List (List R3)) (xs : List Int) (v f : Int) {t k : Nat} (h : t ≤ k) : (inn N ps xs v f t).length ≤ (inn N ps xs v f k).length := by
  induction k with
  | zero =>
    obtain rfl : t = 0 := by omega
    exact Nat.le_refl _
  | succ k ih =>
    rcases Nat.lt_or_ge t (k + 1) with h1 | h1
    · rw [inn_succ, List.length_append]; have := ih (by omega); omega
    · obtain rfl : t = k + 1 := by omega
      exact Nat.le_refl _

set_option maxRecDepth 100000 in
set_option maxHeartbeats 4000000 in
theorem l17Comp_any (b off n c : Nat) (T : List R3) (hT : FAll T n) (N k m : Nat) (IH : Hid (LpIH b off n c T N)) (hmN : m ≤ N) (hkm : k + (m + 1) ≤ n) (x : R3) (hx : T[k]? = some x) (A : Option Addr) (na ca : Nat) (xs : List Int) (out v : Int) (w : World) (hs : Sl w b off (rows R3.vs T)) (hsr : Src 1 w (.slice A na ca) na (xs.map (Value.int .i64))) (hca : na ≤ ca) (hna10 : na ≤ 10)
    (hb : x.b = (xs.length : Int)) (hok : fOkN x = true) (l : List R3) (hl : l = part3 T (k + 1) m) (hrun : fRun (fFols x) l = some []) (hv0 : 0 ≤ v) (hv : v + 4 * ((m : Int) + 1) ≤ 1000) (h3 : x.a = 3) :
    Calls Try.prog 134 #[.slice (some ⟨b, off, none⟩) n c, .int .i64 k, .slice A na ca, .int .i64 out, .int .i64 v] w (LpOk w (lpF (N + 1) (x :: l) xs out v)) := by
  have ha := hsr.arg
  have HL := Lib.hid hT.len
  have HX := Lib.hid hx
  have hn60 := hT.le
  have hlt : k < n := by have := (List.getElem?_eq_some_iff.1 hx).1; have := hT.len; omega
  have hna : xs.length = na := by have := ha.1; simpa using this
  have HNA := Lib.hid hna
  have hcs := (fOkN_iff x).1 hok
  obtain ⟨bb, hbb⟩ := fit_next hT.fits hx
  obtain ⟨p0, p1, p2⟩ := hs.rec3 HX.out
  obtain ⟨w0, HW0, B0, y0⟩ := al1 w (.cells #[.int .i64 x.a, .int .i64 x.b, .int .i64 x.c] 115)
  have n0 : w0.cell? ⟨w.heap.size, 0, none⟩ = some (.int .i64 x.a) := by rw [cell_of_heap y0]; rfl
  have n1 : w0.cell? ⟨w.heap.size, 1, none⟩ = some (.int .i64 x.b) := by rw [cell_of_heap y0]; rfl
  have n2 : w0.cell? ⟨w.heap.size, 2, none⟩ = some (.int .i64 x.c) := by rw [cell_of_heap y0]; rfl
  have HPA := Lib.hid (l11Parts_any (some ⟨b, off, none⟩) n c k bb k rfl T x hx hT.ok hbb w0 (Args.of_sl (hs.below' B0) (by rw [rows_len R3.vs_len, HL.out])) (by omega))
  have HB0 := Lib.hid B0
  have hk0 : (0 : Int) ≤ (k : Int) := by omega
  have hkn : (k : Int) < (n : Int) := by omega
  have hpc := poss_cut T (fFols x) (k + 1) m (by rw [hT.len]; omega) (by rw [← hl]; exact hrun)
  rw [fFols_len hok, ← hl] at hpc
  obtain ⟨ps, hps⟩ : ∃ ps, ps = poss (fMany x) (k + 1) (T.drop (k + 1)) := ⟨_, rfl⟩
  rw [← hps] at hpc HPA
  have HPS : Hid (ps.length = fMany x) := by unfold Hid; rw [hps, poss_len]
  have hff := fFols_3 h3
  obtain ⟨kc, hkc⟩ : ∃ kc : Nat, x.c = (kc : Int) := ⟨x.c.toNat, by omega⟩
  have hk1 : 1 ≤ kc := by omega
  have hk4 : kc ≤ 4 := by omega
  have hm2 : fMany x = kc + 1 := by rw [fMany_3 h3]; omega
  obtain ⟨q0, len0, Q0, c0, i0, j0, k0', R0, l0⟩ := part_of (i := 0) (a := (kc : Int)) hok hrun hl hpc (by rw [hff, hkc]; rfl)
  have hLT := lpF_len (N + 1) (x :: l) xs out v
  have hHR := lp3 (N := N) (l := l) (xs := xs) (out := out) (v := v) h3 hkc
  have HPT : Hid (∀ t, t < kc → ∃ q, Hid (ps[t + 1]? = some q) ∧ (q : Int) < (n : Int) ∧ ∀ W, Below w.heap.size w W → Calls Try.prog 134 #[.slice (some ⟨b, off, none⟩) n c, .int .i64 (q : Int), .slice A na ca, .int .i64 (v + (t : Int)), .int .i64 (v + (kc : Int))] W (LpOk W (lpF N ((cut (fMany x) l).getD (t + 1) []) xs (v + (t : Int)) (v + (kc : Int))))) := by
    intro t ht
    obtain ⟨q, len, Q, cq, iq, jq, kq, Rq, lq⟩ := part_of (i := t + 1) (a := x.b) hok hrun hl hpc (by rw [hff, hkc, Int.toNat_natCast, List.getElem?_cons_succ, List.getElem?_replicate, if_pos ht])
    refine ⟨q, Q, by omega, fun W hW => ?_⟩
    rw [cq]
    exact IH.out q len q A na ca xs _ _ W rfl (by omega) (by omega) (hs.below' hW) (hsr.below hW) hca hna10 (by rw [← hb]; exact Rq) (by omega) (by omega)
  obtain ⟨pl, hpl⟩ : ∃ pl, pl = cut (fMany x) l := ⟨_, rfl⟩
  rw [← hpl] at HPT hHR c0
  rw [hHR, List.length_append, List.length_cons] at hLT
  have hll : l.length = m := by rw [hl]; exact part3_len (T := T) (by rw [HL.out]; omega)
  rw [c0] at hLT hHR
  have HIN : Hid (∀ t, t ≤ kc → (inn N pl xs v (v + (kc : Int)) t).length ≤ 480) := fun t ht => by have := inn_mono N pl xs v (v + (kc : Int)) ht; omega
  rw [hm2] at HPA HPS
  have e0 : (x.a == 0) = false := by rw [h3]; rfl
  have e1 : (x.a == 1) = false := by rw [h3]; rfl
  have e2 : (x.a == 2) = false := by rw [h3]; rfl
  have e3 : (x.a == 3) = true := by rw [h3]; rfl
  have HIH0 : Hid (∀ W A1 c1, Below w.heap.size w W → Src 1 W (.slice A1 kc c1) kc ((vars v kc).map (Value.int .i64)) → kc ≤ c1 → Calls Try.prog 134 #[.slice (some ⟨b, off, none⟩) n c, .int .i64 (q0 : Int), .slice A1 kc c1, .int .i64 out, .int .i64 (v + (kc : Int))] W (LpOk W (lpF N (part3 T q0 len0) (vars v kc) out (v + (kc : Int))))) := fun W A1 c1 hW hA1 hc1 =>
    IH.out q0 len0 q0 A1 kc c1 _ out (v + (kc : Int)) W rfl (by omega) (by omega) (hs.below' hW) hA1 hc1 (by omega) (by rw [vars_len]; exact R0) (by omega) (by omega)
  obtain ⟨X0, hX0⟩ : ∃ X0, X0 = lpF N (part3 T q0 len0) (vars v kc) out (v + (kc : Int)) := ⟨_, rfl⟩
  rw [← hX0] at HIH0 hHR hLT
  obtain ⟨a0, ha0⟩ : ∃ a0, a0 = X0.length := ⟨_, rfl⟩
  rw [← ha0] at hLT
  have HA0 := Lib.hid ha0
  have ha480 : a0 ≤ 480 := by omega
  have HR := Lib.hid hHR
  have HSR := Lib.hid hsr
  have HO0 := Lib.hid (one_rows_R3 X0)
  have hq0 : (0 : Int) ≤ (q0 : Int) := by omega
  rw [hkc] at n2 HW0 p2
  have HKC := Lib.hid hkc
  clear hx hok hb hcs hbb h3 hT hna y0 B0 hpc hps hff hm2 hl hrun c0 i0 j0 R0 hX0 ha0 ha IH hLT hHR k0' l0 hsr hpl hll hkc
  go_enter Try.func134, Try.ntmps134
  go_wp2_with fail
  rw [← HW0.out]
  refine HPA.out.mono ?_
  rintro e w1 ⟨v1, rfl, own1, b1⟩
  obtain ⟨A1, c1, rfl⟩ := own_form own1
  obtain ⟨g1, rfl, _, _⟩ := own_addr0 own1 (by omega)
  have ST1 := Lib.hid (show FSt w0 w.heap.size g1 x ps w1 from ⟨cell_step n0 b1, cell_step n1 b1, (by rw [HKC.out]; exact cell_step n2 b1), sl_of_own own1⟩)
  have r0 := cell_step (by exact n0) b1
  have B1 := below_step HB0.out b1
  clear own1 b1 p0 p1 p2 n0 n1 n2
  obtain ⟨wa, HWA, BA, yA⟩ := al1 w1 (.cells #[] 128)
  obtain ⟨wb, HWB, BB, yB⟩ := al1 wa (.cells #[] 2)
  have ownO : wb.ownsRow w1.heap.size 128 3 (.slice (some ⟨w1.heap.size, 0, none⟩) 0 0) 0 [] := own_below' (by rw [HWA.out]; exact own_empty w1 128 3) BB
  have ownI : wb.ownsRow w1.heap.size 2 1 (.slice (some ⟨wa.heap.size, 0, none⟩) 0 0) 0 [] := own_base (by rw [HWB.out]; exact own_empty wa 2 1) BA.size
  have B1b := below_step BA BB
  clear yA yB BA BB
  have HSB := Lib.hid (show wa.heap.size = w1.heap.size + 1 by rw [HWA.out]; simp)
  rw [HSB.out] at ownI
  go_wp2
  rw [← HWA.out, ← HWB.out]
  go_loopw [13, 14, 15] (fun vo vi i wr => ∃ t ct : Nat, t ≤ kc ∧ Hid (ct = (inn N pl xs v (v + (kc : Int)) t).length) ∧ ct ≤ 480 ∧ i = .int .i64 (t : Nat) ∧ (∃ A c, vo = .slice A ct c ∧ Hid (wr.ownsRow w1.heap.size 128 3 (.slice A ct c) ct (rows R3.vs (inn N pl xs v (v + (kc : Int)) t)))) ∧ (∃ A c, vi = .slice A t c ∧ Hid (wr.ownsRow w1.heap.size 2 1 (.slice A t c) t ((vars v t).map (Value.int .i64)))) ∧ Below w1.heap.size w1 wr) (fun _ _ i _ => kc - (intOf i).toNat)
  case atStart => exact ⟨0, 0, by omega, rfl, by omega, rfl, ⟨_, _, rfl, ownO⟩, ⟨_, _, rfl, ownI⟩, B1b⟩
  case round =>
    obtain ⟨t, ct, ht, HCT, hct, rfl, ⟨A3, c3, rfl, ho⟩, ⟨A4, c4, rfl, hi⟩, hB⟩ := hrel
    clear ownO ownI B1b
    have k2 : wr.cell? ⟨w.heap.size, 2, none⟩ = some (.int .i64 (kc : Int)) := by rw [← HKC.out]; exact (ST1.out.below hB).c2
    by_cases hlt : t < kc
    · obtain ⟨q, HQ, hqn, hC⟩ := HPT.out t hlt
      obtain ⟨Xt, hXt⟩ : ∃ Xt, Xt = lpF N (pl.getD (t + 1) []) xs (v + (t : Int)) (v + (kc : Int)) := ⟨_, rfl⟩
      rw [← hXt] at hC
      have hin1 : inn N pl xs v (v + (kc : Int)) (t + 1) = inn N pl xs v (v + (kc : Int)) t ++ Xt := by rw [inn_succ, ← hXt]
      obtain ⟨ta, hta⟩ : ∃ ta, ta = Xt.length := ⟨_, rfl⟩
      have hle := HIN.out (t + 1) (by omega)
      rw [hin1, List.length_append, ← HCT.out, ← hta] at hle
      have HTA := Lib.hid hta
      have HCT1 : Hid (ct + ta = (inn N pl xs v (v + (kc : Int)) (t + 1)).length) := by unfold Hid; rw [hin1, List.length_append, ← HCT.out, hta]
      have HRS : Hid (rows R3.vs (inn N pl xs v (v + (kc : Int)) t) ++ rows R3.vs Xt = rows R3.vs (inn N pl xs v (v + (kc : Int)) (t + 1))) := by unfold Hid; rw [hin1, rows_app]
      have HVS : Hid ((vars v t).map (Value.int .i64) ++ [.int .i64 (v + (t : Int))] = (vars v (t + 1)).map (Value.int .i64)) := by unfold Hid; rw [vars_succ, List.map_append]; rfl
      have HOX := Lib.hid (one_rows_R3 Xt)
      have HC := Lib.hid hC
      clear hXt hin1 hta hC
      obtain ⟨wrb, HWR, BR, yR⟩ := al1 wr (.cells #[.int .i64 (v + (t : Int))] 2)
      have ob := own_below' ho.out BR
      have ib := own_below' hi.out BR
      have src : Src 1 wrb (.slice (some ⟨wr.heap.size, 0, none⟩) 1 1) 1 [.int .i64 (v + (t : Int))] := Src.of_own (own_laid' HWR.out rfl (by unfold maxLen; omega))
      have hBb := below_step hB BR
      have hlt' : (t : Int) < (kc : Int) := by omega
      have w9 : IntKind.i64.wrap (v + (t : Int)) = v + (t : Int) := IntWalk.i64_in _ (by omega)
      have w8 : IntKind.i64.wrap ((t : Int) + 1) = (t : Int) + 1 := IntWalk.i64_in _ (by omega)
      have w7 : IntKind.i64.wrap (v + (kc : Int)) = v + (kc : Int) := IntWalk.i64_in _ (by omega)
      have w6 : IntKind.i64.wrap (1 + (t : Int)) = 1 + (t : Int) := IntWalk.i64_in _ (by omega)
      have ht1 : (0 : Int) ≤ (t : Int) + 1 := by omega
      have ht2 : (t : Int) + 1 < ((kc + 1 : Nat) : Int) := by omega
      have htn : ((t : Int) + 1).toNat = t + 1 := by omega
      clear yR ho hi BR
      go_wp2_with (at_builtin; rw [← HWR.out]; refine wpList_appx rfl _ _ _ rfl Try.underlying176 infoInt64S rfl (by omega) w1.heap.size ib hBb.size rfl src rfl (one_of_all rfl) (by unfold maxLen; omega) (by omega) ?_; intro v5 w5 own5 hg5 hnil5; clear hnil5 src; have B15 := grown_below hBb ib (Nat.le_refl _) hg5; have ob5 := ob.kept hg5 (own_apart_ty ob ib (by decide)); rw [HVS.out] at own5; obtain ⟨A5, c5, rfl⟩ := own_form own5; have q5 := (ST1.out.below B15).at HQ.out; have u5 : w5.cell? ⟨w.heap.size, 2, none⟩ = some (.int .i64 (kc : Int)) := (by rw [← HKC.out]; exact (ST1.out.below B15).c2); clear ib ob hg5 hBb k2)
      go_region_held3 (fun W => W.cell? ⟨g1, t + 1, none⟩ = some (.int .i64 (q : Int)) ∧ W.cell? ⟨w.heap.size, 2, none⟩ = some (.int .i64 (kc : Int))) (first | go_keep | exact ⟨q6, u6⟩ | exact ⟨q7, u7⟩)
        ((first
          | (refine step_appx (by rfl) _ _ _ (by rfl) Try.underlying59 infoLoop rfl (by omega) w1.heap.size ob6 B16.size (by rfl) (Src.of_own own6) (by rfl) HOX.out (by unfold maxLen; omega) (by omega) ?_; intro v7 w7 own7 hg7 hnil7; clear hnil7; have B17 := grown_below B16 ob6 (Nat.le_refl _) hg7; have ib7 := ib6.kept hg7 (own_apart_ty ib6 ob6 (by decide)); rw [HRS.out] at own7; obtain ⟨A7, c7, rfl⟩ := own_form own7; have q7 := (ST1.out.below B17).at HQ.out; have u7 : w7.cell? ⟨w.heap.size, 2, none⟩ = some (.int .i64 (kc : Int)) := (by rw [← HKC.out]; exact (ST1.out.below B17).c2))
          | (go_at_call 134; refine (HC.out _ (by exact below_step B1 (below_step B15 (Below.refl w5.heap.size w5).drew))).mono ?_; rintro e w6 ⟨⟨v6, rfl, own6'⟩, b6'⟩; have b6 := below_drew_at b6'; have own6 : w6.ownsRow w5.heap.size 128 3 v6 Xt.length (rows R3.vs Xt) := own6'; rw [← HTA.out] at own6; obtain ⟨A6, c6, rfl⟩ := own_form own6; have ob6 := own_below' ob5 b6; have ib6 := own_below' own5 b6; have B16 := below_step B15 b6; have q6 := (ST1.out.below B16).at HQ.out; have u6 : w6.cell? ⟨w.heap.size, 2, none⟩ = some (.int .i64 (kc : Int)) := (by rw [← HKC.out]; exact (ST1.out.below B16).c2))))
      all_goals
        clear q5 u5 q6 u6
        go_wp2
        go_roundw
        case rel => exact ⟨t + 1, ct + ta, hlt, HCT1, hle, by go_num, ⟨_, _, rfl, own7⟩, ⟨_, _, rfl, ib7⟩, B17⟩
        case measure => simp [intOf]; omega
    · obtain rfl : t = kc := by omega
      have hc4 := own_capL hi.out _ _ rfl
      have q5 := (ST1.out.below hB).at Q0.out
      have w7 : IntKind.i64.wrap (v + (t : Int)) = v + (t : Int) := IntWalk.i64_in _ (by omega)
      have hm0 : (0 : Int) < ((t + 1 : Nat) : Int) := by omega
      have HRS : Hid (rows R3.vs (inn N pl xs v (v + (t : Int)) t) ++ rows R3.vs X0 = rows R3.vs (inn N pl xs v (v + (t : Int)) t ++ X0)) := by unfold Hid; rw [rows_app]
      go_wp2
      go_region_held3 (fun W => W.cell? ⟨g1, 0, none⟩ = some (.int .i64 (q0 : Int)) ∧ W.cell? ⟨w.heap.size, 2, none⟩ = some (.int .i64 (t : Int))) (first | go_keep | exact ⟨q6, u6⟩ | exact ⟨q7, u7⟩)
        ((first
          | (refine step_appx (by rfl) _ _ _ (by rfl) Try.underlying59 infoLoop rfl (by omega) w1.heap.size ob6 B16.size (by rfl) (Src.of_own own6) (by rfl) HO0.out (by unfold maxLen; omega) (by omega) ?_; intro v7 w7 own7 hg7 hnil7; clear hnil7; have B17 := grown_below B16 ob6 (Nat.le_refl _) hg7; rw [HRS.out] at own7; obtain ⟨A7, c7, rfl⟩ := own_form own7; have q7 := (ST1.out.below B17).at Q0.out; have u7 : w7.cell? ⟨w.heap.size, 2, none⟩ = some (.int .i64 (t : Int)) := (by rw [← HKC.out]; exact (ST1.out.below B17).c2))
          | (go_at_call 134; refine (HIH0.out _ A4 c4 (by exact below_step B1 (below_step hB (Below.refl wr.heap.size wr).drew)) (by exact (Src.of_own hi.out).below (Below.refl wr.heap.size wr).drew) hc4).mono ?_; rintro e w6 ⟨⟨v6, rfl, own6'⟩, b6'⟩; have b6 := below_drew_at b6'; have own6 : w6.ownsRow wr.heap.size 128 3 v6 X0.length (rows R3.vs X0) := own6'; rw [← HA0.out] at own6; obtain ⟨A6, c6, rfl⟩ := own_form own6; have ob6 := own_below' ho.out b6; have B16 := below_step hB b6; have q6 := (ST1.out.below B16).at Q0.out; have u6 : w6.cell? ⟨w.heap.size, 2, none⟩ = some (.int .i64 (t : Int)) := (by rw [← HKC.out]; exact (ST1.out.below B16).c2))))
      all_goals
        clear q5 q6 u6
        go_wp2
        go_ret
        refine ⟨⟨_, rfl, ?_⟩, below_step B1 B17⟩
        rw [HR.out, List.length_append, ← HCT.out, ← HA0.out]
        exact own_base own7 B1.size
end Go.Proofs.Ytfmfpknigafnoaa
