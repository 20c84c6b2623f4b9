/- The law FnExactRunFuncProgram returns true for every input, and each argument reads afterwards as before: the proof, part 5. No conditions. -/
import Derived.Test.YtjggkgdojhlhpaaGreatRunFuncProgramZd
import Derived.StillTailTactics
import Derived.Deep.DrawnRows
/- Loop programs of recursive functions, the program's side: loopsOf, the kinds 0, 1, 2. -/
namespace Go.Proofs.YtjggkgdojhlhpaaGreat
open Go.RowKit
set_option linter.all false

/-- The induction of the program's way. -/
def LpIHi (N : Nat) : Prop := ∀ (b off n c : Nat) (T : List R3) (A : Option Addr) (na ca : Nat) (xs : List Int) (out v : Int) (w : World), T.length = n → n ≤ N → n ≤ 60 → n ≤ c → Sl w b off (rows R3.vs T) → Src 1 w (.slice A na ca) na (xs.map (Value.int .i64)) → na ≤ ca → na ≤ 10 →
  fRun [(xs.length : Int)] T = some [] → 0 ≤ v → v + 4 * (n : Int) ≤ 1000 → Calls Tryz.prog 61 #[.slice (some ⟨b, off, none⟩) n c, .slice A na ca, .int .i64 out, .int .i64 v] w (LpOk w (lpF N T xs out v))

set_option maxRecDepth 100000 in
set_option maxHeartbeats 1000000 in
theorem loops0_any (N : Nat) (IH : Hid (LpIHi N)) (b off n c : Nat) (T : List R3) (x : R3) (l : List R3) (hT : T = x :: l) (hl : T.length = n) (hnN : n ≤ N + 1) (hn60 : n ≤ 60) (hc : n ≤ c) (A : Option Addr) (na ca : Nat) (xs : List Int) (out v : Int) (w : World) (hs : Sl w b off (rows R3.vs T)) (hsr : Src 1 w (.slice A na ca) na (xs.map (Value.int .i64))) (hca : na ≤ ca) (hna10 : na ≤ 10)
    (hb : x.b = (xs.length : Int)) (hok : fOkN x = true) (hrun : fRun (fFols x) l = some []) (hv0 : 0 ≤ v) (hv : v + 4 * (n : Int) ≤ 1000) (h0 : x.a = 0) :
    Calls Tryz.prog 61 #[.slice (some ⟨b, off, none⟩) n c, .slice A na ca, .int .i64 out, .int .i64 v] w (LpOk w (lpF (N + 1) (x :: l) xs out v)) := by
  have HL := Lib.hid hl
  have ha := hsr.arg
  have hna : xs.length = na := by have := ha.1; simpa using this
  have HNA := Lib.hid hna
  have hcs := (fOkN_iff x).1 hok
  have hx0 : T[0]? = some x := by rw [hT]; rfl
  have hll : l.length + 1 = n := by rw [← hl, hT]; rfl
  have HPA := Lib.hid (partsAt_any b off n c T x l hT hl hn60 hc hok hrun w hs)
  obtain ⟨p0, p1, p2⟩ := hs.rec3 hx0
  rw [Nat.zero_mul, Nat.add_zero] at p0 p1 p2
  have hn1 : (0 : Int) < (n : Int) := by omega
  have HR := Lib.hid (lp0 (N := N) (l := l) (xs := xs) (out := out) (v := v) h0)
  have e0 : (x.a == 0) = true := by rw [h0]; rfl
  clear hx0 hok hb hcs h0 hT hl hna ha hrun IH
  go_enter Tryz.func61, Tryz.ntmps61
  go_wp2_with fail
  refine HPA.out.mono ?_
  rintro e w1 ⟨v1, vs, rfl, own1, hpv, b1⟩
  obtain ⟨A1, c1, rfl⟩ := own_form own1
  have r0 := cell_step (by exact p0) b1
  clear p0 p1 p2 hpv
  go_wp2_with fail
  refine (zero_any out _).mono ?_
  rintro e w2 ⟨⟨v2, rfl, own2⟩, b2⟩
  obtain ⟨A2, c2, rfl⟩ := own_form own2
  go_wp2
  go_ret
  rw [HR.out]
  exact ⟨⟨_, rfl, own_base own2 b1.size⟩, below_step b1 b2⟩

set_option maxRecDepth 100000 in
set_option maxHeartbeats 1000000 in
theorem loops1_any (N : Nat) (IH : Hid (LpIHi N)) (b off n c : Nat) (T : List R3) (x : R3) (l : List R3) (hT : T = x :: l) (hl : T.length = n) (hnN : n ≤ N + 1) (hn60 : n ≤ 60) (hc : n ≤ c) (A : Option Addr) (na ca : Nat) (xs : List Int) (out v : Int) (w : World) (hs : Sl w b off (rows R3.vs T)) (hsr : Src 1 w (.slice A na ca) na (xs.map (Value.int .i64))) (hca : na ≤ ca) (hna10 : na ≤ 10)
    (hb : x.b = (xs.length : Int)) (hok : fOkN x = true) (hrun : fRun (fFols x) l = some []) (hv0 : 0 ≤ v) (hv : v + 4 * (n : Int) ≤ 1000) (h0 : x.a = 1) :
    Calls Tryz.prog 61 #[.slice (some ⟨b, off, none⟩) n c, .slice A na ca, .int .i64 out, .int .i64 v] w (LpOk w (lpF (N + 1) (x :: l) xs out v)) := by
  have HL := Lib.hid hl
  have ha := hsr.arg
  have hna : xs.length = na := by have := ha.1; simpa using this
  have HNA := Lib.hid hna
  have hcs := (fOkN_iff x).1 hok
  have hx0 : T[0]? = some x := by rw [hT]; rfl
  have hll : l.length + 1 = n := by rw [← hl, hT]; rfl
  have HPA := Lib.hid (partsAt_any b off n c T x l hT hl hn60 hc hok hrun w hs)
  obtain ⟨p0, p1, p2⟩ := hs.rec3 hx0
  rw [Nat.zero_mul, Nat.add_zero] at p0 p1 p2
  have hn1 : (0 : Int) < (n : Int) := by omega
  have HR := Lib.hid (lp1 (N := N) (l := l) (xs := xs) (out := out) (v := v) h0)
  have e0 : (x.a == 0) = false := by rw [h0]; rfl
  have e1 : (x.a == 1) = true := by rw [h0]; rfl
  have hna1 : 0 < na := by omega
  obtain ⟨ba, offa, rfl, hsa⟩ := ha.sl hna1
  obtain ⟨z, HZ, hz⟩ := map_at (Value.int .i64) xs (k := 0) (by omega)
  have HG : Hid (xs.getD 0 0 = z) := getD_at HZ.out
  have ha1 : (0 : Int) < (na : Int) := by omega
  clear hx0 hok hb hcs h0 hT hl hna ha hrun IH
  go_enter Tryz.func61, Tryz.ntmps61
  go_wp2_with fail
  refine HPA.out.mono ?_
  rintro e w1 ⟨v1, vs, rfl, own1, hpv, b1⟩
  obtain ⟨A1, c1, rfl⟩ := own_form own1
  have r0 := cell_step (by exact p0) b1
  have s0 := (hsa.below' b1).at hz
  rw [Nat.add_zero] at s0
  clear p0 p1 p2 hpv hz
  go_wp2_with fail
  refine (assign_any out z _).mono ?_
  rintro e w2 ⟨⟨v2, rfl, own2⟩, b2⟩
  obtain ⟨A2, c2, rfl⟩ := own_form own2
  go_wp2_with fail
  refine (inc_any out _).mono ?_
  rintro e w3 ⟨⟨v3, rfl, own3⟩, b3⟩
  obtain ⟨A3, c3, rfl⟩ := own_form own3
  have own23 := own_below' own2 b3
  have B3 := below_step b2 b3
  have B13 := below_step b1 B3
  have src := Src.of_own own3
  go_wp2_with (at_builtin; refine wpList_appx rfl _ _ _ rfl Tryz.underlying59 infoLoop rfl (by omega) w1.heap.size own23 B3.size rfl src rfl (one_of_all rfl) (by unfold maxLen; omega) (by omega) ?_; intro v4 w4 own4 hg4 hnil4; clear hnil4; have B4 := grown_below B13 own23 b1.size hg4; obtain ⟨A4, c4, rfl⟩ := own_form own4)
  go_ret
  rw [HR.out, HG.out]
  exact ⟨⟨_, rfl, own_base own4 b1.size⟩, B4⟩

set_option maxRecDepth 100000 in
set_option maxHeartbeats 1000000 in
theorem loops2_any (N : Nat) (IH : Hid (LpIHi N)) (b off n c : Nat) (T : List R3) (x : R3) (l : List R3) (hT : T = x :: l) (hl : T.length = n) (hnN : n ≤ N + 1) (hn60 : n ≤ 60) (hc : n ≤ c) (A : Option Addr) (na ca : Nat) (xs : List Int) (out v : Int) (w : World) (hs : Sl w b off (rows R3.vs T)) (hsr : Src 1 w (.slice A na ca) na (xs.map (Value.int .i64))) (hca : na ≤ ca) (hna10 : na ≤ 10)
    (hb : x.b = (xs.length : Int)) (hok : fOkN x = true) (hrun : fRun (fFols x) l = some []) (hv0 : 0 ≤ v) (hv : v + 4 * (n : Int) ≤ 1000) (h0 : x.a = 2) :
    Calls Tryz.prog 61 #[.slice (some ⟨b, off, none⟩) n c, .slice A na ca, .int .i64 out, .int .i64 v] w (LpOk w (lpF (N + 1) (x :: l) xs out v)) := by
  have HL := Lib.hid hl
  have ha := hsr.arg
  have hna : xs.length = na := by have := ha.1; simpa using this
  have HNA := Lib.hid hna
  have hcs := (fOkN_iff x).1 hok
  have hx0 : T[0]? = some x := by rw [hT]; rfl
  have hll : l.length + 1 = n := by rw [← hl, hT]; rfl
  have HPA := Lib.hid (partsAt_any b off n c T x l hT hl hn60 hc hok hrun w hs)
  obtain ⟨p0, p1, p2⟩ := hs.rec3 hx0
  rw [Nat.zero_mul, Nat.add_zero] at p0 p1 p2
  have hn1 : (0 : Int) < (n : Int) := by omega
  have HR := Lib.hid (lp2 (N := N) (l := l) (xs := xs) (out := out) (v := v) h0)
  have e0 : (x.a == 0) = false := by rw [h0]; rfl
  have e1 : (x.a == 1) = false := by rw [h0]; rfl
  have e2 : (x.a == 2) = true := by rw [h0]; rfl
  obtain ⟨ic, hic⟩ : ∃ ic : Nat, x.c = (ic : Int) := ⟨x.c.toNat, by omega⟩
  have hna1 : ic < na := by omega
  obtain ⟨ba, offa, rfl, hsa⟩ := ha.sl hna1
  obtain ⟨z, HZ, hz⟩ := map_at (Value.int .i64) xs (k := ic) (by omega)
  have HG : Hid (xs.getD x.c.toNat 0 = z) := by unfold Hid; rw [hic, Int.toNat_natCast]; exact getD_at HZ.out
  have ha0 : (0 : Int) ≤ (ic : Int) := by omega
  have ha1 : (ic : Int) < (na : Int) := by omega
  rw [hic] at p2
  clear hx0 hok hb hcs h0 hT hl hna ha hrun IH hic
  go_enter Tryz.func61, Tryz.ntmps61
  go_wp2_with fail
  refine HPA.out.mono ?_
  rintro e w1 ⟨v1, vs, rfl, own1, hpv, b1⟩
  obtain ⟨A1, c1, rfl⟩ := own_form own1
  have r0 := cell_step (by exact p0) b1
  have r2 := cell_step (by exact p2) b1
  have s0 := (hsa.below' b1).at hz
  clear p0 p1 p2 hpv hz
  go_wp2_with fail
  refine (assign_any out z _).mono ?_
  rintro e w2 ⟨⟨v2, rfl, own2⟩, b2⟩
  obtain ⟨A2, c2, rfl⟩ := own_form own2
  go_wp2
  go_ret
  rw [HR.out, HG.out]
  exact ⟨⟨_, rfl, own_base own2 b1.size⟩, below_step b1 b2⟩
end Go.Proofs.YtjggkgdojhlhpaaGreat

/- Loop programs of recursive functions, the program's side: loopsOf, the kind 3. -/
namespace Go.Proofs.YtjggkgdojhlhpaaGreat
open Go.RowKit
set_option linter.all false

theorem inn_monoI (N : Nat) (ps : List (List R3)) (xs : List Int) (v f : Int) {t k : Nat} (h : t ≤ k) : (inn N ps xs v f t).length ≤ (inn N ps xs v f k).length := by
  induction k with
  | zero =>
    obtain rfl : t = 0 := by omega
    exact Nat.le_refl _
  | succ k ih =>
    rcases Nat.lt_or_ge t (k + 1) with h1 | h1
    · rw [inn_succ, List.length_append]; have := ih (by omega); omega
    · obtain rfl : t = k + 1 := by omega
      exact Nat.le_refl _

set_option maxRecDepth 100000 in
set_option maxHeartbeats 4000000 in
theorem loops3_any (N : Nat) (IH : Hid (LpIHi N)) (b off n c : Nat) (T : List R3) (x : R3) (l : List R3) (hT : T = x :: l) (hl : T.length = n) (hnN : n ≤ N + 1) (hn60 : n ≤ 60) (hc : n ≤ c) (A : Option Addr) (na ca : Nat) (xs : List Int) (out v : Int) (w : World) (hs : Sl w b off (rows R3.vs T)) (hsr : Src 1 w (.slice A na ca) na (xs.map (Value.int .i64))) (hca : na ≤ ca) (hna10 : na ≤ 10)
    (hb : x.b = (xs.length : Int)) (hok : fOkN x = true) (hrun : fRun (fFols x) l = some []) (hv0 : 0 ≤ v) (hv : v + 4 * (n : Int) ≤ 1000) (h3 : x.a = 3) :
    Calls Tryz.prog 61 #[.slice (some ⟨b, off, none⟩) n c, .slice A na ca, .int .i64 out, .int .i64 v] w (LpOk w (lpF (N + 1) (x :: l) xs out v)) := by
  have HL := Lib.hid hl
  have ha := hsr.arg
  have hna : xs.length = na := by have := ha.1; simpa using this
  have HNA := Lib.hid hna
  have hcs := (fOkN_iff x).1 hok
  have hx0 : T[0]? = some x := by rw [hT]; rfl
  have hll : l.length + 1 = n := by rw [← hl, hT]; rfl
  have HPA := Lib.hid (partsAt_any b off n c T x l hT hl hn60 hc hok hrun w hs)
  obtain ⟨p0, p1, p2⟩ := hs.rec3 hx0
  rw [Nat.zero_mul, Nat.add_zero] at p0 p1 p2
  have hn1 : (0 : Int) < (n : Int) := by omega
  have hff := fFols_3 h3
  obtain ⟨kc, hkc⟩ : ∃ kc : Nat, x.c = (kc : Int) := ⟨x.c.toNat, by omega⟩
  have hk1 : 1 ≤ kc := by omega
  have hk4 : kc ≤ 4 := by omega
  have hm2 : fMany x = kc + 1 := by rw [fMany_3 h3]; omega
  obtain ⟨P0, C0, c0, R0, l0⟩ := part_at (i := 0) (a := (kc : Int)) hok hrun (by rw [hff, hkc]; rfl)
  have hLT := lpF_len (N + 1) (x :: l) xs out v
  have hHR := lp3 (N := N) (l := l) (xs := xs) (out := out) (v := v) h3 hkc
  have HPT : Hid (∀ t, t < kc → ∃ P pn, (cut (fMany x) l)[t + 1]? = some P ∧ P.length = pn ∧ ∀ W o1 k1, Below w.heap.size w W → Sl w b o1 (rows R3.vs P) → pn ≤ k1 → Calls Tryz.prog 61 #[.slice (some ⟨b, o1, none⟩) pn k1, .slice A na ca, .int .i64 (v + (t : Int)), .int .i64 (v + (kc : Int))] W (LpOk W (lpF N ((cut (fMany x) l).getD (t + 1) []) xs (v + (t : Int)) (v + (kc : Int))))) := by
    intro t ht
    obtain ⟨P, CP, cP, RP, lP⟩ := part_at (i := t + 1) (a := x.b) hok hrun (by rw [hff, hkc, Int.toNat_natCast, List.getElem?_cons_succ, List.getElem?_replicate, if_pos ht])
    refine ⟨P, P.length, CP, rfl, fun W o1 k1 hW hS hk => ?_⟩
    rw [cP]
    exact IH.out b o1 P.length k1 P A na ca xs _ _ W rfl (by omega) (by omega) hk (hS.below' hW) (hsr.below hW) hca hna10 (by rw [← hb]; exact RP) (by omega) (by omega)
  rw [hm2] at HPA HPT C0 c0 hHR
  obtain ⟨pl, hpl⟩ : ∃ pl, pl = cut (kc + 1) l := ⟨_, rfl⟩
  rw [← hpl] at HPA HPT C0 c0 hHR
  rw [hHR, List.length_append, List.length_cons] at hLT
  rw [c0] at hLT hHR
  have HIN : Hid (∀ t, t ≤ kc → (inn N pl xs v (v + (kc : Int)) t).length ≤ 480) := fun t ht => by have := inn_monoI N pl xs v (v + (kc : Int)) ht; omega
  have e0 : (x.a == 0) = false := by rw [h3]; rfl
  have e1 : (x.a == 1) = false := by rw [h3]; rfl
  have e2 : (x.a == 2) = false := by rw [h3]; rfl
  have e3 : (x.a == 3) = true := by rw [h3]; rfl
  obtain ⟨n0, hn0⟩ : ∃ n0, n0 = P0.length := ⟨_, rfl⟩
  have HN0 := Lib.hid hn0
  have HIH0 : Hid (∀ W o0 k0 A1 c1, Below w.heap.size w W → Sl w b o0 (rows R3.vs P0) → n0 ≤ k0 → Src 1 W (.slice A1 kc c1) kc ((vars v kc).map (Value.int .i64)) → kc ≤ c1 → Calls Tryz.prog 61 #[.slice (some ⟨b, o0, none⟩) n0 k0, .slice A1 kc c1, .int .i64 out, .int .i64 (v + (kc : Int))] W (LpOk W (lpF N P0 (vars v kc) out (v + (kc : Int))))) := fun W o0 k0 A1 c1 hW hS hk hA1 hc1 =>
    IH.out b o0 n0 k0 P0 A1 kc c1 _ out (v + (kc : Int)) W hn0.symm (by omega) (by omega) hk (hS.below' hW) hA1 hc1 (by omega) (by rw [vars_len]; exact R0) (by omega) (by omega)
  obtain ⟨X0, hX0⟩ : ∃ X0, X0 = lpF N P0 (vars v kc) out (v + (kc : Int)) := ⟨_, rfl⟩
  rw [← hX0] at HIH0 hHR hLT
  obtain ⟨a0, ha0⟩ : ∃ a0, a0 = X0.length := ⟨_, rfl⟩
  rw [← ha0] at hLT
  have HA0 := Lib.hid ha0
  have ha480 : a0 ≤ 480 := by omega
  have HR := Lib.hid hHR
  have HO0 := Lib.hid (one_rows_R3 X0)
  have HC0 := Lib.hid C0
  rw [hkc] at p2
  clear hx0 hok hb hcs h3 hT hl hna ha hrun IH hff hm2 c0 C0 R0 hX0 ha0 hLT hHR l0 hsr hpl hll hkc hn0
  go_enter Tryz.func61, Tryz.ntmps61
  go_wp2_with fail
  refine HPA.out.mono ?_
  rintro e w1 ⟨v1, vs, rfl, own1, hpv, b1⟩
  obtain ⟨A1, c1, rfl⟩ := own_form own1
  have r0 := cell_step (by exact p0) b1
  have r2 := cell_step (by exact p2) b1
  obtain ⟨g1, rfl, _, _⟩ := own_addr0 own1 (by omega)
  have hc1 := own_capL own1 _ _ rfl
  have HSL := Lib.hid (sl_of_own own1)
  have HPV := Lib.hid hpv
  clear own1 p0 p1 p2 hpv
  obtain ⟨o', ho', hsl⟩ := run_slice_tailR (P := Tryz.prog) 113 27 Tryz.underlying113 infoFuncsE g1 0 (kc + 1) c1 1 1 rfl (by omega) hc1
  have ho1 : o' = 1 := by omega
  subst ho1
  rw [show kc + 1 - 1 = kc by omega] at hsl
  obtain ⟨ct0, hct0⟩ : ∃ ct0, c1 - 1 = ct0 := ⟨_, rfl⟩
  rw [hct0] at hsl
  have hkk : (1 : Int) ≤ ((kc + 1 : Nat) : Int) := by omega
  obtain ⟨wa, HWA, BA, yA⟩ := al1 w1 (.cells #[] 86)
  obtain ⟨wb, HWB, BB, yB⟩ := al1 wa (.cells #[] 2)
  have ownO : wb.ownsRow w1.heap.size 86 3 (.slice (some ⟨w1.heap.size, 0, none⟩) 0 0) 0 [] := own_below' (by rw [HWA.out]; exact own_empty w1 86 3) BB
  have ownI : wb.ownsRow w1.heap.size 2 1 (.slice (some ⟨wa.heap.size, 0, none⟩) 0 0) 0 [] := own_base (by rw [HWB.out]; exact own_empty wa 2 1) BA.size
  have B1b := below_step BA BB
  clear yA yB BA BB ho' hct0
  have HSB := Lib.hid (show wa.heap.size = w1.heap.size + 1 by rw [HWA.out]; simp)
  rw [HSB.out] at ownI
  go_wp2
  rw [← HWA.out, ← HWB.out]
  go_loopw [11, 12, 59] (fun vo vi i wr => ∃ t ct : Nat, t ≤ kc ∧ Hid (ct = (inn N pl xs v (v + (kc : Int)) t).length) ∧ ct ≤ 480 ∧ i = .int .i64 (t : Nat) ∧ (∃ A c, vo = .slice A ct c ∧ Hid (wr.ownsRow w1.heap.size 86 3 (.slice A ct c) ct (rows R3.vs (inn N pl xs v (v + (kc : Int)) t)))) ∧ (∃ A c, vi = .slice A t c ∧ Hid (wr.ownsRow w1.heap.size 2 1 (.slice A t c) t ((vars v t).map (Value.int .i64)))) ∧ Below w1.heap.size w1 wr) (fun _ _ i _ => kc - (intOf i).toNat)
  case atStart => exact ⟨0, 0, by omega, rfl, by omega, rfl, ⟨_, _, rfl, ownO⟩, ⟨_, _, rfl, ownI⟩, B1b⟩
  case round =>
    obtain ⟨t, ct, ht, HCT, hct, rfl, ⟨A3, c3, rfl, ho⟩, ⟨A4, c4, rfl, hi⟩, hB⟩ := hrel
    clear ownO ownI B1b
    by_cases hlt : t < kc
    · obtain ⟨P, pn, hCP, hpn, hC⟩ := HPT.out t hlt
      obtain ⟨o1, k1, V1, m1, S1⟩ := HPV.out.2 (t + 1) P hCP
      rw [hpn] at V1 m1
      have k9 := (HSL.out.below' hB).at V1
      rw [Nat.zero_add, Nat.add_comm] at k9
      obtain ⟨Xt, hXt⟩ : ∃ Xt, Xt = lpF N (pl.getD (t + 1) []) xs (v + (t : Int)) (v + (kc : Int)) := ⟨_, rfl⟩
      rw [← hXt] at hC
      have hin1 : inn N pl xs v (v + (kc : Int)) (t + 1) = inn N pl xs v (v + (kc : Int)) t ++ Xt := by rw [inn_succ, ← hXt]
      obtain ⟨ta, hta⟩ : ∃ ta, ta = Xt.length := ⟨_, rfl⟩
      have hle := HIN.out (t + 1) (by omega)
      rw [hin1, List.length_append, ← HCT.out, ← hta] at hle
      have HTA := Lib.hid hta
      have HCT1 : Hid (ct + ta = (inn N pl xs v (v + (kc : Int)) (t + 1)).length) := by unfold Hid; rw [hin1, List.length_append, ← HCT.out, hta]
      have HRS : Hid (rows R3.vs (inn N pl xs v (v + (kc : Int)) t) ++ rows R3.vs Xt = rows R3.vs (inn N pl xs v (v + (kc : Int)) (t + 1))) := by unfold Hid; rw [hin1, rows_app]
      have HVS : Hid ((vars v t).map (Value.int .i64) ++ [.int .i64 (v + (t : Int))] = (vars v (t + 1)).map (Value.int .i64)) := by unfold Hid; rw [vars_succ, List.map_append]; rfl
      have HOX := Lib.hid (one_rows_R3 Xt)
      have HC := Lib.hid hC
      clear hXt hin1 hta hC V1 hCP hpn
      obtain ⟨wrb, HWR, BR, yR⟩ := al1 wr (.cells #[.int .i64 (v + (t : Int))] 2)
      have ob := own_below' ho.out BR
      have ib := own_below' hi.out BR
      have src : Src 1 wrb (.slice (some ⟨wr.heap.size, 0, none⟩) 1 1) 1 [.int .i64 (v + (t : Int))] := Src.of_own (own_laid' HWR.out rfl (by unfold maxLen; omega))
      have hBb := below_step hB BR
      have hlt' : (t : Int) < (kc : Int) := by omega
      clear yR ho hi BR
      go_wp2_with (at_builtin; rw [← HWR.out]; refine wpList_appx rfl _ _ _ rfl Tryz.underlying23 infoInt64S rfl (by omega) w1.heap.size ib hBb.size rfl src rfl (one_of_all rfl) (by unfold maxLen; omega) (by omega) ?_; intro v5 w5 own5 hg5 hnil5; clear hnil5 src; have B15 := grown_below hBb ib (Nat.le_refl _) hg5; have ob5 := ob.kept hg5 (own_apart_ty ob ib (by decide)); rw [HVS.out] at own5; obtain ⟨A5, c5, rfl⟩ := own_form own5; clear ib ob hg5 hBb k9)
      refine (HC.out _ o1 k1 (below_step b1 B15) S1 m1).mono ?_
      rintro e w6 ⟨⟨v6, rfl, own6⟩, b6⟩
      rw [← HTA.out] at own6
      obtain ⟨A6, c6, rfl⟩ := own_form own6
      have ob6 := own_below' ob5 b6
      have ib6 := own_below' own5 b6
      have B16 := below_step B15 b6
      have src6 := Src.of_own own6
      clear ob5 own5 own6
      go_wp2_with (at_builtin; refine wpList_appx rfl _ _ _ rfl Tryz.underlying59 infoLoop rfl (by omega) w1.heap.size ob6 B16.size rfl src6 rfl HOX.out (by unfold maxLen; omega) (by omega) ?_; intro v7 w7 own7 hg7 hnil7; clear hnil7; have B17 := grown_below B16 ob6 (Nat.le_refl _) hg7; have ib7 := ib6.kept hg7 (own_apart_ty ib6 ob6 (by decide)); rw [HRS.out] at own7; obtain ⟨A7, c7, rfl⟩ := own_form own7)
      go_roundw
      case rel => exact ⟨t + 1, ct + ta, hlt, HCT1, hle, by go_num, ⟨_, _, rfl, own7⟩, ⟨_, _, rfl, ib7⟩, B17⟩
      case measure => simp [intOf]; omega
    · obtain rfl : t = kc := by omega
      obtain ⟨o0, k0, V0, m0, S0⟩ := HPV.out.2 0 P0 HC0.out
      rw [← HN0.out] at V0 m0
      have k9 := (HSL.out.below' hB).at V0
      rw [Nat.zero_add] at k9
      have hc4 := own_capL hi.out _ _ rfl
      have srcI := Src.of_own hi.out
      have hm0 : (0 : Int) < ((t + 1 : Nat) : Int) := by omega
      have HRS : Hid (rows R3.vs (inn N pl xs v (v + (t : Int)) t) ++ rows R3.vs X0 = rows R3.vs (inn N pl xs v (v + (t : Int)) t ++ X0)) := by unfold Hid; rw [rows_app]
      clear V0
      go_wp2_with fail
      refine (HIH0.out _ o0 k0 A4 c4 (below_step b1 hB) S0 m0 srcI hc4).mono ?_
      rintro e w6 ⟨⟨v6, rfl, own6⟩, b6⟩
      rw [← HA0.out] at own6
      obtain ⟨A6, c6, rfl⟩ := own_form own6
      have ob6 := own_below' ho.out b6
      have B16 := below_step hB b6
      have src6 := Src.of_own own6
      clear own6 srcI k9
      go_wp2_with (at_builtin; refine wpList_appx rfl _ _ _ rfl Tryz.underlying59 infoLoop rfl (by omega) w1.heap.size ob6 B16.size rfl src6 rfl HO0.out (by unfold maxLen; omega) (by omega) ?_; intro v7 w7 own7 hg7 hnil7; clear hnil7; have B17 := grown_below B16 ob6 (Nat.le_refl _) hg7; rw [HRS.out] at own7; obtain ⟨A7, c7, rfl⟩ := own_form own7)
      go_ret
      refine ⟨⟨_, rfl, ?_⟩, below_step b1 B17⟩
      rw [HR.out, List.length_append, ← HCT.out, ← HA0.out]
      exact own_base own7 b1.size
end Go.Proofs.YtjggkgdojhlhpaaGreat

/- Loop programs of recursive functions, the program's side: facts for the drawn regions of loopsOf. -/
namespace Go.Proofs.YtjggkgdojhlhpaaGreat
open Go.RowKit
set_option linter.all false
def ksrc (n : Nat) (xs : List Value) : Fact := ⟨fun x w => Src 3 w x n xs, fun _ _ _ h hb => h.below hb⟩
def ksrcs (k : Nat) (ns : List Nat) (xss : List (List Value)) : Fact := ⟨fun x w => ∃ g vs, x = .slice (some ⟨g, 0, none⟩) k k ∧ Sl w g 0 vs ∧ SrcsLoop w vs ns xss, fun _ _ _ ⟨g, vs, h1, h2, h3⟩ hb => ⟨g, vs, h1, h2.below' hb, h3.below hb⟩⟩
def kown (B : Nat) (n : Nat) (xs : List Value) : Fact := ⟨fun x w => w.ownsRow B 86 3 x n xs, fun _ _ _ h hb => own_below' h hb⟩
theorem srcsL_nil (w : World) : SrcsLoop w [] [] [] := ⟨rfl, rfl, fun j v n xs h => by simp at h⟩
theorem srcsL_cons {w : World} {v : Value} {n : Nat} {xs : List Value} {vs : List Value} {ns : List Nat} {xss : List (List Value)} (h : Src 3 w v n xs) (h1 : ∀ u ∈ xs, u.oneCell' = true) (k : SrcsLoop w vs ns xss) : SrcsLoop w (v :: vs) (n :: ns) (xs :: xss) := by
  refine ⟨by simp [k.1], by simp [k.2.1], fun j v' n' xs' e1 e2 e3 => ?_⟩
  cases j with
  | zero => simp at e1 e2 e3; subst e1 e2 e3; exact ⟨h, h1⟩
  | succ j => rw [List.getElem?_cons_succ] at e1 e2 e3; exact k.2.2 j v' n' xs' e1 e2 e3
theorem one_flat_nil : ∀ u ∈ ([] : List (List Value)).flatten, u.oneCell' = true := by simp
theorem one_flat_cons {xs : List Value} {xss : List (List Value)} (h : ∀ u ∈ xs, u.oneCell' = true) (k : ∀ u ∈ xss.flatten, u.oneCell' = true) : ∀ u ∈ (xs :: xss).flatten, u.oneCell' = true := by
  rw [List.flatten_cons]; exact one_app h k
end Go.Proofs.YtjggkgdojhlhpaaGreat

/- Loop programs of recursive functions, the program's side: loopsOf, the kind 4. -/
namespace Go.Proofs.YtjggkgdojhlhpaaGreat
open Go.RowKit
set_option linter.all false

set_option maxRecDepth 100000 in
set_option maxHeartbeats 4000000 in
theorem loops4_any (N : Nat) (IH : Hid (LpIHi N)) (b off n c : Nat) (T : List R3) (x : R3) (l : List R3) (hT : T = x :: l) (hl : T.length = n) (hnN : n ≤ N + 1) (hn60 : n ≤ 60) (hc : n ≤ c) (A : Option Addr) (na ca : Nat) (xs : List Int) (out v : Int) (w : World) (hs : Sl w b off (rows R3.vs T)) (hsr : Src 1 w (.slice A na ca) na (xs.map (Value.int .i64))) (hca : na ≤ ca) (hna10 : na ≤ 10)
    (hb : x.b = (xs.length : Int)) (hok : fOkN x = true) (hrun : fRun (fFols x) l = some []) (hv0 : 0 ≤ v) (hv : v + 4 * (n : Int) ≤ 1000) (h4 : x.a = 4) :
    Calls Tryz.prog 61 #[.slice (some ⟨b, off, none⟩) n c, .slice A na ca, .int .i64 out, .int .i64 v] w (LpOk w (lpF (N + 1) (x :: l) xs out v)) := by
  have HL := Lib.hid hl
  have ha := hsr.arg
  have hna : xs.length = na := by have := ha.1; simpa using this
  have HNA := Lib.hid hna
  have hcs := (fOkN_iff x).1 hok
  have hx0 : T[0]? = some x := by rw [hT]; rfl
  have hll : l.length + 1 = n := by rw [← hl, hT]; rfl
  have HPA := Lib.hid (partsAt_any b off n c T x l hT hl hn60 hc hok hrun w hs)
  obtain ⟨p0, p1, p2⟩ := hs.rec3 hx0
  rw [Nat.zero_mul, Nat.add_zero] at p0 p1 p2
  have hn1 : (0 : Int) < (n : Int) := by omega
  have hff := fFols_4 h4
  obtain ⟨P0, C0, c0, R0, l0⟩ := part_at (i := 0) (a := x.b - 1) hok hrun (by rw [hff]; rfl)
  obtain ⟨P1, C1, c1, R1, l1⟩ := part_at (i := 1) (a := x.b + 1) hok hrun (by rw [hff]; rfl)
  have HR := lp4 (N := N) (xs := xs) (out := out) (v := v) h4 c0 c1
  have hm2 := fMany_4 h4
  rw [hm2] at HPA C0 C1
  have e0 : (x.a == 0) = false := by rw [h4]; rfl
  have e1 : (x.a == 1) = false := by rw [h4]; rfl
  have e2 : (x.a == 2) = false := by rw [h4]; rfl
  have e3 : (x.a == 3) = false := by rw [h4]; rfl
  have e4 : (x.a == 4) = true := by rw [h4]; rfl
  have hna1 : 0 < na := by omega
  obtain ⟨ba, offa, rfl, hsa⟩ := ha.sl hna1
  obtain ⟨z, HZ, hz⟩ := map_at (Value.int .i64) xs (k := 0) (by omega)
  have HG : Hid (xs.getD 0 0 = z) := getD_at HZ.out
  have hz' := Lib.hid hz
  obtain ⟨o', ho', hsl⟩ := run_slice_tailR (P := Tryz.prog) 23 2 Tryz.underlying23 infoInt64S ba offa na ca 1 1 rfl (by omega) hca
  obtain ⟨nt, hnt⟩ : ∃ nt, na - 1 = nt := ⟨_, rfl⟩
  obtain ⟨ct, hct⟩ : ∃ ct, ca - 1 = ct := ⟨_, rfl⟩
  rw [hnt, hct] at hsl
  rw [hnt] at ho'
  have HTL : Hid (Sl w ba o' ((xs.drop 1).map (Value.int .i64))) := sl_tail hsa hna (by rw [hnt]; exact ho')
  have HTN : Hid ((xs.drop 1).length = nt) := by unfold Hid; rw [List.length_drop, hna]; exact hnt
  obtain ⟨n0, hn0⟩ : ∃ n0, n0 = P0.length := ⟨_, rfl⟩
  obtain ⟨n1, hn1_⟩ : ∃ n1, n1 = P1.length := ⟨_, rfl⟩
  have HN0 := Lib.hid hn0; have HN1 := Lib.hid hn1_
  have HIH0 : Hid (∀ W o0 k0 , Below w.heap.size w W → Sl w b o0 (rows R3.vs P0) → n0 ≤ k0 → Calls Tryz.prog 61 #[.slice (some ⟨b, o0, none⟩) n0 k0, .slice (some ⟨ba, o', none⟩) nt ct, .int .i64 v, .int .i64 (v + 3)] W (LpOk W (lpF N P0 (xs.drop 1) v (v + 3)))) := fun W o0 k0 hW hS hk =>
    IH.out b o0 n0 k0 P0 _ _ _ (xs.drop 1) v (v + 3) W HN0.out.symm (by omega) (by omega) hk (hS.below' hW) (Src.of_sl (HTL.out.below' hW) (by rw [List.length_map, HTN.out, Nat.mul_one])) (by omega) (by omega) (by rw [show ((((xs.drop 1) : List Int).length : Nat) : Int) = x.b - 1 by rw [HTN.out]; omega]; exact R0) (by omega) (by omega)
  have HIH1 : Hid (∀ W o0 k0 A1 c1, Below w.heap.size w W → Sl w b o0 (rows R3.vs P1) → n1 ≤ k0 → Src 1 W (.slice A1 (2 + nt) c1) (2 + nt) (((v + 1) :: v :: xs.drop 1).map (Value.int .i64)) → 2 + nt ≤ c1 → Calls Tryz.prog 61 #[.slice (some ⟨b, o0, none⟩) n1 k0, .slice A1 (2 + nt) c1, .int .i64 (v + 2), .int .i64 (v + 3)] W (LpOk W (lpF N P1 ((v + 1) :: v :: xs.drop 1) (v + 2) (v + 3)))) := fun W o0 k0 A1 c1 hW hS hk hA1 hc1 =>
    IH.out b o0 n1 k0 P1 _ _ _ ((v + 1) :: v :: xs.drop 1) (v + 2) (v + 3) W HN1.out.symm (by omega) (by omega) hk (hS.below' hW) hA1 hc1 (by omega) (by rw [show (((((v + 1) :: v :: xs.drop 1) : List Int).length : Nat) : Int) = x.b + 1 by simp only [List.length_cons, HTN.out]; omega]; exact R1) (by omega) (by omega)
  have hL0 := lpF_len N P0 (xs.drop 1) v (v + 3)
  rw [← HN0.out] at hL0
  obtain ⟨X0, hX0⟩ : ∃ X, X = lpF N P0 (xs.drop 1) v (v + 3) := ⟨_, rfl⟩
  rw [← hX0] at HIH0 hL0 HR
  obtain ⟨a0, ha0⟩ : ∃ a, a = X0.length := ⟨_, rfl⟩
  rw [← ha0] at hL0
  have HA0X := Lib.hid ha0
  have ha480 : a0 ≤ 480 := by omega
  have hL1 := lpF_len N P1 ((v + 1) :: v :: xs.drop 1) (v + 2) (v + 3)
  rw [← HN1.out] at hL1
  obtain ⟨X1, hX1⟩ : ∃ X, X = lpF N P1 ((v + 1) :: v :: xs.drop 1) (v + 2) (v + 3) := ⟨_, rfl⟩
  rw [← hX1] at HIH1 hL1 HR
  obtain ⟨a1, ha1⟩ : ∃ a, a = X1.length := ⟨_, rfl⟩
  rw [← ha1] at hL1
  have HA1X := Lib.hid ha1
  have ha481 : a1 ≤ 480 := by omega
  obtain ⟨a2, ha2⟩ : ∃ a2, a2 = a1 + 2 := ⟨_, rfl⟩
  obtain ⟨L, hL⟩ : ∃ L, L = X0 ++ (⟨0, v + 1, 0⟩ :: ⟨3, z, (a2 : Int)⟩ :: ((X1 ++ ([⟨2, v, v + 2⟩, ⟨1, v + 1, 0⟩] : List R3)) ++ [⟨2, out, v⟩])) := ⟨_, rfl⟩
  have HRL : Hid (lpF (N + 1) (x :: l) xs out v = L) := by unfold Hid; rw [HR, HG.out, hL, List.length_append, ← ha1, ha2]; rfl
  have HLL : Hid (L.length = ([a0, 1, 1 + a2, 1] : List Nat).sum) := by unfold Hid; rw [hL]; simp only [List.length_append, List.length_cons, List.length_nil, List.sum_cons, List.sum_nil]; omega
  have HLR : Hid (rows R3.vs L = ([rows R3.vs X0, [.int .i64 0, .int .i64 (v + 1), .int .i64 0], [.int .i64 3, .int .i64 z, .int .i64 (a2 : Int)] ++ ([rows R3.vs X1, [.int .i64 2, .int .i64 v, .int .i64 (v + 2)], [.int .i64 1, .int .i64 (v + 1), .int .i64 0]] : List (List Value)).flatten, [.int .i64 2, .int .i64 out, .int .i64 v]] : List (List Value)).flatten) := by
    unfold Hid; rw [hL]; simp only [rows, R3.vs, List.flatMap_append, List.flatMap_cons, List.flatMap_nil, List.append_assoc, List.cons_append, List.nil_append, List.append_nil, List.flatten_cons, List.flatten_nil]
  have HA2 := Lib.hid ha2
  have ha2le : a2 ≤ 482 := by omega
  have HO1 := Lib.hid (one_ints .i64 (xs.drop 1))
  have HSAw := Lib.hid hsa
  have w3' : IntKind.i64.wrap (v + 3) = v + 3 := IntWalk.i64_in _ (by omega)
  have w2' : IntKind.i64.wrap (v + 2) = v + 2 := IntWalk.i64_in _ (by omega)
  have w1' : IntKind.i64.wrap (v + 1) = v + 1 := IntWalk.i64_in _ (by omega)
  have hna1' : (0 : Int) < (na : Int) := by omega
  have hna2' : (1 : Int) ≤ (na : Int) := by omega
  have hnt10 : nt ≤ 10 := by omega
  clear hx0 hok hb hcs h4 hT hl hna ha hrun IH hff hm2 c0 c1 R0 R1 hX0 hX1 ha0 ha1 ha2 hL HR ho' hnt hct hz hsa hn0 hn1_ hsr hL0 hL1 l0 l1
  go_enter Tryz.func61, Tryz.ntmps61
  go_wp2_with fail
  refine HPA.out.mono ?_
  rintro e w1 ⟨v1, vs, rfl, own1, hpv, b1⟩
  obtain ⟨A1, c1, rfl⟩ := own_form own1
  have r0 := cell_step (by exact p0) b1
  obtain ⟨g1, rfl, _, _⟩ := own_addr0 own1 (by omega)
  obtain ⟨o0, k0, V0, m0, S0⟩ := hpv.2 0 P0 C0
  rw [← HN0.out] at V0 m0
  obtain ⟨o1, k1, V1, m1, S1⟩ := hpv.2 1 P1 C1
  rw [← HN1.out] at V1 m1
  have HSL1 := Lib.hid (sl_of_own own1)
  clear own1 p0 p1 p2 hpv C0 C1
  obtain ⟨w2b, HW2, B2b, y2⟩ := al1 w1 (.cells #[.int .i64 (v + 1), .int .i64 v] 2)
  have ownT : w2b.ownsRow w1.heap.size 2 1 (.slice (some ⟨w1.heap.size, 0, none⟩) 2 2) 2 [.int .i64 (v + 1), .int .i64 v] := own_laid' HW2.out rfl (by unfold maxLen; omega)
  have srcT : Src 1 w2b (.slice (some ⟨ba, o', none⟩) nt ct) nt ((xs.drop 1).map (Value.int .i64)) := Src.of_sl (HTL.out.below' (below_step b1 B2b)) (by rw [List.length_map, HTN.out, Nat.mul_one])
  clear y2
  go_wp2_with (at_builtin; rw [← HW2.out]; refine wpList_appx rfl _ _ _ rfl Tryz.underlying23 infoInt64S rfl (by omega) w1.heap.size ownT B2b.size rfl srcT rfl HO1.out (by unfold maxLen; omega) (by omega) ?_; intro v3 w3 own3 hg3 hnil3; clear hnil3; have B23 := grown_below B2b ownT (Nat.le_refl _) hg3; obtain ⟨A3, c3, rfl⟩ := own_form own3; clear ownT srcT hg3 B2b)
  have B3 := below_step b1 B23
  have HC3 := Lib.hid (own_capL own3 _ _ rfl)
  have HS3 : Hid (Src 1 w3 (.slice A3 (2 + nt) c3) (2 + nt) (((v + 1) :: v :: xs.drop 1).map (Value.int .i64))) := Src.of_own own3
  have HSL := Lib.hid (HSL1.out.below' B23)
  have HSA := Lib.hid (HSAw.out.below' B3)
  obtain ⟨B, hB_⟩ : ∃ B, B = w1.heap.size := ⟨_, rfl⟩
  have BB : Hid (w.heap.size ≤ B) := by rw [hB_]; exact b1.size
  have BW : Hid (B ≤ w3.heap.size) := by rw [hB_]; exact B23.size
  clear own3 B23 r0 hB_ b1
  refine region_facts (by kernel_rfl) [kcst (.slice (some ⟨g1, 0, none⟩) 2 c1), kcst (.pointer (some ⟨g1, 0, none⟩)), kcst (.slice (some ⟨b, o0, none⟩) n0 k0), kcst (.slice (some ⟨ba, offa, none⟩) na ca), kcst (.slice (some ⟨ba, o', none⟩) nt ct), kcst (.int .i64 v), kcst (.int .i64 v), kcst (.int .i64 (v + 3)), ksrc a0 (rows R3.vs X0), kcst (.int .i64 v), kcst (.int .i64 (v + 1)), ksrc 1 ([.int .i64 0, .int .i64 (v + 1), .int .i64 0]), kcst (.slice (some ⟨ba, offa, none⟩) na ca), kcst (.pointer (some ⟨ba, offa, none⟩)), kcst (.int .i64 z), kcst (.slice (some ⟨g1, 0, none⟩) 2 c1), kcst (.pointer (some ⟨g1, 1, none⟩)), kcst (.slice (some ⟨b, o1, none⟩) n1 k1), kcst (.slice A3 (2 + nt) c3), kcst (.int .i64 v), kcst (.int .i64 (v + 2)), kcst (.int .i64 v), kcst (.int .i64 (v + 3)), ksrc a1 (rows R3.vs X1), kcst (.int .i64 v), kcst (.int .i64 v), kcst (.int .i64 (v + 2)), ksrc 1 ([.int .i64 2, .int .i64 v, .int .i64 (v + 2)]), kcst (.int .i64 v), kcst (.int .i64 (v + 1)), ksrc 1 ([.int .i64 1, .int .i64 (v + 1), .int .i64 0]), ksrcs 3 [a1, 1, 1] [rows R3.vs X1, [.int .i64 2, .int .i64 v, .int .i64 (v + 2)], [.int .i64 1, .int .i64 (v + 1), .int .i64 0]], ksrc (1 + a2) ([.int .i64 3, .int .i64 z, .int .i64 (a2 : Int)] ++ ([rows R3.vs X1, [.int .i64 2, .int .i64 v, .int .i64 (v + 2)], [.int .i64 1, .int .i64 (v + 1), .int .i64 0]] : List (List Value)).flatten), kcst (.int .i64 out), kcst (.int .i64 v), ksrc 1 ([.int .i64 2, .int .i64 out, .int .i64 v]), ksrcs 4 [a0, 1, 1 + a2, 1] [rows R3.vs X0, [.int .i64 0, .int .i64 (v + 1), .int .i64 0], [.int .i64 3, .int .i64 z, .int .i64 (a2 : Int)] ++ ([rows R3.vs X1, [.int .i64 2, .int .i64 v, .int .i64 (v + 2)], [.int .i64 1, .int .i64 (v + 1), .int .i64 0]] : List (List Value)).flatten, [.int .i64 2, .int .i64 out, .int .i64 v]], kown B ([a0, 1, 1 + a2, 1] : List Nat).sum ([rows R3.vs X0, [.int .i64 0, .int .i64 (v + 1), .int .i64 0], [.int .i64 3, .int .i64 z, .int .i64 (a2 : Int)] ++ ([rows R3.vs X1, [.int .i64 2, .int .i64 v, .int .i64 (v + 2)], [.int .i64 1, .int .i64 (v + 1), .int .i64 0]] : List (List Value)).flatten, [.int .i64 2, .int .i64 out, .int .i64 v]] : List (List Value)).flatten, kown B ([a0, 1, 1 + a2, 1] : List Nat).sum ([rows R3.vs X0, [.int .i64 0, .int .i64 (v + 1), .int .i64 0], [.int .i64 3, .int .i64 z, .int .i64 (a2 : Int)] ++ ([rows R3.vs X1, [.int .i64 2, .int .i64 v, .int .i64 (v + 2)], [.int .i64 1, .int .i64 (v + 1), .int .i64 0]] : List (List Value)).flatten, [.int .i64 2, .int .i64 out, .int .i64 v]] : List (List Value)).flatten] [102, 103, 104, 105, 106, 107, 108, 109, 110, 111, 112, 113, 114, 115, 116, 117, 118, 119, 120, 121, 122, 123, 124, 125, 126, 127, 128, 129, 130, 131, 132, 133, 134, 135, 136, 137, 138, 139, 8] (by kernel_rfl) ?_ ?_
  · refine ⟨?_, ?_, ?_, ?_, ?_, ?_, ?_, ?_, ?_, ?_, ?_, ?_, ?_, ?_, ?_, ?_, ?_, ?_, ?_, ?_, ?_, ?_, ?_, ?_, ?_, ?_, ?_, ?_, ?_, ?_, ?_, ?_, ?_, ?_, ?_, ?_, ?_, ?_, ?_, trivial⟩
    · intro a W hB hin haft K hK
      have h0 : a.tmps[9]?.getD undef = .slice (some ⟨g1, 0, none⟩) 2 c1 := kev (hin 9 (by decide))
      clear haft hin
      unfold Oper.wp
      go_simp
      exact hK _ _ rfl (Below.refl _ _)
    · intro a W hB hin haft K hK
      have h102 : a.tmps[102]?.getD undef = .slice (some ⟨g1, 0, none⟩) 2 c1 := kev (haft ⟨0, .data⟩ (by simp) rfl 102 rfl)
      clear haft hin
      unfold Oper.wp
      go_simp
      exact hK _ _ rfl (Below.refl _ _)
    · intro a W hB hin haft K hK
      have h103 : a.tmps[103]?.getD undef = .pointer (some ⟨g1, 0, none⟩) := kev (haft ⟨1, .data⟩ (by simp) rfl 103 rfl)
      have k9 := (HSL.out.below' hB).at V0
      rw [Nat.zero_add] at k9
      clear haft hin
      unfold Oper.wp
      go_simp
      exact hK _ _ rfl (Below.refl _ _)
    · intro a W hB hin haft K hK
      have h0 : a.tmps[1]?.getD undef = .slice (some ⟨ba, offa, none⟩) na ca := kev (hin 1 (by decide))
      clear haft hin
      unfold Oper.wp
      go_simp
      exact hK _ _ rfl (Below.refl _ _)
    · intro a W hB hin haft K hK
      have h105 : a.tmps[105]?.getD undef = .slice (some ⟨ba, offa, none⟩) na ca := kev (haft ⟨3, .data⟩ (by simp) rfl 105 rfl)
      have hsl9 := hsl
      clear haft hin
      unfold Oper.wp
      go_simp
      exact hK _ _ rfl (Below.refl _ _)
    · intro a W hB hin haft K hK
      have h0 : a.tmps[3]?.getD undef = .int .i64 v := kev (hin 3 (by decide))
      clear haft hin
      unfold Oper.wp
      go_simp
      exact hK _ _ rfl (Below.refl _ _)
    · intro a W hB hin haft K hK
      have h0 : a.tmps[3]?.getD undef = .int .i64 v := kev (hin 3 (by decide))
      clear haft hin
      unfold Oper.wp
      go_simp
      exact hK _ _ rfl (Below.refl _ _)
    · intro a W hB hin haft K hK
      have h108 : a.tmps[108]?.getD undef = .int .i64 v := kev (haft ⟨6, .data⟩ (by simp) rfl 108 rfl)
      clear haft hin
      unfold Oper.wp
      go_simp
      exact hK _ _ rfl (Below.refl _ _)
    · intro a W hB hin haft K hK
      have h104 : a.tmps[104]?.getD undef = .slice (some ⟨b, o0, none⟩) n0 k0 := kev (haft ⟨2, .data⟩ (by simp) rfl 104 rfl)
      have h106 : a.tmps[106]?.getD undef = .slice (some ⟨ba, o', none⟩) nt ct := kev (haft ⟨4, .data⟩ (by simp) rfl 106 rfl)
      have h107 : a.tmps[107]?.getD undef = .int .i64 v := kev (haft ⟨5, .data⟩ (by simp) rfl 107 rfl)
      have h109 : a.tmps[109]?.getD undef = .int .i64 (v + 3) := kev (haft ⟨7, .data⟩ (by simp) rfl 109 rfl)
      clear haft hin
      unfold Oper.wp
      go_simp
      refine (HIH0.out _ o0 k0 (below_step B3 hB) S0 m0).mono ?_
      rintro e2 w' ⟨⟨u, rfl, own⟩, hb⟩
      rw [← HA0X.out] at own
      obtain ⟨A9, c9, rfl⟩ := own_form own
      exact hK _ _ (Src.of_own own) hb
    · intro a W hB hin haft K hK
      have h0 : a.tmps[3]?.getD undef = .int .i64 v := kev (hin 3 (by decide))
      clear haft hin
      unfold Oper.wp
      go_simp
      exact hK _ _ rfl (Below.refl _ _)
    · intro a W hB hin haft K hK
      have h111 : a.tmps[111]?.getD undef = .int .i64 v := kev (haft ⟨9, .data⟩ (by simp) rfl 111 rfl)
      clear haft hin
      unfold Oper.wp
      go_simp
      exact hK _ _ rfl (Below.refl _ _)
    · intro a W hB hin haft K hK
      have h112 : a.tmps[112]?.getD undef = .int .i64 (v + 1) := kev (haft ⟨10, .data⟩ (by simp) rfl 112 rfl)
      clear haft hin
      unfold Oper.wp
      go_simp
      refine (zero_any (v + 1) _).mono ?_
      rintro e2 w' ⟨⟨u, rfl, own⟩, hb⟩
      obtain ⟨A9, c9, rfl⟩ := own_form own
      exact hK _ _ (Src.of_own own) hb
    · intro a W hB hin haft K hK
      have h0 : a.tmps[1]?.getD undef = .slice (some ⟨ba, offa, none⟩) na ca := kev (hin 1 (by decide))
      clear haft hin
      unfold Oper.wp
      go_simp
      exact hK _ _ rfl (Below.refl _ _)
    · intro a W hB hin haft K hK
      have h114 : a.tmps[114]?.getD undef = .slice (some ⟨ba, offa, none⟩) na ca := kev (haft ⟨12, .data⟩ (by simp) rfl 114 rfl)
      clear haft hin
      unfold Oper.wp
      go_simp
      exact hK _ _ rfl (Below.refl _ _)
    · intro a W hB hin haft K hK
      have h115 : a.tmps[115]?.getD undef = .pointer (some ⟨ba, offa, none⟩) := kev (haft ⟨13, .data⟩ (by simp) rfl 115 rfl)
      have k9 := (HSA.out.below' hB).at hz'.out
      rw [Nat.add_zero] at k9
      clear haft hin
      unfold Oper.wp
      go_simp
      exact hK _ _ rfl (Below.refl _ _)
    · intro a W hB hin haft K hK
      have h0 : a.tmps[9]?.getD undef = .slice (some ⟨g1, 0, none⟩) 2 c1 := kev (hin 9 (by decide))
      clear haft hin
      unfold Oper.wp
      go_simp
      exact hK _ _ rfl (Below.refl _ _)
    · intro a W hB hin haft K hK
      have h117 : a.tmps[117]?.getD undef = .slice (some ⟨g1, 0, none⟩) 2 c1 := kev (haft ⟨15, .data⟩ (by simp) rfl 117 rfl)
      clear haft hin
      unfold Oper.wp
      go_simp
      exact hK _ _ rfl (Below.refl _ _)
    · intro a W hB hin haft K hK
      have h118 : a.tmps[118]?.getD undef = .pointer (some ⟨g1, 1, none⟩) := kev (haft ⟨16, .data⟩ (by simp) rfl 118 rfl)
      have k9 := (HSL.out.below' hB).at V1
      rw [Nat.zero_add] at k9
      clear haft hin
      unfold Oper.wp
      go_simp
      exact hK _ _ rfl (Below.refl _ _)
    · intro a W hB hin haft K hK
      have h0 : a.tmps[15]?.getD undef = .slice A3 (2 + nt) c3 := kev (hin 15 (by decide))
      clear haft hin
      unfold Oper.wp
      go_simp
      exact hK _ _ rfl (Below.refl _ _)
    · intro a W hB hin haft K hK
      have h0 : a.tmps[3]?.getD undef = .int .i64 v := kev (hin 3 (by decide))
      clear haft hin
      unfold Oper.wp
      go_simp
      exact hK _ _ rfl (Below.refl _ _)
    · intro a W hB hin haft K hK
      have h121 : a.tmps[121]?.getD undef = .int .i64 v := kev (haft ⟨19, .data⟩ (by simp) rfl 121 rfl)
      clear haft hin
      unfold Oper.wp
      go_simp
      exact hK _ _ rfl (Below.refl _ _)
    · intro a W hB hin haft K hK
      have h0 : a.tmps[3]?.getD undef = .int .i64 v := kev (hin 3 (by decide))
      clear haft hin
      unfold Oper.wp
      go_simp
      exact hK _ _ rfl (Below.refl _ _)
    · intro a W hB hin haft K hK
      have h123 : a.tmps[123]?.getD undef = .int .i64 v := kev (haft ⟨21, .data⟩ (by simp) rfl 123 rfl)
      clear haft hin
      unfold Oper.wp
      go_simp
      exact hK _ _ rfl (Below.refl _ _)
    · intro a W hB hin haft K hK
      have h119 : a.tmps[119]?.getD undef = .slice (some ⟨b, o1, none⟩) n1 k1 := kev (haft ⟨17, .data⟩ (by simp) rfl 119 rfl)
      have h120 : a.tmps[120]?.getD undef = .slice A3 (2 + nt) c3 := kev (haft ⟨18, .data⟩ (by simp) rfl 120 rfl)
      have h122 : a.tmps[122]?.getD undef = .int .i64 (v + 2) := kev (haft ⟨20, .data⟩ (by simp) rfl 122 rfl)
      have h124 : a.tmps[124]?.getD undef = .int .i64 (v + 3) := kev (haft ⟨22, .data⟩ (by simp) rfl 124 rfl)
      clear haft hin
      unfold Oper.wp
      go_simp
      refine (HIH1.out _ o1 k1 A3 c3 (below_step B3 hB) S1 m1 (HS3.out.below hB) HC3.out).mono ?_
      rintro e2 w' ⟨⟨u, rfl, own⟩, hb⟩
      rw [← HA1X.out] at own
      obtain ⟨A9, c9, rfl⟩ := own_form own
      exact hK _ _ (Src.of_own own) hb
    · intro a W hB hin haft K hK
      have h0 : a.tmps[3]?.getD undef = .int .i64 v := kev (hin 3 (by decide))
      clear haft hin
      unfold Oper.wp
      go_simp
      exact hK _ _ rfl (Below.refl _ _)
    · intro a W hB hin haft K hK
      have h0 : a.tmps[3]?.getD undef = .int .i64 v := kev (hin 3 (by decide))
      clear haft hin
      unfold Oper.wp
      go_simp
      exact hK _ _ rfl (Below.refl _ _)
    · intro a W hB hin haft K hK
      have h127 : a.tmps[127]?.getD undef = .int .i64 v := kev (haft ⟨25, .data⟩ (by simp) rfl 127 rfl)
      clear haft hin
      unfold Oper.wp
      go_simp
      exact hK _ _ rfl (Below.refl _ _)
    · intro a W hB hin haft K hK
      have h126 : a.tmps[126]?.getD undef = .int .i64 v := kev (haft ⟨24, .data⟩ (by simp) rfl 126 rfl)
      have h128 : a.tmps[128]?.getD undef = .int .i64 (v + 2) := kev (haft ⟨26, .data⟩ (by simp) rfl 128 rfl)
      clear haft hin
      unfold Oper.wp
      go_simp
      refine (assign_any v (v + 2) _).mono ?_
      rintro e2 w' ⟨⟨u, rfl, own⟩, hb⟩
      obtain ⟨A9, c9, rfl⟩ := own_form own
      exact hK _ _ (Src.of_own own) hb
    · intro a W hB hin haft K hK
      have h0 : a.tmps[3]?.getD undef = .int .i64 v := kev (hin 3 (by decide))
      clear haft hin
      unfold Oper.wp
      go_simp
      exact hK _ _ rfl (Below.refl _ _)
    · intro a W hB hin haft K hK
      have h130 : a.tmps[130]?.getD undef = .int .i64 v := kev (haft ⟨28, .data⟩ (by simp) rfl 130 rfl)
      clear haft hin
      unfold Oper.wp
      go_simp
      exact hK _ _ rfl (Below.refl _ _)
    · intro a W hB hin haft K hK
      have h131 : a.tmps[131]?.getD undef = .int .i64 (v + 1) := kev (haft ⟨29, .data⟩ (by simp) rfl 131 rfl)
      clear haft hin
      unfold Oper.wp
      go_simp
      refine (inc_any (v + 1) _).mono ?_
      rintro e2 w' ⟨⟨u, rfl, own⟩, hb⟩
      obtain ⟨A9, c9, rfl⟩ := own_form own
      exact hK _ _ (Src.of_own own) hb
    · intro a W hB hin haft K hK
      have s0 : Src 3 W (a.eval (.tmp 125)) (a1) (rows R3.vs X1) := haft ⟨23, .data⟩ (by simp) rfl 125 rfl
      obtain ⟨X0_, c0_, x0_⟩ := s0.form
      rw [x0_] at s0
      have h125 := kev x0_
      clear x0_
      have s1 : Src 3 W (a.eval (.tmp 129)) (1) ([.int .i64 2, .int .i64 v, .int .i64 (v + 2)]) := haft ⟨27, .data⟩ (by simp) rfl 129 rfl
      obtain ⟨X1_, c1_, x1_⟩ := s1.form
      rw [x1_] at s1
      have h129 := kev x1_
      clear x1_
      have s2 : Src 3 W (a.eval (.tmp 132)) (1) ([.int .i64 1, .int .i64 (v + 1), .int .i64 0]) := haft ⟨30, .data⟩ (by simp) rfl 132 rfl
      obtain ⟨X2_, c2_, x2_⟩ := s2.form
      rw [x2_] at s2
      have h132 := kev x2_
      clear x2_
      clear haft hin
      unfold Oper.wp
      go_simp
      exact hK _ _ ⟨_, _, rfl, sl_laid W _ _, srcsL_cons (s0.below (laid_below _ _)) (by repeat (first | exact one_rows_R3 _ | exact one_of_all rfl | exact one_flat_nil | refine one_flat_cons ?_ ?_ | refine one_app ?_ ?_)) (srcsL_cons (s1.below (laid_below _ _)) (by repeat (first | exact one_rows_R3 _ | exact one_of_all rfl | exact one_flat_nil | refine one_flat_cons ?_ ?_ | refine one_app ?_ ?_)) (srcsL_cons (s2.below (laid_below _ _)) (by repeat (first | exact one_rows_R3 _ | exact one_of_all rfl | exact one_flat_nil | refine one_flat_cons ?_ ?_ | refine one_app ?_ ?_)) (srcsL_nil _)))⟩ (laid_below _ _)
    · intro a W hB hin haft K hK
      have h116 : a.tmps[116]?.getD undef = .int .i64 z := kev (haft ⟨14, .data⟩ (by simp) rfl 116 rfl)
      obtain ⟨g, us, hx, hsl2, hsv⟩ := haft ⟨31, .data⟩ (by simp) rfl 133 rfl
      have h133 := kev hx
      clear hx
      clear haft hin
      unfold Oper.wp
      go_simp
      refine (looped_any 3 z g 0 3 us [a1, 1, 1] [rows R3.vs X1, [.int .i64 2, .int .i64 v, .int .i64 (v + 2)], [.int .i64 1, .int .i64 (v + 1), .int .i64 0]] 3 a2 _ hsl2 hsv rfl (by simp only [List.sum_cons, List.sum_nil]; have := HA2.out; omega) (by omega) (by omega) (by repeat (first | exact one_rows_R3 _ | exact one_of_all rfl | exact one_flat_nil | refine one_flat_cons ?_ ?_ | refine one_app ?_ ?_))).mono ?_
      rintro e2 w' ⟨⟨u, rfl, own⟩, hb⟩
      obtain ⟨A9, c9, rfl⟩ := own_form own
      exact hK _ _ (Src.of_own own) hb
    · intro a W hB hin haft K hK
      have h0 : a.tmps[2]?.getD undef = .int .i64 out := kev (hin 2 (by decide))
      clear haft hin
      unfold Oper.wp
      go_simp
      exact hK _ _ rfl (Below.refl _ _)
    · intro a W hB hin haft K hK
      have h0 : a.tmps[3]?.getD undef = .int .i64 v := kev (hin 3 (by decide))
      clear haft hin
      unfold Oper.wp
      go_simp
      exact hK _ _ rfl (Below.refl _ _)
    · intro a W hB hin haft K hK
      have h135 : a.tmps[135]?.getD undef = .int .i64 out := kev (haft ⟨33, .data⟩ (by simp) rfl 135 rfl)
      have h136 : a.tmps[136]?.getD undef = .int .i64 v := kev (haft ⟨34, .data⟩ (by simp) rfl 136 rfl)
      clear haft hin
      unfold Oper.wp
      go_simp
      refine (assign_any out v _).mono ?_
      rintro e2 w' ⟨⟨u, rfl, own⟩, hb⟩
      obtain ⟨A9, c9, rfl⟩ := own_form own
      exact hK _ _ (Src.of_own own) hb
    · intro a W hB hin haft K hK
      have s0 : Src 3 W (a.eval (.tmp 110)) (a0) (rows R3.vs X0) := haft ⟨8, .data⟩ (by simp) rfl 110 rfl
      obtain ⟨X0_, c0_, x0_⟩ := s0.form
      rw [x0_] at s0
      have h110 := kev x0_
      clear x0_
      have s1 : Src 3 W (a.eval (.tmp 113)) (1) ([.int .i64 0, .int .i64 (v + 1), .int .i64 0]) := haft ⟨11, .data⟩ (by simp) rfl 113 rfl
      obtain ⟨X1_, c1_, x1_⟩ := s1.form
      rw [x1_] at s1
      have h113 := kev x1_
      clear x1_
      have s2 : Src 3 W (a.eval (.tmp 134)) (1 + a2) ([.int .i64 3, .int .i64 z, .int .i64 (a2 : Int)] ++ ([rows R3.vs X1, [.int .i64 2, .int .i64 v, .int .i64 (v + 2)], [.int .i64 1, .int .i64 (v + 1), .int .i64 0]] : List (List Value)).flatten) := haft ⟨32, .data⟩ (by simp) rfl 134 rfl
      obtain ⟨X2_, c2_, x2_⟩ := s2.form
      rw [x2_] at s2
      have h134 := kev x2_
      clear x2_
      have s3 : Src 3 W (a.eval (.tmp 137)) (1) ([.int .i64 2, .int .i64 out, .int .i64 v]) := haft ⟨35, .data⟩ (by simp) rfl 137 rfl
      obtain ⟨X3_, c3_, x3_⟩ := s3.form
      rw [x3_] at s3
      have h137 := kev x3_
      clear x3_
      clear haft hin
      unfold Oper.wp
      go_simp
      exact hK _ _ ⟨_, _, rfl, sl_laid W _ _, srcsL_cons (s0.below (laid_below _ _)) (by repeat (first | exact one_rows_R3 _ | exact one_of_all rfl | exact one_flat_nil | refine one_flat_cons ?_ ?_ | refine one_app ?_ ?_)) (srcsL_cons (s1.below (laid_below _ _)) (by repeat (first | exact one_rows_R3 _ | exact one_of_all rfl | exact one_flat_nil | refine one_flat_cons ?_ ?_ | refine one_app ?_ ?_)) (srcsL_cons (s2.below (laid_below _ _)) (by repeat (first | exact one_rows_R3 _ | exact one_of_all rfl | exact one_flat_nil | refine one_flat_cons ?_ ?_ | refine one_app ?_ ?_)) (srcsL_cons (s3.below (laid_below _ _)) (by repeat (first | exact one_rows_R3 _ | exact one_of_all rfl | exact one_flat_nil | refine one_flat_cons ?_ ?_ | refine one_app ?_ ?_)) (srcsL_nil _))))⟩ (laid_below _ _)
    · intro a W hB hin haft K hK
      obtain ⟨g, us, hx, hsl2, hsv⟩ := haft ⟨36, .data⟩ (by simp) rfl 138 rfl
      have h138 := kev hx
      clear hx
      clear haft hin
      unfold Oper.wp
      go_simp
      refine (concatLoop_any g 0 4 us [a0, 1, 1 + a2, 1] [rows R3.vs X0, [.int .i64 0, .int .i64 (v + 1), .int .i64 0], [.int .i64 3, .int .i64 z, .int .i64 (a2 : Int)] ++ ([rows R3.vs X1, [.int .i64 2, .int .i64 v, .int .i64 (v + 2)], [.int .i64 1, .int .i64 (v + 1), .int .i64 0]] : List (List Value)).flatten, [.int .i64 2, .int .i64 out, .int .i64 v]] _ hsl2 hsv (by simp only [List.sum_cons, List.sum_nil]; omega) (by simp)).mono ?_
      rintro e2 w' ⟨u, rfl, own, hb, _⟩
      obtain ⟨A9, c9, rfl⟩ := own_form own
      exact hK _ _ (own_base own (Nat.le_trans BW.out hB.size)) hb
    · intro a W hB hin haft K hK
      have own : W.ownsRow B 86 3 (a.eval (.tmp 139)) ([a0, 1, 1 + a2, 1] : List Nat).sum ([rows R3.vs X0, [.int .i64 0, .int .i64 (v + 1), .int .i64 0], [.int .i64 3, .int .i64 z, .int .i64 (a2 : Int)] ++ ([rows R3.vs X1, [.int .i64 2, .int .i64 v, .int .i64 (v + 2)], [.int .i64 1, .int .i64 (v + 1), .int .i64 0]] : List (List Value)).flatten, [.int .i64 2, .int .i64 out, .int .i64 v]] : List (List Value)).flatten := haft ⟨37, .data⟩ (by simp) rfl 139 rfl
      obtain ⟨A9, c9, hx⟩ := own_form own
      rw [hx] at own
      have h139 := kev hx
      clear hx
      clear haft hin
      unfold Oper.wp
      go_simp
      exact hK _ _ own (Below.refl _ _)
  · intro a W hB hdf hsz hin hf
    have own : W.ownsRow B 86 3 (a.eval (.tmp 8)) ([a0, 1, 1 + a2, 1] : List Nat).sum ([rows R3.vs X0, [.int .i64 0, .int .i64 (v + 1), .int .i64 0], [.int .i64 3, .int .i64 z, .int .i64 (a2 : Int)] ++ ([rows R3.vs X1, [.int .i64 2, .int .i64 v, .int .i64 (v + 2)], [.int .i64 1, .int .i64 (v + 1), .int .i64 0]] : List (List Value)).flatten, [.int .i64 2, .int .i64 out, .int .i64 v]] : List (List Value)).flatten := hf 38 8 rfl
    obtain ⟨A9, c9, hx⟩ := own_form own
    rw [hx] at own
    have h8 := kev hx
    clear hin hf hx
    go_wp2
    refine bodyPost_ret (v := .slice A9 ([a0, 1, 1 + a2, 1] : List Nat).sum c9) (by simp [results, Tryz.results61, go_sem, h8]) hdf ?_
    refine ⟨⟨_, rfl, ?_⟩, below_step B3 hB⟩
    rw [HRL.out, HLL.out, HLR.out]
    exact own_base own BB.out
end Go.Proofs.YtjggkgdojhlhpaaGreat

/- Loop programs of recursive functions, the program's side: loopsOf, the kind 5. -/
namespace Go.Proofs.YtjggkgdojhlhpaaGreat
open Go.RowKit
set_option linter.all false

set_option maxRecDepth 100000 in
set_option maxHeartbeats 4000000 in
theorem loops5_any (N : Nat) (IH : Hid (LpIHi N)) (b off n c : Nat) (T : List R3) (x : R3) (l : List R3) (hT : T = x :: l) (hl : T.length = n) (hnN : n ≤ N + 1) (hn60 : n ≤ 60) (hc : n ≤ c) (A : Option Addr) (na ca : Nat) (xs : List Int) (out v : Int) (w : World) (hs : Sl w b off (rows R3.vs T)) (hsr : Src 1 w (.slice A na ca) na (xs.map (Value.int .i64))) (hca : na ≤ ca) (hna10 : na ≤ 10)
    (hb : x.b = (xs.length : Int)) (hok : fOkN x = true) (hrun : fRun (fFols x) l = some []) (hv0 : 0 ≤ v) (hv : v + 4 * (n : Int) ≤ 1000) (h5 : x.a = 5) :
    Calls Tryz.prog 61 #[.slice (some ⟨b, off, none⟩) n c, .slice A na ca, .int .i64 out, .int .i64 v] w (LpOk w (lpF (N + 1) (x :: l) xs out v)) := by
  have HL := Lib.hid hl
  have ha := hsr.arg
  have hna : xs.length = na := by have := ha.1; simpa using this
  have HNA := Lib.hid hna
  have hcs := (fOkN_iff x).1 hok
  have hx0 : T[0]? = some x := by rw [hT]; rfl
  have hll : l.length + 1 = n := by rw [← hl, hT]; rfl
  have HPA := Lib.hid (partsAt_any b off n c T x l hT hl hn60 hc hok hrun w hs)
  obtain ⟨p0, p1, p2⟩ := hs.rec3 hx0
  rw [Nat.zero_mul, Nat.add_zero] at p0 p1 p2
  have hn1 : (0 : Int) < (n : Int) := by omega
  have hff := fFols_5 h5
  obtain ⟨P0, C0, c0, R0, l0⟩ := part_at (i := 0) (a := x.b + 1) hok hrun (by rw [hff]; rfl)
  have HR := lp5 (N := N) (xs := xs) (out := out) (v := v) h5 c0
  have hm2 := fMany_5 h5
  rw [hm2] at HPA C0
  have e0 : (x.a == 0) = false := by rw [h5]; rfl
  have e1 : (x.a == 1) = false := by rw [h5]; rfl
  have e2 : (x.a == 2) = false := by rw [h5]; rfl
  have e3 : (x.a == 3) = false := by rw [h5]; rfl
  have e4 : (x.a == 4) = false := by rw [h5]; rfl
  obtain ⟨n0, hn0⟩ : ∃ n0, n0 = P0.length := ⟨_, rfl⟩
  have HN0 := Lib.hid hn0
  have HIH0 : Hid (∀ W o0 k0 A1 c1, Below w.heap.size w W → Sl w b o0 (rows R3.vs P0) → n0 ≤ k0 → Src 1 W (.slice A1 (1 + na) c1) (1 + na) ((v :: xs).map (Value.int .i64)) → 1 + na ≤ c1 → Calls Tryz.prog 61 #[.slice (some ⟨b, o0, none⟩) n0 k0, .slice A1 (1 + na) c1, .int .i64 (v + 1), .int .i64 (v + 3)] W (LpOk W (lpF N P0 (v :: xs) (v + 1) (v + 3)))) := fun W o0 k0 A1 c1 hW hS hk hA1 hc1 =>
    IH.out b o0 n0 k0 P0 _ _ _ (v :: xs) (v + 1) (v + 3) W HN0.out.symm (by omega) (by omega) hk (hS.below' hW) hA1 hc1 (by omega) (by rw [show ((((v :: xs) : List Int).length : Nat) : Int) = x.b + 1 by simp only [List.length_cons]; omega]; exact R0) (by omega) (by omega)
  have hL0 := lpF_len N P0 (v :: xs) (v + 1) (v + 3)
  rw [← HN0.out] at hL0
  obtain ⟨X0, hX0⟩ : ∃ X, X = lpF N P0 (v :: xs) (v + 1) (v + 3) := ⟨_, rfl⟩
  rw [← hX0] at HIH0 hL0 HR
  obtain ⟨a0, ha0⟩ : ∃ a, a = X0.length := ⟨_, rfl⟩
  rw [← ha0] at hL0
  have HA0X := Lib.hid ha0
  have ha480 : a0 ≤ 480 := by omega
  obtain ⟨a2, ha2⟩ : ∃ a2, a2 = 1 + a0 + 1 := ⟨_, rfl⟩
  obtain ⟨L, hL⟩ : ∃ L, L = (⟨0, v, 0⟩ :: ⟨0, v + 1, 0⟩ :: ⟨1, v + 1, 0⟩ :: ⟨4, v + 1, (a2 : Int)⟩ :: (((⟨2, v + 2, v⟩ : R3) :: (X0 ++ [⟨1, v, 0⟩])) ++ [⟨2, out, v + 2⟩]) : List R3) := ⟨_, rfl⟩
  have HRL : Hid (lpF (N + 1) (x :: l) xs out v = L) := by unfold Hid; rw [HR, hL, List.length_cons, List.length_append, ← ha0, ha2, show ([⟨1, v, 0⟩] : List R3).length = 1 from rfl, show a0 + 1 + 1 = 1 + a0 + 1 by omega]
  have HLL : Hid (L.length = ([1, 1, 1, 1 + a2, 1] : List Nat).sum) := by unfold Hid; rw [hL]; simp only [List.length_append, List.length_cons, List.length_nil, List.sum_cons, List.sum_nil]; omega
  have HLR : Hid (rows R3.vs L = ([[.int .i64 0, .int .i64 v, .int .i64 0], [.int .i64 0, .int .i64 (v + 1), .int .i64 0], [.int .i64 1, .int .i64 (v + 1), .int .i64 0], [.int .i64 4, .int .i64 (v + 1), .int .i64 (a2 : Int)] ++ ([[.int .i64 2, .int .i64 (v + 2), .int .i64 v], rows R3.vs X0, [.int .i64 1, .int .i64 v, .int .i64 0]] : List (List Value)).flatten, [.int .i64 2, .int .i64 out, .int .i64 (v + 2)]] : List (List Value)).flatten) := by
    unfold Hid; rw [hL]; simp only [rows, R3.vs, List.flatMap_append, List.flatMap_cons, List.flatMap_nil, List.append_assoc, List.cons_append, List.nil_append, List.append_nil, List.flatten_cons, List.flatten_nil]
  have HA2 := Lib.hid ha2
  have ha2le : a2 ≤ 482 := by omega
  have HO1 := Lib.hid (one_ints .i64 xs)
  have HSR := Lib.hid hsr
  have w3' : IntKind.i64.wrap (v + 3) = v + 3 := IntWalk.i64_in _ (by omega)
  have w2' : IntKind.i64.wrap (v + 2) = v + 2 := IntWalk.i64_in _ (by omega)
  have w1' : IntKind.i64.wrap (v + 1) = v + 1 := IntWalk.i64_in _ (by omega)
  clear hx0 hok hb hcs h5 hT hl hna ha hrun IH hff hm2 c0 R0 hX0 ha0 ha2 hL HR hn0 hsr hL0 l0
  go_enter Tryz.func61, Tryz.ntmps61
  go_wp2_with fail
  refine HPA.out.mono ?_
  rintro e w1 ⟨v1, vs, rfl, own1, hpv, b1⟩
  obtain ⟨A1, c1, rfl⟩ := own_form own1
  have r0 := cell_step (by exact p0) b1
  obtain ⟨g1, rfl, _, _⟩ := own_addr0 own1 (by omega)
  obtain ⟨o0, k0, V0, m0, S0⟩ := hpv.2 0 P0 C0
  rw [← HN0.out] at V0 m0
  have HSL1 := Lib.hid (sl_of_own own1)
  clear own1 p0 p1 p2 hpv C0
  obtain ⟨w2b, HW2, B2b, y2⟩ := al1 w1 (.cells #[.int .i64 v] 2)
  have ownT : w2b.ownsRow w1.heap.size 2 1 (.slice (some ⟨w1.heap.size, 0, none⟩) 1 1) 1 [.int .i64 v] := own_laid' HW2.out rfl (by unfold maxLen; omega)
  have srcT : Src 1 w2b (.slice A na ca) na (xs.map (Value.int .i64)) := HSR.out.below (below_step b1 B2b)
  clear y2
  go_wp2_with (at_builtin; rw [← HW2.out]; refine wpList_appx rfl _ _ _ rfl Tryz.underlying23 infoInt64S rfl (by omega) w1.heap.size ownT B2b.size rfl srcT rfl HO1.out (by unfold maxLen; omega) (by omega) ?_; intro v3 w3 own3 hg3 hnil3; clear hnil3; have B23 := grown_below B2b ownT (Nat.le_refl _) hg3; obtain ⟨A3, c3, rfl⟩ := own_form own3; clear ownT srcT hg3 B2b)
  have B3 := below_step b1 B23
  have HC3 := Lib.hid (own_capL own3 _ _ rfl)
  have HS3 : Hid (Src 1 w3 (.slice A3 (1 + na) c3) (1 + na) ((v :: xs).map (Value.int .i64))) := Src.of_own own3
  have HSL := Lib.hid (HSL1.out.below' B23)
  obtain ⟨B, hB_⟩ : ∃ B, B = w1.heap.size := ⟨_, rfl⟩
  have BB : Hid (w.heap.size ≤ B) := by rw [hB_]; exact b1.size
  have BW : Hid (B ≤ w3.heap.size) := by rw [hB_]; exact B23.size
  clear own3 B23 r0 hB_ b1
  refine region_facts (by kernel_rfl) [kcst (.int .i64 v), ksrc 1 ([.int .i64 0, .int .i64 v, .int .i64 0]), kcst (.int .i64 v), kcst (.int .i64 (v + 1)), ksrc 1 ([.int .i64 0, .int .i64 (v + 1), .int .i64 0]), kcst (.int .i64 v), kcst (.int .i64 (v + 1)), ksrc 1 ([.int .i64 1, .int .i64 (v + 1), .int .i64 0]), kcst (.int .i64 v), kcst (.int .i64 (v + 1)), kcst (.int .i64 v), kcst (.int .i64 (v + 2)), kcst (.int .i64 v), ksrc 1 ([.int .i64 2, .int .i64 (v + 2), .int .i64 v]), kcst (.slice (some ⟨g1, 0, none⟩) 1 c1), kcst (.pointer (some ⟨g1, 0, none⟩)), kcst (.slice (some ⟨b, o0, none⟩) n0 k0), kcst (.slice A3 (1 + na) c3), kcst (.int .i64 v), kcst (.int .i64 (v + 1)), kcst (.int .i64 v), kcst (.int .i64 (v + 3)), ksrc a0 (rows R3.vs X0), kcst (.int .i64 v), ksrc 1 ([.int .i64 1, .int .i64 v, .int .i64 0]), ksrcs 3 [1, a0, 1] [[.int .i64 2, .int .i64 (v + 2), .int .i64 v], rows R3.vs X0, [.int .i64 1, .int .i64 v, .int .i64 0]], ksrc (1 + a2) ([.int .i64 4, .int .i64 (v + 1), .int .i64 (a2 : Int)] ++ ([[.int .i64 2, .int .i64 (v + 2), .int .i64 v], rows R3.vs X0, [.int .i64 1, .int .i64 v, .int .i64 0]] : List (List Value)).flatten), kcst (.int .i64 out), kcst (.int .i64 v), kcst (.int .i64 (v + 2)), ksrc 1 ([.int .i64 2, .int .i64 out, .int .i64 (v + 2)]), ksrcs 5 [1, 1, 1, 1 + a2, 1] [[.int .i64 0, .int .i64 v, .int .i64 0], [.int .i64 0, .int .i64 (v + 1), .int .i64 0], [.int .i64 1, .int .i64 (v + 1), .int .i64 0], [.int .i64 4, .int .i64 (v + 1), .int .i64 (a2 : Int)] ++ ([[.int .i64 2, .int .i64 (v + 2), .int .i64 v], rows R3.vs X0, [.int .i64 1, .int .i64 v, .int .i64 0]] : List (List Value)).flatten, [.int .i64 2, .int .i64 out, .int .i64 (v + 2)]], kown B ([1, 1, 1, 1 + a2, 1] : List Nat).sum ([[.int .i64 0, .int .i64 v, .int .i64 0], [.int .i64 0, .int .i64 (v + 1), .int .i64 0], [.int .i64 1, .int .i64 (v + 1), .int .i64 0], [.int .i64 4, .int .i64 (v + 1), .int .i64 (a2 : Int)] ++ ([[.int .i64 2, .int .i64 (v + 2), .int .i64 v], rows R3.vs X0, [.int .i64 1, .int .i64 v, .int .i64 0]] : List (List Value)).flatten, [.int .i64 2, .int .i64 out, .int .i64 (v + 2)]] : List (List Value)).flatten, kown B ([1, 1, 1, 1 + a2, 1] : List Nat).sum ([[.int .i64 0, .int .i64 v, .int .i64 0], [.int .i64 0, .int .i64 (v + 1), .int .i64 0], [.int .i64 1, .int .i64 (v + 1), .int .i64 0], [.int .i64 4, .int .i64 (v + 1), .int .i64 (a2 : Int)] ++ ([[.int .i64 2, .int .i64 (v + 2), .int .i64 v], rows R3.vs X0, [.int .i64 1, .int .i64 v, .int .i64 0]] : List (List Value)).flatten, [.int .i64 2, .int .i64 out, .int .i64 (v + 2)]] : List (List Value)).flatten] [144, 145, 146, 147, 148, 149, 150, 151, 152, 153, 154, 155, 156, 157, 158, 159, 160, 161, 162, 163, 164, 165, 166, 167, 168, 169, 170, 171, 172, 173, 174, 175, 176, 8] (by kernel_rfl) ?_ ?_
  · refine ⟨?_, ?_, ?_, ?_, ?_, ?_, ?_, ?_, ?_, ?_, ?_, ?_, ?_, ?_, ?_, ?_, ?_, ?_, ?_, ?_, ?_, ?_, ?_, ?_, ?_, ?_, ?_, ?_, ?_, ?_, ?_, ?_, ?_, ?_, trivial⟩
    · intro a W hB hin haft K hK
      have h0 : a.tmps[3]?.getD undef = .int .i64 v := kev (hin 3 (by decide))
      clear haft hin
      unfold Oper.wp
      go_simp
      exact hK _ _ rfl (Below.refl _ _)
    · intro a W hB hin haft K hK
      have h144 : a.tmps[144]?.getD undef = .int .i64 v := kev (haft ⟨0, .data⟩ (by simp) rfl 144 rfl)
      clear haft hin
      unfold Oper.wp
      go_simp
      refine (zero_any v _).mono ?_
      rintro e2 w' ⟨⟨u, rfl, own⟩, hb⟩
      obtain ⟨A9, c9, rfl⟩ := own_form own
      exact hK _ _ (Src.of_own own) hb
    · intro a W hB hin haft K hK
      have h0 : a.tmps[3]?.getD undef = .int .i64 v := kev (hin 3 (by decide))
      clear haft hin
      unfold Oper.wp
      go_simp
      exact hK _ _ rfl (Below.refl _ _)
    · intro a W hB hin haft K hK
      have h146 : a.tmps[146]?.getD undef = .int .i64 v := kev (haft ⟨2, .data⟩ (by simp) rfl 146 rfl)
      clear haft hin
      unfold Oper.wp
      go_simp
      exact hK _ _ rfl (Below.refl _ _)
    · intro a W hB hin haft K hK
      have h147 : a.tmps[147]?.getD undef = .int .i64 (v + 1) := kev (haft ⟨3, .data⟩ (by simp) rfl 147 rfl)
      clear haft hin
      unfold Oper.wp
      go_simp
      refine (zero_any (v + 1) _).mono ?_
      rintro e2 w' ⟨⟨u, rfl, own⟩, hb⟩
      obtain ⟨A9, c9, rfl⟩ := own_form own
      exact hK _ _ (Src.of_own own) hb
    · intro a W hB hin haft K hK
      have h0 : a.tmps[3]?.getD undef = .int .i64 v := kev (hin 3 (by decide))
      clear haft hin
      unfold Oper.wp
      go_simp
      exact hK _ _ rfl (Below.refl _ _)
    · intro a W hB hin haft K hK
      have h149 : a.tmps[149]?.getD undef = .int .i64 v := kev (haft ⟨5, .data⟩ (by simp) rfl 149 rfl)
      clear haft hin
      unfold Oper.wp
      go_simp
      exact hK _ _ rfl (Below.refl _ _)
    · intro a W hB hin haft K hK
      have h150 : a.tmps[150]?.getD undef = .int .i64 (v + 1) := kev (haft ⟨6, .data⟩ (by simp) rfl 150 rfl)
      clear haft hin
      unfold Oper.wp
      go_simp
      refine (inc_any (v + 1) _).mono ?_
      rintro e2 w' ⟨⟨u, rfl, own⟩, hb⟩
      obtain ⟨A9, c9, rfl⟩ := own_form own
      exact hK _ _ (Src.of_own own) hb
    · intro a W hB hin haft K hK
      have h0 : a.tmps[3]?.getD undef = .int .i64 v := kev (hin 3 (by decide))
      clear haft hin
      unfold Oper.wp
      go_simp
      exact hK _ _ rfl (Below.refl _ _)
    · intro a W hB hin haft K hK
      have h152 : a.tmps[152]?.getD undef = .int .i64 v := kev (haft ⟨8, .data⟩ (by simp) rfl 152 rfl)
      clear haft hin
      unfold Oper.wp
      go_simp
      exact hK _ _ rfl (Below.refl _ _)
    · intro a W hB hin haft K hK
      have h0 : a.tmps[3]?.getD undef = .int .i64 v := kev (hin 3 (by decide))
      clear haft hin
      unfold Oper.wp
      go_simp
      exact hK _ _ rfl (Below.refl _ _)
    · intro a W hB hin haft K hK
      have h154 : a.tmps[154]?.getD undef = .int .i64 v := kev (haft ⟨10, .data⟩ (by simp) rfl 154 rfl)
      clear haft hin
      unfold Oper.wp
      go_simp
      exact hK _ _ rfl (Below.refl _ _)
    · intro a W hB hin haft K hK
      have h0 : a.tmps[3]?.getD undef = .int .i64 v := kev (hin 3 (by decide))
      clear haft hin
      unfold Oper.wp
      go_simp
      exact hK _ _ rfl (Below.refl _ _)
    · intro a W hB hin haft K hK
      have h155 : a.tmps[155]?.getD undef = .int .i64 (v + 2) := kev (haft ⟨11, .data⟩ (by simp) rfl 155 rfl)
      have h156 : a.tmps[156]?.getD undef = .int .i64 v := kev (haft ⟨12, .data⟩ (by simp) rfl 156 rfl)
      clear haft hin
      unfold Oper.wp
      go_simp
      refine (assign_any (v + 2) v _).mono ?_
      rintro e2 w' ⟨⟨u, rfl, own⟩, hb⟩
      obtain ⟨A9, c9, rfl⟩ := own_form own
      exact hK _ _ (Src.of_own own) hb
    · intro a W hB hin haft K hK
      have h0 : a.tmps[9]?.getD undef = .slice (some ⟨g1, 0, none⟩) 1 c1 := kev (hin 9 (by decide))
      clear haft hin
      unfold Oper.wp
      go_simp
      exact hK _ _ rfl (Below.refl _ _)
    · intro a W hB hin haft K hK
      have h158 : a.tmps[158]?.getD undef = .slice (some ⟨g1, 0, none⟩) 1 c1 := kev (haft ⟨14, .data⟩ (by simp) rfl 158 rfl)
      clear haft hin
      unfold Oper.wp
      go_simp
      exact hK _ _ rfl (Below.refl _ _)
    · intro a W hB hin haft K hK
      have h159 : a.tmps[159]?.getD undef = .pointer (some ⟨g1, 0, none⟩) := kev (haft ⟨15, .data⟩ (by simp) rfl 159 rfl)
      have k9 := (HSL.out.below' hB).at V0
      rw [Nat.zero_add] at k9
      clear haft hin
      unfold Oper.wp
      go_simp
      exact hK _ _ rfl (Below.refl _ _)
    · intro a W hB hin haft K hK
      have h0 : a.tmps[16]?.getD undef = .slice A3 (1 + na) c3 := kev (hin 16 (by decide))
      clear haft hin
      unfold Oper.wp
      go_simp
      exact hK _ _ rfl (Below.refl _ _)
    · intro a W hB hin haft K hK
      have h0 : a.tmps[3]?.getD undef = .int .i64 v := kev (hin 3 (by decide))
      clear haft hin
      unfold Oper.wp
      go_simp
      exact hK _ _ rfl (Below.refl _ _)
    · intro a W hB hin haft K hK
      have h162 : a.tmps[162]?.getD undef = .int .i64 v := kev (haft ⟨18, .data⟩ (by simp) rfl 162 rfl)
      clear haft hin
      unfold Oper.wp
      go_simp
      exact hK _ _ rfl (Below.refl _ _)
    · intro a W hB hin haft K hK
      have h0 : a.tmps[3]?.getD undef = .int .i64 v := kev (hin 3 (by decide))
      clear haft hin
      unfold Oper.wp
      go_simp
      exact hK _ _ rfl (Below.refl _ _)
    · intro a W hB hin haft K hK
      have h164 : a.tmps[164]?.getD undef = .int .i64 v := kev (haft ⟨20, .data⟩ (by simp) rfl 164 rfl)
      clear haft hin
      unfold Oper.wp
      go_simp
      exact hK _ _ rfl (Below.refl _ _)
    · intro a W hB hin haft K hK
      have h160 : a.tmps[160]?.getD undef = .slice (some ⟨b, o0, none⟩) n0 k0 := kev (haft ⟨16, .data⟩ (by simp) rfl 160 rfl)
      have h161 : a.tmps[161]?.getD undef = .slice A3 (1 + na) c3 := kev (haft ⟨17, .data⟩ (by simp) rfl 161 rfl)
      have h163 : a.tmps[163]?.getD undef = .int .i64 (v + 1) := kev (haft ⟨19, .data⟩ (by simp) rfl 163 rfl)
      have h165 : a.tmps[165]?.getD undef = .int .i64 (v + 3) := kev (haft ⟨21, .data⟩ (by simp) rfl 165 rfl)
      clear haft hin
      unfold Oper.wp
      go_simp
      refine (HIH0.out _ o0 k0 A3 c3 (below_step B3 hB) S0 m0 (HS3.out.below hB) HC3.out).mono ?_
      rintro e2 w' ⟨⟨u, rfl, own⟩, hb⟩
      rw [← HA0X.out] at own
      obtain ⟨A9, c9, rfl⟩ := own_form own
      exact hK _ _ (Src.of_own own) hb
    · intro a W hB hin haft K hK
      have h0 : a.tmps[3]?.getD undef = .int .i64 v := kev (hin 3 (by decide))
      clear haft hin
      unfold Oper.wp
      go_simp
      exact hK _ _ rfl (Below.refl _ _)
    · intro a W hB hin haft K hK
      have h167 : a.tmps[167]?.getD undef = .int .i64 v := kev (haft ⟨23, .data⟩ (by simp) rfl 167 rfl)
      clear haft hin
      unfold Oper.wp
      go_simp
      refine (inc_any v _).mono ?_
      rintro e2 w' ⟨⟨u, rfl, own⟩, hb⟩
      obtain ⟨A9, c9, rfl⟩ := own_form own
      exact hK _ _ (Src.of_own own) hb
    · intro a W hB hin haft K hK
      have s0 : Src 3 W (a.eval (.tmp 157)) (1) ([.int .i64 2, .int .i64 (v + 2), .int .i64 v]) := haft ⟨13, .data⟩ (by simp) rfl 157 rfl
      obtain ⟨X0_, c0_, x0_⟩ := s0.form
      rw [x0_] at s0
      have h157 := kev x0_
      clear x0_
      have s1 : Src 3 W (a.eval (.tmp 166)) (a0) (rows R3.vs X0) := haft ⟨22, .data⟩ (by simp) rfl 166 rfl
      obtain ⟨X1_, c1_, x1_⟩ := s1.form
      rw [x1_] at s1
      have h166 := kev x1_
      clear x1_
      have s2 : Src 3 W (a.eval (.tmp 168)) (1) ([.int .i64 1, .int .i64 v, .int .i64 0]) := haft ⟨24, .data⟩ (by simp) rfl 168 rfl
      obtain ⟨X2_, c2_, x2_⟩ := s2.form
      rw [x2_] at s2
      have h168 := kev x2_
      clear x2_
      clear haft hin
      unfold Oper.wp
      go_simp
      exact hK _ _ ⟨_, _, rfl, sl_laid W _ _, srcsL_cons (s0.below (laid_below _ _)) (by repeat (first | exact one_rows_R3 _ | exact one_of_all rfl | exact one_flat_nil | refine one_flat_cons ?_ ?_ | refine one_app ?_ ?_)) (srcsL_cons (s1.below (laid_below _ _)) (by repeat (first | exact one_rows_R3 _ | exact one_of_all rfl | exact one_flat_nil | refine one_flat_cons ?_ ?_ | refine one_app ?_ ?_)) (srcsL_cons (s2.below (laid_below _ _)) (by repeat (first | exact one_rows_R3 _ | exact one_of_all rfl | exact one_flat_nil | refine one_flat_cons ?_ ?_ | refine one_app ?_ ?_)) (srcsL_nil _)))⟩ (laid_below _ _)
    · intro a W hB hin haft K hK
      have h153 : a.tmps[153]?.getD undef = .int .i64 (v + 1) := kev (haft ⟨9, .data⟩ (by simp) rfl 153 rfl)
      obtain ⟨g, us, hx, hsl2, hsv⟩ := haft ⟨25, .data⟩ (by simp) rfl 169 rfl
      have h169 := kev hx
      clear hx
      clear haft hin
      unfold Oper.wp
      go_simp
      refine (looped_any 4 (v + 1) g 0 3 us [1, a0, 1] [[.int .i64 2, .int .i64 (v + 2), .int .i64 v], rows R3.vs X0, [.int .i64 1, .int .i64 v, .int .i64 0]] 3 a2 _ hsl2 hsv rfl (by simp only [List.sum_cons, List.sum_nil]; have := HA2.out; omega) (by omega) (by omega) (by repeat (first | exact one_rows_R3 _ | exact one_of_all rfl | exact one_flat_nil | refine one_flat_cons ?_ ?_ | refine one_app ?_ ?_))).mono ?_
      rintro e2 w' ⟨⟨u, rfl, own⟩, hb⟩
      obtain ⟨A9, c9, rfl⟩ := own_form own
      exact hK _ _ (Src.of_own own) hb
    · intro a W hB hin haft K hK
      have h0 : a.tmps[2]?.getD undef = .int .i64 out := kev (hin 2 (by decide))
      clear haft hin
      unfold Oper.wp
      go_simp
      exact hK _ _ rfl (Below.refl _ _)
    · intro a W hB hin haft K hK
      have h0 : a.tmps[3]?.getD undef = .int .i64 v := kev (hin 3 (by decide))
      clear haft hin
      unfold Oper.wp
      go_simp
      exact hK _ _ rfl (Below.refl _ _)
    · intro a W hB hin haft K hK
      have h172 : a.tmps[172]?.getD undef = .int .i64 v := kev (haft ⟨28, .data⟩ (by simp) rfl 172 rfl)
      clear haft hin
      unfold Oper.wp
      go_simp
      exact hK _ _ rfl (Below.refl _ _)
    · intro a W hB hin haft K hK
      have h171 : a.tmps[171]?.getD undef = .int .i64 out := kev (haft ⟨27, .data⟩ (by simp) rfl 171 rfl)
      have h173 : a.tmps[173]?.getD undef = .int .i64 (v + 2) := kev (haft ⟨29, .data⟩ (by simp) rfl 173 rfl)
      clear haft hin
      unfold Oper.wp
      go_simp
      refine (assign_any out (v + 2) _).mono ?_
      rintro e2 w' ⟨⟨u, rfl, own⟩, hb⟩
      obtain ⟨A9, c9, rfl⟩ := own_form own
      exact hK _ _ (Src.of_own own) hb
    · intro a W hB hin haft K hK
      have s0 : Src 3 W (a.eval (.tmp 145)) (1) ([.int .i64 0, .int .i64 v, .int .i64 0]) := haft ⟨1, .data⟩ (by simp) rfl 145 rfl
      obtain ⟨X0_, c0_, x0_⟩ := s0.form
      rw [x0_] at s0
      have h145 := kev x0_
      clear x0_
      have s1 : Src 3 W (a.eval (.tmp 148)) (1) ([.int .i64 0, .int .i64 (v + 1), .int .i64 0]) := haft ⟨4, .data⟩ (by simp) rfl 148 rfl
      obtain ⟨X1_, c1_, x1_⟩ := s1.form
      rw [x1_] at s1
      have h148 := kev x1_
      clear x1_
      have s2 : Src 3 W (a.eval (.tmp 151)) (1) ([.int .i64 1, .int .i64 (v + 1), .int .i64 0]) := haft ⟨7, .data⟩ (by simp) rfl 151 rfl
      obtain ⟨X2_, c2_, x2_⟩ := s2.form
      rw [x2_] at s2
      have h151 := kev x2_
      clear x2_
      have s3 : Src 3 W (a.eval (.tmp 170)) (1 + a2) ([.int .i64 4, .int .i64 (v + 1), .int .i64 (a2 : Int)] ++ ([[.int .i64 2, .int .i64 (v + 2), .int .i64 v], rows R3.vs X0, [.int .i64 1, .int .i64 v, .int .i64 0]] : List (List Value)).flatten) := haft ⟨26, .data⟩ (by simp) rfl 170 rfl
      obtain ⟨X3_, c3_, x3_⟩ := s3.form
      rw [x3_] at s3
      have h170 := kev x3_
      clear x3_
      have s4 : Src 3 W (a.eval (.tmp 174)) (1) ([.int .i64 2, .int .i64 out, .int .i64 (v + 2)]) := haft ⟨30, .data⟩ (by simp) rfl 174 rfl
      obtain ⟨X4_, c4_, x4_⟩ := s4.form
      rw [x4_] at s4
      have h174 := kev x4_
      clear x4_
      clear haft hin
      unfold Oper.wp
      go_simp
      exact hK _ _ ⟨_, _, rfl, sl_laid W _ _, srcsL_cons (s0.below (laid_below _ _)) (by repeat (first | exact one_rows_R3 _ | exact one_of_all rfl | exact one_flat_nil | refine one_flat_cons ?_ ?_ | refine one_app ?_ ?_)) (srcsL_cons (s1.below (laid_below _ _)) (by repeat (first | exact one_rows_R3 _ | exact one_of_all rfl | exact one_flat_nil | refine one_flat_cons ?_ ?_ | refine one_app ?_ ?_)) (srcsL_cons (s2.below (laid_below _ _)) (by repeat (first | exact one_rows_R3 _ | exact one_of_all rfl | exact one_flat_nil | refine one_flat_cons ?_ ?_ | refine one_app ?_ ?_)) (srcsL_cons (s3.below (laid_below _ _)) (by repeat (first | exact one_rows_R3 _ | exact one_of_all rfl | exact one_flat_nil | refine one_flat_cons ?_ ?_ | refine one_app ?_ ?_)) (srcsL_cons (s4.below (laid_below _ _)) (by repeat (first | exact one_rows_R3 _ | exact one_of_all rfl | exact one_flat_nil | refine one_flat_cons ?_ ?_ | refine one_app ?_ ?_)) (srcsL_nil _)))))⟩ (laid_below _ _)
    · intro a W hB hin haft K hK
      obtain ⟨g, us, hx, hsl2, hsv⟩ := haft ⟨31, .data⟩ (by simp) rfl 175 rfl
      have h175 := kev hx
      clear hx
      clear haft hin
      unfold Oper.wp
      go_simp
      refine (concatLoop_any g 0 5 us [1, 1, 1, 1 + a2, 1] [[.int .i64 0, .int .i64 v, .int .i64 0], [.int .i64 0, .int .i64 (v + 1), .int .i64 0], [.int .i64 1, .int .i64 (v + 1), .int .i64 0], [.int .i64 4, .int .i64 (v + 1), .int .i64 (a2 : Int)] ++ ([[.int .i64 2, .int .i64 (v + 2), .int .i64 v], rows R3.vs X0, [.int .i64 1, .int .i64 v, .int .i64 0]] : List (List Value)).flatten, [.int .i64 2, .int .i64 out, .int .i64 (v + 2)]] _ hsl2 hsv (by simp only [List.sum_cons, List.sum_nil]; omega) (by simp)).mono ?_
      rintro e2 w' ⟨u, rfl, own, hb, _⟩
      obtain ⟨A9, c9, rfl⟩ := own_form own
      exact hK _ _ (own_base own (Nat.le_trans BW.out hB.size)) hb
    · intro a W hB hin haft K hK
      have own : W.ownsRow B 86 3 (a.eval (.tmp 176)) ([1, 1, 1, 1 + a2, 1] : List Nat).sum ([[.int .i64 0, .int .i64 v, .int .i64 0], [.int .i64 0, .int .i64 (v + 1), .int .i64 0], [.int .i64 1, .int .i64 (v + 1), .int .i64 0], [.int .i64 4, .int .i64 (v + 1), .int .i64 (a2 : Int)] ++ ([[.int .i64 2, .int .i64 (v + 2), .int .i64 v], rows R3.vs X0, [.int .i64 1, .int .i64 v, .int .i64 0]] : List (List Value)).flatten, [.int .i64 2, .int .i64 out, .int .i64 (v + 2)]] : List (List Value)).flatten := haft ⟨32, .data⟩ (by simp) rfl 176 rfl
      obtain ⟨A9, c9, hx⟩ := own_form own
      rw [hx] at own
      have h176 := kev hx
      clear hx
      clear haft hin
      unfold Oper.wp
      go_simp
      exact hK _ _ own (Below.refl _ _)
  · intro a W hB hdf hsz hin hf
    have own : W.ownsRow B 86 3 (a.eval (.tmp 8)) ([1, 1, 1, 1 + a2, 1] : List Nat).sum ([[.int .i64 0, .int .i64 v, .int .i64 0], [.int .i64 0, .int .i64 (v + 1), .int .i64 0], [.int .i64 1, .int .i64 (v + 1), .int .i64 0], [.int .i64 4, .int .i64 (v + 1), .int .i64 (a2 : Int)] ++ ([[.int .i64 2, .int .i64 (v + 2), .int .i64 v], rows R3.vs X0, [.int .i64 1, .int .i64 v, .int .i64 0]] : List (List Value)).flatten, [.int .i64 2, .int .i64 out, .int .i64 (v + 2)]] : List (List Value)).flatten := hf 33 8 rfl
    obtain ⟨A9, c9, hx⟩ := own_form own
    rw [hx] at own
    have h8 := kev hx
    clear hin hf hx
    go_wp2
    refine bodyPost_ret (v := .slice A9 ([1, 1, 1, 1 + a2, 1] : List Nat).sum c9) (by simp [results, Tryz.results61, go_sem, h8]) hdf ?_
    refine ⟨⟨_, rfl, ?_⟩, below_step B3 hB⟩
    rw [HRL.out, HLL.out, HLR.out]
    exact own_base own BB.out
end Go.Proofs.YtjggkgdojhlhpaaGreat

/- Loop programs of recursive functions, the program's side: all kinds, LoopOfFunc. -/
namespace Go.Proofs.YtjggkgdojhlhpaaGreat
open Go.RowKit
set_option linter.all false

theorem loopsOf_any : ∀ N : Nat, LpIHi N := by
  intro N
  induction N with
  | zero =>
    intro b off n c T A na ca xs out v w hl hn h60 hc hs hsr hca hna hr
    obtain rfl : T = [] := List.eq_nil_of_length_eq_zero (by omega)
    rw [fRun_none] at hr; cases hr
  | succ N ih =>
    intro b off n c T A na ca xs out v w hl hn h60 hc hs hsr hca hna hr hv0 hv
    cases T with
    | nil => rw [fRun_none] at hr; cases hr
    | cons x l =>
      obtain ⟨hok, hb, hrun⟩ := parts_of hr
      have hb' : x.b = (xs.length : Int) := by omega
      have hcs := (fOkN_iff x).1 hok
      have h6 : x.a = 0 ∨ x.a = 1 ∨ x.a = 2 ∨ x.a = 3 ∨ x.a = 4 ∨ x.a = 5 := by omega
      rcases h6 with h0 | h0 | h0 | h0 | h0 | h0
      · exact loops0_any N ih b off n c (x :: l) x l rfl hl hn h60 hc A na ca xs out v w hs hsr hca hna hb' hok hrun hv0 hv h0
      · exact loops1_any N ih b off n c (x :: l) x l rfl hl hn h60 hc A na ca xs out v w hs hsr hca hna hb' hok hrun hv0 hv h0
      · exact loops2_any N ih b off n c (x :: l) x l rfl hl hn h60 hc A na ca xs out v w hs hsr hca hna hb' hok hrun hv0 hv h0
      · exact loops3_any N ih b off n c (x :: l) x l rfl hl hn h60 hc A na ca xs out v w hs hsr hca hna hb' hok hrun hv0 hv h0
      · exact loops4_any N ih b off n c (x :: l) x l rfl hl hn h60 hc A na ca xs out v w hs hsr hca hna hb' hok hrun hv0 hv h0
      · exact loops5_any N ih b off n c (x :: l) x l rfl hl hn h60 hc A na ca xs out v w hs hsr hca hna hb' hok hrun hv0 hv h0

set_option maxRecDepth 100000 in
set_option maxHeartbeats 1000000 in
theorem loopOfFunc_any (b off n c : Nat) (f : List R3) (hf : validF f = true) (vb : Bool) (hvb : validL (lpOf f) = vb) (w : World) (hs : Sl w b off (rows R3.vs f)) (hl : f.length = n) (hc : n ≤ c) (M : List R3 × Int) (hM : loopF f = M) :
    Calls Tryz.prog 46 #[.slice (some ⟨b, off, none⟩) n c] w fun e w' => ∃ v, e = .returned (.tuple #[v, .int .i64 M.2]) ∧ (∃ A n c, v = .slice A n c) ∧ w'.ownsRow w.heap.size 86 3 v M.1.length (rows R3.vs M.1) ∧ Below w.heap.size w w' := by
  obtain ⟨x, l, hfx, h60, hb, h4, hr, hok, hfit⟩ := validF_head hf
  obtain ⟨hp1, hp2⟩ := lpOf_len hf
  have hx : f[0]? = some x := by rw [hfx]; rfl
  have hn1 : (0 : Int) < (n : Int) := by have := (List.getElem?_eq_some_iff.1 hx).1; omega
  obtain ⟨ar, har⟩ : ∃ ar, ar = ar0 f := ⟨_, rfl⟩
  have HLP : Hid (lpF n f (vars 0 ar) ar ((ar : Int) + 1) = lpOf f) := by unfold Hid lpOf; rw [har, hl]
  rw [← har] at hb h4 hr
  have HIH : Hid (∀ W A1 c1, Below w.heap.size w W → Src 1 W (.slice A1 ar c1) ar ((vars 0 ar).map (Value.int .i64)) → ar ≤ c1 → Calls Tryz.prog 61 #[.slice (some ⟨b, off, none⟩) n c, .slice A1 ar c1, .int .i64 (ar : Int), .int .i64 ((ar : Int) + 1)] W (LpOk W (lpOf f))) := by
    intro W A1 c1 hW hA hc1
    have := loopsOf_any n b off n c f A1 ar c1 (vars 0 ar) ar ((ar : Int) + 1) W hl (Nat.le_refl _) (by omega) hc (hs.below' hW) hA hc1 (by omega) (by rw [vars_len]; exact hr) (by omega) (by omega)
    rw [HLP.out] at this
    exact this
  obtain ⟨p0, p1, p2⟩ := hs.rec3 hx
  rw [Nat.zero_mul, Nat.add_zero] at p0 p1 p2
  rw [hb] at p1
  have HMT : Hid (vb = true → M = (lpOf f, 0)) := fun h => by rw [← hM]; exact loopF_0 hf (by rw [hvb, h])
  have HMF : Hid (vb = false → M = ([], 5)) := fun h => by rw [← hM]; exact loopF_5 hf (by rw [hvb, h])
  obtain ⟨L, hL⟩ : ∃ L, L = lpOf f := ⟨_, rfl⟩
  rw [← hL] at HIH hp1 hp2 hvb HMT
  obtain ⟨a0, ha0⟩ : ∃ a0, a0 = L.length := ⟨_, rfl⟩
  rw [← ha0] at hp1 hp2
  have HA0 := Lib.hid ha0
  have HVB := Lib.hid hvb
  clear hfx hb hr hok hfit hx HLP hL ha0 har hvb p0 p2 hl hf h60 hM
  go_enter Tryz.func46, Tryz.ntmps46
  go_wp2_with fail
  go_loopw [5, 14] (fun v i wr => ∃ k : Nat, k ≤ ar ∧ i = .int .i64 k ∧ wr.ownsRow w.heap.size 2 1 v k ((vars 0 k).map (.int .i64)) ∧ Below w.heap.size w wr) (fun _ i _ => ar - (intOf i).toNat)
  case atStart => exact ⟨0, Nat.zero_le _, rfl, World.ownsRow_made _ #[] 0 (by simp) (by simp [maxLen]) rfl, (Below.refl _ _).alloc (Nat.le_refl _) _⟩
  case round =>
    obtain ⟨k, hk, rfl, hown, hB⟩ := hrel
    by_cases hlt : k < ar
    · have HVS : Hid ((vars 0 k).map (Value.int .i64) ++ [.int .i64 (k : Int)] = (vars 0 (k + 1)).map (Value.int .i64)) := by unfold Hid; rw [vars_succ, List.map_append]; simp
      go_wp2_with (at_builtin; refine wpList_app rfl _ _ _ rfl Tryz.underlying23 infoInt64S rfl (by omega) w wr hown hB rfl 1 #[.int .i64 (k : Int)] rfl (laid_below _ _) (heap_alloc_new _ _) rfl (by simp [Value.oneCell']) (by omega) (by unfold maxLen; omega) (by omega) ?_; intro g cap w1 hown1 hB1)
      go_roundw
      case rel => exact ⟨k + 1, by omega, by go_num, by rw [← HVS.out]; exact hown1, hB1⟩
      case measure => simp [intOf]; omega
    · obtain rfl : k = ar := by omega
      obtain ⟨A1, c1, rfl⟩ := own_form hown
      go_wp2_with fail
      refine (HIH.out _ A1 c1 hB (Src.of_own hown) (own_capL hown _ _ rfl)).mono ?_
      rintro e w2 ⟨⟨v2, rfl, own2⟩, b2⟩
      have B2 := below_step hB b2
      rw [← HA0.out] at own2
      obtain ⟨A2, c2, rfl⟩ := own_form own2
      have hc2 := own_capL own2 _ _ rfl
      obtain ⟨g2, rfl, _, _⟩ := own_addr0 own2 hp2
      have hA2 : Args 3 w2 (some ⟨g2, 0, none⟩) a0 (rows R3.vs L) := args_of_own own2
      have hbs := hB.size
      clear hown p1
      go_wp2_with fail
      refine (implValidLoop_is g2 0 a0 c2 L vb HVB.out _ hA2 (by omega) hc2).mono ?_
      rintro e w3 ⟨rfl, b3⟩
      have own3 := own_below' own2 b3
      cases vb with
      | true =>
        go_wp2
        go_ret2
        rw [HMT.out (by trivial)]
        have := own_base own3 hbs
        rw [HA0.out] at this
        refine ⟨_, rfl, ⟨_, _, _, rfl⟩, ?_, below_step B2 b3⟩
        rw [HA0.out]
        exact this
      | false =>
        go_wp2
        go_ret2
        rw [HMF.out (by trivial)]
        exact ⟨_, rfl, ⟨_, _, _, rfl⟩, World.ownsRow_nil _ _ _ _, below_step B2 b3⟩

set_option maxRecDepth 100000 in
set_option maxHeartbeats 1000000 in
theorem implLoopOfFunc_any (b off n c : Nat) (xs : List R3) (w : World) (hs : Sl w b off (rows R3.vs xs)) (hl : xs.length = n) (hn : n ≤ 1048576) (hc : n ≤ c) (hf : ∀ x ∈ xs, x.wf) :
    Calls Tryz.prog 30 #[.slice (some ⟨b, off, none⟩) n c] w fun e w' => ∃ v, e = .returned (.tuple #[v, .int .i64 (loopF xs).2]) ∧
      w'.ownsRow w.heap.size 86 3 v (loopF xs).1.length (rows R3.vs (loopF xs).1) ∧ Below w.heap.size w w' := by
  have HL := Lib.hid hl
  have HA := Lib.hid (Args.of_sl (n := n) (s := 3) hs (by rw [rows_len R3.vs_len, hl]))
  clear hf
  rcases Bool.eq_false_or_eq_true (validF xs) with hv | hv
  rotate_left
  · have HM := Lib.hid (loopF_1 hv)
    have HV := Lib.hid hv
    clear hv hl
    go_enter Tryz.func30, Tryz.ntmps30
    go_wp2_with fail
    refine (validFunc_is _ n c xs false HV.out _ HA.out hn).mono ?_
    rintro e w1 ⟨rfl, b1⟩
    go_wp2
    go_ret2
    rw [HM.out]
    exact ⟨_, rfl, World.ownsRow_nil _ _ _ _, b1⟩
  · have HV := Lib.hid hv
    obtain ⟨M, hM⟩ : ∃ M, loopF xs = M := ⟨_, rfl⟩
    have HM := Lib.hid hM
    rw [hM]
    clear hv hl hM
    go_enter Tryz.func30, Tryz.ntmps30
    go_wp2_with fail
    refine (validFunc_is _ n c xs true HV.out _ HA.out hn).mono ?_
    rintro e w1 ⟨rfl, b1⟩
    go_wp2_with fail
    refine (loopOfFunc_any b off n c xs HV.out _ rfl _ (hs.below' b1) HL.out hc M HM.out).mono ?_
    rintro e w2 ⟨v2, rfl, ⟨A2, n2, c2, rfl⟩, own2, b2⟩
    go_wp2
    go_ret2
    exact ⟨_, rfl, own_base own2 b1.size, below_step b1 b2⟩
end Go.Proofs.YtjggkgdojhlhpaaGreat

/- Contracts of the laws' helpers on []Instr: copy, compare, size, mark, look at the marks. For slices of at most 1048576 elements. -/
namespace Go.Proofs.YtjggkgdojhlhpaaGreat
open Go.RowKit
set_option linter.all false

theorem infoInstr : (Tryz.prog.info? 66).map (fun i => (i.zero, i.size, i.bytes)) = some (some (.agg #[.int .i64 0, .int .i64 0, .int .i64 0, .int .i64 0]), 4, 32) := by kernel_rfl

end Go.Proofs.YtjggkgdojhlhpaaGreat

/- Library functions on rows of Instr: IndexFunc, ContainsFunc with whatever function value, Clone; size. -/
namespace Go.Proofs.YtjggkgdojhlhpaaGreat
open Go.RowKit
set_option linter.all false

theorem one_rows_Instr (xs : List R4) : ∀ u ∈ rows R4.vs xs, u.oneCell' = true := by
  intro u hu
  simp only [rows, List.mem_flatMap, R4.vs] at hu
  obtain ⟨x, _, hu⟩ := hu
  simp at hu
  rcases hu with rfl | rfl | rfl | rfl <;> rfl

set_option maxRecDepth 100000 in
theorem sizeOf_Instr_any (A : Option Addr) (n c : Nat) (w : World) : Calls Tryz.prog 33 #[.slice A n c] w fun e w' => e = .returned (.int .i64 n) ∧ w = w' := by
  go_enter Tryz.func33, Tryz.ntmps33
  go_wp2
  go_ret
  exact ⟨rfl, rfl⟩

set_option maxRecDepth 100000 in
set_option maxHeartbeats 400000 in
theorem indexFuncAt_Instr (F : FuncId) (caps : Array Value) (p : R4 → Bool) (A : Option Addr) (n c : Nat) (xs : List R4) (w : World) (ha : Args 4 w A n (rows R4.vs xs)) (hn : n ≤ 1048576)
    (hE : ∀ (args : Array Value) (W : World), (callFunc F args).run Tryz.prog W = .ok (.enter F args) W) (hF : Hid (∀ x v W, x ∈ xs → p x = v → Below w.heap.size w W → Calls Tryz.prog F (#[.agg #[.int .i64 x.a, .int .i64 x.b, .int .i64 x.c, .int .i64 x.d]] ++ caps) W fun e w' => e = .returned (.bool v) ∧ Below W.heap.size W w')) :
    Calls Tryz.prog 67 #[.slice A n c, .func (.func F) #[] caps] w fun e w' => e = .returned (.int .i64 (findI p xs)) ∧ Below w.heap.size w w' := by
  have HL : Hid (xs.length = n) := by have := ha.1; rw [rows_len R4.vs_len] at this; unfold Hid; omega
  go_enter Tryz.func67, Tryz.ntmps67
  go_wp2
  go_loopw [8] (fun i wr => ∃ k : Nat, k ≤ n ∧ i = .int .i64 k ∧ Below w.heap.size w wr ∧ Hid (∀ j x, j < k → xs[j]? = some x → p x = false)) (fun i _ => n - (intOf i).toNat)
  case atStart => exact ⟨0, Nat.zero_le _, rfl, Below.refl _ _, by intro j x hj; omega⟩
  case round =>
    obtain ⟨k, hk, rfl, hB, HR⟩ := hrel
    by_cases hlt : k < n
    · obtain ⟨x, HX⟩ := hget HL hlt
      obtain ⟨b, off, rfl, hs⟩ := ha.sl hlt
      obtain ⟨p0, p1, p2, p3⟩ := (hs.below' hB).rec4 HX.out
      rcases Bool.eq_false_or_eq_true (p x) with hv | hv
      · have HV := Lib.hid hv; clear hv
        go_wp2_with fail
        refine (hF.out x true _ (List.mem_of_getElem? HX.out) HV.out hB).mono ?_
        rintro e w1 ⟨rfl, hb1⟩
        have hB1 := below_step hB hb1
        clear hb1 p0 p1 p2 p3
        go_wp2
        go_ret
        exact ⟨ret_int (findI_some HR.out HX.out HV.out).symm, hB1⟩
      · have HV := Lib.hid hv; clear hv
        go_wp2_with fail
        refine (hF.out x false _ (List.mem_of_getElem? HX.out) HV.out hB).mono ?_
        rintro e w1 ⟨rfl, hb1⟩
        have hB1 := below_step hB hb1
        clear hb1 p0 p1 p2 p3
        go_wp2
        go_roundw
        case rel => exact ⟨k + 1, by omega, by go_num, hB1, by
          intro j y hj hy
          by_cases ej : j = k
          · subst ej; rw [HX.out] at hy; injection hy with hy; subst hy; exact HV.out
          · exact HR.out j y (by omega) hy⟩
        case measure => simp [intOf]; omega
    · go_wp2
      go_ret
      refine ⟨ret_int ?_, hB⟩
      rw [findI_none]
      intro j x hx
      exact HR.out j x (by have := (List.getElem?_eq_some_iff.1 hx).1; have := HL.out; omega) hx

set_option maxRecDepth 100000 in
theorem containsFuncAt_Instr (F : FuncId) (caps : Array Value) (p : R4 → Bool) (A : Option Addr) (n c : Nat) (xs : List R4) (w : World) (ha : Args 4 w A n (rows R4.vs xs)) (hn : n ≤ 1048576)
    (hE : ∀ (args : Array Value) (W : World), (callFunc F args).run Tryz.prog W = .ok (.enter F args) W) (hF : Hid (∀ x v W, x ∈ xs → p x = v → Below w.heap.size w W → Calls Tryz.prog F (#[.agg #[.int .i64 x.a, .int .i64 x.b, .int .i64 x.c, .int .i64 x.d]] ++ caps) W fun e w' => e = .returned (.bool v) ∧ Below W.heap.size W w')) (v : Bool) (hv : xs.any p = v) :
    Calls Tryz.prog 49 #[.slice A n c, .func (.func F) #[] caps] w fun e w' => e = .returned (.bool v) ∧ Below w.heap.size w w' := by
  have HV : Hid (decide (0 ≤ findI p xs) = v) := by unfold Hid; rw [findI_any, hv]
  clear hv
  rcases Bool.eq_false_or_eq_true (decide (0 ≤ findI p xs)) with hv | hv
  · have h0 : 0 ≤ findI p xs := of_decide_eq_true hv
    have HW := Lib.hid (hv.symm.trans HV.out); clear hv
    go_enter Tryz.func49, Tryz.ntmps49
    go_wp2_with fail
    refine (indexFuncAt_Instr F caps p A n c xs _ ha hn hE hF).mono ?_
    rintro e w1 ⟨rfl, hb1⟩
    go_wp2
    go_ret
    exact ⟨ret_bool (by first | exact HW.out | (rw [← HW.out]; simp; omega)), hb1⟩
  · have h0 : findI p xs < 0 := by have := of_decide_eq_false hv; omega
    have HW := Lib.hid (hv.symm.trans HV.out); clear hv
    go_enter Tryz.func49, Tryz.ntmps49
    go_wp2_with fail
    refine (indexFuncAt_Instr F caps p A n c xs _ ha hn hE hF).mono ?_
    rintro e w1 ⟨rfl, hb1⟩
    go_wp2
    go_ret
    exact ⟨ret_bool (by first | exact HW.out | (rw [← HW.out]; simp; omega)), hb1⟩

set_option maxRecDepth 100000 in
theorem clone_Instr_any (v0 : Value) (n : Nat) (xs : List R4) (w : World) (hsrc : Src 4 w v0 n (rows R4.vs xs)) (hn : n ≤ 1048576) :
    Calls Tryz.prog 98 #[v0] w fun e w' => ∃ v, e = .returned v ∧ w'.ownsRow w.heap.size 66 4 v n (rows R4.vs xs) ∧ Below w.heap.size w w' := by
  rcases hsrc.2 with ⟨rfl, rfl⟩ | ⟨b, off, c, rfl, hs⟩
  · have h0 : rows R4.vs xs = [] := List.eq_nil_of_length_eq_zero (by simpa using hsrc.1)
    have H0 := Lib.hid h0; clear h0
    have hnl := run_nil_none Tryz.underlying39
    go_enter Tryz.func98, Tryz.ntmps98
    go_wp2
    go_ret
    exact ⟨_, rfl, by rw [H0.out]; exact World.ownsRow_nil _ _ _ _, Below.refl _ _⟩
  · have hown0 : (w.alloc (.cells #[] 66)).ownsRow w.heap.size 66 4 (.slice (some ⟨w.heap.size, 0, none⟩) 0 0) 0 [] := own_empty w 66 4
    have hB0 := laid_below w (.cells #[] 66)
    have hsrc1 := hsrc.below hB0
    have hone := one_rows_Instr xs
    have HO := Lib.hid hone; clear hone
    clear hsrc hs
    have hnl := run_nil_some Tryz.underlying39 ⟨b, off, none⟩ n c
    go_enter Tryz.func98, Tryz.ntmps98
    go_wp2_with (at_builtin; refine wpList_appx rfl _ _ _ rfl Tryz.underlying39 infoInstr rfl (by omega) w.heap.size hown0 hB0.size rfl hsrc1 rfl HO.out (by unfold maxLen; omega) (by omega) ?_; intro v2 w2 hown2 hg2 hnil2; have hB2 := grown_below hB0 hown0 (Nat.le_refl _) hg2; clear hnil2 hown0 hB0 hsrc1 hg2)
    go_ret
    exact ⟨_, rfl, by simpa using hown2, hB2⟩

end Go.Proofs.YtjggkgdojhlhpaaGreat

/- Register programs: which are valid. isRegister, validInstr, ValidProgram and the reference's l07Register, l07Is. -/
namespace Go.Proofs.YtjggkgdojhlhpaaGreat
open Go.RowKit
set_option linter.all false
attribute [local go_sem ↓] Go.wp_at_zero Go.wp_at_succ

def iOk (n : Int) (x : R4) : Bool := inB x.b 0 23 && (inB x.c 0 n && (if x.a = 0 then decide (x.d = 0) else decide (x.a = 1) && inB x.d 0 n))
def validP (xs : List R4) : Bool := decide (xs.length ≤ 400) && xs.all (iOk xs.length)

theorem any_not {α : Type} (p : α → Bool) (xs : List α) : (xs.any fun x => !p x) = !xs.all p := by
  induction xs with
  | nil => rfl
  | cons x l ih => simp only [List.any_cons, List.all_cons, ih, Bool.not_and]
theorem isRegister_is (n : Int) (v : Bool) (h : inB n 0 23 = v) (w : World) : Calls Tryz.prog 68 #[.int .i64 n] w fun e w' => e = .returned (.bool v) ∧ w = w' := by
  go_enter Tryz.func68, Tryz.ntmps68
  go_wp2_with (go_at_call 43; refine (within_is _ _ _ v h _).mono ?_; rintro e w' ⟨rfl, rfl⟩)
  go_ret
  exact ⟨rfl, rfl⟩

set_option maxRecDepth 100000 in
set_option maxHeartbeats 400000 in
theorem validInstr_is (x : R4) (n : Nat) (v : Bool) (h : iOk n x = v) (w : World) :
    Calls Tryz.prog 51 #[.agg #[.int .i64 x.a, .int .i64 x.b, .int .i64 x.c, .int .i64 x.d], .int .i64 n] w fun e w' => e = .returned (.bool v) ∧ Below w.heap.size w w' := by
  have hB := laid_below w (.cells #[.int .i64 x.a, .int .i64 x.b, .int .i64 x.c, .int .i64 x.d] 66)
  have HV := Lib.hid h; clear h
  rcases Bool.eq_false_or_eq_true (inB x.b 0 23) with h | h
  rotate_left
  · have H1 := Lib.hid h; clear h
    have HW : Hid (v = false) := by unfold Hid; rw [← HV.out, iOk, H1.out]; rfl
    go_enter Tryz.func51, Tryz.ntmps51
    go_wp2_with fail
    refine (isRegister_is _ false H1.out _).mono ?_
    rintro e w1 ⟨rfl, rfl⟩
    go_wp2
    go_ret
    exact ⟨ret_bool HW.out.symm, hB⟩
  have H1 := Lib.hid h; clear h
  rcases Bool.eq_false_or_eq_true (inB x.c 0 n) with h | h
  rotate_left
  · have H2 := Lib.hid h; clear h
    have HW : Hid (v = false) := by unfold Hid; rw [← HV.out, iOk, H1.out, H2.out]; rfl
    go_enter Tryz.func51, Tryz.ntmps51
    go_wp2_with fail
    refine (isRegister_is _ true H1.out _).mono ?_
    rintro e w1 ⟨rfl, rfl⟩
    go_wp2_with fail
    refine (within_is _ _ _ false H2.out _).mono ?_
    rintro e w1 ⟨rfl, rfl⟩
    go_wp2
    go_ret
    exact ⟨ret_bool HW.out.symm, hB⟩
  have H2 := Lib.hid h; clear h
  by_cases h0 : x.a = 0
  · have e0 : (x.a == 0) = true := by simpa using h0
    have HW : Hid ((x.d == 0) = v) := by unfold Hid; rw [← HV.out, iOk, H1.out, H2.out]; simp [h0]; rfl
    clear h0
    go_enter Tryz.func51, Tryz.ntmps51
    go_wp2_with fail
    refine (isRegister_is _ true H1.out _).mono ?_
    rintro e w1 ⟨rfl, rfl⟩
    go_wp2_with fail
    refine (within_is _ _ _ true H2.out _).mono ?_
    rintro e w1 ⟨rfl, rfl⟩
    go_wp2
    go_ret
    exact ⟨ret_bool HW.out, hB⟩
  have e0 : (x.a == 0) = false := by simpa using h0
  by_cases h1 : x.a = 1
  · have e1 : (x.a == 1) = true := by simpa using h1
    have HW : Hid (inB x.d 0 n = v) := by unfold Hid; rw [← HV.out, iOk, H1.out, H2.out]; simp [h1]
    clear h0 h1
    go_enter Tryz.func51, Tryz.ntmps51
    go_wp2_with fail
    refine (isRegister_is _ true H1.out _).mono ?_
    rintro e w1 ⟨rfl, rfl⟩
    go_wp2_with fail
    refine (within_is _ _ _ true H2.out _).mono ?_
    rintro e w1 ⟨rfl, rfl⟩
    go_wp2_with fail
    refine (within_is _ _ _ v HW.out _).mono ?_
    rintro e w1 ⟨rfl, rfl⟩
    go_wp2
    go_ret
    exact ⟨rfl, hB⟩
  · have e1 : (x.a == 1) = false := by simpa using h1
    have HW : Hid (v = false) := by unfold Hid; rw [← HV.out, iOk, H1.out, H2.out]; simp [h0, h1]
    clear h0 h1
    go_enter Tryz.func51, Tryz.ntmps51
    go_wp2_with fail
    refine (isRegister_is _ true H1.out _).mono ?_
    rintro e w1 ⟨rfl, rfl⟩
    go_wp2_with fail
    refine (within_is _ _ _ true H2.out _).mono ?_
    rintro e w1 ⟨rfl, rfl⟩
    go_wp2
    go_ret
    exact ⟨ret_bool HW.out.symm, hB⟩

set_option maxRecDepth 100000 in
set_option maxHeartbeats 400000 in
theorem validProgram1_is (x : R4) (A : Option Addr) (n c g : Nat) (v : Bool) (h : (!iOk n x) = v) (w : World) (hg : w.cell? ⟨g, 0, none⟩ = some (.slice A n c)) :
    Calls Tryz.prog 50 #[.agg #[.int .i64 x.a, .int .i64 x.b, .int .i64 x.c, .int .i64 x.d], .pointer (some ⟨g, 0, none⟩)] w fun e w' => e = .returned (.bool v) ∧ Below w.heap.size w w' := by
  have hB := laid_below w (.cells #[.int .i64 x.a, .int .i64 x.b, .int .i64 x.c, .int .i64 x.d] 66)
  have hg1 := cell_step hg hB
  have HV : Hid (iOk n x = !v) := by unfold Hid; rw [← h]; simp
  clear h hg
  go_enter Tryz.func50, Tryz.ntmps50
  go_wp2
  go_region_with ((first | (go_at_call 33; refine (sizeOf_Instr_any _ _ _ _).mono ?_; rintro e w1 ⟨rfl, rfl⟩) | (go_at_call 51; refine (validInstr_is x n _ HV.out _).mono ?_; rintro e w2 ⟨rfl, hb2⟩)))
  all_goals
    go_wp2
    go_ret
    exact ⟨ret_bool (by simp), below_step hB (below_of_drew hb2)⟩

set_option maxRecDepth 100000 in
set_option maxHeartbeats 400000 in
theorem validProgram_is (A : Option Addr) (n c : Nat) (xs : List R4) (v : Bool) (hv : validP xs = v) (w : World) (ha : Args 4 w A n (rows R4.vs xs)) (hn : n ≤ 1048576) :
    Calls Tryz.prog 32 #[.slice A n c] w fun e w' => e = .returned (.bool v) ∧ Below w.heap.size w w' := by
  have HL : Hid (xs.length = n) := by have := ha.1; rw [rows_len R4.vs_len] at this; unfold Hid; omega
  have hB := laid_below w (.cells #[.slice A n c] 39)
  have HV := Lib.hid hv; clear hv
  by_cases h : n ≤ 400
  · have hi : (n : Int) ≤ 400 := by omega
    have HW : Hid (xs.any (fun x => !iOk n x) = !v) := by
      unfold Hid
      rw [← HV.out, validP, HL.out]
      simp only [decide_eq_true h, Bool.true_and]
      exact any_not _ xs
    have hcell : (w.alloc (.cells #[.slice A n c] 39)).cell? ⟨w.heap.size, 0, none⟩ = some (.slice A n c) := by simp [go_sem]
    have HC := Lib.hid hcell; clear hcell
    go_enter Tryz.func32, Tryz.ntmps32
    go_wp2_with fail
    refine (containsFuncAt_Instr 50 #[.pointer (some ⟨w.heap.size, 0, none⟩)] (fun x => !iOk n x) A n c xs _ (ha.below hB) hn (enters_of' Tryz.func50 (by kernel_rfl) rfl) (fun x u W _ hu hW => validProgram1_is x A n c w.heap.size u hu W (cell_step HC.out hW)) (!v) HW.out).mono ?_
    rintro e w1 ⟨rfl, hb1⟩
    go_wp2
    go_ret
    exact ⟨ret_bool (by simp), below_step hB hb1⟩
  · have hi : ¬ (n : Int) ≤ 400 := by omega
    have HW : Hid (v = false) := by unfold Hid; rw [← HV.out, validP, HL.out]; simp [h]
    go_enter Tryz.func32, Tryz.ntmps32
    go_wp2
    go_ret
    exact ⟨ret_bool HW.out.symm, hB⟩

theorem iOk_no1 {n : Int} {x : R4} (h : inB x.b 0 23 = false) : iOk n x = false := by simp [iOk, h]
theorem iOk_no2 {n : Int} {x : R4} (h : inB x.c 0 n = false) : iOk n x = false := by simp [iOk, h]

end Go.Proofs.YtjggkgdojhlhpaaGreat
