/- Loop programs of recursive functions, the program's side: loopsOf, the kinds 0, 1, 2. -/
import Derived.Test.YtfmfpknigafnoaaLpParts
namespace Go.Proofs.Ytfmfpknigafnoaa
open Go.RowKit
set_option linter.all false

/-- The induction of the program's way. -/
def LpIHi (N : Nat) : Prop := ∀ (b off n c : Nat) (T : List R3) (A : Option Addr) (na ca : Nat) (xs : List Int) (out v : Int) (w : World), T.length = n → n ≤ N → n ≤ 60 → n ≤ c → Sl w b off (rows R3.vs T) → Src 1 w (.slice A na ca) na (xs.map (Value.int .i64)) → na ≤ ca → na ≤ 10 →
  fRun [(xs.length : Int)] T = some [] → 0 ≤ v → v + 4 * (n : Int) ≤ 1000 → Calls Try.prog 139 #[.slice (some ⟨b, off, none⟩) n c, .slice A na ca, .int .i64 out, .int .i64 v] w (LpOk w (lpF N T xs out v))

set_option maxRecDepth 100000 in
set_option maxHeartbeats 1000000 in
theorem loops0_any (N : Nat) (IH : Hid (LpIHi N)) (b off n c : Nat) (T : List R3) (x : R3) (l : List R3) (hT : T = x :: l) (hl : T.length = n) (hnN : n ≤ N + 1) (hn60 : n ≤ 60) (hc : n ≤ c) (A : Option Addr) (na ca : Nat) (xs : List Int) (out v : Int) (w : World) (hs : Sl w b off (rows R3.vs T)) (hsr : Src 1 w (.slice A na ca) na (xs.map (Value.int .i64))) (hca : na ≤ ca) (hna10 : na ≤ 10)
    (hb : x.b = (xs.length : Int)) (hok : fOkN x = true) (hrun : fRun (fFols x) l = some []) (hv0 : 0 ≤ v) (hv : v + 4 * (n : Int) ≤ 1000) (h0 : x.a = 0) :
    Calls Try.prog 139 #[.slice (some ⟨b, off, none⟩) n c, .slice A na ca, .int .i64 out, .int .i64 v] w (LpOk w (lpF (N + 1) (x :: l) xs out v)) := by
  have HL := Lib.hid hl
  have ha := hsr.arg
  have hna : xs.length = na := by have := ha.1; simpa using this
  have HNA := Lib.hid hna
  have hcs := (fOkN_iff x).1 hok
  have hx0 : T[0]? = some x := by rw [hT]; rfl
  have hll : l.length + 1 = n := by rw [← hl, hT]; rfl
  have HPA := Lib.hid (partsAt_any b off n c T x l hT hl hn60 hc hok hrun w hs)
  obtain ⟨p0, p1, p2⟩ := hs.rec3 hx0
  rw [Nat.zero_mul, Nat.add_zero] at p0 p1 p2
  have hn1 : (0 : Int) < (n : Int) := by omega
  have HR := Lib.hid (lp0 (N := N) (l := l) (xs := xs) (out := out) (v := v) h0)
  have e0 : (x.a == 0) = true := by rw [h0]; rfl
  clear hx0 hok hb hcs h0 hT hl hna ha hrun IH
  go_enter Try.func139, Try.ntmps139
  go_wp2_with fail
  refine HPA.out.mono ?_
  rintro e w1 ⟨v1, vs, rfl, own1, hpv, b1⟩
  obtain ⟨A1, c1, rfl⟩ := own_form own1
  have r0 := cell_step (by exact p0) b1
  clear p0 p1 p2 hpv
  go_wp2_with fail
  refine (zero_any out _).mono ?_
  rintro e w2 ⟨⟨v2, rfl, own2⟩, b2⟩
  obtain ⟨A2, c2, rfl⟩ := own_form own2
  go_wp2
  go_ret
  rw [HR.out]
  exact ⟨⟨_, rfl, own_base own2 b1.size⟩, below_step b1 b2⟩

set_option maxRecDepth 100000 in
set_option maxHeartbeats 1000000 in
theorem loops1_any (N : Nat) (IH : Hid (LpIHi N)) (b off n c : Nat) (T : List R3) (x : R3) (l : List R3) (hT : T = x :: l) (hl : T.length = n) (hnN : n ≤ N + 1) (hn60 : n ≤ 60) (hc : n ≤ c) (A : Option Addr) (na ca : Nat) (xs : List Int) (out v : Int) (w : World) (hs : Sl w b off (rows R3.vs T)) (hsr : Src 1 w (.slice A na ca) na (xs.map (Value.int .i64))) (hca : na ≤ ca) (hna10 : na ≤ 10)
    (hb : x.b = (xs.length : Int)) (hok : fOkN x = true) (hrun : fRun (fFols x) l = some []) (hv0 : 0 ≤ v) (hv : v + 4 * (n : Int) ≤ 1000) (h0 : x.a = 1) :
    Calls Try.prog 139 #[.slice (some ⟨b, off, none⟩) n c, .slice A na ca, .int .i64 out, .int .i64 v] w (LpOk w (lpF (N + 1) (x :: l) xs out v)) := by
  have HL := Lib.hid hl
  have ha := hsr.arg
  have hna : xs.length = na := by have := ha.1; simpa using this
  have HNA := Lib.hid hna
  have hcs := (fOkN_iff x).1 hok
  have hx0 : T[0]? = some x := by rw [hT]; rfl
  have hll : l.length + 1 = n := by rw [← hl, hT]; rfl
  have HPA := Lib.hid (partsAt_any b off n c T x l hT hl hn60 hc hok hrun w hs)
  obtain ⟨p0, p1, p2⟩ := hs.rec3 hx0
  rw [Nat.zero_mul, Nat.add_zero] at p0 p1 p2
  have hn1 : (0 : Int) < (n : Int) := by omega
  have HR := Lib.hid (lp1 (N := N) (l := l) (xs := xs) (out := out) (v := v) h0)
  have e0 : (x.a == 0) = false := by rw [h0]; rfl
  have e1 : (x.a == 1) = true := by rw [h0]; rfl
  have hna1 : 0 < na := by omega
  obtain ⟨ba, offa, rfl, hsa⟩ := ha.sl hna1
  obtain ⟨z, HZ, hz⟩ := map_at (Value.int .i64) xs (k := 0) (by omega)
  have HG : Hid (xs.getD 0 0 = z) := getD_at HZ.out
  have ha1 : (0 : Int) < (na : Int) := by omega
  clear hx0 hok hb hcs h0 hT hl hna ha hrun IH
  go_enter Try.func139, Try.ntmps139
  go_wp2_with fail
  refine HPA.out.mono ?_
  rintro e w1 ⟨v1, vs, rfl, own1, hpv, b1⟩
  obtain ⟨A1, c1, rfl⟩ := own_form own1
  have r0 := cell_step (by exact p0) b1
  have s0 := (hsa.below' b1).at hz
  rw [Nat.add_zero] at s0
  clear p0 p1 p2 hpv hz
  go_wp2_with fail
  refine (assign_any out z _).mono ?_
  rintro e w2 ⟨⟨v2, rfl, own2⟩, b2⟩
  obtain ⟨A2, c2, rfl⟩ := own_form own2
  go_wp2_with fail
  refine (inc_any out _).mono ?_
  rintro e w3 ⟨⟨v3, rfl, own3⟩, b3⟩
  obtain ⟨A3, c3, rfl⟩ := own_form own3
  have own23 := own_below' own2 b3
  have B3 := below_step b2 b3
  have B13 := below_step b1 B3
  have src := Src.of_own own3
  go_wp2_with (at_builtin; refine wpList_appx rfl _ _ _ rfl Try.underlying59 infoLoop rfl (by omega) w1.heap.size own23 B3.size rfl src rfl (one_of_all rfl) (by unfold maxLen; omega) (by omega) ?_; intro v4 w4 own4 hg4 hnil4; clear hnil4; have B4 := grown_below B13 own23 b1.size hg4; obtain ⟨A4, c4, rfl⟩ := own_form own4)
  go_ret
  rw [HR.out, HG.out]
  exact ⟨⟨_, rfl, own_base own4 b1.size⟩, B4⟩

set_option maxRecDepth 100000 in
set_option maxHeartbeats 1000000 in
theorem loops2_any (N : Nat) (IH : Hid (LpIHi N)) (b off n c : Nat) (T : List R3) (x : R3) (l : List R3) (hT : T = x :: l) (hl : T.length = n) (hnN : n ≤ N + 1) (hn60 : n ≤ 60) (hc : n ≤ c) (A : Option Addr) (na ca : Nat) (xs : List Int) (out v : Int) (w : World) (hs : Sl w b off (rows R3.vs T)) (hsr : Src 1 w (.slice A na ca) na (xs.map (Value.int .i64))) (hca : na ≤ ca) (hna10 : na ≤ 10)
    (hb : x.b = (xs.length : Int)) (hok : fOkN x = true) (hrun : fRun (fFols x) l = some []) (hv0 : 0 ≤ v) (hv : v + 4 * (n : Int) ≤ 1000) (h0 : x.a = 2) :
    Calls Try.prog 139 #[.slice (some ⟨b, off, none⟩) n c, .slice A na ca, .int .i64 out, .int .i64 v] w (LpOk w (lpF (N + 1) (x :: l) xs out v)) := by
  have HL := Lib.hid hl
  have ha := hsr.arg
  have hna : xs.length = na := by have := ha.1; simpa using this
  have HNA := Lib.hid hna
  have hcs := (fOkN_iff x).1 hok
  have hx0 : T[0]? = some x := by rw [hT]; rfl
  have hll : l.length + 1 = n := by rw [← hl, hT]; rfl
  have HPA := Lib.hid (partsAt_any b off n c T x l hT hl hn60 hc hok hrun w hs)
  obtain ⟨p0, p1, p2⟩ := hs.rec3 hx0
  rw [Nat.zero_mul, Nat.add_zero] at p0 p1 p2
  have hn1 : (0 : Int) < (n : Int) := by omega
  have HR := Lib.hid (lp2 (N := N) (l := l) (xs := xs) (out := out) (v := v) h0)
  have e0 : (x.a == 0) = false := by rw [h0]; rfl
  have e1 : (x.a == 1) = false := by rw [h0]; rfl
  have e2 : (x.a == 2) = true := by rw [h0]; rfl
  obtain ⟨ic, hic⟩ : ∃ ic : Nat, x.c = (ic : Int) := ⟨x.c.toNat, by omega⟩
  have hna1 : ic < na := by omega
  obtain ⟨ba, offa, rfl, hsa⟩ := ha.sl hna1
  obtain ⟨z, HZ, hz⟩ := map_at (Value.int .i64) xs (k := ic) (by omega)
  have HG : Hid (xs.getD x.c.toNat 0 = z) := by unfold Hid; rw [hic, Int.toNat_natCast]; exact getD_at HZ.out
  have ha0 : (0 : Int) ≤ (ic : Int) := by omega
  have ha1 : (ic : Int) < (na : Int) := by omega
  rw [hic] at p2
  clear hx0 hok hb hcs h0 hT hl hna ha hrun IH hic
  go_enter Try.func139, Try.ntmps139
  go_wp2_with fail
  refine HPA.out.mono ?_
  rintro e w1 ⟨v1, vs, rfl, own1, hpv, b1⟩
  obtain ⟨A1, c1, rfl⟩ := own_form own1
  have r0 := cell_step (by exact p0) b1
  have r2 := cell_step (by exact p2) b1
  have s0 := (hsa.below' b1).at hz
  clear p0 p1 p2 hpv hz
  go_wp2_with fail
  refine (assign_any out z _).mono ?_
  rintro e w2 ⟨⟨v2, rfl, own2⟩, b2⟩
  obtain ⟨A2, c2, rfl⟩ := own_form own2
  go_wp2
  go_ret
  rw [HR.out, HG.out]
  exact ⟨⟨_, rfl, own_base own2 b1.size⟩, below_step b1 b2⟩
end Go.Proofs.Ytfmfpknigafnoaa
