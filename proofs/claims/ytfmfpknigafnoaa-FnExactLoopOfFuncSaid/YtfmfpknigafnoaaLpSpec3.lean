/- Loop programs of recursive functions, the reference's side: the kind 5. -/
import Derived.Test.YtfmfpknigafnoaaLpSpec2
namespace Go.Proofs.Ytfmfpknigafnoaa
open Go.RowKit
set_option linter.all false

set_option maxRecDepth 100000 in
set_option maxHeartbeats 4000000 in
theorem l17Min_any (b off n c : Nat) (T : List R3) (hT : FAll T n) (N k m : Nat) (IH : Hid (LpIH b off n c T N)) (hmN : m ≤ N) (hkm : k + (m + 1) ≤ n) (x : R3) (hx : T[k]? = some x) (A : Option Addr) (na ca : Nat) (xs : List Int) (out v : Int) (w : World) (hs : Sl w b off (rows R3.vs T)) (hsr : Src 1 w (.slice A na ca) na (xs.map (Value.int .i64))) (hca : na ≤ ca) (hna10 : na ≤ 10)
    (hb : x.b = (xs.length : Int)) (hok : fOkN x = true) (l : List R3) (hl : l = part3 T (k + 1) m) (hrun : fRun (fFols x) l = some []) (hv0 : 0 ≤ v) (hv : v + 4 * ((m : Int) + 1) ≤ 1000) (h5 : x.a = 5) :
    Calls Try.prog 134 #[.slice (some ⟨b, off, none⟩) n c, .int .i64 k, .slice A na ca, .int .i64 out, .int .i64 v] w (LpOk w (lpF (N + 1) (x :: l) xs out v)) := by
  have ha := hsr.arg
  have HL := Lib.hid hT.len
  have HX := Lib.hid hx
  have hn60 := hT.le
  have hlt : k < n := by have := (List.getElem?_eq_some_iff.1 hx).1; have := hT.len; omega
  have hna : xs.length = na := by have := ha.1; simpa using this
  have HNA := Lib.hid hna
  have hcs := (fOkN_iff x).1 hok
  obtain ⟨bb, hbb⟩ := fit_next hT.fits hx
  obtain ⟨p0, p1, p2⟩ := hs.rec3 HX.out
  obtain ⟨w0, HW0, B0, y0⟩ := al1 w (.cells #[.int .i64 x.a, .int .i64 x.b, .int .i64 x.c] 115)
  have n0 : w0.cell? ⟨w.heap.size, 0, none⟩ = some (.int .i64 x.a) := by rw [cell_of_heap y0]; rfl
  have n1 : w0.cell? ⟨w.heap.size, 1, none⟩ = some (.int .i64 x.b) := by rw [cell_of_heap y0]; rfl
  have n2 : w0.cell? ⟨w.heap.size, 2, none⟩ = some (.int .i64 x.c) := by rw [cell_of_heap y0]; rfl
  have HPA := Lib.hid (l11Parts_any (some ⟨b, off, none⟩) n c k bb k rfl T x hx hT.ok hbb w0 (Args.of_sl (hs.below' B0) (by rw [rows_len R3.vs_len, HL.out])) (by omega))
  have HB0 := Lib.hid B0
  have hk0 : (0 : Int) ≤ (k : Int) := by omega
  have hkn : (k : Int) < (n : Int) := by omega
  have hpc := poss_cut T (fFols x) (k + 1) m (by rw [hT.len]; omega) (by rw [← hl]; exact hrun)
  rw [fFols_len hok, ← hl] at hpc
  obtain ⟨ps, hps⟩ : ∃ ps, ps = poss (fMany x) (k + 1) (T.drop (k + 1)) := ⟨_, rfl⟩
  rw [← hps] at hpc HPA
  have HPS : Hid (ps.length = fMany x) := by unfold Hid; rw [hps, poss_len]
  have hff := fFols_5 h5
  obtain ⟨q0, len0, Q0, c0, i0, j0, k0', R0, l0⟩ := part_of (i := 0) (a := x.b + 1) hok hrun hl hpc (by rw [hff]; rfl)
  have HR := Lib.hid (lp5 (N := N) (xs := xs) (out := out) (v := v) h5 c0)
  have hm2 := fMany_5 h5
  rw [hm2] at HPA HPS
  have e0 : (x.a == 0) = false := by rw [h5]; rfl
  have e1 : (x.a == 1) = false := by rw [h5]; rfl
  have e2 : (x.a == 2) = false := by rw [h5]; rfl
  have e3 : (x.a == 3) = false := by rw [h5]; rfl
  have e4 : (x.a == 4) = false := by rw [h5]; rfl
  have HIH0 : Hid (∀ W A1 c1, Below w.heap.size w W → Src 1 W (.slice A1 (1 + na) c1) (1 + na) ((v :: xs).map (Value.int .i64)) → 1 + na ≤ c1 → Calls Try.prog 134 #[.slice (some ⟨b, off, none⟩) n c, .int .i64 (q0 : Int), .slice A1 (1 + na) c1, .int .i64 (v + 1), .int .i64 (v + 3)] W (LpOk W (lpF N (part3 T q0 len0) (v :: xs) (v + 1) (v + 3)))) := fun W A1 c1 hW hA1 hc1 =>
    IH.out q0 len0 q0 A1 (1 + na) c1 _ (v + 1) (v + 3) W rfl (by omega) (by omega) (hs.below' hW) hA1 hc1 (by omega) (by rw [show (((v :: xs).length : Nat) : Int) = x.b + 1 by simp only [List.length_cons]; omega]; exact R0) (by omega) (by omega)
  have hL0 := lpF_len N (part3 T q0 len0) (v :: xs) (v + 1) (v + 3)
  rw [part3_len (T := T) (k := q0) (m := len0) (by rw [HL.out]; omega)] at hL0
  obtain ⟨X0, hX0⟩ : ∃ X0, X0 = lpF N (part3 T q0 len0) (v :: xs) (v + 1) (v + 3) := ⟨_, rfl⟩
  rw [← hX0] at HIH0 hL0 HR
  obtain ⟨a0, ha0⟩ : ∃ a0, a0 = X0.length := ⟨_, rfl⟩
  rw [← ha0] at hL0
  have HA0 := Lib.hid ha0
  have ha480 : a0 ≤ 480 := by omega
  obtain ⟨a1, ha1⟩ : ∃ a1, a1 = 1 + a0 + 1 := ⟨_, rfl⟩
  obtain ⟨L, hL⟩ : ∃ L, L = (⟨0, v, 0⟩ :: ⟨0, v + 1, 0⟩ :: ⟨1, v + 1, 0⟩ :: ⟨4, v + 1, (a1 : Int)⟩ :: (((⟨2, v + 2, v⟩ : R3) :: (X0 ++ [⟨1, v, 0⟩])) ++ [⟨2, out, v + 2⟩]) : List R3) := ⟨_, rfl⟩
  have HRL : Hid (lpF (N + 1) (x :: l) xs out v = L) := by unfold Hid; rw [HR.out, hL, List.length_cons, List.length_append, ← ha0, ha1, show ([⟨1, v, 0⟩] : List R3).length = 1 from rfl, show a0 + 1 + 1 = 1 + a0 + 1 by omega]
  have HLL : Hid (L.length = 4 + a1 + 1) := by unfold Hid; rw [hL]; simp only [List.length_append, List.length_cons, List.length_nil]; omega
  have HLR : Hid (rows R3.vs L = [.int .i64 0, .int .i64 v, .int .i64 0, .int .i64 0, .int .i64 (v + 1), .int .i64 0, .int .i64 1, .int .i64 (v + 1), .int .i64 0, .int .i64 4, .int .i64 (v + 1), .int .i64 (a1 : Int)] ++ (([.int .i64 2, .int .i64 (v + 2), .int .i64 v] ++ rows R3.vs X0) ++ [.int .i64 1, .int .i64 v, .int .i64 0]) ++ [.int .i64 2, .int .i64 out, .int .i64 (v + 2)]) := by
    unfold Hid; rw [hL]; simp only [rows, R3.vs, List.flatMap_append, List.flatMap_cons, List.flatMap_nil, List.append_assoc, List.cons_append, List.nil_append, List.append_nil]
  have HO2 := Lib.hid (one_rows_R3 X0)
  have HO1 := Lib.hid (one_ints .i64 xs)
  have HOB := Lib.hid (one_app (xs := [.int .i64 2, .int .i64 (v + 2), .int .i64 v] ++ rows R3.vs X0) (ys := [.int .i64 1, .int .i64 v, .int .i64 0]) (one_app (one_of_all rfl) HO2.out) (one_of_all rfl))
  have HA1 := Lib.hid ha1
  have ha1le : a1 ≤ 482 := by omega
  have HSR := Lib.hid hsr
  clear hL ha1 HR
  have hq0 : (0 : Int) ≤ (q0 : Int) := by omega
  clear hx hok hb hcs hbb h5 hT hna y0 B0 hpc hps hff hm2 hl hrun c0 i0 j0 R0 hX0 ha0 ha IH hL0 k0' l0 hsr
  go_enter Try.func134, Try.ntmps134
  go_wp2_with fail
  rw [← HW0.out]
  refine HPA.out.mono ?_
  rintro e w1 ⟨v1, rfl, own1, b1⟩
  obtain ⟨A1, c1, rfl⟩ := own_form own1
  obtain ⟨g1, rfl, _, _⟩ := own_addr0 own1 (by omega)
  have ST1 := Lib.hid (show FSt w0 w.heap.size g1 x ps w1 from ⟨cell_step n0 b1, cell_step n1 b1, cell_step n2 b1, sl_of_own own1⟩)
  have r0 := cell_step (by exact n0) b1
  have B1 := below_step HB0.out b1
  clear own1 b1 p0 p1 p2 n0 n1 n2
  obtain ⟨w1b, HW1, B1b, y1⟩ := al1 w1 (.cells #[.int .i64 v] 2)
  have ownT : w1b.ownsRow w1.heap.size 2 1 (.slice (some ⟨w1.heap.size, 0, none⟩) 1 1) 1 [.int .i64 v] := own_laid' HW1.out rfl (by unfold maxLen; omega)
  have srcT : Src 1 w1b (.slice A na ca) na (xs.map (Value.int .i64)) := HSR.out.below (below_step B1 B1b)
  clear y1
  have hm1 : (0 : Int) < ((1 : Nat) : Int) := by omega
  go_wp2_with (at_builtin; rw [← HW1.out]; refine wpList_appx rfl _ _ _ rfl Try.underlying176 infoInt64S rfl (by omega) w1.heap.size ownT B1b.size rfl srcT rfl HO1.out (by unfold maxLen; omega) (by omega) ?_; intro v2 w2 own2 hg2 hnil2; clear hnil2; have B12 := grown_below B1b ownT (Nat.le_refl _) hg2; obtain ⟨A2, c2, rfl⟩ := own_form own2; clear ownT srcT hg2 B1b; obtain ⟨w2b, HW2, B2b, y2⟩ := al1 w2 (.cells #[.int .i64 2, .int .i64 (v + 2), .int .i64 v] 128); have B12b := below_step B12 B2b; have s2 := (ST1.out.below B12b).at Q0.out; rw [HW2.out] at s2; have own2b := own_below' own2 B2b; have hc2 := own_capL own2 _ _ rfl; have ownB : w2b.ownsRow w2.heap.size 128 3 (.slice (some ⟨w2.heap.size, 0, none⟩) 1 1) 1 [.int .i64 2, .int .i64 (v + 2), .int .i64 v] := own_laid' HW2.out rfl (by unfold maxLen; omega); clear y2 own2)
  rw [← HW2.out]
  have B2b' := below_step B1 B12b
  refine (HIH0.out _ A2 c2 B2b' (Src.of_own own2b) hc2).mono ?_
  rintro e w3 ⟨⟨v3, rfl, own3⟩, b3⟩
  rw [← HA0.out] at own3
  obtain ⟨A3, c3, rfl⟩ := own_form own3
  have ownB3 := own_below' ownB b3
  have B23 : Below w2.heap.size w2 w3 := below_step B2b b3
  have B3 : Below w.heap.size w w3 := below_step B2b' b3
  have src3 := Src.of_own own3
  have B2' := below_step B1 B12
  clear own2b ownB b3 own3 s2 B12b B12 B2b
  go_wp2_with (first
    | (at_builtin; refine wpList_appx rfl _ _ _ rfl Try.underlying59 infoLoop rfl (by omega) w2.heap.size ownB3 B23.size rfl src3 rfl HO2.out (by unfold maxLen; omega) (by omega) ?_; intro v4 w4 own4 hg4 hnil4; clear hnil4 src3; have B24 := grown_below B23 ownB3 (Nat.le_refl _) hg4; obtain ⟨A4, c4, rfl⟩ := own_form own4; clear ownB3 hg4 B23; obtain ⟨w4b, HW4, B4b, y4⟩ := al1 w4 (.cells #[.int .i64 1, .int .i64 v, .int .i64 0] 128); have own4b := own_below' own4 B4b; have src4 : Src 3 w4b (.slice (some ⟨w4.heap.size, 0, none⟩) 1 1) 1 [.int .i64 1, .int .i64 v, .int .i64 0] := Src.of_own (own_laid' HW4.out rfl (by unfold maxLen; omega)); have B24b := below_step B24 B4b; clear y4 own4 B24)
    | (at_builtin; rw [← HW4.out]; refine wpList_appx rfl _ _ _ rfl Try.underlying59 infoLoop rfl (by omega) w2.heap.size own4b B24b.size rfl src4 rfl (one_of_all rfl) (by unfold maxLen; omega) (by omega) ?_; intro v5 w5 own5 hg5 hnil5; clear hnil5 src4; have B25 := grown_below B24b own4b (Nat.le_refl _) hg5; rw [← HA1.out] at own5; obtain ⟨A5, c5, rfl⟩ := own_form own5; clear own4b hg5 B24b; obtain ⟨w5b, HW5, B5b, y5⟩ := al1 w5 (.cells #[.int .i64 0, .int .i64 v, .int .i64 0, .int .i64 0, .int .i64 (v + 1), .int .i64 0, .int .i64 1, .int .i64 (v + 1), .int .i64 0, .int .i64 4, .int .i64 (v + 1), .int .i64 (a1 : Int)] 128); have src5 := Src.of_own (own_below' own5 B5b); have ownO : w5b.ownsRow w5.heap.size 128 3 (.slice (some ⟨w5.heap.size, 0, none⟩) 4 4) 4 [.int .i64 0, .int .i64 v, .int .i64 0, .int .i64 0, .int .i64 (v + 1), .int .i64 0, .int .i64 1, .int .i64 (v + 1), .int .i64 0, .int .i64 4, .int .i64 (v + 1), .int .i64 (a1 : Int)] := own_laid' HW5.out rfl (by unfold maxLen; omega); clear y5)
    | (at_builtin; rw [← HW5.out]; refine wpList_appx rfl _ _ _ rfl Try.underlying59 infoLoop rfl (by omega) w5.heap.size ownO B5b.size rfl src5 rfl HOB.out (by unfold maxLen; omega) (by omega) ?_; intro v6 w6 own6 hg6 hnil6; clear hnil6 src5; have B56 := grown_below B5b ownO (Nat.le_refl _) hg6; obtain ⟨A6, c6, rfl⟩ := own_form own6; clear ownO hg6 B5b; obtain ⟨w6b, HW6, B6b, y6⟩ := al1 w6 (.cells #[.int .i64 2, .int .i64 out, .int .i64 (v + 2)] 128); have own6b := own_below' own6 B6b; have src6 : Src 3 w6b (.slice (some ⟨w6.heap.size, 0, none⟩) 1 1) 1 [.int .i64 2, .int .i64 out, .int .i64 (v + 2)] := Src.of_own (own_laid' HW6.out rfl (by unfold maxLen; omega)); have B56b := below_step B56 B6b; clear y6 own6 B56)
    | (at_builtin; rw [← HW6.out]; refine wpList_appx rfl _ _ _ rfl Try.underlying59 infoLoop rfl (by omega) w5.heap.size own6b B56b.size rfl src6 rfl (one_of_all rfl) (by unfold maxLen; omega) (by omega) ?_; intro v7 w7 own7 hg7 hnil7; clear hnil7 src6; have B57 := grown_below B56b own6b (Nat.le_refl _) hg7; clear own6b hg7 B56b))
  go_ret
  have B27 := below_step B25 B57
  refine ⟨⟨_, rfl, ?_⟩, below_step B2' B27⟩
  rw [HRL.out, HLL.out, HLR.out]
  exact own_base own7 (below_step B2' B25).size
end Go.Proofs.Ytfmfpknigafnoaa
