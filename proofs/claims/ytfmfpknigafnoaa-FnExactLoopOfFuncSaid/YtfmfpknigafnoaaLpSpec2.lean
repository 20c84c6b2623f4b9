/- Loop programs of recursive functions, the reference's side: the kind 4. -/
import Derived.Test.YtfmfpknigafnoaaLpSpec1
import Derived.Test.YtfmfpknigafnoaaCopy
namespace Go.Proofs.Ytfmfpknigafnoaa
open Go.RowKit
set_option linter.all false

theorem sl_tail {w : World} {ba offa o' : Nat} {xs : List Int} {na : Nat} (h : Sl w ba offa (xs.map (Value.int .i64))) (hl : xs.length = na) (ho : na - 1 = 0 ∨ o' = offa + 1 * 1) : Sl w ba o' ((xs.drop 1).map (Value.int .i64)) := by
  refine ⟨h.1, fun j u hu => ?_⟩
  have hj : j < na - 1 := by have := (List.getElem?_eq_some_iff.1 hu).1; rw [List.length_map, List.length_drop, hl] at this; exact this
  have ho2 : o' = offa + 1 := by rcases ho with h0 | h0 <;> omega
  subst ho2
  have := h.at (j := j + 1) (u := u) (by rw [List.getElem?_map] at hu ⊢; rw [List.getElem?_drop] at hu; rw [← hu, Nat.add_comm])
  rw [show offa + 1 + j = offa + (j + 1) by omega]
  exact this
theorem own_capL {w : World} {base : Nat} {e : TypeId} {size n : Nat} {v : Value} {xs : List Value} (h : w.ownsRow base e size v n xs) : ∀ A c, v = .slice A n c → n ≤ c := by
  intro A c hv
  rcases h.2 with ⟨h0, h1⟩ | ⟨g, cap, cur, h0, _, _, h1, _⟩
  · omega
  · rw [h0] at hv; injection hv with _ _ h3; omega
theorem own_laid' {w w1 : World} {e : TypeId} {s n : Nat} {cs : Array Value} (hw : w1 = w.alloc (.cells cs e)) (h : cs.size = n * s) (hm : n ≤ maxLen) : w1.ownsRow w.heap.size e s (.slice (some ⟨w.heap.size, 0, none⟩) n n) n cs.toList := by rw [hw]; exact own_laid w e s n cs h hm
theorem one_app {xs ys : List Value} (h : ∀ u ∈ xs, u.oneCell' = true) (k : ∀ u ∈ ys, u.oneCell' = true) : ∀ u ∈ xs ++ ys, u.oneCell' = true := by
  intro u hu; rcases List.mem_append.1 hu with h1 | h1
  · exact h u h1
  · exact k u h1
theorem one_of_all {xs : List Value} (h : xs.all (fun u => u.oneCell') = true) : ∀ u ∈ xs, u.oneCell' = true := fun u hu => List.all_eq_true.1 h u hu
/-- A part of a function, where it begins and what it is. -/
theorem part_of {T : List R3} {x : R3} {l : List R3} {ps : List Nat} {k m : Nat} (hok : fOkN x = true) (hrun : fRun (fFols x) l = some []) (hl : l = part3 T (k + 1) m)
    (hpc : ∀ i, i < fMany x → ∃ p len, ps[i]? = some p ∧ (cut (fMany x) l)[i]? = some (part3 T p len) ∧ p + len ≤ k + 1 + m ∧ k + 1 ≤ p) {i : Nat} {a : Int} (ha : (fFols x)[i]? = some a) :
    ∃ p len, Hid (ps[i]? = some p) ∧ (cut (fMany x) l).getD i [] = part3 T p len ∧ p + len ≤ k + 1 + m ∧ k + 1 ≤ p ∧ len ≤ m ∧ fRun [a] (part3 T p len) = some [] ∧ 0 < len := by
  have hi : i < fMany x := by rw [← fFols_len hok]; exact (List.getElem?_eq_some_iff.1 ha).1
  obtain ⟨p, len, h1, h2, h3, h4⟩ := hpc i hi
  obtain ⟨q, g1, g2, g3, _⟩ := part_at hok hrun ha
  rw [h2] at g1
  injection g1 with g1
  subst g1
  refine ⟨p, len, h1, g2, h3, h4, by omega, g3, ?_⟩
  rcases Nat.eq_zero_or_pos len with h0 | h0
  · subst h0; rw [part3, List.take_zero, fRun_none] at g3; cases g3
  · exact h0

set_option maxRecDepth 100000 in
set_option maxHeartbeats 4000000 in
theorem l17Rep_any (b off n c : Nat) (T : List R3) (hT : FAll T n) (N k m : Nat) (IH : Hid (LpIH b off n c T N)) (hmN : m ≤ N) (hkm : k + (m + 1) ≤ n) (x : R3) (hx : T[k]? = some x) (A : Option Addr) (na ca : Nat) (xs : List Int) (out v : Int) (w : World) (hs : Sl w b off (rows R3.vs T)) (hsr : Src 1 w (.slice A na ca) na (xs.map (Value.int .i64))) (hca : na ≤ ca) (hna10 : na ≤ 10)
    (hb : x.b = (xs.length : Int)) (hok : fOkN x = true) (l : List R3) (hl : l = part3 T (k + 1) m) (hrun : fRun (fFols x) l = some []) (hv0 : 0 ≤ v) (hv : v + 4 * ((m : Int) + 1) ≤ 1000) (h4 : x.a = 4) :
    Calls Try.prog 134 #[.slice (some ⟨b, off, none⟩) n c, .int .i64 k, .slice A na ca, .int .i64 out, .int .i64 v] w (LpOk w (lpF (N + 1) (x :: l) xs out v)) := by
  have ha := hsr.arg
  have HL := Lib.hid hT.len
  have HX := Lib.hid hx
  have hn60 := hT.le
  have hlt : k < n := by have := (List.getElem?_eq_some_iff.1 hx).1; have := hT.len; omega
  have hna : xs.length = na := by have := ha.1; simpa using this
  have HNA := Lib.hid hna
  have hcs := (fOkN_iff x).1 hok
  obtain ⟨bb, hbb⟩ := fit_next hT.fits hx
  obtain ⟨p0, p1, p2⟩ := hs.rec3 HX.out
  obtain ⟨w0, HW0, B0, y0⟩ := al1 w (.cells #[.int .i64 x.a, .int .i64 x.b, .int .i64 x.c] 115)
  have n0 : w0.cell? ⟨w.heap.size, 0, none⟩ = some (.int .i64 x.a) := by rw [cell_of_heap y0]; rfl
  have n1 : w0.cell? ⟨w.heap.size, 1, none⟩ = some (.int .i64 x.b) := by rw [cell_of_heap y0]; rfl
  have n2 : w0.cell? ⟨w.heap.size, 2, none⟩ = some (.int .i64 x.c) := by rw [cell_of_heap y0]; rfl
  have HPA := Lib.hid (l11Parts_any (some ⟨b, off, none⟩) n c k bb k rfl T x hx hT.ok hbb w0 (Args.of_sl (hs.below' B0) (by rw [rows_len R3.vs_len, HL.out])) (by omega))
  have HB0 := Lib.hid B0
  have hk0 : (0 : Int) ≤ (k : Int) := by omega
  have hkn : (k : Int) < (n : Int) := by omega
  have hpc := poss_cut T (fFols x) (k + 1) m (by rw [hT.len]; omega) (by rw [← hl]; exact hrun)
  rw [fFols_len hok, ← hl] at hpc
  obtain ⟨ps, hps⟩ : ∃ ps, ps = poss (fMany x) (k + 1) (T.drop (k + 1)) := ⟨_, rfl⟩
  rw [← hps] at hpc HPA
  have HPS : Hid (ps.length = fMany x) := by unfold Hid; rw [hps, poss_len]
  have hff := fFols_4 h4
  obtain ⟨q0, len0, Q0, c0, i0, j0, k0', R0, l0⟩ := part_of (i := 0) (a := x.b - 1) hok hrun hl hpc (by rw [hff]; rfl)
  obtain ⟨q1, len1, Q1, c1, i1, j1, k1', R1, l1⟩ := part_of (i := 1) (a := x.b + 1) hok hrun hl hpc (by rw [hff]; rfl)
  have HR := Lib.hid (lp4 (N := N) (xs := xs) (out := out) (v := v) h4 c0 c1)
  have hm2 := fMany_4 h4
  rw [hm2] at HPA HPS
  have e0 : (x.a == 0) = false := by rw [h4]; rfl
  have e1 : (x.a == 1) = false := by rw [h4]; rfl
  have e2 : (x.a == 2) = false := by rw [h4]; rfl
  have e3 : (x.a == 3) = false := by rw [h4]; rfl
  have e4 : (x.a == 4) = true := by rw [h4]; rfl
  have hna1 : 0 < na := by omega
  obtain ⟨ba, offa, rfl, hsa⟩ := ha.sl hna1
  obtain ⟨z, HZ, hz⟩ := map_at (Value.int .i64) xs (k := 0) (by omega)
  have HG : Hid (xs.getD 0 0 = z) := getD_at HZ.out
  have hz' := Lib.hid hz
  obtain ⟨o', ho', hsl⟩ := run_slice_tailR (P := Try.prog) 176 2 Try.underlying176 infoInt64S ba offa na ca 1 1 rfl (by omega) hca
  obtain ⟨nt, hnt⟩ : ∃ nt, na - 1 = nt := ⟨_, rfl⟩
  obtain ⟨ct, hct⟩ : ∃ ct, ca - 1 = ct := ⟨_, rfl⟩
  rw [hnt, hct] at hsl
  rw [hnt] at ho'
  have HTL : Hid (Sl w ba o' ((xs.drop 1).map (Value.int .i64))) := sl_tail hsa hna (by rw [hnt]; exact ho')
  have HTN : Hid ((xs.drop 1).length = nt) := by unfold Hid; rw [List.length_drop, hna]; exact hnt
  have HIH0 : Hid (∀ W, Below w.heap.size w W → Calls Try.prog 134 #[.slice (some ⟨b, off, none⟩) n c, .int .i64 (q0 : Int), .slice (some ⟨ba, o', none⟩) nt ct, .int .i64 v, .int .i64 (v + 3)] W (LpOk W (lpF N (part3 T q0 len0) (xs.drop 1) v (v + 3)))) := fun W hW =>
    IH.out q0 len0 q0 _ nt ct (xs.drop 1) v (v + 3) W rfl (by omega) (by omega) (hs.below' hW) (Src.of_sl (HTL.out.below' hW) (by rw [List.length_map, HTN.out, Nat.mul_one])) (by omega) (by omega) (by rw [show (((xs.drop 1).length : Nat) : Int) = x.b - 1 by rw [HTN.out]; omega]; exact R0) (by omega) (by omega)
  have HIH1 : Hid (∀ W A1 c1, Below w.heap.size w W → Src 1 W (.slice A1 (2 + nt) c1) (2 + nt) (((v + 1) :: v :: xs.drop 1).map (Value.int .i64)) → 2 + nt ≤ c1 → Calls Try.prog 134 #[.slice (some ⟨b, off, none⟩) n c, .int .i64 (q1 : Int), .slice A1 (2 + nt) c1, .int .i64 (v + 2), .int .i64 (v + 3)] W (LpOk W (lpF N (part3 T q1 len1) ((v + 1) :: v :: xs.drop 1) (v + 2) (v + 3)))) := fun W A1 c1 hW hA1 hc1 =>
    IH.out q1 len1 q1 A1 (2 + nt) c1 _ (v + 2) (v + 3) W rfl (by omega) (by omega) (hs.below' hW) hA1 hc1 (by omega) (by rw [show ((((v + 1) :: v :: xs.drop 1).length : Nat) : Int) = x.b + 1 by simp only [List.length_cons, HTN.out]; omega]; exact R1) (by omega) (by omega)
  have hL0 := lpF_len N (part3 T q0 len0) (xs.drop 1) v (v + 3)
  have hL1 := lpF_len N (part3 T q1 len1) ((v + 1) :: v :: xs.drop 1) (v + 2) (v + 3)
  rw [part3_len (T := T) (k := q0) (m := len0) (by rw [HL.out]; omega)] at hL0
  rw [part3_len (T := T) (k := q1) (m := len1) (by rw [HL.out]; omega)] at hL1
  obtain ⟨X0, hX0⟩ : ∃ X0, X0 = lpF N (part3 T q0 len0) (xs.drop 1) v (v + 3) := ⟨_, rfl⟩
  obtain ⟨X1, hX1⟩ : ∃ X1, X1 = lpF N (part3 T q1 len1) ((v + 1) :: v :: xs.drop 1) (v + 2) (v + 3) := ⟨_, rfl⟩
  rw [← hX0] at HIH0 hL0 HR
  rw [← hX1] at HIH1 hL1 HR
  obtain ⟨a0, ha0⟩ : ∃ a0, a0 = X0.length := ⟨_, rfl⟩
  obtain ⟨a1, ha1⟩ : ∃ a1, a1 = X1.length := ⟨_, rfl⟩
  rw [← ha0] at hL0
  rw [← ha1] at hL1
  have HA0 := Lib.hid ha0; have HA1 := Lib.hid ha1
  obtain ⟨a2, ha2⟩ : ∃ a2, a2 = a1 + 2 := ⟨_, rfl⟩
  obtain ⟨L, hL⟩ : ∃ L, L = X0 ++ (⟨0, v + 1, 0⟩ :: ⟨3, z, (a2 : Int)⟩ :: ((X1 ++ ([⟨2, v, v + 2⟩, ⟨1, v + 1, 0⟩] : List R3)) ++ [⟨2, out, v⟩])) := ⟨_, rfl⟩
  have HRL : Hid (lpF (N + 1) (x :: l) xs out v = L) := by unfold Hid; rw [HR.out, HG.out, hL, List.length_append, ← ha1, ha2]; rfl
  have HLL : Hid (L.length = a0 + 2 + a2 + 1) := by unfold Hid; rw [hL]; simp only [List.length_append, List.length_cons, List.length_nil]; omega
  have HLR : Hid (rows R3.vs L = rows R3.vs X0 ++ [.int .i64 0, .int .i64 (v + 1), .int .i64 0, .int .i64 3, .int .i64 z, .int .i64 (a2 : Int)] ++ (rows R3.vs X1 ++ [.int .i64 2, .int .i64 v, .int .i64 (v + 2), .int .i64 1, .int .i64 (v + 1), .int .i64 0]) ++ [.int .i64 2, .int .i64 out, .int .i64 v]) := by
    unfold Hid; rw [hL]; simp only [rows, R3.vs, List.flatMap_append, List.flatMap_cons, List.flatMap_nil, List.append_assoc, List.cons_append, List.nil_append, List.append_nil]
  have HO2 := Lib.hid (one_rows_R3 X1)
  have HA2 := Lib.hid ha2
  have ha2le : a2 ≤ 482 := by omega
  clear hL ha2 HR
  have hq0 : (0 : Int) ≤ (q0 : Int) := by omega
  have hq0n : (q0 : Int) < (n : Int) := by omega
  have w3' : IntKind.i64.wrap (v + 3) = v + 3 := IntWalk.i64_in _ (by omega)
  have HO1 := Lib.hid (one_ints .i64 (xs.drop 1))
  have hnt10 : nt ≤ 10 := by omega
  have ha480 : a0 ≤ 480 := by omega
  have ha481 : a1 ≤ 480 := by omega
  have hna1' : (0 : Int) < (na : Int) := by omega
  have HSA := Lib.hid hsa
  clear hx hok hb hcs hbb h4 hT hna y0 B0 hpc hps hff hm2 hl hrun c0 c1 i0 i1 j0 j1 R0 R1 hX0 hX1 ha0 ha1 ho' hnt hct hz hsa ha IH hL0 hL1 k0' k1' l0 l1
  go_enter Try.func134, Try.ntmps134
  go_wp2_with fail
  rw [← HW0.out]
  refine HPA.out.mono ?_
  rintro e w1 ⟨v1, rfl, own1, b1⟩
  obtain ⟨A1, c1, rfl⟩ := own_form own1
  obtain ⟨g1, rfl, _, _⟩ := own_addr0 own1 (by omega)
  have ST1 := Lib.hid (show FSt w0 w.heap.size g1 x ps w1 from ⟨cell_step n0 b1, cell_step n1 b1, cell_step n2 b1, sl_of_own own1⟩)
  have r0 := cell_step (by exact n0) b1
  have s0 := ST1.out.at Q0.out
  have B1 := below_step HB0.out b1
  clear own1 b1 p0 p1 p2 n0 n1 n2
  have hm0 : (0 : Int) < ((2 : Nat) : Int) := by omega
  go_wp2
  go_region_held3 (fun W => W.cell? ⟨g1, 0, none⟩ = some (.int .i64 (q0 : Int))) (first | go_keep | exact s2)
    ((go_at_call 134; refine (HIH0.out _ (by exact below_step B1 (Below.refl w1.heap.size w1).drew)).mono ?_; rintro e w2 ⟨⟨v2, rfl, own2⟩, b2⟩; have s2 := cell_step (by exact s0) (below_drew_at b2)))
  all_goals
    clear s0 s2
    have B12 := below_drew_at b2
    have own2' : w2.ownsRow w1.heap.size 128 3 v2 X0.length (rows R3.vs X0) := own2
    rw [← HA0.out] at own2'
    obtain ⟨A2, c2, rfl⟩ := own_form own2'
    have B2 := below_step B1 B12
    have ST2 := Lib.hid (ST1.out.below B12)
    clear own2 b2 HW0 r0
    obtain ⟨w2b, HW2, B2b, y2⟩ := al1 w2 (.cells #[.int .i64 (v + 1), .int .i64 v] 2)
    have ownT : w2b.ownsRow w2.heap.size 2 1 (.slice (some ⟨w2.heap.size, 0, none⟩) 2 2) 2 [.int .i64 (v + 1), .int .i64 v] := ⟨rfl, .inr ⟨w2.heap.size, 2, #[.int .i64 (v + 1), .int .i64 v], rfl, Nat.le_refl _, y2, Nat.le_refl _, by simp [maxLen], rfl, rfl⟩⟩
    have srcT : Src 1 w2b (.slice (some ⟨ba, o', none⟩) nt ct) nt ((xs.drop 1).map (Value.int .i64)) := Src.of_sl (HTL.out.below' (below_step B2 B2b)) (by rw [List.length_map, HTN.out, Nat.mul_one])
    have q1i : (0 : Int) ≤ (q1 : Int) := by omega
    clear y2
    go_wp2_with (at_builtin; rw [← HW2.out]; refine wpList_appx rfl _ _ _ rfl Try.underlying176 infoInt64S rfl (by omega) w2.heap.size ownT B2b.size rfl srcT rfl HO1.out (by unfold maxLen; omega) (by omega) ?_; intro v3 w3 own3 hg3 hnil3; clear hnil3; have B23 := grown_below B2b ownT (Nat.le_refl _) hg3; obtain ⟨A3, c3, rfl⟩ := own_form own3; have s3 := (ST2.out.below B23).at Q1.out; clear ownT srcT hg3 B2b)
    have B3 := below_step B2 B23
    have hc3 := own_capL own3 _ _ rfl
    have own23 := own_below' own2' B23
    refine (HIH1.out _ A3 c3 B3 (Src.of_own own3) hc3).mono ?_
    rintro e w4 ⟨⟨v4, rfl, own4⟩, b4⟩
    rw [← HA1.out] at own4
    obtain ⟨A4, c4, rfl⟩ := own_form own4
    have own24 := own_below' own23 b4
    have B12' := Lib.hid (show Below w1.heap.size w1 w3 from below_step B12 B23)
    have b34 := b4
    clear own3 own2' s3 B23 B12 B2
    have b3 := B12'.out
    obtain ⟨w4b, HW4, B4b, y4⟩ := al1 w4 (.cells #[.int .i64 2, .int .i64 v, .int .i64 (v + 2), .int .i64 1, .int .i64 (v + 1), .int .i64 0] 128)
    have own4b := own_below' own4 B4b
    have B34b := below_step b34 B4b
    have src4 : Src 3 w4b (.slice (some ⟨w4.heap.size, 0, none⟩) 2 2) 2 [.int .i64 2, .int .i64 v, .int .i64 (v + 2), .int .i64 1, .int .i64 (v + 1), .int .i64 0] := Src.of_own (own_laid' HW4.out rfl (by unfold maxLen; omega))
    clear y4 b4 own4
    go_wp2_with (first
      | (at_builtin; rw [← HW4.out]; refine wpList_appx rfl _ _ _ rfl Try.underlying59 infoLoop rfl (by omega) w3.heap.size own4b B34b.size rfl src4 rfl (one_of_all rfl) (by unfold maxLen; omega) (by omega) ?_; intro v5 w5 own5 hg5 hnil5; clear hnil5 src4 B4b; have B35 := grown_below B34b own4b (Nat.le_refl _) hg5; rw [← HA2.out] at own5; obtain ⟨A5, c5, rfl⟩ := own_form own5; have own25 := own_below' own23 B35; have r5 := (HSA.out.below' (below_step B3 B35)).at hz'.out; rw [Nat.add_zero] at r5; clear own4b hg5; obtain ⟨w5b, HW5, B5b, y5⟩ := al1 w5 (.cells #[.int .i64 0, .int .i64 (v + 1), .int .i64 0, .int .i64 3, .int .i64 z, .int .i64 (a2 : Int)] 128); have own5b := own_below' own5 B5b; have own25b := own_below' own25 B5b; have src5 : Src 3 w5b (.slice (some ⟨w5.heap.size, 0, none⟩) 2 2) 2 [.int .i64 0, .int .i64 (v + 1), .int .i64 0, .int .i64 3, .int .i64 z, .int .i64 (a2 : Int)] := Src.of_own (own_laid' HW5.out rfl (by unfold maxLen; omega)); have B15b : Below w1.heap.size w1 w5b := below_step (below_step b3 B35) B5b; clear y5 own5 own25 B35)
      | (at_builtin; rw [← HW5.out]; refine wpList_appx rfl _ _ _ rfl Try.underlying59 infoLoop rfl (by omega) w1.heap.size own25b B15b.size rfl src5 rfl (one_of_all rfl) (by unfold maxLen; omega) (by omega) ?_; intro v6 w6 own6 hg6 hnil6; clear hnil6 src5 r5; have B16 := grown_below B15b own25b (Nat.le_refl _) hg6; have own56 := own5b.kept hg6 (own_apart' own23 own5b (Nat.le_refl _)); obtain ⟨A6, c6, rfl⟩ := own_form own6; have src6 := Src.of_own own56; have HO6 := Lib.hid (one_app HO2.out (ys := [.int .i64 2, .int .i64 v, .int .i64 (v + 2), .int .i64 1, .int .i64 (v + 1), .int .i64 0]) (one_of_all rfl)); clear own25b own5b own56 hg6 B15b own23)
      | (at_builtin; refine wpList_appx rfl _ _ _ rfl Try.underlying59 infoLoop rfl (by omega) w1.heap.size own6 B16.size rfl src6 rfl HO6.out (by unfold maxLen; omega) (by omega) ?_; intro v7 w7 own7 hg7 hnil7; clear hnil7 src6; have B17 := grown_below B16 own6 (Nat.le_refl _) hg7; obtain ⟨A7, c7, rfl⟩ := own_form own7; clear own6 hg7 B16; obtain ⟨w7b, HW7, B7b, y7⟩ := al1 w7 (.cells #[.int .i64 2, .int .i64 out, .int .i64 v] 128); have own7b := own_below' own7 B7b; have src7 : Src 3 w7b (.slice (some ⟨w7.heap.size, 0, none⟩) 1 1) 1 [.int .i64 2, .int .i64 out, .int .i64 v] := Src.of_own (own_laid' HW7.out rfl (by unfold maxLen; omega)); have B17b := below_step B17 B7b; clear y7 own7 B17)
      | (at_builtin; rw [← HW7.out]; refine wpList_appx rfl _ _ _ rfl Try.underlying59 infoLoop rfl (by omega) w1.heap.size own7b B17b.size rfl src7 rfl (one_of_all rfl) (by unfold maxLen; omega) (by omega) ?_; intro v8 w8 own8 hg8 hnil8; clear hnil8 src7; have B18 := grown_below B17b own7b (Nat.le_refl _) hg8; clear own7b hg8 B17b))
    go_ret
    refine ⟨⟨_, rfl, ?_⟩, below_step B1 B18⟩
    rw [HRL.out, HLL.out, HLR.out]
    exact own_base own8 B1.size
end Go.Proofs.Ytfmfpknigafnoaa
