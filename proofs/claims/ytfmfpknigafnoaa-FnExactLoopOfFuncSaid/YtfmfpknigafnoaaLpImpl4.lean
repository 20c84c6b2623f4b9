/- Loop programs of recursive functions, the program's side: loopsOf, the kind 4. -/
import Derived.Test.YtfmfpknigafnoaaLpFacts
namespace Go.Proofs.Ytfmfpknigafnoaa
open Go.RowKit
set_option linter.all false

set_option maxRecDepth 100000 in
set_option maxHeartbeats 4000000 in
theorem loops4_any (N : Nat) (IH : Hid (LpIHi N)) (b off n c : Nat) (T : List R3) (x : R3) (l : List R3) (hT : T = x :: l) (hl : T.length = n) (hnN : n ≤ N + 1) (hn60 : n ≤ 60) (hc : n ≤ c) (A : Option Addr) (na ca : Nat) (xs : List Int) (out v : Int) (w : World) (hs : Sl w b off (rows R3.vs T)) (hsr : Src 1 w (.slice A na ca) na (xs.map (Value.int .i64))) (hca : na ≤ ca) (hna10 : na ≤ 10)
    (hb : x.b = (xs.length : Int)) (hok : fOkN x = true) (hrun : fRun (fFols x) l = some []) (hv0 : 0 ≤ v) (hv : v + 4 * (n : Int) ≤ 1000) (h4 : x.a = 4) :
    Calls Try.prog 139 #[.slice (some ⟨b, off, none⟩) n c, .slice A na ca, .int .i64 out, .int .i64 v] w (LpOk w (lpF (N + 1) (x :: l) xs out v)) := by
  have HL := Lib.hid hl
  have ha := hsr.arg
  have hna : xs.length = na := by have := ha.1; simpa using this
  have HNA := Lib.hid hna
  have hcs := (fOkN_iff x).1 hok
  have hx0 : T[0]? = some x := by rw [hT]; rfl
  have hll : l.length + 1 = n := by rw [← hl, hT]; rfl
  have HPA := Lib.hid (partsAt_any b off n c T x l hT hl hn60 hc hok hrun w hs)
  obtain ⟨p0, p1, p2⟩ := hs.rec3 hx0
  rw [Nat.zero_mul, Nat.add_zero] at p0 p1 p2
  have hn1 : (0 : Int) < (n : Int) := by omega
  have hff := fFols_4 h4
  obtain ⟨P0, C0, c0, R0, l0⟩ := part_at (i := 0) (a := x.b - 1) hok hrun (by rw [hff]; rfl)
  obtain ⟨P1, C1, c1, R1, l1⟩ := part_at (i := 1) (a := x.b + 1) hok hrun (by rw [hff]; rfl)
  have HR := lp4 (N := N) (xs := xs) (out := out) (v := v) h4 c0 c1
  have hm2 := fMany_4 h4
  rw [hm2] at HPA C0 C1
  have e0 : (x.a == 0) = false := by rw [h4]; rfl
  have e1 : (x.a == 1) = false := by rw [h4]; rfl
  have e2 : (x.a == 2) = false := by rw [h4]; rfl
  have e3 : (x.a == 3) = false := by rw [h4]; rfl
  have e4 : (x.a == 4) = true := by rw [h4]; rfl
  have hna1 : 0 < na := by omega
  obtain ⟨ba, offa, rfl, hsa⟩ := ha.sl hna1
  obtain ⟨z, HZ, hz⟩ := map_at (Value.int .i64) xs (k := 0) (by omega)
  have HG : Hid (xs.getD 0 0 = z) := getD_at HZ.out
  have hz' := Lib.hid hz
  obtain ⟨o', ho', hsl⟩ := run_slice_tailR (P := Try.prog) 176 2 Try.underlying176 infoInt64S ba offa na ca 1 1 rfl (by omega) hca
  obtain ⟨nt, hnt⟩ : ∃ nt, na - 1 = nt := ⟨_, rfl⟩
  obtain ⟨ct, hct⟩ : ∃ ct, ca - 1 = ct := ⟨_, rfl⟩
  rw [hnt, hct] at hsl
  rw [hnt] at ho'
  have HTL : Hid (Sl w ba o' ((xs.drop 1).map (Value.int .i64))) := sl_tail hsa hna (by rw [hnt]; exact ho')
  have HTN : Hid ((xs.drop 1).length = nt) := by unfold Hid; rw [List.length_drop, hna]; exact hnt
  obtain ⟨n0, hn0⟩ : ∃ n0, n0 = P0.length := ⟨_, rfl⟩
  obtain ⟨n1, hn1_⟩ : ∃ n1, n1 = P1.length := ⟨_, rfl⟩
  have HN0 := Lib.hid hn0; have HN1 := Lib.hid hn1_
  have HIH0 : Hid (∀ W o0 k0 , Below w.heap.size w W → Sl w b o0 (rows R3.vs P0) → n0 ≤ k0 → Calls Try.prog 139 #[.slice (some ⟨b, o0, none⟩) n0 k0, .slice (some ⟨ba, o', none⟩) nt ct, .int .i64 v, .int .i64 (v + 3)] W (LpOk W (lpF N P0 (xs.drop 1) v (v + 3)))) := fun W o0 k0 hW hS hk =>
    IH.out b o0 n0 k0 P0 _ _ _ (xs.drop 1) v (v + 3) W HN0.out.symm (by omega) (by omega) hk (hS.below' hW) (Src.of_sl (HTL.out.below' hW) (by rw [List.length_map, HTN.out, Nat.mul_one])) (by omega) (by omega) (by rw [show ((((xs.drop 1) : List Int).length : Nat) : Int) = x.b - 1 by rw [HTN.out]; omega]; exact R0) (by omega) (by omega)
  have HIH1 : Hid (∀ W o0 k0 A1 c1, Below w.heap.size w W → Sl w b o0 (rows R3.vs P1) → n1 ≤ k0 → Src 1 W (.slice A1 (2 + nt) c1) (2 + nt) (((v + 1) :: v :: xs.drop 1).map (Value.int .i64)) → 2 + nt ≤ c1 → Calls Try.prog 139 #[.slice (some ⟨b, o0, none⟩) n1 k0, .slice A1 (2 + nt) c1, .int .i64 (v + 2), .int .i64 (v + 3)] W (LpOk W (lpF N P1 ((v + 1) :: v :: xs.drop 1) (v + 2) (v + 3)))) := fun W o0 k0 A1 c1 hW hS hk hA1 hc1 =>
    IH.out b o0 n1 k0 P1 _ _ _ ((v + 1) :: v :: xs.drop 1) (v + 2) (v + 3) W HN1.out.symm (by omega) (by omega) hk (hS.below' hW) hA1 hc1 (by omega) (by rw [show (((((v + 1) :: v :: xs.drop 1) : List Int).length : Nat) : Int) = x.b + 1 by simp only [List.length_cons, HTN.out]; omega]; exact R1) (by omega) (by omega)
  have hL0 := lpF_len N P0 (xs.drop 1) v (v + 3)
  rw [← HN0.out] at hL0
  obtain ⟨X0, hX0⟩ : ∃ X, X = lpF N P0 (xs.drop 1) v (v + 3) := ⟨_, rfl⟩
  rw [← hX0] at HIH0 hL0 HR
  obtain ⟨a0, ha0⟩ : ∃ a, a = X0.length := ⟨_, rfl⟩
  rw [← ha0] at hL0
  have HA0X := Lib.hid ha0
  have ha480 : a0 ≤ 480 := by omega
  have hL1 := lpF_len N P1 ((v + 1) :: v :: xs.drop 1) (v + 2) (v + 3)
  rw [← HN1.out] at hL1
  obtain ⟨X1, hX1⟩ : ∃ X, X = lpF N P1 ((v + 1) :: v :: xs.drop 1) (v + 2) (v + 3) := ⟨_, rfl⟩
  rw [← hX1] at HIH1 hL1 HR
  obtain ⟨a1, ha1⟩ : ∃ a, a = X1.length := ⟨_, rfl⟩
  rw [← ha1] at hL1
  have HA1X := Lib.hid ha1
  have ha481 : a1 ≤ 480 := by omega
  obtain ⟨a2, ha2⟩ : ∃ a2, a2 = a1 + 2 := ⟨_, rfl⟩
  obtain ⟨L, hL⟩ : ∃ L, L = X0 ++ (⟨0, v + 1, 0⟩ :: ⟨3, z, (a2 : Int)⟩ :: ((X1 ++ ([⟨2, v, v + 2⟩, ⟨1, v + 1, 0⟩] : List R3)) ++ [⟨2, out, v⟩])) := ⟨_, rfl⟩
  have HRL : Hid (lpF (N + 1) (x :: l) xs out v = L) := by unfold Hid; rw [HR, HG.out, hL, List.length_append, ← ha1, ha2]; rfl
  have HLL : Hid (L.length = ([a0, 1, 1 + a2, 1] : List Nat).sum) := by unfold Hid; rw [hL]; simp only [List.length_append, List.length_cons, List.length_nil, List.sum_cons, List.sum_nil]; omega
  have HLR : Hid (rows R3.vs L = ([rows R3.vs X0, [.int .i64 0, .int .i64 (v + 1), .int .i64 0], [.int .i64 3, .int .i64 z, .int .i64 (a2 : Int)] ++ ([rows R3.vs X1, [.int .i64 2, .int .i64 v, .int .i64 (v + 2)], [.int .i64 1, .int .i64 (v + 1), .int .i64 0]] : List (List Value)).flatten, [.int .i64 2, .int .i64 out, .int .i64 v]] : List (List Value)).flatten) := by
    unfold Hid; rw [hL]; simp only [rows, R3.vs, List.flatMap_append, List.flatMap_cons, List.flatMap_nil, List.append_assoc, List.cons_append, List.nil_append, List.append_nil, List.flatten_cons, List.flatten_nil]
  have HA2 := Lib.hid ha2
  have ha2le : a2 ≤ 482 := by omega
  have HO1 := Lib.hid (one_ints .i64 (xs.drop 1))
  have HSAw := Lib.hid hsa
  have w3' : IntKind.i64.wrap (v + 3) = v + 3 := IntWalk.i64_in _ (by omega)
  have w2' : IntKind.i64.wrap (v + 2) = v + 2 := IntWalk.i64_in _ (by omega)
  have w1' : IntKind.i64.wrap (v + 1) = v + 1 := IntWalk.i64_in _ (by omega)
  have hna1' : (0 : Int) < (na : Int) := by omega
  have hna2' : (1 : Int) ≤ (na : Int) := by omega
  have hnt10 : nt ≤ 10 := by omega
  clear hx0 hok hb hcs h4 hT hl hna ha hrun IH hff hm2 c0 c1 R0 R1 hX0 hX1 ha0 ha1 ha2 hL HR ho' hnt hct hz hsa hn0 hn1_ hsr hL0 hL1 l0 l1
  go_enter Try.func139, Try.ntmps139
  go_wp2_with fail
  refine HPA.out.mono ?_
  rintro e w1 ⟨v1, vs, rfl, own1, hpv, b1⟩
  obtain ⟨A1, c1, rfl⟩ := own_form own1
  have r0 := cell_step (by exact p0) b1
  obtain ⟨g1, rfl, _, _⟩ := own_addr0 own1 (by omega)
  obtain ⟨o0, k0, V0, m0, S0⟩ := hpv.2 0 P0 C0
  rw [← HN0.out] at V0 m0
  obtain ⟨o1, k1, V1, m1, S1⟩ := hpv.2 1 P1 C1
  rw [← HN1.out] at V1 m1
  have HSL1 := Lib.hid (sl_of_own own1)
  clear own1 p0 p1 p2 hpv C0 C1
  obtain ⟨w2b, HW2, B2b, y2⟩ := al1 w1 (.cells #[.int .i64 (v + 1), .int .i64 v] 2)
  have ownT : w2b.ownsRow w1.heap.size 2 1 (.slice (some ⟨w1.heap.size, 0, none⟩) 2 2) 2 [.int .i64 (v + 1), .int .i64 v] := own_laid' HW2.out rfl (by unfold maxLen; omega)
  have srcT : Src 1 w2b (.slice (some ⟨ba, o', none⟩) nt ct) nt ((xs.drop 1).map (Value.int .i64)) := Src.of_sl (HTL.out.below' (below_step b1 B2b)) (by rw [List.length_map, HTN.out, Nat.mul_one])
  clear y2
  go_wp2_with (at_builtin; rw [← HW2.out]; refine wpList_appx rfl _ _ _ rfl Try.underlying176 infoInt64S rfl (by omega) w1.heap.size ownT B2b.size rfl srcT rfl HO1.out (by unfold maxLen; omega) (by omega) ?_; intro v3 w3 own3 hg3 hnil3; clear hnil3; have B23 := grown_below B2b ownT (Nat.le_refl _) hg3; obtain ⟨A3, c3, rfl⟩ := own_form own3; clear ownT srcT hg3 B2b)
  have B3 := below_step b1 B23
  have HC3 := Lib.hid (own_capL own3 _ _ rfl)
  have HS3 : Hid (Src 1 w3 (.slice A3 (2 + nt) c3) (2 + nt) (((v + 1) :: v :: xs.drop 1).map (Value.int .i64))) := Src.of_own own3
  have HSL := Lib.hid (HSL1.out.below' B23)
  have HSA := Lib.hid (HSAw.out.below' B3)
  obtain ⟨B, hB_⟩ : ∃ B, B = w1.heap.size := ⟨_, rfl⟩
  have BB : Hid (w.heap.size ≤ B) := by rw [hB_]; exact b1.size
  have BW : Hid (B ≤ w3.heap.size) := by rw [hB_]; exact B23.size
  clear own3 B23 r0 hB_ b1
  refine region_facts (by kernel_rfl) [kcst (.slice (some ⟨g1, 0, none⟩) 2 c1), kcst (.pointer (some ⟨g1, 0, none⟩)), kcst (.slice (some ⟨b, o0, none⟩) n0 k0), kcst (.slice (some ⟨ba, offa, none⟩) na ca), kcst (.slice (some ⟨ba, o', none⟩) nt ct), kcst (.int .i64 v), kcst (.int .i64 v), kcst (.int .i64 (v + 3)), ksrc a0 (rows R3.vs X0), kcst (.int .i64 v), kcst (.int .i64 (v + 1)), ksrc 1 ([.int .i64 0, .int .i64 (v + 1), .int .i64 0]), kcst (.slice (some ⟨ba, offa, none⟩) na ca), kcst (.pointer (some ⟨ba, offa, none⟩)), kcst (.int .i64 z), kcst (.slice (some ⟨g1, 0, none⟩) 2 c1), kcst (.pointer (some ⟨g1, 1, none⟩)), kcst (.slice (some ⟨b, o1, none⟩) n1 k1), kcst (.slice A3 (2 + nt) c3), kcst (.int .i64 v), kcst (.int .i64 (v + 2)), kcst (.int .i64 v), kcst (.int .i64 (v + 3)), ksrc a1 (rows R3.vs X1), kcst (.int .i64 v), kcst (.int .i64 v), kcst (.int .i64 (v + 2)), ksrc 1 ([.int .i64 2, .int .i64 v, .int .i64 (v + 2)]), kcst (.int .i64 v), kcst (.int .i64 (v + 1)), ksrc 1 ([.int .i64 1, .int .i64 (v + 1), .int .i64 0]), ksrcs 3 [a1, 1, 1] [rows R3.vs X1, [.int .i64 2, .int .i64 v, .int .i64 (v + 2)], [.int .i64 1, .int .i64 (v + 1), .int .i64 0]], ksrc (1 + a2) ([.int .i64 3, .int .i64 z, .int .i64 (a2 : Int)] ++ ([rows R3.vs X1, [.int .i64 2, .int .i64 v, .int .i64 (v + 2)], [.int .i64 1, .int .i64 (v + 1), .int .i64 0]] : List (List Value)).flatten), kcst (.int .i64 out), kcst (.int .i64 v), ksrc 1 ([.int .i64 2, .int .i64 out, .int .i64 v]), ksrcs 4 [a0, 1, 1 + a2, 1] [rows R3.vs X0, [.int .i64 0, .int .i64 (v + 1), .int .i64 0], [.int .i64 3, .int .i64 z, .int .i64 (a2 : Int)] ++ ([rows R3.vs X1, [.int .i64 2, .int .i64 v, .int .i64 (v + 2)], [.int .i64 1, .int .i64 (v + 1), .int .i64 0]] : List (List Value)).flatten, [.int .i64 2, .int .i64 out, .int .i64 v]], kown B ([a0, 1, 1 + a2, 1] : List Nat).sum ([rows R3.vs X0, [.int .i64 0, .int .i64 (v + 1), .int .i64 0], [.int .i64 3, .int .i64 z, .int .i64 (a2 : Int)] ++ ([rows R3.vs X1, [.int .i64 2, .int .i64 v, .int .i64 (v + 2)], [.int .i64 1, .int .i64 (v + 1), .int .i64 0]] : List (List Value)).flatten, [.int .i64 2, .int .i64 out, .int .i64 v]] : List (List Value)).flatten, kown B ([a0, 1, 1 + a2, 1] : List Nat).sum ([rows R3.vs X0, [.int .i64 0, .int .i64 (v + 1), .int .i64 0], [.int .i64 3, .int .i64 z, .int .i64 (a2 : Int)] ++ ([rows R3.vs X1, [.int .i64 2, .int .i64 v, .int .i64 (v + 2)], [.int .i64 1, .int .i64 (v + 1), .int .i64 0]] : List (List Value)).flatten, [.int .i64 2, .int .i64 out, .int .i64 v]] : List (List Value)).flatten] [102, 103, 104, 105, 106, 107, 108, 109, 110, 111, 112, 113, 114, 115, 116, 117, 118, 119, 120, 121, 122, 123, 124, 125, 126, 127, 128, 129, 130, 131, 132, 133, 134, 135, 136, 137, 138, 139, 8] (by kernel_rfl) ?_ ?_
  · refine ⟨?_, ?_, ?_, ?_, ?_, ?_, ?_, ?_, ?_, ?_, ?_, ?_, ?_, ?_, ?_, ?_, ?_, ?_, ?_, ?_, ?_, ?_, ?_, ?_, ?_, ?_, ?_, ?_, ?_, ?_, ?_, ?_, ?_, ?_, ?_, ?_, ?_, ?_, ?_, trivial⟩
    · intro a W hB hin haft K hK
      have h0 : a.tmps[9]?.getD undef = .slice (some ⟨g1, 0, none⟩) 2 c1 := kev (hin 9 (by decide))
      clear haft hin
      unfold Oper.wp
      go_simp
      exact hK _ _ rfl (Below.refl _ _)
    · intro a W hB hin haft K hK
      have h102 : a.tmps[102]?.getD undef = .slice (some ⟨g1, 0, none⟩) 2 c1 := kev (haft ⟨0, .data⟩ (by simp) rfl 102 rfl)
      clear haft hin
      unfold Oper.wp
      go_simp
      exact hK _ _ rfl (Below.refl _ _)
    · intro a W hB hin haft K hK
      have h103 : a.tmps[103]?.getD undef = .pointer (some ⟨g1, 0, none⟩) := kev (haft ⟨1, .data⟩ (by simp) rfl 103 rfl)
      have k9 := (HSL.out.below' hB).at V0
      rw [Nat.zero_add] at k9
      clear haft hin
      unfold Oper.wp
      go_simp
      exact hK _ _ rfl (Below.refl _ _)
    · intro a W hB hin haft K hK
      have h0 : a.tmps[1]?.getD undef = .slice (some ⟨ba, offa, none⟩) na ca := kev (hin 1 (by decide))
      clear haft hin
      unfold Oper.wp
      go_simp
      exact hK _ _ rfl (Below.refl _ _)
    · intro a W hB hin haft K hK
      have h105 : a.tmps[105]?.getD undef = .slice (some ⟨ba, offa, none⟩) na ca := kev (haft ⟨3, .data⟩ (by simp) rfl 105 rfl)
      have hsl9 := hsl
      clear haft hin
      unfold Oper.wp
      go_simp
      exact hK _ _ rfl (Below.refl _ _)
    · intro a W hB hin haft K hK
      have h0 : a.tmps[3]?.getD undef = .int .i64 v := kev (hin 3 (by decide))
      clear haft hin
      unfold Oper.wp
      go_simp
      exact hK _ _ rfl (Below.refl _ _)
    · intro a W hB hin haft K hK
      have h0 : a.tmps[3]?.getD undef = .int .i64 v := kev (hin 3 (by decide))
      clear haft hin
      unfold Oper.wp
      go_simp
      exact hK _ _ rfl (Below.refl _ _)
    · intro a W hB hin haft K hK
      have h108 : a.tmps[108]?.getD undef = .int .i64 v := kev (haft ⟨6, .data⟩ (by simp) rfl 108 rfl)
      clear haft hin
      unfold Oper.wp
      go_simp
      exact hK _ _ rfl (Below.refl _ _)
    · intro a W hB hin haft K hK
      have h104 : a.tmps[104]?.getD undef = .slice (some ⟨b, o0, none⟩) n0 k0 := kev (haft ⟨2, .data⟩ (by simp) rfl 104 rfl)
      have h106 : a.tmps[106]?.getD undef = .slice (some ⟨ba, o', none⟩) nt ct := kev (haft ⟨4, .data⟩ (by simp) rfl 106 rfl)
      have h107 : a.tmps[107]?.getD undef = .int .i64 v := kev (haft ⟨5, .data⟩ (by simp) rfl 107 rfl)
      have h109 : a.tmps[109]?.getD undef = .int .i64 (v + 3) := kev (haft ⟨7, .data⟩ (by simp) rfl 109 rfl)
      clear haft hin
      unfold Oper.wp
      go_simp
      refine (HIH0.out _ o0 k0 (below_step B3 hB) S0 m0).mono ?_
      rintro e2 w' ⟨⟨u, rfl, own⟩, hb⟩
      rw [← HA0X.out] at own
      obtain ⟨A9, c9, rfl⟩ := own_form own
      exact hK _ _ (Src.of_own own) hb
    · intro a W hB hin haft K hK
      have h0 : a.tmps[3]?.getD undef = .int .i64 v := kev (hin 3 (by decide))
      clear haft hin
      unfold Oper.wp
      go_simp
      exact hK _ _ rfl (Below.refl _ _)
    · intro a W hB hin haft K hK
      have h111 : a.tmps[111]?.getD undef = .int .i64 v := kev (haft ⟨9, .data⟩ (by simp) rfl 111 rfl)
      clear haft hin
      unfold Oper.wp
      go_simp
      exact hK _ _ rfl (Below.refl _ _)
    · intro a W hB hin haft K hK
      have h112 : a.tmps[112]?.getD undef = .int .i64 (v + 1) := kev (haft ⟨10, .data⟩ (by simp) rfl 112 rfl)
      clear haft hin
      unfold Oper.wp
      go_simp
      refine (zero_any (v + 1) _).mono ?_
      rintro e2 w' ⟨⟨u, rfl, own⟩, hb⟩
      obtain ⟨A9, c9, rfl⟩ := own_form own
      exact hK _ _ (Src.of_own own) hb
    · intro a W hB hin haft K hK
      have h0 : a.tmps[1]?.getD undef = .slice (some ⟨ba, offa, none⟩) na ca := kev (hin 1 (by decide))
      clear haft hin
      unfold Oper.wp
      go_simp
      exact hK _ _ rfl (Below.refl _ _)
    · intro a W hB hin haft K hK
      have h114 : a.tmps[114]?.getD undef = .slice (some ⟨ba, offa, none⟩) na ca := kev (haft ⟨12, .data⟩ (by simp) rfl 114 rfl)
      clear haft hin
      unfold Oper.wp
      go_simp
      exact hK _ _ rfl (Below.refl _ _)
    · intro a W hB hin haft K hK
      have h115 : a.tmps[115]?.getD undef = .pointer (some ⟨ba, offa, none⟩) := kev (haft ⟨13, .data⟩ (by simp) rfl 115 rfl)
      have k9 := (HSA.out.below' hB).at hz'.out
      rw [Nat.add_zero] at k9
      clear haft hin
      unfold Oper.wp
      go_simp
      exact hK _ _ rfl (Below.refl _ _)
    · intro a W hB hin haft K hK
      have h0 : a.tmps[9]?.getD undef = .slice (some ⟨g1, 0, none⟩) 2 c1 := kev (hin 9 (by decide))
      clear haft hin
      unfold Oper.wp
      go_simp
      exact hK _ _ rfl (Below.refl _ _)
    · intro a W hB hin haft K hK
      have h117 : a.tmps[117]?.getD undef = .slice (some ⟨g1, 0, none⟩) 2 c1 := kev (haft ⟨15, .data⟩ (by simp) rfl 117 rfl)
      clear haft hin
      unfold Oper.wp
      go_simp
      exact hK _ _ rfl (Below.refl _ _)
    · intro a W hB hin haft K hK
      have h118 : a.tmps[118]?.getD undef = .pointer (some ⟨g1, 1, none⟩) := kev (haft ⟨16, .data⟩ (by simp) rfl 118 rfl)
      have k9 := (HSL.out.below' hB).at V1
      rw [Nat.zero_add] at k9
      clear haft hin
      unfold Oper.wp
      go_simp
      exact hK _ _ rfl (Below.refl _ _)
    · intro a W hB hin haft K hK
      have h0 : a.tmps[15]?.getD undef = .slice A3 (2 + nt) c3 := kev (hin 15 (by decide))
      clear haft hin
      unfold Oper.wp
      go_simp
      exact hK _ _ rfl (Below.refl _ _)
    · intro a W hB hin haft K hK
      have h0 : a.tmps[3]?.getD undef = .int .i64 v := kev (hin 3 (by decide))
      clear haft hin
      unfold Oper.wp
      go_simp
      exact hK _ _ rfl (Below.refl _ _)
    · intro a W hB hin haft K hK
      have h121 : a.tmps[121]?.getD undef = .int .i64 v := kev (haft ⟨19, .data⟩ (by simp) rfl 121 rfl)
      clear haft hin
      unfold Oper.wp
      go_simp
      exact hK _ _ rfl (Below.refl _ _)
    · intro a W hB hin haft K hK
      have h0 : a.tmps[3]?.getD undef = .int .i64 v := kev (hin 3 (by decide))
      clear haft hin
      unfold Oper.wp
      go_simp
      exact hK _ _ rfl (Below.refl _ _)
    · intro a W hB hin haft K hK
      have h123 : a.tmps[123]?.getD undef = .int .i64 v := kev (haft ⟨21, .data⟩ (by simp) rfl 123 rfl)
      clear haft hin
      unfold Oper.wp
      go_simp
      exact hK _ _ rfl (Below.refl _ _)
    · intro a W hB hin haft K hK
      have h119 : a.tmps[119]?.getD undef = .slice (some ⟨b, o1, none⟩) n1 k1 := kev (haft ⟨17, .data⟩ (by simp) rfl 119 rfl)
      have h120 : a.tmps[120]?.getD undef = .slice A3 (2 + nt) c3 := kev (haft ⟨18, .data⟩ (by simp) rfl 120 rfl)
      have h122 : a.tmps[122]?.getD undef = .int .i64 (v + 2) := kev (haft ⟨20, .data⟩ (by simp) rfl 122 rfl)
      have h124 : a.tmps[124]?.getD undef = .int .i64 (v + 3) := kev (haft ⟨22, .data⟩ (by simp) rfl 124 rfl)
      clear haft hin
      unfold Oper.wp
      go_simp
      refine (HIH1.out _ o1 k1 A3 c3 (below_step B3 hB) S1 m1 (HS3.out.below hB) HC3.out).mono ?_
      rintro e2 w' ⟨⟨u, rfl, own⟩, hb⟩
      rw [← HA1X.out] at own
      obtain ⟨A9, c9, rfl⟩ := own_form own
      exact hK _ _ (Src.of_own own) hb
    · intro a W hB hin haft K hK
      have h0 : a.tmps[3]?.getD undef = .int .i64 v := kev (hin 3 (by decide))
      clear haft hin
      unfold Oper.wp
      go_simp
      exact hK _ _ rfl (Below.refl _ _)
    · intro a W hB hin haft K hK
      have h0 : a.tmps[3]?.getD undef = .int .i64 v := kev (hin 3 (by decide))
      clear haft hin
      unfold Oper.wp
      go_simp
      exact hK _ _ rfl (Below.refl _ _)
    · intro a W hB hin haft K hK
      have h127 : a.tmps[127]?.getD undef = .int .i64 v := kev (haft ⟨25, .data⟩ (by simp) rfl 127 rfl)
      clear haft hin
      unfold Oper.wp
      go_simp
      exact hK _ _ rfl (Below.refl _ _)
    · intro a W hB hin haft K hK
      have h126 : a.tmps[126]?.getD undef = .int .i64 v := kev (haft ⟨24, .data⟩ (by simp) rfl 126 rfl)
      have h128 : a.tmps[128]?.getD undef = .int .i64 (v + 2) := kev (haft ⟨26, .data⟩ (by simp) rfl 128 rfl)
      clear haft hin
      unfold Oper.wp
      go_simp
      refine (assign_any v (v + 2) _).mono ?_
      rintro e2 w' ⟨⟨u, rfl, own⟩, hb⟩
      obtain ⟨A9, c9, rfl⟩ := own_form own
      exact hK _ _ (Src.of_own own) hb
    · intro a W hB hin haft K hK
      have h0 : a.tmps[3]?.getD undef = .int .i64 v := kev (hin 3 (by decide))
      clear haft hin
      unfold Oper.wp
      go_simp
      exact hK _ _ rfl (Below.refl _ _)
    · intro a W hB hin haft K hK
      have h130 : a.tmps[130]?.getD undef = .int .i64 v := kev (haft ⟨28, .data⟩ (by simp) rfl 130 rfl)
      clear haft hin
      unfold Oper.wp
      go_simp
      exact hK _ _ rfl (Below.refl _ _)
    · intro a W hB hin haft K hK
      have h131 : a.tmps[131]?.getD undef = .int .i64 (v + 1) := kev (haft ⟨29, .data⟩ (by simp) rfl 131 rfl)
      clear haft hin
      unfold Oper.wp
      go_simp
      refine (inc_any (v + 1) _).mono ?_
      rintro e2 w' ⟨⟨u, rfl, own⟩, hb⟩
      obtain ⟨A9, c9, rfl⟩ := own_form own
      exact hK _ _ (Src.of_own own) hb
    · intro a W hB hin haft K hK
      have s0 : Src 3 W (a.eval (.tmp 125)) (a1) (rows R3.vs X1) := haft ⟨23, .data⟩ (by simp) rfl 125 rfl
      obtain ⟨X0_, c0_, x0_⟩ := s0.form
      rw [x0_] at s0
      have h125 := kev x0_
      clear x0_
      have s1 : Src 3 W (a.eval (.tmp 129)) (1) ([.int .i64 2, .int .i64 v, .int .i64 (v + 2)]) := haft ⟨27, .data⟩ (by simp) rfl 129 rfl
      obtain ⟨X1_, c1_, x1_⟩ := s1.form
      rw [x1_] at s1
      have h129 := kev x1_
      clear x1_
      have s2 : Src 3 W (a.eval (.tmp 132)) (1) ([.int .i64 1, .int .i64 (v + 1), .int .i64 0]) := haft ⟨30, .data⟩ (by simp) rfl 132 rfl
      obtain ⟨X2_, c2_, x2_⟩ := s2.form
      rw [x2_] at s2
      have h132 := kev x2_
      clear x2_
      clear haft hin
      unfold Oper.wp
      go_simp
      exact hK _ _ ⟨_, _, rfl, sl_laid W _ _, srcsL_cons (s0.below (laid_below _ _)) (by repeat (first | exact one_rows_R3 _ | exact one_of_all rfl | exact one_flat_nil | refine one_flat_cons ?_ ?_ | refine one_app ?_ ?_)) (srcsL_cons (s1.below (laid_below _ _)) (by repeat (first | exact one_rows_R3 _ | exact one_of_all rfl | exact one_flat_nil | refine one_flat_cons ?_ ?_ | refine one_app ?_ ?_)) (srcsL_cons (s2.below (laid_below _ _)) (by repeat (first | exact one_rows_R3 _ | exact one_of_all rfl | exact one_flat_nil | refine one_flat_cons ?_ ?_ | refine one_app ?_ ?_)) (srcsL_nil _)))⟩ (laid_below _ _)
    · intro a W hB hin haft K hK
      have h116 : a.tmps[116]?.getD undef = .int .i64 z := kev (haft ⟨14, .data⟩ (by simp) rfl 116 rfl)
      obtain ⟨g, us, hx, hsl2, hsv⟩ := haft ⟨31, .data⟩ (by simp) rfl 133 rfl
      have h133 := kev hx
      clear hx
      clear haft hin
      unfold Oper.wp
      go_simp
      refine (looped_any 3 z g 0 3 us [a1, 1, 1] [rows R3.vs X1, [.int .i64 2, .int .i64 v, .int .i64 (v + 2)], [.int .i64 1, .int .i64 (v + 1), .int .i64 0]] 3 a2 _ hsl2 hsv rfl (by simp only [List.sum_cons, List.sum_nil]; have := HA2.out; omega) (by omega) (by omega) (by repeat (first | exact one_rows_R3 _ | exact one_of_all rfl | exact one_flat_nil | refine one_flat_cons ?_ ?_ | refine one_app ?_ ?_))).mono ?_
      rintro e2 w' ⟨⟨u, rfl, own⟩, hb⟩
      obtain ⟨A9, c9, rfl⟩ := own_form own
      exact hK _ _ (Src.of_own own) hb
    · intro a W hB hin haft K hK
      have h0 : a.tmps[2]?.getD undef = .int .i64 out := kev (hin 2 (by decide))
      clear haft hin
      unfold Oper.wp
      go_simp
      exact hK _ _ rfl (Below.refl _ _)
    · intro a W hB hin haft K hK
      have h0 : a.tmps[3]?.getD undef = .int .i64 v := kev (hin 3 (by decide))
      clear haft hin
      unfold Oper.wp
      go_simp
      exact hK _ _ rfl (Below.refl _ _)
    · intro a W hB hin haft K hK
      have h135 : a.tmps[135]?.getD undef = .int .i64 out := kev (haft ⟨33, .data⟩ (by simp) rfl 135 rfl)
      have h136 : a.tmps[136]?.getD undef = .int .i64 v := kev (haft ⟨34, .data⟩ (by simp) rfl 136 rfl)
      clear haft hin
      unfold Oper.wp
      go_simp
      refine (assign_any out v _).mono ?_
      rintro e2 w' ⟨⟨u, rfl, own⟩, hb⟩
      obtain ⟨A9, c9, rfl⟩ := own_form own
      exact hK _ _ (Src.of_own own) hb
    · intro a W hB hin haft K hK
      have s0 : Src 3 W (a.eval (.tmp 110)) (a0) (rows R3.vs X0) := haft ⟨8, .data⟩ (by simp) rfl 110 rfl
      obtain ⟨X0_, c0_, x0_⟩ := s0.form
      rw [x0_] at s0
      have h110 := kev x0_
      clear x0_
      have s1 : Src 3 W (a.eval (.tmp 113)) (1) ([.int .i64 0, .int .i64 (v + 1), .int .i64 0]) := haft ⟨11, .data⟩ (by simp) rfl 113 rfl
      obtain ⟨X1_, c1_, x1_⟩ := s1.form
      rw [x1_] at s1
      have h113 := kev x1_
      clear x1_
      have s2 : Src 3 W (a.eval (.tmp 134)) (1 + a2) ([.int .i64 3, .int .i64 z, .int .i64 (a2 : Int)] ++ ([rows R3.vs X1, [.int .i64 2, .int .i64 v, .int .i64 (v + 2)], [.int .i64 1, .int .i64 (v + 1), .int .i64 0]] : List (List Value)).flatten) := haft ⟨32, .data⟩ (by simp) rfl 134 rfl
      obtain ⟨X2_, c2_, x2_⟩ := s2.form
      rw [x2_] at s2
      have h134 := kev x2_
      clear x2_
      have s3 : Src 3 W (a.eval (.tmp 137)) (1) ([.int .i64 2, .int .i64 out, .int .i64 v]) := haft ⟨35, .data⟩ (by simp) rfl 137 rfl
      obtain ⟨X3_, c3_, x3_⟩ := s3.form
      rw [x3_] at s3
      have h137 := kev x3_
      clear x3_
      clear haft hin
      unfold Oper.wp
      go_simp
      exact hK _ _ ⟨_, _, rfl, sl_laid W _ _, srcsL_cons (s0.below (laid_below _ _)) (by repeat (first | exact one_rows_R3 _ | exact one_of_all rfl | exact one_flat_nil | refine one_flat_cons ?_ ?_ | refine one_app ?_ ?_)) (srcsL_cons (s1.below (laid_below _ _)) (by repeat (first | exact one_rows_R3 _ | exact one_of_all rfl | exact one_flat_nil | refine one_flat_cons ?_ ?_ | refine one_app ?_ ?_)) (srcsL_cons (s2.below (laid_below _ _)) (by repeat (first | exact one_rows_R3 _ | exact one_of_all rfl | exact one_flat_nil | refine one_flat_cons ?_ ?_ | refine one_app ?_ ?_)) (srcsL_cons (s3.below (laid_below _ _)) (by repeat (first | exact one_rows_R3 _ | exact one_of_all rfl | exact one_flat_nil | refine one_flat_cons ?_ ?_ | refine one_app ?_ ?_)) (srcsL_nil _))))⟩ (laid_below _ _)
    · intro a W hB hin haft K hK
      obtain ⟨g, us, hx, hsl2, hsv⟩ := haft ⟨36, .data⟩ (by simp) rfl 138 rfl
      have h138 := kev hx
      clear hx
      clear haft hin
      unfold Oper.wp
      go_simp
      refine (concatLoop_any g 0 4 us [a0, 1, 1 + a2, 1] [rows R3.vs X0, [.int .i64 0, .int .i64 (v + 1), .int .i64 0], [.int .i64 3, .int .i64 z, .int .i64 (a2 : Int)] ++ ([rows R3.vs X1, [.int .i64 2, .int .i64 v, .int .i64 (v + 2)], [.int .i64 1, .int .i64 (v + 1), .int .i64 0]] : List (List Value)).flatten, [.int .i64 2, .int .i64 out, .int .i64 v]] _ hsl2 hsv (by simp only [List.sum_cons, List.sum_nil]; omega) (by simp)).mono ?_
      rintro e2 w' ⟨u, rfl, own, hb, _⟩
      obtain ⟨A9, c9, rfl⟩ := own_form own
      exact hK _ _ (own_base own (Nat.le_trans BW.out hB.size)) hb
    · intro a W hB hin haft K hK
      have own : W.ownsRow B 128 3 (a.eval (.tmp 139)) ([a0, 1, 1 + a2, 1] : List Nat).sum ([rows R3.vs X0, [.int .i64 0, .int .i64 (v + 1), .int .i64 0], [.int .i64 3, .int .i64 z, .int .i64 (a2 : Int)] ++ ([rows R3.vs X1, [.int .i64 2, .int .i64 v, .int .i64 (v + 2)], [.int .i64 1, .int .i64 (v + 1), .int .i64 0]] : List (List Value)).flatten, [.int .i64 2, .int .i64 out, .int .i64 v]] : List (List Value)).flatten := haft ⟨37, .data⟩ (by simp) rfl 139 rfl
      obtain ⟨A9, c9, hx⟩ := own_form own
      rw [hx] at own
      have h139 := kev hx
      clear hx
      clear haft hin
      unfold Oper.wp
      go_simp
      exact hK _ _ own (Below.refl _ _)
  · intro a W hB hdf hsz hin hf
    have own : W.ownsRow B 128 3 (a.eval (.tmp 8)) ([a0, 1, 1 + a2, 1] : List Nat).sum ([rows R3.vs X0, [.int .i64 0, .int .i64 (v + 1), .int .i64 0], [.int .i64 3, .int .i64 z, .int .i64 (a2 : Int)] ++ ([rows R3.vs X1, [.int .i64 2, .int .i64 v, .int .i64 (v + 2)], [.int .i64 1, .int .i64 (v + 1), .int .i64 0]] : List (List Value)).flatten, [.int .i64 2, .int .i64 out, .int .i64 v]] : List (List Value)).flatten := hf 38 8 rfl
    obtain ⟨A9, c9, hx⟩ := own_form own
    rw [hx] at own
    have h8 := kev hx
    clear hin hf hx
    go_wp2
    refine bodyPost_ret (v := .slice A9 ([a0, 1, 1 + a2, 1] : List Nat).sum c9) (by simp [results, Try.results139, go_sem, h8]) hdf ?_
    refine ⟨⟨_, rfl, ?_⟩, below_step B3 hB⟩
    rw [HRL.out, HLL.out, HLR.out]
    exact own_base own BB.out
end Go.Proofs.Ytfmfpknigafnoaa
