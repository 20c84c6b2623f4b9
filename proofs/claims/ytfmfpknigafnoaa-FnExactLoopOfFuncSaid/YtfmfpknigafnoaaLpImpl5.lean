/- Loop programs of recursive functions, the program's side: loopsOf, the kind 5. -/
import Derived.Test.YtfmfpknigafnoaaLpFacts
namespace Go.Proofs.Ytfmfpknigafnoaa
open Go.RowKit
set_option linter.all false

set_option maxRecDepth 100000 in
set_option maxHeartbeats 4000000 in
theorem loops5_any (N : Nat) (IH : Hid (LpIHi N)) (b off n c : Nat) (T : List R3) (x : R3) (l : List R3) (hT : T = x :: l) (hl : T.length = n) (hnN : n ≤ N + 1) (hn60 : n ≤ 60) (hc : n ≤ c) (A : Option Addr) (na ca : Nat) (xs : List Int) (out v : Int) (w : World) (hs : Sl w b off (rows R3.vs T)) (hsr : Src 1 w (.slice A na ca) na (xs.map (Value.int .i64))) (hca : na ≤ ca) (hna10 : na ≤ 10)
    (hb : x.b = (xs.length : Int)) (hok : fOkN x = true) (hrun : fRun (fFols x) l = some []) (hv0 : 0 ≤ v) (hv : v + 4 * (n : Int) ≤ 1000) (h5 : x.a = 5) :
    Calls Try.prog 139 #[.slice (some ⟨b, off, none⟩) n c, .slice A na ca, .int .i64 out, .int .i64 v] w (LpOk w (lpF (N + 1) (x :: l) xs out v)) := by
  have HL := Lib.hid hl
  have ha := hsr.arg
  have hna : xs.length = na := by have := ha.1; simpa using this
  have HNA := Lib.hid hna
  have hcs := (fOkN_iff x).1 hok
  have hx0 : T[0]? = some x := by rw [hT]; rfl
  have hll : l.length + 1 = n := by rw [← hl, hT]; rfl
  have HPA := Lib.hid (partsAt_any b off n c T x l hT hl hn60 hc hok hrun w hs)
  obtain ⟨p0, p1, p2⟩ := hs.rec3 hx0
  rw [Nat.zero_mul, Nat.add_zero] at p0 p1 p2
  have hn1 : (0 : Int) < (n : Int) := by omega
  have hff := fFols_5 h5
  obtain ⟨P0, C0, c0, R0, l0⟩ := part_at (i := 0) (a := x.b + 1) hok hrun (by rw [hff]; rfl)
  have HR := lp5 (N := N) (xs := xs) (out := out) (v := v) h5 c0
  have hm2 := fMany_5 h5
  rw [hm2] at HPA C0
  have e0 : (x.a == 0) = false := by rw [h5]; rfl
  have e1 : (x.a == 1) = false := by rw [h5]; rfl
  have e2 : (x.a == 2) = false := by rw [h5]; rfl
  have e3 : (x.a == 3) = false := by rw [h5]; rfl
  have e4 : (x.a == 4) = false := by rw [h5]; rfl
  obtain ⟨n0, hn0⟩ : ∃ n0, n0 = P0.length := ⟨_, rfl⟩
  have HN0 := Lib.hid hn0
  have HIH0 : Hid (∀ W o0 k0 A1 c1, Below w.heap.size w W → Sl w b o0 (rows R3.vs P0) → n0 ≤ k0 → Src 1 W (.slice A1 (1 + na) c1) (1 + na) ((v :: xs).map (Value.int .i64)) → 1 + na ≤ c1 → Calls Try.prog 139 #[.slice (some ⟨b, o0, none⟩) n0 k0, .slice A1 (1 + na) c1, .int .i64 (v + 1), .int .i64 (v + 3)] W (LpOk W (lpF N P0 (v :: xs) (v + 1) (v + 3)))) := fun W o0 k0 A1 c1 hW hS hk hA1 hc1 =>
    IH.out b o0 n0 k0 P0 _ _ _ (v :: xs) (v + 1) (v + 3) W HN0.out.symm (by omega) (by omega) hk (hS.below' hW) hA1 hc1 (by omega) (by rw [show ((((v :: xs) : List Int).length : Nat) : Int) = x.b + 1 by simp only [List.length_cons]; omega]; exact R0) (by omega) (by omega)
  have hL0 := lpF_len N P0 (v :: xs) (v + 1) (v + 3)
  rw [← HN0.out] at hL0
  obtain ⟨X0, hX0⟩ : ∃ X, X = lpF N P0 (v :: xs) (v + 1) (v + 3) := ⟨_, rfl⟩
  rw [← hX0] at HIH0 hL0 HR
  obtain ⟨a0, ha0⟩ : ∃ a, a = X0.length := ⟨_, rfl⟩
  rw [← ha0] at hL0
  have HA0X := Lib.hid ha0
  have ha480 : a0 ≤ 480 := by omega
  obtain ⟨a2, ha2⟩ : ∃ a2, a2 = 1 + a0 + 1 := ⟨_, rfl⟩
  obtain ⟨L, hL⟩ : ∃ L, L = (⟨0, v, 0⟩ :: ⟨0, v + 1, 0⟩ :: ⟨1, v + 1, 0⟩ :: ⟨4, v + 1, (a2 : Int)⟩ :: (((⟨2, v + 2, v⟩ : R3) :: (X0 ++ [⟨1, v, 0⟩])) ++ [⟨2, out, v + 2⟩]) : List R3) := ⟨_, rfl⟩
  have HRL : Hid (lpF (N + 1) (x :: l) xs out v = L) := by unfold Hid; rw [HR, hL, List.length_cons, List.length_append, ← ha0, ha2, show ([⟨1, v, 0⟩] : List R3).length = 1 from rfl, show a0 + 1 + 1 = 1 + a0 + 1 by omega]
  have HLL : Hid (L.length = ([1, 1, 1, 1 + a2, 1] : List Nat).sum) := by unfold Hid; rw [hL]; simp only [List.length_append, List.length_cons, List.length_nil, List.sum_cons, List.sum_nil]; omega
  have HLR : Hid (rows R3.vs L = ([[.int .i64 0, .int .i64 v, .int .i64 0], [.int .i64 0, .int .i64 (v + 1), .int .i64 0], [.int .i64 1, .int .i64 (v + 1), .int .i64 0], [.int .i64 4, .int .i64 (v + 1), .int .i64 (a2 : Int)] ++ ([[.int .i64 2, .int .i64 (v + 2), .int .i64 v], rows R3.vs X0, [.int .i64 1, .int .i64 v, .int .i64 0]] : List (List Value)).flatten, [.int .i64 2, .int .i64 out, .int .i64 (v + 2)]] : List (List Value)).flatten) := by
    unfold Hid; rw [hL]; simp only [rows, R3.vs, List.flatMap_append, List.flatMap_cons, List.flatMap_nil, List.append_assoc, List.cons_append, List.nil_append, List.append_nil, List.flatten_cons, List.flatten_nil]
  have HA2 := Lib.hid ha2
  have ha2le : a2 ≤ 482 := by omega
  have HO1 := Lib.hid (one_ints .i64 xs)
  have HSR := Lib.hid hsr
  have w3' : IntKind.i64.wrap (v + 3) = v + 3 := IntWalk.i64_in _ (by omega)
  have w2' : IntKind.i64.wrap (v + 2) = v + 2 := IntWalk.i64_in _ (by omega)
  have w1' : IntKind.i64.wrap (v + 1) = v + 1 := IntWalk.i64_in _ (by omega)
  clear hx0 hok hb hcs h5 hT hl hna ha hrun IH hff hm2 c0 R0 hX0 ha0 ha2 hL HR hn0 hsr hL0 l0
  go_enter Try.func139, Try.ntmps139
  go_wp2_with fail
  refine HPA.out.mono ?_
  rintro e w1 ⟨v1, vs, rfl, own1, hpv, b1⟩
  obtain ⟨A1, c1, rfl⟩ := own_form own1
  have r0 := cell_step (by exact p0) b1
  obtain ⟨g1, rfl, _, _⟩ := own_addr0 own1 (by omega)
  obtain ⟨o0, k0, V0, m0, S0⟩ := hpv.2 0 P0 C0
  rw [← HN0.out] at V0 m0
  have HSL1 := Lib.hid (sl_of_own own1)
  clear own1 p0 p1 p2 hpv C0
  obtain ⟨w2b, HW2, B2b, y2⟩ := al1 w1 (.cells #[.int .i64 v] 2)
  have ownT : w2b.ownsRow w1.heap.size 2 1 (.slice (some ⟨w1.heap.size, 0, none⟩) 1 1) 1 [.int .i64 v] := own_laid' HW2.out rfl (by unfold maxLen; omega)
  have srcT : Src 1 w2b (.slice A na ca) na (xs.map (Value.int .i64)) := HSR.out.below (below_step b1 B2b)
  clear y2
  go_wp2_with (at_builtin; rw [← HW2.out]; refine wpList_appx rfl _ _ _ rfl Try.underlying176 infoInt64S rfl (by omega) w1.heap.size ownT B2b.size rfl srcT rfl HO1.out (by unfold maxLen; omega) (by omega) ?_; intro v3 w3 own3 hg3 hnil3; clear hnil3; have B23 := grown_below B2b ownT (Nat.le_refl _) hg3; obtain ⟨A3, c3, rfl⟩ := own_form own3; clear ownT srcT hg3 B2b)
  have B3 := below_step b1 B23
  have HC3 := Lib.hid (own_capL own3 _ _ rfl)
  have HS3 : Hid (Src 1 w3 (.slice A3 (1 + na) c3) (1 + na) ((v :: xs).map (Value.int .i64))) := Src.of_own own3
  have HSL := Lib.hid (HSL1.out.below' B23)
  obtain ⟨B, hB_⟩ : ∃ B, B = w1.heap.size := ⟨_, rfl⟩
  have BB : Hid (w.heap.size ≤ B) := by rw [hB_]; exact b1.size
  have BW : Hid (B ≤ w3.heap.size) := by rw [hB_]; exact B23.size
  clear own3 B23 r0 hB_ b1
  refine region_facts (by kernel_rfl) [kcst (.int .i64 v), ksrc 1 ([.int .i64 0, .int .i64 v, .int .i64 0]), kcst (.int .i64 v), kcst (.int .i64 (v + 1)), ksrc 1 ([.int .i64 0, .int .i64 (v + 1), .int .i64 0]), kcst (.int .i64 v), kcst (.int .i64 (v + 1)), ksrc 1 ([.int .i64 1, .int .i64 (v + 1), .int .i64 0]), kcst (.int .i64 v), kcst (.int .i64 (v + 1)), kcst (.int .i64 v), kcst (.int .i64 (v + 2)), kcst (.int .i64 v), ksrc 1 ([.int .i64 2, .int .i64 (v + 2), .int .i64 v]), kcst (.slice (some ⟨g1, 0, none⟩) 1 c1), kcst (.pointer (some ⟨g1, 0, none⟩)), kcst (.slice (some ⟨b, o0, none⟩) n0 k0), kcst (.slice A3 (1 + na) c3), kcst (.int .i64 v), kcst (.int .i64 (v + 1)), kcst (.int .i64 v), kcst (.int .i64 (v + 3)), ksrc a0 (rows R3.vs X0), kcst (.int .i64 v), ksrc 1 ([.int .i64 1, .int .i64 v, .int .i64 0]), ksrcs 3 [1, a0, 1] [[.int .i64 2, .int .i64 (v + 2), .int .i64 v], rows R3.vs X0, [.int .i64 1, .int .i64 v, .int .i64 0]], ksrc (1 + a2) ([.int .i64 4, .int .i64 (v + 1), .int .i64 (a2 : Int)] ++ ([[.int .i64 2, .int .i64 (v + 2), .int .i64 v], rows R3.vs X0, [.int .i64 1, .int .i64 v, .int .i64 0]] : List (List Value)).flatten), kcst (.int .i64 out), kcst (.int .i64 v), kcst (.int .i64 (v + 2)), ksrc 1 ([.int .i64 2, .int .i64 out, .int .i64 (v + 2)]), ksrcs 5 [1, 1, 1, 1 + a2, 1] [[.int .i64 0, .int .i64 v, .int .i64 0], [.int .i64 0, .int .i64 (v + 1), .int .i64 0], [.int .i64 1, .int .i64 (v + 1), .int .i64 0], [.int .i64 4, .int .i64 (v + 1), .int .i64 (a2 : Int)] ++ ([[.int .i64 2, .int .i64 (v + 2), .int .i64 v], rows R3.vs X0, [.int .i64 1, .int .i64 v, .int .i64 0]] : List (List Value)).flatten, [.int .i64 2, .int .i64 out, .int .i64 (v + 2)]], kown B ([1, 1, 1, 1 + a2, 1] : List Nat).sum ([[.int .i64 0, .int .i64 v, .int .i64 0], [.int .i64 0, .int .i64 (v + 1), .int .i64 0], [.int .i64 1, .int .i64 (v + 1), .int .i64 0], [.int .i64 4, .int .i64 (v + 1), .int .i64 (a2 : Int)] ++ ([[.int .i64 2, .int .i64 (v + 2), .int .i64 v], rows R3.vs X0, [.int .i64 1, .int .i64 v, .int .i64 0]] : List (List Value)).flatten, [.int .i64 2, .int .i64 out, .int .i64 (v + 2)]] : List (List Value)).flatten, kown B ([1, 1, 1, 1 + a2, 1] : List Nat).sum ([[.int .i64 0, .int .i64 v, .int .i64 0], [.int .i64 0, .int .i64 (v + 1), .int .i64 0], [.int .i64 1, .int .i64 (v + 1), .int .i64 0], [.int .i64 4, .int .i64 (v + 1), .int .i64 (a2 : Int)] ++ ([[.int .i64 2, .int .i64 (v + 2), .int .i64 v], rows R3.vs X0, [.int .i64 1, .int .i64 v, .int .i64 0]] : List (List Value)).flatten, [.int .i64 2, .int .i64 out, .int .i64 (v + 2)]] : List (List Value)).flatten] [144, 145, 146, 147, 148, 149, 150, 151, 152, 153, 154, 155, 156, 157, 158, 159, 160, 161, 162, 163, 164, 165, 166, 167, 168, 169, 170, 171, 172, 173, 174, 175, 176, 8] (by kernel_rfl) ?_ ?_
  · refine ⟨?_, ?_, ?_, ?_, ?_, ?_, ?_, ?_, ?_, ?_, ?_, ?_, ?_, ?_, ?_, ?_, ?_, ?_, ?_, ?_, ?_, ?_, ?_, ?_, ?_, ?_, ?_, ?_, ?_, ?_, ?_, ?_, ?_, ?_, trivial⟩
    · intro a W hB hin haft K hK
      have h0 : a.tmps[3]?.getD undef = .int .i64 v := kev (hin 3 (by decide))
      clear haft hin
      unfold Oper.wp
      go_simp
      exact hK _ _ rfl (Below.refl _ _)
    · intro a W hB hin haft K hK
      have h144 : a.tmps[144]?.getD undef = .int .i64 v := kev (haft ⟨0, .data⟩ (by simp) rfl 144 rfl)
      clear haft hin
      unfold Oper.wp
      go_simp
      refine (zero_any v _).mono ?_
      rintro e2 w' ⟨⟨u, rfl, own⟩, hb⟩
      obtain ⟨A9, c9, rfl⟩ := own_form own
      exact hK _ _ (Src.of_own own) hb
    · intro a W hB hin haft K hK
      have h0 : a.tmps[3]?.getD undef = .int .i64 v := kev (hin 3 (by decide))
      clear haft hin
      unfold Oper.wp
      go_simp
      exact hK _ _ rfl (Below.refl _ _)
    · intro a W hB hin haft K hK
      have h146 : a.tmps[146]?.getD undef = .int .i64 v := kev (haft ⟨2, .data⟩ (by simp) rfl 146 rfl)
      clear haft hin
      unfold Oper.wp
      go_simp
      exact hK _ _ rfl (Below.refl _ _)
    · intro a W hB hin haft K hK
      have h147 : a.tmps[147]?.getD undef = .int .i64 (v + 1) := kev (haft ⟨3, .data⟩ (by simp) rfl 147 rfl)
      clear haft hin
      unfold Oper.wp
      go_simp
      refine (zero_any (v + 1) _).mono ?_
      rintro e2 w' ⟨⟨u, rfl, own⟩, hb⟩
      obtain ⟨A9, c9, rfl⟩ := own_form own
      exact hK _ _ (Src.of_own own) hb
    · intro a W hB hin haft K hK
      have h0 : a.tmps[3]?.getD undef = .int .i64 v := kev (hin 3 (by decide))
      clear haft hin
      unfold Oper.wp
      go_simp
      exact hK _ _ rfl (Below.refl _ _)
    · intro a W hB hin haft K hK
      have h149 : a.tmps[149]?.getD undef = .int .i64 v := kev (haft ⟨5, .data⟩ (by simp) rfl 149 rfl)
      clear haft hin
      unfold Oper.wp
      go_simp
      exact hK _ _ rfl (Below.refl _ _)
    · intro a W hB hin haft K hK
      have h150 : a.tmps[150]?.getD undef = .int .i64 (v + 1) := kev (haft ⟨6, .data⟩ (by simp) rfl 150 rfl)
      clear haft hin
      unfold Oper.wp
      go_simp
      refine (inc_any (v + 1) _).mono ?_
      rintro e2 w' ⟨⟨u, rfl, own⟩, hb⟩
      obtain ⟨A9, c9, rfl⟩ := own_form own
      exact hK _ _ (Src.of_own own) hb
    · intro a W hB hin haft K hK
      have h0 : a.tmps[3]?.getD undef = .int .i64 v := kev (hin 3 (by decide))
      clear haft hin
      unfold Oper.wp
      go_simp
      exact hK _ _ rfl (Below.refl _ _)
    · intro a W hB hin haft K hK
      have h152 : a.tmps[152]?.getD undef = .int .i64 v := kev (haft ⟨8, .data⟩ (by simp) rfl 152 rfl)
      clear haft hin
      unfold Oper.wp
      go_simp
      exact hK _ _ rfl (Below.refl _ _)
    · intro a W hB hin haft K hK
      have h0 : a.tmps[3]?.getD undef = .int .i64 v := kev (hin 3 (by decide))
      clear haft hin
      unfold Oper.wp
      go_simp
      exact hK _ _ rfl (Below.refl _ _)
    · intro a W hB hin haft K hK
      have h154 : a.tmps[154]?.getD undef = .int .i64 v := kev (haft ⟨10, .data⟩ (by simp) rfl 154 rfl)
      clear haft hin
      unfold Oper.wp
      go_simp
      exact hK _ _ rfl (Below.refl _ _)
    · intro a W hB hin haft K hK
      have h0 : a.tmps[3]?.getD undef = .int .i64 v := kev (hin 3 (by decide))
      clear haft hin
      unfold Oper.wp
      go_simp
      exact hK _ _ rfl (Below.refl _ _)
    · intro a W hB hin haft K hK
      have h155 : a.tmps[155]?.getD undef = .int .i64 (v + 2) := kev (haft ⟨11, .data⟩ (by simp) rfl 155 rfl)
      have h156 : a.tmps[156]?.getD undef = .int .i64 v := kev (haft ⟨12, .data⟩ (by simp) rfl 156 rfl)
      clear haft hin
      unfold Oper.wp
      go_simp
      refine (assign_any (v + 2) v _).mono ?_
      rintro e2 w' ⟨⟨u, rfl, own⟩, hb⟩
      obtain ⟨A9, c9, rfl⟩ := own_form own
      exact hK _ _ (Src.of_own own) hb
    · intro a W hB hin haft K hK
      have h0 : a.tmps[9]?.getD undef = .slice (some ⟨g1, 0, none⟩) 1 c1 := kev (hin 9 (by decide))
      clear haft hin
      unfold Oper.wp
      go_simp
      exact hK _ _ rfl (Below.refl _ _)
    · intro a W hB hin haft K hK
      have h158 : a.tmps[158]?.getD undef = .slice (some ⟨g1, 0, none⟩) 1 c1 := kev (haft ⟨14, .data⟩ (by simp) rfl 158 rfl)
      clear haft hin
      unfold Oper.wp
      go_simp
      exact hK _ _ rfl (Below.refl _ _)
    · intro a W hB hin haft K hK
      have h159 : a.tmps[159]?.getD undef = .pointer (some ⟨g1, 0, none⟩) := kev (haft ⟨15, .data⟩ (by simp) rfl 159 rfl)
      have k9 := (HSL.out.below' hB).at V0
      rw [Nat.zero_add] at k9
      clear haft hin
      unfold Oper.wp
      go_simp
      exact hK _ _ rfl (Below.refl _ _)
    · intro a W hB hin haft K hK
      have h0 : a.tmps[16]?.getD undef = .slice A3 (1 + na) c3 := kev (hin 16 (by decide))
      clear haft hin
      unfold Oper.wp
      go_simp
      exact hK _ _ rfl (Below.refl _ _)
    · intro a W hB hin haft K hK
      have h0 : a.tmps[3]?.getD undef = .int .i64 v := kev (hin 3 (by decide))
      clear haft hin
      unfold Oper.wp
      go_simp
      exact hK _ _ rfl (Below.refl _ _)
    · intro a W hB hin haft K hK
      have h162 : a.tmps[162]?.getD undef = .int .i64 v := kev (haft ⟨18, .data⟩ (by simp) rfl 162 rfl)
      clear haft hin
      unfold Oper.wp
      go_simp
      exact hK _ _ rfl (Below.refl _ _)
    · intro a W hB hin haft K hK
      have h0 : a.tmps[3]?.getD undef = .int .i64 v := kev (hin 3 (by decide))
      clear haft hin
      unfold Oper.wp
      go_simp
      exact hK _ _ rfl (Below.refl _ _)
    · intro a W hB hin haft K hK
      have h164 : a.tmps[164]?.getD undef = .int .i64 v := kev (haft ⟨20, .data⟩ (by simp) rfl 164 rfl)
      clear haft hin
      unfold Oper.wp
      go_simp
      exact hK _ _ rfl (Below.refl _ _)
    · intro a W hB hin haft K hK
      have h160 : a.tmps[160]?.getD undef = .slice (some ⟨b, o0, none⟩) n0 k0 := kev (haft ⟨16, .data⟩ (by simp) rfl 160 rfl)
      have h161 : a.tmps[161]?.getD undef = .slice A3 (1 + na) c3 := kev (haft ⟨17, .data⟩ (by simp) rfl 161 rfl)
      have h163 : a.tmps[163]?.getD undef = .int .i64 (v + 1) := kev (haft ⟨19, .data⟩ (by simp) rfl 163 rfl)
      have h165 : a.tmps[165]?.getD undef = .int .i64 (v + 3) := kev (haft ⟨21, .data⟩ (by simp) rfl 165 rfl)
      clear haft hin
      unfold Oper.wp
      go_simp
      refine (HIH0.out _ o0 k0 A3 c3 (below_step B3 hB) S0 m0 (HS3.out.below hB) HC3.out).mono ?_
      rintro e2 w' ⟨⟨u, rfl, own⟩, hb⟩
      rw [← HA0X.out] at own
      obtain ⟨A9, c9, rfl⟩ := own_form own
      exact hK _ _ (Src.of_own own) hb
    · intro a W hB hin haft K hK
      have h0 : a.tmps[3]?.getD undef = .int .i64 v := kev (hin 3 (by decide))
      clear haft hin
      unfold Oper.wp
      go_simp
      exact hK _ _ rfl (Below.refl _ _)
    · intro a W hB hin haft K hK
      have h167 : a.tmps[167]?.getD undef = .int .i64 v := kev (haft ⟨23, .data⟩ (by simp) rfl 167 rfl)
      clear haft hin
      unfold Oper.wp
      go_simp
      refine (inc_any v _).mono ?_
      rintro e2 w' ⟨⟨u, rfl, own⟩, hb⟩
      obtain ⟨A9, c9, rfl⟩ := own_form own
      exact hK _ _ (Src.of_own own) hb
    · intro a W hB hin haft K hK
      have s0 : Src 3 W (a.eval (.tmp 157)) (1) ([.int .i64 2, .int .i64 (v + 2), .int .i64 v]) := haft ⟨13, .data⟩ (by simp) rfl 157 rfl
      obtain ⟨X0_, c0_, x0_⟩ := s0.form
      rw [x0_] at s0
      have h157 := kev x0_
      clear x0_
      have s1 : Src 3 W (a.eval (.tmp 166)) (a0) (rows R3.vs X0) := haft ⟨22, .data⟩ (by simp) rfl 166 rfl
      obtain ⟨X1_, c1_, x1_⟩ := s1.form
      rw [x1_] at s1
      have h166 := kev x1_
      clear x1_
      have s2 : Src 3 W (a.eval (.tmp 168)) (1) ([.int .i64 1, .int .i64 v, .int .i64 0]) := haft ⟨24, .data⟩ (by simp) rfl 168 rfl
      obtain ⟨X2_, c2_, x2_⟩ := s2.form
      rw [x2_] at s2
      have h168 := kev x2_
      clear x2_
      clear haft hin
      unfold Oper.wp
      go_simp
      exact hK _ _ ⟨_, _, rfl, sl_laid W _ _, srcsL_cons (s0.below (laid_below _ _)) (by repeat (first | exact one_rows_R3 _ | exact one_of_all rfl | exact one_flat_nil | refine one_flat_cons ?_ ?_ | refine one_app ?_ ?_)) (srcsL_cons (s1.below (laid_below _ _)) (by repeat (first | exact one_rows_R3 _ | exact one_of_all rfl | exact one_flat_nil | refine one_flat_cons ?_ ?_ | refine one_app ?_ ?_)) (srcsL_cons (s2.below (laid_below _ _)) (by repeat (first | exact one_rows_R3 _ | exact one_of_all rfl | exact one_flat_nil | refine one_flat_cons ?_ ?_ | refine one_app ?_ ?_)) (srcsL_nil _)))⟩ (laid_below _ _)
    · intro a W hB hin haft K hK
      have h153 : a.tmps[153]?.getD undef = .int .i64 (v + 1) := kev (haft ⟨9, .data⟩ (by simp) rfl 153 rfl)
      obtain ⟨g, us, hx, hsl2, hsv⟩ := haft ⟨25, .data⟩ (by simp) rfl 169 rfl
      have h169 := kev hx
      clear hx
      clear haft hin
      unfold Oper.wp
      go_simp
      refine (looped_any 4 (v + 1) g 0 3 us [1, a0, 1] [[.int .i64 2, .int .i64 (v + 2), .int .i64 v], rows R3.vs X0, [.int .i64 1, .int .i64 v, .int .i64 0]] 3 a2 _ hsl2 hsv rfl (by simp only [List.sum_cons, List.sum_nil]; have := HA2.out; omega) (by omega) (by omega) (by repeat (first | exact one_rows_R3 _ | exact one_of_all rfl | exact one_flat_nil | refine one_flat_cons ?_ ?_ | refine one_app ?_ ?_))).mono ?_
      rintro e2 w' ⟨⟨u, rfl, own⟩, hb⟩
      obtain ⟨A9, c9, rfl⟩ := own_form own
      exact hK _ _ (Src.of_own own) hb
    · intro a W hB hin haft K hK
      have h0 : a.tmps[2]?.getD undef = .int .i64 out := kev (hin 2 (by decide))
      clear haft hin
      unfold Oper.wp
      go_simp
      exact hK _ _ rfl (Below.refl _ _)
    · intro a W hB hin haft K hK
      have h0 : a.tmps[3]?.getD undef = .int .i64 v := kev (hin 3 (by decide))
      clear haft hin
      unfold Oper.wp
      go_simp
      exact hK _ _ rfl (Below.refl _ _)
    · intro a W hB hin haft K hK
      have h172 : a.tmps[172]?.getD undef = .int .i64 v := kev (haft ⟨28, .data⟩ (by simp) rfl 172 rfl)
      clear haft hin
      unfold Oper.wp
      go_simp
      exact hK _ _ rfl (Below.refl _ _)
    · intro a W hB hin haft K hK
      have h171 : a.tmps[171]?.getD undef = .int .i64 out := kev (haft ⟨27, .data⟩ (by simp) rfl 171 rfl)
      have h173 : a.tmps[173]?.getD undef = .int .i64 (v + 2) := kev (haft ⟨29, .data⟩ (by simp) rfl 173 rfl)
      clear haft hin
      unfold Oper.wp
      go_simp
      refine (assign_any out (v + 2) _).mono ?_
      rintro e2 w' ⟨⟨u, rfl, own⟩, hb⟩
      obtain ⟨A9, c9, rfl⟩ := own_form own
      exact hK _ _ (Src.of_own own) hb
    · intro a W hB hin haft K hK
      have s0 : Src 3 W (a.eval (.tmp 145)) (1) ([.int .i64 0, .int .i64 v, .int .i64 0]) := haft ⟨1, .data⟩ (by simp) rfl 145 rfl
      obtain ⟨X0_, c0_, x0_⟩ := s0.form
      rw [x0_] at s0
      have h145 := kev x0_
      clear x0_
      have s1 : Src 3 W (a.eval (.tmp 148)) (1) ([.int .i64 0, .int .i64 (v + 1), .int .i64 0]) := haft ⟨4, .data⟩ (by simp) rfl 148 rfl
      obtain ⟨X1_, c1_, x1_⟩ := s1.form
      rw [x1_] at s1
      have h148 := kev x1_
      clear x1_
      have s2 : Src 3 W (a.eval (.tmp 151)) (1) ([.int .i64 1, .int .i64 (v + 1), .int .i64 0]) := haft ⟨7, .data⟩ (by simp) rfl 151 rfl
      obtain ⟨X2_, c2_, x2_⟩ := s2.form
      rw [x2_] at s2
      have h151 := kev x2_
      clear x2_
      have s3 : Src 3 W (a.eval (.tmp 170)) (1 + a2) ([.int .i64 4, .int .i64 (v + 1), .int .i64 (a2 : Int)] ++ ([[.int .i64 2, .int .i64 (v + 2), .int .i64 v], rows R3.vs X0, [.int .i64 1, .int .i64 v, .int .i64 0]] : List (List Value)).flatten) := haft ⟨26, .data⟩ (by simp) rfl 170 rfl
      obtain ⟨X3_, c3_, x3_⟩ := s3.form
      rw [x3_] at s3
      have h170 := kev x3_
      clear x3_
      have s4 : Src 3 W (a.eval (.tmp 174)) (1) ([.int .i64 2, .int .i64 out, .int .i64 (v + 2)]) := haft ⟨30, .data⟩ (by simp) rfl 174 rfl
      obtain ⟨X4_, c4_, x4_⟩ := s4.form
      rw [x4_] at s4
      have h174 := kev x4_
      clear x4_
      clear haft hin
      unfold Oper.wp
      go_simp
      exact hK _ _ ⟨_, _, rfl, sl_laid W _ _, srcsL_cons (s0.below (laid_below _ _)) (by repeat (first | exact one_rows_R3 _ | exact one_of_all rfl | exact one_flat_nil | refine one_flat_cons ?_ ?_ | refine one_app ?_ ?_)) (srcsL_cons (s1.below (laid_below _ _)) (by repeat (first | exact one_rows_R3 _ | exact one_of_all rfl | exact one_flat_nil | refine one_flat_cons ?_ ?_ | refine one_app ?_ ?_)) (srcsL_cons (s2.below (laid_below _ _)) (by repeat (first | exact one_rows_R3 _ | exact one_of_all rfl | exact one_flat_nil | refine one_flat_cons ?_ ?_ | refine one_app ?_ ?_)) (srcsL_cons (s3.below (laid_below _ _)) (by repeat (first | exact one_rows_R3 _ | exact one_of_all rfl | exact one_flat_nil | refine one_flat_cons ?_ ?_ | refine one_app ?_ ?_)) (srcsL_cons (s4.below (laid_below _ _)) (by repeat (first | exact one_rows_R3 _ | exact one_of_all rfl | exact one_flat_nil | refine one_flat_cons ?_ ?_ | refine one_app ?_ ?_)) (srcsL_nil _)))))⟩ (laid_below _ _)
    · intro a W hB hin haft K hK
      obtain ⟨g, us, hx, hsl2, hsv⟩ := haft ⟨31, .data⟩ (by simp) rfl 175 rfl
      have h175 := kev hx
      clear hx
      clear haft hin
      unfold Oper.wp
      go_simp
      refine (concatLoop_any g 0 5 us [1, 1, 1, 1 + a2, 1] [[.int .i64 0, .int .i64 v, .int .i64 0], [.int .i64 0, .int .i64 (v + 1), .int .i64 0], [.int .i64 1, .int .i64 (v + 1), .int .i64 0], [.int .i64 4, .int .i64 (v + 1), .int .i64 (a2 : Int)] ++ ([[.int .i64 2, .int .i64 (v + 2), .int .i64 v], rows R3.vs X0, [.int .i64 1, .int .i64 v, .int .i64 0]] : List (List Value)).flatten, [.int .i64 2, .int .i64 out, .int .i64 (v + 2)]] _ hsl2 hsv (by simp only [List.sum_cons, List.sum_nil]; omega) (by simp)).mono ?_
      rintro e2 w' ⟨u, rfl, own, hb, _⟩
      obtain ⟨A9, c9, rfl⟩ := own_form own
      exact hK _ _ (own_base own (Nat.le_trans BW.out hB.size)) hb
    · intro a W hB hin haft K hK
      have own : W.ownsRow B 128 3 (a.eval (.tmp 176)) ([1, 1, 1, 1 + a2, 1] : List Nat).sum ([[.int .i64 0, .int .i64 v, .int .i64 0], [.int .i64 0, .int .i64 (v + 1), .int .i64 0], [.int .i64 1, .int .i64 (v + 1), .int .i64 0], [.int .i64 4, .int .i64 (v + 1), .int .i64 (a2 : Int)] ++ ([[.int .i64 2, .int .i64 (v + 2), .int .i64 v], rows R3.vs X0, [.int .i64 1, .int .i64 v, .int .i64 0]] : List (List Value)).flatten, [.int .i64 2, .int .i64 out, .int .i64 (v + 2)]] : List (List Value)).flatten := haft ⟨32, .data⟩ (by simp) rfl 176 rfl
      obtain ⟨A9, c9, hx⟩ := own_form own
      rw [hx] at own
      have h176 := kev hx
      clear hx
      clear haft hin
      unfold Oper.wp
      go_simp
      exact hK _ _ own (Below.refl _ _)
  · intro a W hB hdf hsz hin hf
    have own : W.ownsRow B 128 3 (a.eval (.tmp 8)) ([1, 1, 1, 1 + a2, 1] : List Nat).sum ([[.int .i64 0, .int .i64 v, .int .i64 0], [.int .i64 0, .int .i64 (v + 1), .int .i64 0], [.int .i64 1, .int .i64 (v + 1), .int .i64 0], [.int .i64 4, .int .i64 (v + 1), .int .i64 (a2 : Int)] ++ ([[.int .i64 2, .int .i64 (v + 2), .int .i64 v], rows R3.vs X0, [.int .i64 1, .int .i64 v, .int .i64 0]] : List (List Value)).flatten, [.int .i64 2, .int .i64 out, .int .i64 (v + 2)]] : List (List Value)).flatten := hf 33 8 rfl
    obtain ⟨A9, c9, hx⟩ := own_form own
    rw [hx] at own
    have h8 := kev hx
    clear hin hf hx
    go_wp2
    refine bodyPost_ret (v := .slice A9 ([1, 1, 1, 1 + a2, 1] : List Nat).sum c9) (by simp [results, Try.results139, go_sem, h8]) hdf ?_
    refine ⟨⟨_, rfl, ?_⟩, below_step B3 hB⟩
    rw [HRL.out, HLL.out, HLR.out]
    exact own_base own BB.out
end Go.Proofs.Ytfmfpknigafnoaa
