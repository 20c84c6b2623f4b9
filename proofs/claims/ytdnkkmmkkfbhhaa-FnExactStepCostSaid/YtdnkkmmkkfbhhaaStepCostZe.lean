/- The law FnExactStepCost returns true for every input, and each argument reads afterwards as before: the proof, part 5. No conditions. -/
import Derived.Test.YtdnkkmmkkfbhhaaStepCostZd
import Derived.Deep.DeepCutAuto
/- The closure of a section's chain: machineSection$1. -/
namespace Go.Proofs.Ytdnkkmmkkfbhhaa
open Go.RowKit
set_option linter.all false

/-- The variables of machineSection$1. -/
structure SBx (bR bA bC bM bS bV ga : Nat) (x : R3) (SA : Option Addr) (nS sc : Nat) (S Q RA : Value) (s v : Nat) (W : World) : Prop where
  r : W.heap[bR]? = some (.cells #[.int .i64 x.a, .int .i64 x.b, .int .i64 x.c] 59 (0, 0))
  a : W.heap[bA]? = some (.cells #[.pointer (some ⟨ga, 0, none⟩)] 70 (0, 0))
  c : W.heap[bC]? = some (.cells #[.slice SA nS sc] 71 (0, 0))
  m : W.heap[bM]? = some (.cells #[S, Q, RA] 34 (0, 0))
  s : BoxI W bS s
  v : BoxI W bV v

theorem SBx.ext {lo bR bA bC bM bS bV ga : Nat} {x : R3} {SA : Option Addr} {nS sc : Nat} {S Q RA : Value} {s v : Nat} {W W' : World} (h : SBx bR bA bC bM bS bV ga x SA nS sc S Q RA s v W) (e : Ext lo ga W W') : SBx bR bA bC bM bS bV ga x SA nS sc S Q RA s v W' :=
  ⟨e.kept _ _ _ _ h.r (by decide) (by decide) (by decide) (.inl (by decide)), e.kept _ _ _ _ h.a (by decide) (by decide) (by decide) (.inl (by decide)), e.kept _ _ _ _ h.c (by decide) (by decide) (by decide) (.inl (by decide)), e.kept _ _ _ _ h.m (by decide) (by decide) (by decide) (.inl (by decide)), h.s.ext e, h.v.ext e⟩

theorem SBx.below {bR bA bC bM bS bV ga : Nat} {x : R3} {SA : Option Addr} {nS sc : Nat} {S Q RA : Value} {s v : Nat} {W W' : World} (h : SBx bR bA bC bM bS bV ga x SA nS sc S Q RA s v W) (hb : Below W.heap.size W W') : SBx bR bA bC bM bS bV ga x SA nS sc S Q RA s v W' :=
  ⟨(hb.block _ (heap_lt h.r)).trans h.r, (hb.block _ (heap_lt h.a)).trans h.a, (hb.block _ (heap_lt h.c)).trans h.c, (hb.block _ (heap_lt h.m)).trans h.m, h.s.below hb, h.v.below hb⟩

theorem SBx.cells {bR bA bC bM bS bV ga : Nat} {x : R3} {SA : Option Addr} {nS sc : Nat} {S Q RA : Value} {s v : Nat} {W : World} (h : SBx bR bA bC bM bS bV ga x SA nS sc S Q RA s v W) :
    W.cell? ⟨bR, 0, none⟩ = some (.int .i64 x.a) ∧ W.cell? ⟨bR, 1, none⟩ = some (.int .i64 x.b) ∧ W.cell? ⟨bR, 2, none⟩ = some (.int .i64 x.c) ∧ W.cell? ⟨bA, 0, none⟩ = some (.pointer (some ⟨ga, 0, none⟩)) ∧ W.cell? ⟨bC, 0, none⟩ = some (.slice SA nS sc) ∧ W.cell? ⟨bM, 1, none⟩ = some Q ∧ W.cell? ⟨bS, 0, none⟩ = some (.int .i64 s) ∧ W.cell? ⟨bV, 0, none⟩ = some (.int .i64 v) :=
  ⟨by rw [cell_of_heap h.r]; rfl, by rw [cell_of_heap h.r]; rfl, by rw [cell_of_heap h.r]; rfl, by rw [cell_of_heap h.a]; rfl, by rw [cell_of_heap h.c]; rfl, by rw [cell_of_heap h.m]; rfl, h.s.cell, h.v.cell⟩

def partLen (s : Nat) (x : R3) (v : Nat) : Nat := if noR x then s + 1 + v else if x.b = 1 then s + 5 + x.a.toNat else s + 1 + x.a.toNat + leftLen s

set_option maxRecDepth 100000 in
set_option maxHeartbeats 2000000 in
theorem sec1_none (lo ga n bR bA bC bM bS bV nS sc s v q : Nat) (x : R3) (SA : Option Addr) (S Q RA : Value) (b0 : Nat) (w : World) (h : St lo ga n w) (hb : SBx bR bA bC bM bS bV ga x SA nS sc S (.int .i64 q) RA s v w) (hsec : SpotsV lo b0 (.slice SA nS sc) nS w) (hs : 1 ≤ s) (hs6 : s ≤ 6) (hv : v ≤ 6) (hq : q < nS) (hr : noR x = true) (hn : n + (s + 1 + v) ≤ 100000) :
    Calls Try.prog 52 #[.pointer (some ⟨bR, 0, none⟩), .pointer (some ⟨bA, 0, none⟩), .pointer (some ⟨bC, 0, none⟩), .pointer (some ⟨bM, 0, none⟩), .pointer (some ⟨bS, 0, none⟩), .pointer (some ⟨bV, 0, none⟩)] w (Done lo ga (n + (s + 1 + v)) w) := by
  have HR : Hid ((!noR x) = false) := by unfold Hid; rw [hr]; rfl
  obtain ⟨d0, d1, d2, -⟩ := hb.cells
  have HB0 := Lib.hid hb; have HS0 := Lib.hid h; have HC0 := Lib.hid hsec
  clear h hb hsec
  go_enter Try.func52, Try.ntmps52
  go_wp2_with fail
  refine (isRule_is _ false HR.out _).mono ?_
  rintro e w1 ⟨rfl, b1⟩
  have HB := Lib.hid (HB0.out.below b1); have HS := Lib.hid (HS0.out.below b1)
  have HBE := Lib.hid (Ext.of_below HS0.out.lt HS0.out.lo1 b1)
  have HLT := Lib.hid HS.out.lt; have HLO := Lib.hid HS.out.lo1
  obtain ⟨r0, r1, r2, c0, c1, c2, c4, c5⟩ := HB.out.cells
  clear d0 d1 d2 b1
  obtain ⟨g, sp, hSA, c3, hsp⟩ := (HC0.out.ext HBE.out).at hq
  subst hSA
  have HSP := Lib.hid hsp
  have i1 : (q : Int) < (nS : Int) := by omega
  have i2 : (0 : Int) ≤ (q : Int) := by omega
  have I1 := Lib.hid i1; have I2 := Lib.hid i2
  clear hsp
  clear HC0 hr i1 i2
  go_wp2_with fail
  refine region_facts_l (by kernel_rfl) rfl [kcst (.pointer (some ⟨ga, 0, none⟩)), kcst (.slice (some ⟨g, 0, none⟩) nS sc), kcst (.pointer (some ⟨bM, 1, none⟩)), kcst (.int .i64 q), kcst (.pointer (some ⟨g, q, none⟩)), kcst (.pointer (some ⟨sp, 0, none⟩)), kcst (.int .i64 s), kpv lo ga (s + 1), klit lo ga 1 ((s + 1)), kcst (.int .i64 v), kpcs lo ga v v, kpcs lo ga (1 + v) ((s + 1) + v)] [34, 35, 36, 37, 38, 39, 40, 41, 42, 43, 44, 45] (by kernel_rfl) (by kernel_rfl) ?_ ?_
  · refine ⟨?_, ?_, ?_, ?_, ?_, ?_, ?_, ?_, ?_, ?_, ?_, ?_, trivial⟩
    · intro a W hB hin haft K hK
      have h1 : a.tmps[1]?.getD undef = .pointer (some ⟨bA, 0, none⟩) := kev (hin 1 (by decide))
      have k1 := cell_step (by exact c0) hB
      clear haft hin
      unfold Oper.wp
      go_simp
      exact hK _ _ rfl (Below.refl _ _)
    · intro a W hB hin haft K hK
      have h2 : a.tmps[2]?.getD undef = .pointer (some ⟨bC, 0, none⟩) := kev (hin 2 (by decide))
      have k1 := cell_step (by exact c1) hB
      clear haft hin
      unfold Oper.wp
      go_simp
      exact hK _ _ rfl (Below.refl _ _)
    · intro a W hB hin haft K hK
      have h3 : a.tmps[3]?.getD undef = .pointer (some ⟨bM, 0, none⟩) := kev (hin 3 (by decide))
      clear haft hin
      unfold Oper.wp
      go_simp
      exact hK _ _ rfl (Below.refl _ _)
    · intro a W hB hin haft K hK
      have h36 : a.tmps[36]?.getD undef = .pointer (some ⟨bM, 1, none⟩) := kev (haft ⟨2, .data⟩ (by simp) rfl 36 rfl)
      have k1 := cell_step (by exact c2) hB
      clear haft hin
      unfold Oper.wp
      go_simp
      exact hK _ _ rfl (Below.refl _ _)
    · intro a W hB hin haft K hK
      have h35 : a.tmps[35]?.getD undef = .slice (some ⟨g, 0, none⟩) nS sc := kev (haft ⟨1, .data⟩ (by simp) rfl 35 rfl)
      have h37 : a.tmps[37]?.getD undef = .int .i64 q := kev (haft ⟨3, .data⟩ (by simp) rfl 37 rfl)
      have i1 := I1.out
      have i2 := I2.out
      clear haft hin
      unfold Oper.wp
      go_simp
      exact hK _ _ rfl (Below.refl _ _)
    · intro a W hB hin haft K hK
      have h38 : a.tmps[38]?.getD undef = .pointer (some ⟨g, q, none⟩) := kev (haft ⟨4, .data⟩ (by simp) rfl 38 rfl)
      have k1 := cell_step (by exact c3) hB
      clear haft hin
      unfold Oper.wp
      go_simp
      exact hK _ _ rfl (Below.refl _ _)
    · intro a W hB hin haft K hK
      have h4 : a.tmps[4]?.getD undef = .pointer (some ⟨bS, 0, none⟩) := kev (hin 4 (by decide))
      have k1 := cell_step (by exact c4) hB
      clear haft hin
      unfold Oper.wp
      go_simp
      exact hK _ _ rfl (Below.refl _ _)
    · intro a W hB hin haft K hK
      have h40 : a.tmps[40]?.getD undef = .int .i64 s := kev (haft ⟨6, .data⟩ (by simp) rfl 40 rfl)
      clear haft hin
      unfold Oper.wp
      go_simp
      refine (loop_any lo ga s 2 1 W (by omega) (Nat.le_trans HLO.out hB.size) (Nat.lt_of_lt_of_le HLT.out hB.size)).mono ?_
      rintro e2 w' ⟨⟨u2, rfl, hr⟩, hb⟩
      exact hK _ _ hr hb
    · intro a W hB hin haft K hK
      obtain ⟨p41, hv41, hl41, ho41⟩ : PieceV lo ga (a.eval (.tmp 41)) (s + 1) W := haft ⟨7, .data⟩ (by simp) rfl 41 rfl
      have h41 := kev hv41
      have HHL := Lib.hid hK
      have HO41 := Lib.hid ho41; have HL41 := Lib.hid hl41
      clear haft hin hK hv41 hl41 ho41
      unfold Oper.wp
      go_simp
      exact HHL.out _ _ (LitV.mk1 HO41.out HL41.out) (laid_below _ _)
    · intro a W hB hin haft K hK
      have h5 : a.tmps[5]?.getD undef = .pointer (some ⟨bV, 0, none⟩) := kev (hin 5 (by decide))
      have k1 := cell_step (by exact c5) hB
      clear haft hin
      unfold Oper.wp
      go_simp
      exact hK _ _ rfl (Below.refl _ _)
    · intro a W hB hin haft K hK
      have h43 : a.tmps[43]?.getD undef = .int .i64 v := kev (haft ⟨9, .data⟩ (by simp) rfl 43 rfl)
      clear haft hin
      unfold Oper.wp
      go_simp
      refine (incs_any lo ga v 1 W (by omega) (Nat.le_trans HLO.out hB.size) (Nat.lt_of_lt_of_le HLT.out hB.size)).mono ?_
      rintro e2 w' ⟨⟨A2, c2, rfl, hr⟩, hb⟩
      exact hK _ _ hr hb
    · intro a W hB hin haft K hK
      have s1 : LitV lo ga (a.eval (.tmp 42)) 1 ((s + 1)) W := haft ⟨8, .data⟩ (by simp) rfl 42 rfl
      have s2 : PiecesV lo ga (a.eval (.tmp 44)) (v) (v) W := haft ⟨10, .data⟩ (by simp) rfl 44 rfl
      refine op_pcs _ _ rfl s1 s2 (by omega) ?_
      intro v' w' hv hb
      exact hK _ _ hv hb
  · intro a W hB hdf hsz hin hf K hK
    have h34 : a.tmps[34]?.getD undef = .pointer (some ⟨ga, 0, none⟩) := kev (hf 0 34 rfl)
    have h39 : a.tmps[39]?.getD undef = .pointer (some ⟨sp, 0, none⟩) := kev (hf 5 39 rfl)
    have s2 : PiecesV lo ga (a.eval (.tmp 45)) (1 + v) ((s + 1) + v) W := hf 11 45 rfl
    obtain ⟨v2, hv2⟩ : ∃ v2, a.eval (.tmp 45) = v2 := ⟨_, rfl⟩
    rw [hv2] at s2
    have h45 := kev hv2
    have HK := Lib.hid hK; have S2 := Lib.hid s2; have HDF := Lib.hid hdf; have HBB := Lib.hid hB
    clear hin hf hsz hv2 hK s2 hdf hB
    unfold Oper.wp
    go_simp
    refine (chain_any lo ga n _ _ v2 _ W (HS.out.below HBB.out) (.inr ⟨_, rfl, HSP.out.below HBB.out⟩) S2.out (by omega) (by omega)).mono ?_
    rintro e2 w' ⟨rfl, s9, x9⟩
    refine HK.out _ _ ?_
    go_wp2
    refine bodyPost_end (results_none rfl _ _ _) HDF.out ?_
    exact ⟨rfl, by rw [show n + (s + 1 + v) = n + ((s + 1) + v) by omega]; exact s9, (HBE.out.trans (Ext.of_below HLT.out HLO.out HBB.out)).trans x9⟩

set_option maxRecDepth 100000 in
set_option maxHeartbeats 2000000 in
theorem sec1_right (lo ga n bR bA bC bM bS bV nS sc s v q wr : Nat) (x : R3) (SA : Option Addr) (S Q RA : Value) (b0 : Nat) (w : World) (h : St lo ga n w) (hb : SBx bR bA bC bM bS bV ga x SA nS sc S Q RA s v w) (hsec : SpotsV lo b0 (.slice SA nS sc) nS w) (hs : 1 ≤ s) (hs6 : s ≤ 6) (hv : v ≤ 6) (hq : q < nS) (hr : noR x = false) (hx : x = ⟨wr, 1, q⟩) (hw : wr ≤ 6) (hn : n + (s + 5 + wr) ≤ 100000) :
    Calls Try.prog 52 #[.pointer (some ⟨bR, 0, none⟩), .pointer (some ⟨bA, 0, none⟩), .pointer (some ⟨bC, 0, none⟩), .pointer (some ⟨bM, 0, none⟩), .pointer (some ⟨bS, 0, none⟩), .pointer (some ⟨bV, 0, none⟩)] w (Done lo ga (n + (s + 5 + wr)) w) := by
  have HR : Hid ((!noR x) = true) := by unfold Hid; rw [hr]; rfl
  subst hx
  obtain ⟨d0, d1, d2, -⟩ := hb.cells
  have HB0 := Lib.hid hb; have HS0 := Lib.hid h; have HC0 := Lib.hid hsec
  clear h hb hsec
  go_enter Try.func52, Try.ntmps52
  go_wp2_with fail
  refine (isRule_is _ true HR.out _).mono ?_
  rintro e w1 ⟨rfl, b1⟩
  have HB := Lib.hid (HB0.out.below b1); have HS := Lib.hid (HS0.out.below b1)
  have HBE := Lib.hid (Ext.of_below HS0.out.lt HS0.out.lo1 b1)
  have HLT := Lib.hid HS.out.lt; have HLO := Lib.hid HS.out.lo1
  obtain ⟨r0, r1, r2, c0, c1, c2, c4, c5⟩ := HB.out.cells
  clear d0 d1 d2 b1
  obtain ⟨g, sp, hSA, c3, hsp⟩ := (HC0.out.ext HBE.out).at hq
  subst hSA
  have HSP := Lib.hid hsp
  have i1 : (q : Int) < (nS : Int) := by omega
  have i2 : (0 : Int) ≤ (q : Int) := by omega
  have I1 := Lib.hid i1; have I2 := Lib.hid i2
  clear hsp
  clear HC0 hr i1 i2
  dsimp only at r0 r1 r2
  go_wp2_with fail
  refine region_facts_l (by kernel_rfl) rfl [kcst (.pointer (some ⟨ga, 0, none⟩)), kcst (.slice (some ⟨g, 0, none⟩) nS sc), kcst (.pointer (some ⟨bR, 2, none⟩)), kcst (.int .i64 q), kcst (.pointer (some ⟨g, q, none⟩)), kcst (.pointer (some ⟨sp, 0, none⟩)), kpv lo ga (1 + 1), kcst (.int .i64 s), kpv lo ga (s + 1), kpv lo ga (1 + 1), klit lo ga 3 ((1 + 1) + (s + 1) + (1 + 1)), kcst (.pointer (some ⟨bR, 0, none⟩)), kcst (.int .i64 wr), kpcs lo ga wr wr, kpcs lo ga (3 + wr) ((1 + 1) + (s + 1) + (1 + 1) + wr)] [51, 52, 53, 54, 55, 56, 57, 58, 59, 60, 61, 62, 63, 64, 65] (by kernel_rfl) (by kernel_rfl) ?_ ?_
  · refine ⟨?_, ?_, ?_, ?_, ?_, ?_, ?_, ?_, ?_, ?_, ?_, ?_, ?_, ?_, ?_, trivial⟩
    · intro a W hB hin haft K hK
      have h1 : a.tmps[1]?.getD undef = .pointer (some ⟨bA, 0, none⟩) := kev (hin 1 (by decide))
      have k1 := cell_step (by exact c0) hB
      clear haft hin
      unfold Oper.wp
      go_simp
      exact hK _ _ rfl (Below.refl _ _)
    · intro a W hB hin haft K hK
      have h2 : a.tmps[2]?.getD undef = .pointer (some ⟨bC, 0, none⟩) := kev (hin 2 (by decide))
      have k1 := cell_step (by exact c1) hB
      clear haft hin
      unfold Oper.wp
      go_simp
      exact hK _ _ rfl (Below.refl _ _)
    · intro a W hB hin haft K hK
      have h0 : a.tmps[0]?.getD undef = .pointer (some ⟨bR, 0, none⟩) := kev (hin 0 (by decide))
      clear haft hin
      unfold Oper.wp
      go_simp
      exact hK _ _ rfl (Below.refl _ _)
    · intro a W hB hin haft K hK
      have h53 : a.tmps[53]?.getD undef = .pointer (some ⟨bR, 2, none⟩) := kev (haft ⟨2, .data⟩ (by simp) rfl 53 rfl)
      have k1 := cell_step (by exact r2) hB
      clear haft hin
      unfold Oper.wp
      go_simp
      exact hK _ _ rfl (Below.refl _ _)
    · intro a W hB hin haft K hK
      have h52 : a.tmps[52]?.getD undef = .slice (some ⟨g, 0, none⟩) nS sc := kev (haft ⟨1, .data⟩ (by simp) rfl 52 rfl)
      have h54 : a.tmps[54]?.getD undef = .int .i64 q := kev (haft ⟨3, .data⟩ (by simp) rfl 54 rfl)
      have i1 := I1.out
      have i2 := I2.out
      clear haft hin
      unfold Oper.wp
      go_simp
      exact hK _ _ rfl (Below.refl _ _)
    · intro a W hB hin haft K hK
      have h55 : a.tmps[55]?.getD undef = .pointer (some ⟨g, q, none⟩) := kev (haft ⟨4, .data⟩ (by simp) rfl 55 rfl)
      have k1 := cell_step (by exact c3) hB
      clear haft hin
      unfold Oper.wp
      go_simp
      exact hK _ _ rfl (Below.refl _ _)
    · intro a W hB hin haft K hK
      clear haft hin
      unfold Oper.wp
      go_simp
      refine (loop_any lo ga 1 2 1 W (by omega) (Nat.le_trans HLO.out hB.size) (Nat.lt_of_lt_of_le HLT.out hB.size)).mono ?_
      rintro e2 w' ⟨⟨u2, rfl, hr⟩, hb⟩
      exact hK _ _ hr hb
    · intro a W hB hin haft K hK
      have h4 : a.tmps[4]?.getD undef = .pointer (some ⟨bS, 0, none⟩) := kev (hin 4 (by decide))
      have k1 := cell_step (by exact c4) hB
      clear haft hin
      unfold Oper.wp
      go_simp
      exact hK _ _ rfl (Below.refl _ _)
    · intro a W hB hin haft K hK
      have h58 : a.tmps[58]?.getD undef = .int .i64 s := kev (haft ⟨7, .data⟩ (by simp) rfl 58 rfl)
      clear haft hin
      unfold Oper.wp
      go_simp
      refine (loop_any lo ga s 0 2 W (by omega) (Nat.le_trans HLO.out hB.size) (Nat.lt_of_lt_of_le HLT.out hB.size)).mono ?_
      rintro e2 w' ⟨⟨u2, rfl, hr⟩, hb⟩
      exact hK _ _ hr hb
    · intro a W hB hin haft K hK
      clear haft hin
      unfold Oper.wp
      go_simp
      refine (loop_any lo ga 1 2 0 W (by omega) (Nat.le_trans HLO.out hB.size) (Nat.lt_of_lt_of_le HLT.out hB.size)).mono ?_
      rintro e2 w' ⟨⟨u2, rfl, hr⟩, hb⟩
      exact hK _ _ hr hb
    · intro a W hB hin haft K hK
      obtain ⟨p57, hv57, hl57, ho57⟩ : PieceV lo ga (a.eval (.tmp 57)) (1 + 1) W := haft ⟨6, .data⟩ (by simp) rfl 57 rfl
      have h57 := kev hv57
      obtain ⟨p59, hv59, hl59, ho59⟩ : PieceV lo ga (a.eval (.tmp 59)) (s + 1) W := haft ⟨8, .data⟩ (by simp) rfl 59 rfl
      have h59 := kev hv59
      obtain ⟨p60, hv60, hl60, ho60⟩ : PieceV lo ga (a.eval (.tmp 60)) (1 + 1) W := haft ⟨9, .data⟩ (by simp) rfl 60 rfl
      have h60 := kev hv60
      have HHL := Lib.hid hK
      have HO57 := Lib.hid ho57; have HL57 := Lib.hid hl57
      have HO59 := Lib.hid ho59; have HL59 := Lib.hid hl59
      have HO60 := Lib.hid ho60; have HL60 := Lib.hid hl60
      clear haft hin hK hv57 hl57 ho57 hv59 hl59 ho59 hv60 hl60 ho60
      unfold Oper.wp
      go_simp
      exact HHL.out _ _ (LitV.mk3 HO57.out HO59.out HO60.out (by have h1 := HL57.out; have h2 := HL59.out; have h3 := HL60.out; omega)) (laid_below _ _)
    · intro a W hB hin haft K hK
      have h0 : a.tmps[0]?.getD undef = .pointer (some ⟨bR, 0, none⟩) := kev (hin 0 (by decide))
      clear haft hin
      unfold Oper.wp
      go_simp
      exact hK _ _ rfl (Below.refl _ _)
    · intro a W hB hin haft K hK
      have h62 : a.tmps[62]?.getD undef = .pointer (some ⟨bR, 0, none⟩) := kev (haft ⟨11, .data⟩ (by simp) rfl 62 rfl)
      have k1 := cell_step (by exact r0) hB
      clear haft hin
      unfold Oper.wp
      go_simp
      exact hK _ _ rfl (Below.refl _ _)
    · intro a W hB hin haft K hK
      have h63 : a.tmps[63]?.getD undef = .int .i64 wr := kev (haft ⟨12, .data⟩ (by simp) rfl 63 rfl)
      clear haft hin
      unfold Oper.wp
      go_simp
      refine (incs_any lo ga wr 0 W (by omega) (Nat.le_trans HLO.out hB.size) (Nat.lt_of_lt_of_le HLT.out hB.size)).mono ?_
      rintro e2 w' ⟨⟨A2, c2, rfl, hr⟩, hb⟩
      exact hK _ _ hr hb
    · intro a W hB hin haft K hK
      have s1 : LitV lo ga (a.eval (.tmp 61)) 3 ((1 + 1) + (s + 1) + (1 + 1)) W := haft ⟨10, .data⟩ (by simp) rfl 61 rfl
      have s2 : PiecesV lo ga (a.eval (.tmp 64)) (wr) (wr) W := haft ⟨13, .data⟩ (by simp) rfl 64 rfl
      refine op_pcs _ _ rfl s1 s2 (by omega) ?_
      intro v' w' hv hb
      exact hK _ _ hv hb
  · intro a W hB hdf hsz hin hf K hK
    have h51 : a.tmps[51]?.getD undef = .pointer (some ⟨ga, 0, none⟩) := kev (hf 0 51 rfl)
    have h56 : a.tmps[56]?.getD undef = .pointer (some ⟨sp, 0, none⟩) := kev (hf 5 56 rfl)
    have s2 : PiecesV lo ga (a.eval (.tmp 65)) (3 + wr) ((1 + 1) + (s + 1) + (1 + 1) + wr) W := hf 14 65 rfl
    obtain ⟨v2, hv2⟩ : ∃ v2, a.eval (.tmp 65) = v2 := ⟨_, rfl⟩
    rw [hv2] at s2
    have h65 := kev hv2
    have HK := Lib.hid hK; have S2 := Lib.hid s2; have HDF := Lib.hid hdf; have HBB := Lib.hid hB
    clear hin hf hsz hv2 hK s2 hdf hB
    unfold Oper.wp
    go_simp
    refine (chain_any lo ga n _ _ v2 _ W (HS.out.below HBB.out) (.inr ⟨_, rfl, HSP.out.below HBB.out⟩) S2.out (by omega) (by omega)).mono ?_
    rintro e2 w' ⟨rfl, s9, x9⟩
    refine HK.out _ _ ?_
    go_wp2
    refine bodyPost_end (results_none rfl _ _ _) HDF.out ?_
    exact ⟨rfl, by rw [show n + (s + 5 + wr) = n + ((1 + 1) + (s + 1) + (1 + 1) + wr) by omega]; exact s9, (HBE.out.trans (Ext.of_below HLT.out HLO.out HBB.out)).trans x9⟩

set_option maxRecDepth 100000 in
set_option maxHeartbeats 4000000 in
theorem sec1_left (lo ga n bR bA bC bM bS bV nS sc s v q wr : Nat) (x : R3) (SA : Option Addr) (S Q RA : Value) (b0 : Nat) (w : World) (h : St lo ga n w) (hb : SBx bR bA bC bM bS bV ga x SA nS sc S Q RA s v w) (hsec : SpotsV lo b0 (.slice SA nS sc) nS w) (hs : 1 ≤ s) (hs6 : s ≤ 6) (hv : v ≤ 6) (hq : q < nS) (hr : noR x = false) (hx : x = ⟨wr, -1, q⟩) (hw : wr ≤ 6) (hn : n + (s + 1 + wr + leftLen s) ≤ 100000) :
    Calls Try.prog 52 #[.pointer (some ⟨bR, 0, none⟩), .pointer (some ⟨bA, 0, none⟩), .pointer (some ⟨bC, 0, none⟩), .pointer (some ⟨bM, 0, none⟩), .pointer (some ⟨bS, 0, none⟩), .pointer (some ⟨bV, 0, none⟩)] w (Done lo ga (n + (s + 1 + wr + leftLen s)) w) := by
  have HR : Hid ((!noR x) = true) := by unfold Hid; rw [hr]; rfl
  subst hx
  obtain ⟨d0, d1, d2, -⟩ := hb.cells
  have HB0 := Lib.hid hb; have HS0 := Lib.hid h; have HC0 := Lib.hid hsec
  clear h hb hsec
  go_enter Try.func52, Try.ntmps52
  go_wp2_with fail
  refine (isRule_is _ true HR.out _).mono ?_
  rintro e w1 ⟨rfl, b1⟩
  have HB := Lib.hid (HB0.out.below b1); have HS := Lib.hid (HS0.out.below b1)
  have HBE := Lib.hid (Ext.of_below HS0.out.lt HS0.out.lo1 b1)
  have HLT := Lib.hid HS.out.lt; have HLO := Lib.hid HS.out.lo1
  obtain ⟨r0, r1, r2, c0, c1, c2, c4, c5⟩ := HB.out.cells
  clear d0 d1 d2 b1
  clear hr
  dsimp only at r0 r1 r2
  obtain ⟨w2, HW2, b2, y2⟩ := al1 w1 (.cells #[.int .i64 0] 88)
  have HB2 := Lib.hid (HB.out.below b2)
  have HE2 := Lib.hid (Ext.of_below HLT.out HLO.out b2)
  have HS2 := Lib.hid (HS.out.below b2)
  have HC2 := Lib.hid ((HC0.out.ext HBE.out).below b2)
  have HSB : Hid (Spot lo w2 w1.heap.size) := ⟨HLO.out, 0, y2⟩
  go_upto_region 1 with fail
  rw [← HW2.out]
  clear HS HLT HLO HB HC0 r0 r1 r2 c0 c1 c2 c4 c5 y2 b2
  have HS := HS2; have HLT := Lib.hid HS2.out.lt; have HLO := Lib.hid HS2.out.lo1
  obtain ⟨r0, r1, r2, c0, c1, c2, c4, c5⟩ := HB2.out.cells
  dsimp only at r0 r1 r2
  refine region_facts_l (by kernel_rfl) rfl [kcst (.pointer (some ⟨ga, 0, none⟩)), kcst (.pointer (some ⟨w1.heap.size, 0, none⟩)), kcst (.int .i64 s), kpv lo ga (s + 1), klit lo ga 1 ((s + 1)), kcst (.pointer (some ⟨bR, 0, none⟩)), kcst (.int .i64 wr), kpcs lo ga wr wr, kpcs lo ga (1 + wr) ((s + 1) + wr)] [9, 10, 11, 12, 13, 14, 15, 16, 17] (by kernel_rfl) (by kernel_rfl) ?_ ?_
  · refine ⟨?_, ?_, ?_, ?_, ?_, ?_, ?_, ?_, ?_, trivial⟩
    · intro a W hB hin haft K hK
      have h1 : a.tmps[1]?.getD undef = .pointer (some ⟨bA, 0, none⟩) := kev (hin 1 (by decide))
      have k1 := cell_step (by exact c0) hB
      clear haft hin
      unfold Oper.wp
      go_simp
      exact hK _ _ rfl (Below.refl _ _)
    · intro a W hB hin haft K hK
      have h6 : a.tmps[6]?.getD undef = .pointer (some ⟨w1.heap.size, 0, none⟩) := kev (hin 6 (by decide))
      clear haft hin
      unfold Oper.wp
      go_simp
      exact hK _ _ rfl (Below.refl _ _)
    · intro a W hB hin haft K hK
      have h4 : a.tmps[4]?.getD undef = .pointer (some ⟨bS, 0, none⟩) := kev (hin 4 (by decide))
      have k1 := cell_step (by exact c4) hB
      clear haft hin
      unfold Oper.wp
      go_simp
      exact hK _ _ rfl (Below.refl _ _)
    · intro a W hB hin haft K hK
      have h11 : a.tmps[11]?.getD undef = .int .i64 s := kev (haft ⟨2, .data⟩ (by simp) rfl 11 rfl)
      clear haft hin
      unfold Oper.wp
      go_simp
      refine (loop_any lo ga s 2 1 W (by omega) (Nat.le_trans HLO.out hB.size) (Nat.lt_of_lt_of_le HLT.out hB.size)).mono ?_
      rintro e2 w' ⟨⟨u2, rfl, hr⟩, hb⟩
      exact hK _ _ hr hb
    · intro a W hB hin haft K hK
      obtain ⟨p12, hv12, hl12, ho12⟩ : PieceV lo ga (a.eval (.tmp 12)) (s + 1) W := haft ⟨3, .data⟩ (by simp) rfl 12 rfl
      have h12 := kev hv12
      have HHL := Lib.hid hK
      have HO12 := Lib.hid ho12; have HL12 := Lib.hid hl12
      clear haft hin hK hv12 hl12 ho12
      unfold Oper.wp
      go_simp
      exact HHL.out _ _ (LitV.mk1 HO12.out HL12.out) (laid_below _ _)
    · intro a W hB hin haft K hK
      have h0 : a.tmps[0]?.getD undef = .pointer (some ⟨bR, 0, none⟩) := kev (hin 0 (by decide))
      clear haft hin
      unfold Oper.wp
      go_simp
      exact hK _ _ rfl (Below.refl _ _)
    · intro a W hB hin haft K hK
      have h14 : a.tmps[14]?.getD undef = .pointer (some ⟨bR, 0, none⟩) := kev (haft ⟨5, .data⟩ (by simp) rfl 14 rfl)
      have k1 := cell_step (by exact r0) hB
      clear haft hin
      unfold Oper.wp
      go_simp
      exact hK _ _ rfl (Below.refl _ _)
    · intro a W hB hin haft K hK
      have h15 : a.tmps[15]?.getD undef = .int .i64 wr := kev (haft ⟨6, .data⟩ (by simp) rfl 15 rfl)
      clear haft hin
      unfold Oper.wp
      go_simp
      refine (incs_any lo ga wr 1 W (by omega) (Nat.le_trans HLO.out hB.size) (Nat.lt_of_lt_of_le HLT.out hB.size)).mono ?_
      rintro e2 w' ⟨⟨A2, c2, rfl, hr⟩, hb⟩
      exact hK _ _ hr hb
    · intro a W hB hin haft K hK
      have s1 : LitV lo ga (a.eval (.tmp 13)) 1 ((s + 1)) W := haft ⟨4, .data⟩ (by simp) rfl 13 rfl
      have s2 : PiecesV lo ga (a.eval (.tmp 16)) (wr) (wr) W := haft ⟨7, .data⟩ (by simp) rfl 16 rfl
      refine op_pcs _ _ rfl s1 s2 (by omega) ?_
      intro v' w' hv hb
      exact hK _ _ hv hb
  · intro a W hB hdf hsz hin hf K hK
    have h9 : a.tmps[9]?.getD undef = .pointer (some ⟨ga, 0, none⟩) := kev (hf 0 9 rfl)
    have h10 : a.tmps[10]?.getD undef = .pointer (some ⟨w1.heap.size, 0, none⟩) := kev (hf 1 10 rfl)
    have s2 : PiecesV lo ga (a.eval (.tmp 17)) (1 + wr) ((s + 1) + wr) W := hf 8 17 rfl
    obtain ⟨v2, hv2⟩ : ∃ v2, a.eval (.tmp 17) = v2 := ⟨_, rfl⟩
    rw [hv2] at s2
    have h17 := kev hv2
    have HK := Lib.hid hK; have S2 := Lib.hid s2; have HDF := Lib.hid hdf; have HBB := Lib.hid hB; have HIN := Lib.hid hin; have HSZ : Hid (a.tmps.size = 67) := hsz
    clear hin hf hsz hv2 hK s2 hdf hB
    unfold Oper.wp
    go_simp
    refine (chain_any lo ga n _ _ v2 _ W (HS.out.below HBB.out) (.inr ⟨_, rfl, HSB.out.below HBB.out⟩) S2.out (by omega) (by omega)).mono ?_
    rintro e2 w' ⟨rfl, s9, x9⟩
    refine HK.out _ _ ?_
    have H0 : Hid (a.tmps[0]?.getD undef = .pointer (some ⟨bR, 0, none⟩)) := kev (HIN.out 0 (by decide))
    have H1 : Hid (a.tmps[1]?.getD undef = .pointer (some ⟨bA, 0, none⟩)) := kev (HIN.out 1 (by decide))
    have H2 : Hid (a.tmps[2]?.getD undef = .pointer (some ⟨bC, 0, none⟩)) := kev (HIN.out 2 (by decide))
    have H4 : Hid (a.tmps[4]?.getD undef = .pointer (some ⟨bS, 0, none⟩)) := kev (HIN.out 4 (by decide))
    have H6 : Hid (a.tmps[6]?.getD undef = .pointer (some ⟨w1.heap.size, 0, none⟩)) := kev (HIN.out 6 (by decide))
    have HDF0 : Hid (a.defers = []) := HDF.out
    have E3 := Lib.hid (((HBE.out.trans HE2.out).trans (Ext.of_below HLT.out HLO.out HBB.out)).trans x9)
    have S3 := Lib.hid s9
    have SB3 := Lib.hid ((HB2.out.below HBB.out).ext x9)
    have SPB := Lib.hid ((HSB.out.below HBB.out).ext x9)
    have HC3 := Lib.hid ((HC2.out.below HBB.out).ext x9)
    obtain ⟨-, -, -, k0, -, -, -, -⟩ := SB3.out.cells
    have h1 := H1.out; have h6 := H6.out; have z18 : 18 < a.tmps.size := by rw [HSZ.out]; omega
    have z19 : 19 < a.tmps.size := by rw [HSZ.out]; omega
    have z20 : 20 < a.tmps.size := by rw [HSZ.out]; omega
    clear s9 x9
    go_wp2_with fail
    refine (here_any lo ga _ _ _ S3.out SPB.out).mono ?_
    rintro e4 w4 ⟨rfl, s4, x4⟩
    have S4 := Lib.hid s4
    have E4 := Lib.hid (E3.out.trans x4)
    obtain ⟨g, sp, hSA, m3, hsp⟩ := (HC3.out.ext x4).at hq
    subst hSA
    have SP4 := Lib.hid hsp
    obtain ⟨-, -, n2, m0, m1, -, m4, -⟩ := (SB3.out.ext x4).cells
    dsimp only at n2
    have I1 : Hid ((q : Int) < (nS : Int)) := by unfold Hid; omega
    have I2 : Hid ((0 : Int) ≤ (q : Int)) := by unfold Hid; omega
    clear s4 x4 hsp k0
    go_wp2_with fail
    clear h1 h6 z18 z19 z20
    refine region_facts_l (by kernel_rfl) rfl [kcst (.int .i64 s), kcst (.pointer (some ⟨ga, 0, none⟩)), kcst (.slice (some ⟨g, 0, none⟩) nS sc), kcst (.pointer (some ⟨bR, 2, none⟩)), kcst (.int .i64 q), kcst (.pointer (some ⟨g, q, none⟩)), kcst (.pointer (some ⟨sp, 0, none⟩))] [22, 23, 24, 25, 26, 27, 28] (by simp only [Array.size_setIfInBounds, HSZ.out]; kernel_rfl) (by kernel_rfl) ?_ ?_
    · refine ⟨?_, ?_, ?_, ?_, ?_, ?_, ?_, trivial⟩
      · intro a W hB hin haft K hK
        have h4 : a.tmps[4]?.getD undef = .pointer (some ⟨bS, 0, none⟩) := kev ((hin 4 (by decide)).trans (by simp [Act.eval, H4.out]))
        have k1 := cell_step (by exact m4) hB
        clear haft hin
        unfold Oper.wp
        go_simp
        exact hK _ _ rfl (Below.refl _ _)
      · intro a W hB hin haft K hK
        have h1 : a.tmps[1]?.getD undef = .pointer (some ⟨bA, 0, none⟩) := kev ((hin 1 (by decide)).trans (by simp [Act.eval, H1.out]))
        have k1 := cell_step (by exact m0) hB
        clear haft hin
        unfold Oper.wp
        go_simp
        exact hK _ _ rfl (Below.refl _ _)
      · intro a W hB hin haft K hK
        have h2 : a.tmps[2]?.getD undef = .pointer (some ⟨bC, 0, none⟩) := kev ((hin 2 (by decide)).trans (by simp [Act.eval, H2.out]))
        have k1 := cell_step (by exact m1) hB
        clear haft hin
        unfold Oper.wp
        go_simp
        exact hK _ _ rfl (Below.refl _ _)
      · intro a W hB hin haft K hK
        have h0 : a.tmps[0]?.getD undef = .pointer (some ⟨bR, 0, none⟩) := kev ((hin 0 (by decide)).trans (by simp [Act.eval, H0.out]))
        clear haft hin
        unfold Oper.wp
        go_simp
        exact hK _ _ rfl (Below.refl _ _)
      · intro a W hB hin haft K hK
        have h25 : a.tmps[25]?.getD undef = .pointer (some ⟨bR, 2, none⟩) := kev (haft ⟨3, .data⟩ (by simp) rfl 25 rfl)
        have k1 := cell_step (by exact n2) hB
        clear haft hin
        unfold Oper.wp
        go_simp
        exact hK _ _ rfl (Below.refl _ _)
      · intro a W hB hin haft K hK
        have h24 : a.tmps[24]?.getD undef = .slice (some ⟨g, 0, none⟩) nS sc := kev (haft ⟨2, .data⟩ (by simp) rfl 24 rfl)
        have h26 : a.tmps[26]?.getD undef = .int .i64 q := kev (haft ⟨4, .data⟩ (by simp) rfl 26 rfl)
        have i1 := I1.out
        have i2 := I2.out
        clear haft hin
        unfold Oper.wp
        go_simp
        exact hK _ _ rfl (Below.refl _ _)
      · intro a W hB hin haft K hK
        have h27 : a.tmps[27]?.getD undef = .pointer (some ⟨g, q, none⟩) := kev (haft ⟨5, .data⟩ (by simp) rfl 27 rfl)
        have k1 := cell_step (by exact m3) hB
        clear haft hin
        unfold Oper.wp
        go_simp
        exact hK _ _ rfl (Below.refl _ _)
    · intro a W hB hdf hsz hin hf K hK
      have h22 : a.tmps[22]?.getD undef = .int .i64 s := kev (hf 0 22 rfl)
      have h23 : a.tmps[23]?.getD undef = .pointer (some ⟨ga, 0, none⟩) := kev (hf 1 23 rfl)
      have h28 : a.tmps[28]?.getD undef = .pointer (some ⟨sp, 0, none⟩) := kev (hf 6 28 rfl)
      have HK := Lib.hid hK; have HDF := Lib.hid hdf; have HBB := Lib.hid hB
      clear hin hf hsz hK hdf hB
      unfold Oper.wp
      go_simp
      refine (left_any lo ga _ s _ W (S4.out.below HBB.out) (.inr ⟨_, rfl, SP4.out.below HBB.out⟩) hs hs6 (by omega)).mono ?_
      rintro e2 w' ⟨rfl, s9, x9⟩
      refine HK.out _ _ ?_
      go_wp2
      refine bodyPost_end (results_none rfl _ _ _) (HDF.out.trans HDF0.out) ?_
      exact ⟨rfl, by rw [show n + (s + 1 + wr + leftLen s) = n + ((s + 1) + wr) + leftLen s by omega]; exact s9, (E4.out.trans (Ext.of_below S4.out.lt S4.out.lo1 HBB.out)).trans x9⟩

end Go.Proofs.Ytdnkkmmkkfbhhaa

/- The section of a state: machineSection. -/
namespace Go.Proofs.Ytdnkkmmkkfbhhaa
open Go.RowKit
set_option linter.all false

theorem noR_of_move {x : R3} (h : x.b = 1 ∨ x.b = -1) : noR x = false := by
  unfold noR
  have : decide (x.b = 0) = false := by
    rcases h with h | h <;> simp [h]
  simp [this]
theorem ruleB_cases {S Q : Int} {x : R3} (h : ruleB S Q x = true) : noR x = true ∨ (noR x = false ∧ (x.b = 1 ∨ x.b = -1) ∧ 0 ≤ x.a ∧ x.a ≤ S - 1 ∧ 0 ≤ x.c ∧ x.c ≤ Q - 1) := by
  unfold ruleB at h
  rcases Bool.eq_false_or_eq_true (noR x) with h0 | h0
  · exact .inl h0
  · rw [h0, Bool.false_or, Bool.and_eq_true, Bool.and_eq_true, Bool.or_eq_true, decide_eq_true_eq, decide_eq_true_eq] at h
    obtain ⟨⟨h1, h2⟩, h3⟩ := h
    rw [inB_iff] at h1 h3
    exact .inr ⟨h0, h2, h1.1, h1.2, h3.1, h3.2⟩
/-- The rule of state q at symbol k. -/
def ruleAt (rs : List R3) (s q k : Nat) : R3 := (rs[q * s + k]?).getD ⟨0, 0, 0⟩
def secSum (s : Nat) (rs : List R3) (q : Nat) : Nat → Nat
  | 0 => 0
  | k + 1 => secSum s rs q k + partLen s (ruleAt rs s q k) k
def secLen (s : Nat) (rs : List R3) (q : Nat) : Nat := s + 1 + secSum s rs q s
theorem leftSum_six {s k : Nat} (hs : s ≤ 6) (hk : k ≤ 6) : leftSum s k ≤ k * 17 := by
  induction k with
  | zero => exact Nat.le_refl _
  | succ k ih => have := ih (by omega); show leftSum s k + (s + 5 + k) ≤ _; omega
theorem partLen_le {s : Nat} {S Q : Int} {x : R3} {k : Nat} (hs : s ≤ 6) (hS : S = s) (hk : k ≤ 6) (h : ruleB S Q x = true) : partLen s x k ≤ 200 := by
  have h1 : leftLen s ≤ 150 := by unfold leftLen; have := leftSum_six hs hs; omega
  rcases ruleB_cases h with h0 | ⟨h0, hm, ha, ha2, hc, hc2⟩
  · unfold partLen; rw [if_pos h0]; omega
  · unfold partLen; rw [if_neg (by rw [h0]; decide)]
    split <;> omega

/-- The boxes that a section's closures share. -/
structure MBx (g ga : Nat) (SA : Option Addr) (nS sc : Nat) (S Q RA : Value) (s : Nat) (W : World) : Prop where
  m : W.heap[g]? = some (.cells #[S, Q, RA] 34 (0, 0))
  a : W.heap[g + 1]? = some (.cells #[.pointer (some ⟨ga, 0, none⟩)] 70 (0, 0))
  c : W.heap[g + 1 + 1]? = some (.cells #[.slice SA nS sc] 71 (0, 0))
  s : BoxI W (g + 1 + 1 + 1) s
theorem MBx.below {g ga : Nat} {SA : Option Addr} {nS sc : Nat} {S Q RA : Value} {s : Nat} {W W' : World} (h : MBx g ga SA nS sc S Q RA s W) (hb : Below W.heap.size W W') : MBx g ga SA nS sc S Q RA s W' :=
  ⟨(hb.block _ (heap_lt h.m)).trans h.m, (hb.block _ (heap_lt h.a)).trans h.a, (hb.block _ (heap_lt h.c)).trans h.c, h.s.below hb⟩
theorem MBx.grown {g ga b n : Nat} {SA : Option Addr} {nS sc : Nat} {S Q RA : Value} {s : Nat} {W W' : World} {v : Value} {xs : List Value} (h : MBx g ga SA nS sc S Q RA s W) (ho : W.ownsRow b 1 1 v n xs) (hg : W.grownBy W' v.ownBlock) : MBx g ga SA nS sc S Q RA s W' :=
  ⟨grown_keep hg h.m (own_ne_block ho h.m (by decide)), grown_keep hg h.a (own_ne_block ho h.a (by decide)), grown_keep hg h.c (own_ne_block ho h.c (by decide)), grown_keep hg h.s (own_ne_block ho h.s (by decide))⟩
def fvSec (g bR bV : Nat) : Array Value := #[.pointer (some ⟨bR, 0, none⟩), .pointer (some ⟨g + 1, 0, none⟩), .pointer (some ⟨g + 1 + 1, 0, none⟩), .pointer (some ⟨g, 0, none⟩), .pointer (some ⟨g + 1 + 1 + 1, 0, none⟩), .pointer (some ⟨bV, 0, none⟩)]
/-- The closure of symbol j. -/
def MT (g s : Nat) (xr : Nat → R3) (j : Nat) (p : Pc) (W : World) : Prop := ∃ bR bV, p = ⟨52, fvSec g bR bV, partLen s (xr j) j⟩ ∧ BoxI W bV j ∧ W.heap[bR]? = some (.cells #[.int .i64 (xr j).a, .int .i64 (xr j).b, .int .i64 (xr j).c] 59 (0, 0))
theorem MT.below {g s j : Nat} {xr : Nat → R3} {p : Pc} {W W' : World} (h : MT g s xr j p W) (hb : Below W.heap.size W W') : MT g s xr j p W' := by
  obtain ⟨bR, bV, h1, h2, h3⟩ := h; exact ⟨bR, bV, h1, h2.below hb, (hb.block _ (heap_lt h3)).trans h3⟩
theorem MT.grown {g s j b n : Nat} {xr : Nat → R3} {p : Pc} {W W' : World} {v : Value} {xs : List Value} (h : MT g s xr j p W) (ho : W.ownsRow b 1 1 v n xs) (hg : W.grownBy W' v.ownBlock) : MT g s xr j p W' := by
  obtain ⟨bR, bV, h1, h2, h3⟩ := h; exact ⟨bR, bV, h1, grown_keep hg h2 (own_ne_block ho h2 (by decide)), grown_keep hg h3 (own_ne_block ho h3 (by decide))⟩
theorem al5 (w : World) (o1 o2 o3 o4 o5 : Obj) : ∃ w5, Hid (w5 = ((((w.alloc o1).alloc o2).alloc o3).alloc o4).alloc o5) ∧ Below w.heap.size w w5 ∧ w5.heap[w.heap.size]? = some o1 ∧ w5.heap[w.heap.size + 1]? = some o2 ∧ w5.heap[w.heap.size + 1 + 1]? = some o3 ∧ w5.heap[w.heap.size + 1 + 1 + 1]? = some o4 ∧ w5.heap[w.heap.size + 1 + 1 + 1 + 1]? = some o5 := by
  obtain ⟨w4, h4, b4, x1, x2, x3, x4, hz⟩ := al4 w o1 o2 o3 o4
  refine ⟨w4.alloc o5, by rw [h4.out]; exact rfl, below_step b4 (laid_below _ _), ?_, ?_, ?_, ?_, ?_⟩
  · exact ((laid_below w4 o5).block _ (heap_lt x1)).trans x1
  · exact ((laid_below w4 o5).block _ (heap_lt x2)).trans x2
  · exact ((laid_below w4 o5).block _ (heap_lt x3)).trans x3
  · exact ((laid_below w4 o5).block _ (heap_lt x4)).trans x4
  · rw [← hz]; exact heap_alloc_new w4 o5

/-- A closure of machineSection as a thunk. -/
theorem secThunk (lo ga g bR bV nS sc s q j : Nat) (x : R3) (SA : Option Addr) (S Q : Int) (RA : Value) (b0 : Nat) (w : World) (h1 : lo ≤ w.heap.size) (h2 : ga < w.heap.size) (hS : S = s) (hQ : Q + 1 = nS) (hQ0 : 0 ≤ Q) (hm : MBx g ga SA nS sc (.int .i64 S) (.int .i64 Q) RA s w)
    (hv : BoxI w bV j) (hr : w.heap[bR]? = some (.cells #[.int .i64 x.a, .int .i64 x.b, .int .i64 x.c] 59 (0, 0))) (hsec : SpotsV lo b0 (.slice SA nS sc) nS w) (hs : 1 ≤ s) (hs6 : s ≤ 6) (hj : j ≤ 6) (hx : ruleB S Q x = true) :
    ThunkOk lo ga w ⟨52, fvSec g bR bV, partLen s x j⟩ := by
  have hB : SBx bR (g + 1) (g + 1 + 1) g (g + 1 + 1 + 1) bV ga x SA nS sc (.int .i64 S) (.int .i64 Q) RA s j w := ⟨hr, hm.a, hm.c, hm.m, hm.s, hv⟩
  refine ⟨h1, h2, enters_of' (P := Try.prog) Try.func52 (by kernel_rfl) rfl, ?_⟩
  intro W n e st hn
  rw [Array.empty_append]
  dsimp only at hn ⊢
  obtain ⟨nQ, hnQ⟩ : ∃ nQ : Nat, Q = nQ := ⟨Q.toNat, by omega⟩
  rcases ruleB_cases hx with h0 | ⟨h0, hmv, ha, ha2, hc, hc2⟩
  · have hl : partLen s x j = s + 1 + j := by unfold partLen; rw [if_pos h0]
    rw [hl] at hn ⊢
    subst hnQ
    exact sec1_none lo ga n bR (g + 1) (g + 1 + 1) g (g + 1 + 1 + 1) bV nS sc s j nQ x SA (.int .i64 S) (.int .i64 nQ) RA b0 W st (hB.ext e) (hsec.ext e) hs hs6 hj (by omega) h0 hn
  · obtain ⟨xa, xb, xc⟩ := x
    dsimp only at hmv ha ha2 hc hc2
    obtain ⟨wa, rfl⟩ : ∃ wa : Nat, xa = wa := ⟨xa.toNat, by omega⟩
    obtain ⟨qa, rfl⟩ : ∃ qa : Nat, xc = qa := ⟨xc.toNat, by omega⟩
    rcases hmv with rfl | rfl
    · have hl : partLen s ⟨(wa : Int), 1, (qa : Int)⟩ j = s + 5 + wa := by unfold partLen; rw [if_neg (by rw [h0]; decide), if_pos rfl]; simp
      rw [hl] at hn ⊢
      exact sec1_right lo ga n bR (g + 1) (g + 1 + 1) g (g + 1 + 1 + 1) bV nS sc s j qa wa _ SA _ _ RA b0 W st (hB.ext e) (hsec.ext e) hs hs6 hj (by omega) h0 rfl (by omega) hn
    · have hl : partLen s ⟨(wa : Int), -1, (qa : Int)⟩ j = s + 1 + wa + leftLen s := by unfold partLen; rw [if_neg (by rw [h0]; decide), if_neg (by dsimp only; omega)]; simp
      rw [hl] at hn ⊢
      exact sec1_left lo ga n bR (g + 1) (g + 1 + 1) g (g + 1 + 1 + 1) bV nS sc s j qa wa _ SA _ _ RA b0 W st (hB.ext e) (hsec.ext e) hs hs6 hj (by omega) h0 rfl (by omega) hn

set_option maxRecDepth 100000 in
set_option maxHeartbeats 4000000 in
theorem section_any (lo ga n s q : Nat) (S Q : Int) (SA : Option Addr) (nS sc b0 br nr cr : Nat) (rs : List R3) (w : World) (h : St lo ga n w) (hsec : SpotsV lo b0 (.slice SA nS sc) nS w) (hbr : br < lo) (hsl : Sl w br 0 (rows R3.vs rs)) (hl : rs.length = nr) (hS : S = s) (hQ : Q + 1 = nS) (hQ0 : 0 ≤ Q) (hs : 1 ≤ s) (hs6 : s ≤ 6) (hq : q * s + s ≤ nr) (hnr : nr ≤ 6000) (hok : ∀ x ∈ rs, ruleB S Q x = true) (hn : n + secLen s rs q ≤ 100000) :
    Calls Try.prog 38 #[.agg #[.int .i64 S, .int .i64 Q, .slice (some ⟨br, 0, none⟩) nr cr], .pointer (some ⟨ga, 0, none⟩), .int .i64 q, .slice SA nS sc] w (Done lo ga (n + secLen s rs q) w) := by
  obtain ⟨w5, HW5, b5, x1, x2, x3, x4, x5⟩ := al5 w (.cells #[.int .i64 S, .int .i64 Q, .slice (some ⟨br, 0, none⟩) nr cr] 34) (.cells #[.pointer (some ⟨ga, 0, none⟩)] 70) (.cells #[.slice SA nS sc] 71) (.cells #[.int .i64 s] 2) (.cells #[] 1)
  have M5 : Hid (MBx w.heap.size ga SA nS sc (.int .i64 S) (.int .i64 Q) (.slice (some ⟨br, 0, none⟩) nr cr) s w5) := ⟨x1, x2, x3, x4⟩
  have T5 : Hid (Ths w.heap.size (.slice (some ⟨w.heap.size + 1 + 1 + 1 + 1, 0, none⟩) 0 0) 0 (secSum s rs q 0) (MT w.heap.size s (ruleAt rs s q)) [] w5) := ⟨rfl, rfl, own_of_block (xs := []) (n := 0) (cap := 0) (s := 1) x5 (by omega) rfl (Nat.le_refl _) (by unfold maxLen; omega), by simp⟩
  have B5 := Lib.hid b5
  have HS := Lib.hid h; have HSEC := Lib.hid hsec; have HSL := Lib.hid hsl; have HL := Lib.hid hl; have HOK := Lib.hid hok; have HQ := Lib.hid hQ
  obtain ⟨e, he⟩ : ∃ e : Nat, e = q * s := ⟨_, rfl⟩
  have w1 : IntKind.i64.wrap ((q : Int) * (s : Int)) = (e : Int) := by
    have h1 : ((q * s : Nat) : Int) = (q : Int) * (s : Int) := by simp
    rw [← h1, he]; exact IntWalk.i64_in _ (by omega)
  rw [← he] at hq
  have HE := Lib.hid he
  have W1 := Lib.hid w1
  have cS : (((w.alloc (.cells #[.int .i64 s, .int .i64 Q, .slice (some ⟨br, 0, none⟩) nr cr] 34)).alloc (.cells #[.pointer (some ⟨ga, 0, none⟩)] 70)).alloc (.cells #[.slice SA nS sc] 71)).cell? ⟨w.heap.size, 0, none⟩ = some (.int .i64 s) := by
    obtain ⟨w3, HW3, b3, y1, -⟩ := al3 w (.cells #[.int .i64 s, .int .i64 Q, .slice (some ⟨br, 0, none⟩) nr cr] 34) (.cells #[.pointer (some ⟨ga, 0, none⟩)] 70) (.cells #[.slice SA nS sc] 71)
    rw [← HW3.out, cell_of_heap y1]; rfl
  subst hS
  have c0 := M5.out.s.cell
  rw [HW5.out] at c0
  clear x1 x2 x3 x4 x5 b5 h hsec hsl hl hok hQ he w1
  go_enter Try.func38, Try.ntmps38
  go_wp2_with fail
  rw [← HW5.out]
  clear c0 cS
  go_loopw [9, 16] (fun cv i wr => ∃ (k : Nat) (A : Option Addr) (c : Nat) (ps : List Pc), k ≤ s ∧ i = .int .i64 k ∧ cv = .slice A k c ∧ Hid (Ths w.heap.size (.slice A k c) k (secSum s rs q k) (MT w.heap.size s (ruleAt rs s q)) ps wr) ∧ Hid (MBx w.heap.size ga SA nS sc (.int .i64 s) (.int .i64 Q) (.slice (some ⟨br, 0, none⟩) nr cr) s wr) ∧ Hid (Below w.heap.size w wr)) (fun _ i _ => s - (intOf i).toNat)
  case atStart => exact ⟨0, _, _, [], Nat.zero_le _, rfl, rfl, T5, M5, B5⟩
  case round =>
    obtain ⟨k, A, c, ps, hk, rfl, rfl, TR, MR, BR⟩ := hrel
    by_cases hlt : k < s
    · obtain ⟨i, hi⟩ : ∃ i : Nat, i = e + k := ⟨_, rfl⟩
      have w2 : IntKind.i64.wrap ((e : Int) + (k : Int)) = (i : Int) := by
        have h1 : ((e + k : Nat) : Int) = (e : Int) + (k : Int) := by simp
        rw [← h1, ← hi]; exact IntWalk.i64_in _ (by omega)
      have hin : i < nr := by omega
      have hiI : (i : Int) < (nr : Int) := by omega
      obtain ⟨x, HX⟩ := hget HL hin
      have HXR : Hid (ruleAt rs s q k = x) := by unfold Hid ruleAt; rw [← HE.out, ← hi, HX.out]; rfl
      have slr := HSL.out.below BR.out (B := w.heap.size) (Nat.lt_of_lt_of_le hbr HS.out.lo1)
      obtain ⟨p0, p1, p2⟩ := (slr.below' (laid_below wr (.cells #[.int .i64 k] 2))).rec3 HX.out
      simp only [Nat.zero_add] at p0 p1 p2
      have m2 : (wr.alloc (.cells #[.int .i64 k] 2)).cell? ⟨w.heap.size, 2, none⟩ = some (.slice (some ⟨br, 0, none⟩) nr cr) := by rw [cell_of_heap (MR.out.below (laid_below _ _)).m]; rfl
      have m3 := ((MR.out.below (laid_below wr (.cells #[.int .i64 k] 2))).s).cell
      have w1 := W1.out
      obtain ⟨w8, HW8, b8, x8, y8, z8, -⟩ := al3 wr (.cells #[.int .i64 k] 2) (.cells #[.int .i64 x.a, .int .i64 x.b, .int .i64 x.c] 59) (.cells #[.func (.func 52) #[] #[.pointer (some ⟨wr.heap.size + 1, 0, none⟩), .pointer (some ⟨w.heap.size + 1, 0, none⟩), .pointer (some ⟨w.heap.size + 1 + 1, 0, none⟩), .pointer (some ⟨w.heap.size, 0, none⟩), .pointer (some ⟨w.heap.size + 1 + 1 + 1, 0, none⟩), .pointer (some ⟨wr.heap.size, 0, none⟩)]] 1)
      have T8 := Lib.hid (TR.out.below b8 (fun j p h => h.below b8))
      have M8 := Lib.hid (MR.out.below b8)
      have B8 := Lib.hid (BR.out.trans (b8.mono BR.out.size))
      have OW8 := T8.out.own
      have src8 : Src 1 w8 (.slice (some ⟨wr.heap.size + 1 + 1, 0, none⟩) 1 1) 1 [.func (.func 52) #[] #[.pointer (some ⟨wr.heap.size + 1, 0, none⟩), .pointer (some ⟨w.heap.size + 1, 0, none⟩), .pointer (some ⟨w.heap.size + 1 + 1, 0, none⟩), .pointer (some ⟨w.heap.size, 0, none⟩), .pointer (some ⟨w.heap.size + 1 + 1 + 1, 0, none⟩), .pointer (some ⟨wr.heap.size, 0, none⟩)]] := Src.of_sl (sl_block z8) rfl
      have X8 := Lib.hid x8
      have Y8 : Hid (w8.heap[wr.heap.size + 1]? = some (.cells #[.int .i64 (ruleAt rs s q k).a, .int .i64 (ruleAt rs s q k).b, .int .i64 (ruleAt rs s q k).c] 59 (0, 0))) := by unfold Hid; rw [HXR.out]; exact y8
      have hbs : w.heap.size ≤ w8.heap.size := B8.out.size
      have HI := Lib.hid hi
      clear x8 y8 z8 b8 slr hi hin
      go_wp2_with (at_builtin; rw [← HW8.out]; refine wpList_appx rfl _ _ _ rfl Try.underlying83 infoFuncA rfl (by omega) w.heap.size OW8 hbs rfl src8 rfl (by simp [Value.oneCell']) (by unfold maxLen; omega) (by omega) ?_; intro v9 w9 own9 hg9 hnil9; clear hnil9; have T9 := Lib.hid (T8.out.push (p := ⟨52, fvSec w.heap.size (wr.heap.size + 1) wr.heap.size, partLen s (ruleAt rs s q k) k⟩) own9 (fun j p h => h.grown T8.out.own hg9) ⟨_, _, rfl, grown_keep hg9 X8.out (own_ne_block T8.out.own X8.out (by decide)), grown_keep hg9 Y8.out (own_ne_block T8.out.own Y8.out (by decide))⟩); have M9 := Lib.hid (M8.out.grown T8.out.own hg9); have B9 := Lib.hid (B8.out.grown hg9 hbs (fun q hq => (T8.out.own.lt q hq).1)); obtain ⟨A9, c9, rfl⟩ := own_form own9; clear own9 hg9 src8 OW8 hbs p0 p1 p2 m2 m3 w1 w2 hiI)
      go_roundw
      case rel => exact ⟨k + 1, _, _, _, by omega, by go_num, rfl, T9, M9, B9⟩
      case measure => simp [intOf]; omega
    · obtain rfl : s = k := by omega
      have c1 : wr.cell? ⟨w.heap.size + 1, 0, none⟩ = some (.pointer (some ⟨ga, 0, none⟩)) := by rw [cell_of_heap MR.out.a]; rfl
      have TV : Hid (ThunksV lo ga (.slice A s c) s (secSum s rs q s) wr) := by
        refine ⟨ps, TR.out.len, TR.out.sum, ⟨_, TR.out.own⟩, ?_, ?_⟩
        · rintro u hu ⟨V, P, hv, hp⟩
          obtain ⟨V2, P2, cs2, ps2, hs2⟩ := HS.out
          rw [BR.out.block _ hs2.lt, hs2.var] at hv
          simp only [Option.some.injEq, Obj.cells.injEq, Array.mk.injEq, List.cons.injEq, and_true] at hv
          rw [← hv.2] at hp
          have h1 := (TR.out.own.lt u hu).1
          have h2 := (hs2.pats.lt u hp).2
          omega
        · intro p hp
          obtain ⟨j, hj⟩ := List.mem_iff_getElem?.1 hp
          obtain ⟨bR, bV, rfl, hbv, hbr2⟩ := TR.out.all j p hj
          have hjs : j < s := by have := (List.getElem?_eq_some_iff.1 hj).1; have := TR.out.len; omega
          have hin : e + j < nr := by omega
          obtain ⟨x, HX⟩ := hget HL hin
          have HXR : ruleAt rs s q j = x := by unfold ruleAt; rw [← HE.out, HX.out]; rfl
          exact secThunk lo ga w.heap.size bR bV nS sc s q j _ SA _ _ _ b0 wr (Nat.le_trans HS.out.lo1 BR.out.size) (Nat.lt_of_lt_of_le HS.out.lt BR.out.size) rfl HQ.out hQ0 MR.out hbv hbr2 (HSEC.out.ext (Ext.of_below HS.out.lt HS.out.lo1 BR.out)) hs hs6 (by omega) (by rw [HXR]; exact HOK.out x (List.mem_of_getElem? HX.out))
      have SR := Lib.hid (HS.out.below BR.out)
      go_wp2_with fail
      refine (split_any lo ga n s (secSum s rs q s) 1 2 _ wr SR.out TV.out hn (by omega)).mono ?_
      rintro e w7 ⟨rfl, s7, x7⟩
      have S7 := Lib.hid s7
      have E7 := Lib.hid ((Ext.of_below HS.out.lt HS.out.lo1 BR.out).trans x7)
      clear s7 x7 c1
      go_wp2
      go_end0
      exact ⟨rfl, S7.out, E7.out⟩

set_option maxRecDepth 100000 in
theorem section1_any (lo ga n s q bm : Nat) (S Q : Int) (SA : Option Addr) (nS sc b0 br nr cr : Nat) (rs : List R3) (w : World) (h : St lo ga n w) (hsec : SpotsV lo b0 (.slice SA nS sc) nS w) (hbr : br < lo) (hsl : Sl w br 0 (rows R3.vs rs)) (hl : rs.length = nr) (hS : S = s) (hQ : Q + 1 = nS) (hQ0 : 0 ≤ Q) (hs : 1 ≤ s) (hs6 : s ≤ 6) (hq : q * s + s ≤ nr) (hnr : nr ≤ 6000) (hok : ∀ x ∈ rs, ruleB S Q x = true) (hn : n + secLen s rs q ≤ 100000)
    (hm : w.heap[bm]? = some (.cells #[.int .i64 S, .int .i64 Q, .slice (some ⟨br, 0, none⟩) nr cr] 34 (0, 0))) :
    Calls Try.prog 37 #[.pointer (some ⟨ga, 0, none⟩), .int .i64 q, .slice SA nS sc, .pointer (some ⟨bm, 0, none⟩)] w (Done lo ga (n + secLen s rs q) w) := by
  have m0 : w.cell? ⟨bm, 0, none⟩ = some (.int .i64 S) := by rw [cell_of_heap hm]; rfl
  have m1 : w.cell? ⟨bm, 1, none⟩ = some (.int .i64 Q) := by rw [cell_of_heap hm]; rfl
  have m2 : w.cell? ⟨bm, 2, none⟩ = some (.slice (some ⟨br, 0, none⟩) nr cr) := by rw [cell_of_heap hm]; rfl
  have HC := Lib.hid (section_any lo ga n s q S Q SA nS sc b0 br nr cr rs w h hsec hbr hsl hl hS hQ hQ0 hs hs6 hq hnr hok hn)
  clear h hsec hsl hl hS hQ hok hm hq
  go_enter Try.func37, Try.ntmps37
  go_wp2_with fail
  refine HC.out.mono ?_
  rintro e w7 ⟨rfl, s7, x7⟩
  have S7 := Lib.hid s7; have E7 := Lib.hid x7
  clear s7 x7
  go_wp2
  go_end0
  exact ⟨rfl, S7.out, E7.out⟩
end Go.Proofs.Ytdnkkmmkkfbhhaa

/- The cost of a step: stepCost. -/
namespace Go.Proofs.Ytdnkkmmkkfbhhaa
open Go.RowKit
set_option linter.all false

/-- The cost of a step at numbers l and r. -/
def costM (s : Nat) (x : R3) (l r : Nat) : Nat :=
  if noR x then (s + 1) * (r / s) + r % s + 1 + (s + 1) * (r / s) + 1 + r % s
  else if x.b = 1 then (s + 1) * (r / s) + r % s + 1 + 2 * (r / s) + 1 + (s + 1) * l + 1 + 2 * s * l + 1 + x.a.toNat
  else (s + 1) * (r / s) + r % s + 1 + (s + 1) * (r / s) + 1 + x.a.toNat + (s + 1) * (l / s) + l % s + 1 + 2 * (l / s) + 1 + (s + 1) * ((r / s) * s + x.a.toNat) + 1 + 2 * s * ((r / s) * s + x.a.toNat) + 1 + l % s

/-- The boxes of a machine and a configuration. -/
structure MCx (gm gc s Q br nr cr q : Nat) (A1 : Option Addr) (n1 c1 : Nat) (A2 : Option Addr) (n2 c2 : Nat) (W : World) : Prop where
  m0 : W.cell? ⟨gm, 0, none⟩ = some (.int .i64 s)
  m1 : W.cell? ⟨gm, 1, none⟩ = some (.int .i64 Q)
  m2 : W.cell? ⟨gm, 2, none⟩ = some (.slice (some ⟨br, 0, none⟩) nr cr)
  k0 : W.cell? ⟨gc, 0, none⟩ = some (.int .i64 q)
  k1 : W.cell? ⟨gc, 1, none⟩ = some (.slice A1 n1 c1)
  k2 : W.cell? ⟨gc, 2, none⟩ = some (.slice A2 n2 c2)

theorem MCx.below {gm gc s Q br nr cr q : Nat} {A1 : Option Addr} {n1 c1 : Nat} {A2 : Option Addr} {n2 c2 : Nat} {W W' : World} (h : MCx gm gc s Q br nr cr q A1 n1 c1 A2 n2 c2 W) (hb : Below W.heap.size W W') : MCx gm gc s Q br nr cr q A1 n1 c1 A2 n2 c2 W' :=
  ⟨cell_step h.m0 hb, cell_step h.m1 hb, cell_step h.m2 hb, cell_step h.k0 hb, cell_step h.k1 hb, cell_step h.k2 hb⟩

theorem ret2_int {a b : Int} {v : Value} (h : a = b) : Ending.returned (.tuple #[.int .i64 a, v]) = .returned (.tuple #[.int .i64 b, v]) := by rw [h]
def CostPost (Z C : Int) (w : World) (e : Ending) (w' : World) : Prop := e = .returned (.tuple #[.int .i64 Z, .int .i64 C]) ∧ Below w.heap.size w w'

set_option maxRecDepth 100000 in
set_option maxHeartbeats 4000000 in
theorem stepCost_full (s Q br nr cr q : Nat) (A1 : Option Addr) (n1 c1 : Nat) (A2 : Option Addr) (n2 c2 : Nat) (l r : List Int) (w : World) (ha1 : Arg w A1 n1 (l.map (Value.int .i64))) (ha2 : Arg w A2 n2 (r.map (Value.int .i64))) (hn1 : n1 ≤ 1048576) (hn2 : n2 ≤ 1048576) (hs : 1 ≤ s) (hs6 : s ≤ 6) (hd1 : Digs s l) (hd2 : Digs s r) (hno : tapeN s l = none ∨ tapeN s r = none) :
    Calls Try.prog 23 #[.agg #[.int .i64 s, .int .i64 Q, .slice (some ⟨br, 0, none⟩) nr cr], .agg #[.int .i64 q, .slice A1 n1 c1, .slice A2 n2 c2]] w (CostPost 0 5 w) := by
  obtain ⟨w2, HW2, b2, x1, x2⟩ := al2 w (.cells #[.int .i64 s, .int .i64 Q, .slice (some ⟨br, 0, none⟩) nr cr] 34) (.cells #[.int .i64 q, .slice A1 n1 c1, .slice A2 n2 c2] 36)
  have m0 : w2.cell? ⟨w.heap.size, 0, none⟩ = some (.int .i64 s) := by rw [cell_of_heap x1]; rfl
  have k1 : w2.cell? ⟨w.heap.size + 1, 1, none⟩ = some (.slice A1 n1 c1) := by rw [cell_of_heap x2]; rfl
  have k2 : w2.cell? ⟨w.heap.size + 1, 2, none⟩ = some (.slice A2 n2 c2) := by rw [cell_of_heap x2]; rfl
  have HA1 := Lib.hid (ha1.below b2); have HA2 := Lib.hid (ha2.below b2); have HB := Lib.hid b2
  have HT1 := Lib.hid (tapeNumber_any s n1 c1 A1 l w2 HA1.out hn1 hs hs6 hd1)
  have HT2 := Lib.hid (tapeNumber_any s n2 c2 A2 r w2 HA2.out hn2 hs hs6 hd2)
  obtain ⟨o1, ho1⟩ : ∃ o, tapeN s l = o := ⟨_, rfl⟩
  obtain ⟨o2, ho2⟩ : ∃ o, tapeN s r = o := ⟨_, rfl⟩
  rw [ho1] at HT1 hno
  rw [ho2] at HT2 hno
  clear ho1 ho2 ha1 ha2 x1 x2 b2
  rw [HW2.out] at m0 k1 k2
  cases o1 with
  | none =>
    go_enter Try.func23, Try.ntmps23
    go_wp2_with fail
    rw [← HW2.out] at m0 k1 k2 ⊢
    refine HT1.out.mono ?_
    rintro e w' ⟨rfl, rfl⟩
    go_wp2_with fail
    refine HT2.out.mono ?_
    rintro e w' ⟨rfl, rfl⟩
    have e1 : fullOf none = 5 := rfl
    rw [e1]
    go_wp2
    go_ret2
    exact ⟨rfl, HB.out⟩
  | some o1 =>
    obtain rfl : o2 = none := by rcases hno with h | h; cases h; exact h
    go_enter Try.func23, Try.ntmps23
    go_wp2_with fail
    rw [← HW2.out] at m0 k1 k2 ⊢
    refine HT1.out.mono ?_
    rintro e w' ⟨rfl, rfl⟩
    go_wp2_with fail
    refine HT2.out.mono ?_
    rintro e w' ⟨rfl, rfl⟩
    have e1 : fullOf none = 5 := rfl
    have e2 : fullOf (some o1) = 0 := rfl
    rw [e1, e2]
    go_wp2
    go_ret2
    exact ⟨rfl, HB.out⟩

set_option maxRecDepth 100000 in
set_option maxHeartbeats 8000000 in
theorem stepCost_good (s Q br nr cr q : Nat) (rs : List R3) (x : R3) (A1 : Option Addr) (n1 c1 : Nat) (A2 : Option Addr) (n2 c2 : Nat) (ll rr : List Int) (l r : Nat) (w : World) (ha1 : Arg w A1 n1 (ll.map (Value.int .i64))) (ha2 : Arg w A2 n2 (rr.map (Value.int .i64))) (hn1 : n1 ≤ 1048576) (hn2 : n2 ≤ 1048576) (hs : 1 ≤ s) (hs6 : s ≤ 6) (hd1 : Digs s ll) (hd2 : Digs s rr) (h1 : tapeN s ll = some l) (h2 : tapeN s rr = some r)
    (hsl : Sl w br 0 (rows R3.vs rs)) (hnr : nr ≤ 6000) (hlr : rs.length = nr) (hq : q ≤ 1000) (hx : rs[q * s + r % s]? = some x) (hrule : ruleB s Q x = true) :
    Calls Try.prog 23 #[.agg #[.int .i64 s, .int .i64 Q, .slice (some ⟨br, 0, none⟩) nr cr], .agg #[.int .i64 q, .slice A1 n1 c1, .slice A2 n2 c2]] w (CostPost (costM s x l r : Nat) 0 w) := by
  have hl : l ≤ 1000000 := tapeN_le h1
  have hr : r ≤ 1000000 := tapeN_le h2
  obtain ⟨w2, HW2, b2, x1, x2⟩ := al2 w (.cells #[.int .i64 s, .int .i64 Q, .slice (some ⟨br, 0, none⟩) nr cr] 34) (.cells #[.int .i64 q, .slice A1 n1 c1, .slice A2 n2 c2] 36)
  have m0 : w2.cell? ⟨w.heap.size, 0, none⟩ = some (.int .i64 s) := by rw [cell_of_heap x1]; rfl
  have m2 : w2.cell? ⟨w.heap.size, 2, none⟩ = some (.slice (some ⟨br, 0, none⟩) nr cr) := by rw [cell_of_heap x1]; rfl
  have k0 : w2.cell? ⟨w.heap.size + 1, 0, none⟩ = some (.int .i64 q) := by rw [cell_of_heap x2]; rfl
  have k1 : w2.cell? ⟨w.heap.size + 1, 1, none⟩ = some (.slice A1 n1 c1) := by rw [cell_of_heap x2]; rfl
  have k2 : w2.cell? ⟨w.heap.size + 1, 2, none⟩ = some (.slice A2 n2 c2) := by rw [cell_of_heap x2]; rfl
  have HA1 := Lib.hid (ha1.below b2); have HA2 := Lib.hid (ha2.below b2); have HB := Lib.hid b2
  have t1 := tapeNumber_any s n1 c1 A1 ll w2 HA1.out hn1 hs hs6 hd1
  have t2 := tapeNumber_any s n2 c2 A2 rr w2 HA2.out hn2 hs hs6 hd2
  rw [h1] at t1
  rw [h2] at t2
  have HT1 : Hid (Calls Try.prog 39 #[.slice A1 n1 c1, .int .i64 s] w2 fun e w' => e = .returned (.tuple #[.int .i64 (l : Int), .int .i64 0]) ∧ w2 = w') := t1
  have HT2 : Hid (Calls Try.prog 39 #[.slice A2 n2 c2, .int .i64 s] w2 fun e w' => e = .returned (.tuple #[.int .i64 (r : Int), .int .i64 0]) ∧ w2 = w') := t2
  have HSL := Lib.hid (hsl.below' b2)
  clear ha1 ha2 x1 x2 b2 t1 t2 h1 h2 hsl hd1 hd2
  obtain ⟨k, hk⟩ : ∃ k : Nat, k = r / s := ⟨_, rfl⟩
  obtain ⟨v, hv⟩ : ∃ v : Nat, v = r % s := ⟨_, rfl⟩
  obtain ⟨j, hj⟩ : ∃ j : Nat, j = l / s := ⟨_, rfl⟩
  obtain ⟨y, hy⟩ : ∃ y : Nat, y = l % s := ⟨_, rfl⟩
  have bk : k ≤ 1000000 := by rw [hk]; exact Nat.le_trans (Nat.div_le_self _ _) hr
  have bj : j ≤ 1000000 := by rw [hj]; exact Nat.le_trans (Nat.div_le_self _ _) hl
  have bv : v < s := by rw [hv]; exact Nat.mod_lt _ hs
  have by_ : y < s := by rw [hy]; exact Nat.mod_lt _ hs
  have q1 : (r : Int).tdiv (s : Int) = (k : Int) := by rw [hk]; rfl
  have q2 : (r : Int).tmod (s : Int) = (v : Int) := by rw [hv]; rfl
  have q3 : (l : Int).tdiv (s : Int) = (j : Int) := by rw [hj]; rfl
  have q4 : (l : Int).tmod (s : Int) = (y : Int) := by rw [hy]; rfl
  have q5 : (r : Int) / (s : Int) = (k : Int) := by rw [hk]; rfl
  have q6 : (r : Int) % (s : Int) = (v : Int) := by rw [hv]; rfl
  have q7 : (l : Int) / (s : Int) = (j : Int) := by rw [hj]; rfl
  have q8 : (l : Int) % (s : Int) = (y : Int) := by rw [hy]; rfl
  rw [← hv] at hx
  obtain ⟨xa, xb, xc⟩ := x
  obtain ⟨wa, hwa, hwa6, hsh⟩ : ∃ wa : Nat, wa = xa.toNat ∧ wa ≤ 5 ∧ (noR ⟨xa, xb, xc⟩ = false → xa = wa ∧ (xb = 1 ∨ xb = -1)) := by
    rcases ruleB_cases hrule with h0 | ⟨h0, hm, ha, ha2, hc, hc2⟩
    · refine ⟨xa.toNat, rfl, ?_, fun h => by rw [h0] at h; cases h⟩
      have : xa = 0 := by unfold noR at h0; simp only [Bool.and_eq_true, decide_eq_true_eq] at h0; exact h0.1.1
      rw [this]; simp
    · dsimp only at hm ha ha2
      exact ⟨xa.toNat, rfl, by omega, fun _ => ⟨by omega, hm⟩⟩
  obtain ⟨a, ha⟩ : ∃ a : Nat, a = (s + 1) * k := ⟨_, rfl⟩
  have ba : a ≤ 7000000 := by rw [ha]; exact Nat.le_trans (Nat.mul_le_mul (show (s + 1) ≤ 7 by omega) (show k ≤ 1000000 by omega)) (by omega)
  have u_a : IntKind.i64.wrap (((s : Int) + 1) * (k : Int)) = (a : Int) := by
    have h1 : (((s + 1) * k : Nat) : Int) = ((s : Int) + 1) * (k : Int) := by simp
    rw [← h1, ← ha]; exact IntWalk.i64_in _ (by omega)
  obtain ⟨b, hb⟩ : ∃ b : Nat, b = (s + 1) * l := ⟨_, rfl⟩
  have bb : b ≤ 7000000 := by rw [hb]; exact Nat.le_trans (Nat.mul_le_mul (show (s + 1) ≤ 7 by omega) (show l ≤ 1000000 by omega)) (by omega)
  have u_b : IntKind.i64.wrap (((s : Int) + 1) * (l : Int)) = (b : Int) := by
    have h1 : (((s + 1) * l : Nat) : Int) = ((s : Int) + 1) * (l : Int) := by simp
    rw [← h1, ← hb]; exact IntWalk.i64_in _ (by omega)
  obtain ⟨c, hc⟩ : ∃ c : Nat, c = (2 * s) * l := ⟨_, rfl⟩
  have bc : c ≤ 12000000 := by rw [hc]; exact Nat.le_trans (Nat.mul_le_mul (show (2 * s) ≤ 12 by omega) (show l ≤ 1000000 by omega)) (by omega)
  have u_c : IntKind.i64.wrap ((2 * (s : Int)) * (l : Int)) = (c : Int) := by
    have h1 : (((2 * s) * l : Nat) : Int) = (2 * (s : Int)) * (l : Int) := by simp
    rw [← h1, ← hc]; exact IntWalk.i64_in _ (by omega)
  obtain ⟨d, hd⟩ : ∃ d : Nat, d = (s + 1) * j := ⟨_, rfl⟩
  have bd : d ≤ 7000000 := by rw [hd]; exact Nat.le_trans (Nat.mul_le_mul (show (s + 1) ≤ 7 by omega) (show j ≤ 1000000 by omega)) (by omega)
  have u_d : IntKind.i64.wrap (((s : Int) + 1) * (j : Int)) = (d : Int) := by
    have h1 : (((s + 1) * j : Nat) : Int) = ((s : Int) + 1) * (j : Int) := by simp
    rw [← h1, ← hd]; exact IntWalk.i64_in _ (by omega)
  obtain ⟨z, hz⟩ : ∃ z : Nat, z = k * s := ⟨_, rfl⟩
  have bz : z ≤ 6000000 := by rw [hz]; exact Nat.le_trans (Nat.mul_le_mul (show k ≤ 1000000 by omega) (show s ≤ 6 by omega)) (by omega)
  have u_z : IntKind.i64.wrap ((k : Int) * (s : Int)) = (z : Int) := by
    have h1 : ((k * s : Nat) : Int) = (k : Int) * (s : Int) := by simp
    rw [← h1, ← hz]; exact IntWalk.i64_in _ (by omega)
  obtain ⟨n, hn⟩ : ∃ n : Nat, n = z + wa := ⟨_, rfl⟩
  have wn : IntKind.i64.wrap ((z : Int) + (wa : Int)) = (n : Int) := by
    have h1 : ((z + wa : Nat) : Int) = (z : Int) + (wa : Int) := by simp
    rw [← h1, ← hn]; exact IntWalk.i64_in _ (by omega)
  obtain ⟨e, he⟩ : ∃ e : Nat, e = (s + 1) * n := ⟨_, rfl⟩
  have be : e ≤ 42000070 := by rw [he]; exact Nat.le_trans (Nat.mul_le_mul (show (s + 1) ≤ 7 by omega) (show n ≤ 6000010 by omega)) (by omega)
  have u_e : IntKind.i64.wrap (((s : Int) + 1) * (n : Int)) = (e : Int) := by
    have h1 : (((s + 1) * n : Nat) : Int) = ((s : Int) + 1) * (n : Int) := by simp
    rw [← h1, ← he]; exact IntWalk.i64_in _ (by omega)
  obtain ⟨f, hf⟩ : ∃ f : Nat, f = (2 * s) * n := ⟨_, rfl⟩
  have bf : f ≤ 72000120 := by rw [hf]; exact Nat.le_trans (Nat.mul_le_mul (show (2 * s) ≤ 12 by omega) (show n ≤ 6000010 by omega)) (by omega)
  have u_f : IntKind.i64.wrap ((2 * (s : Int)) * (n : Int)) = (f : Int) := by
    have h1 : (((2 * s) * n : Nat) : Int) = (2 * (s : Int)) * (n : Int) := by simp
    rw [← h1, ← hf]; exact IntWalk.i64_in _ (by omega)
  obtain ⟨g, hg⟩ : ∃ g : Nat, g = q * s := ⟨_, rfl⟩
  have bg : g ≤ 6000 := by rw [hg]; exact Nat.le_trans (Nat.mul_le_mul (show q ≤ 1000 by omega) (show s ≤ 6 by omega)) (by omega)
  have u_g : IntKind.i64.wrap ((q : Int) * (s : Int)) = (g : Int) := by
    have h1 : ((q * s : Nat) : Int) = (q : Int) * (s : Int) := by simp
    rw [← h1, ← hg]; exact IntWalk.i64_in _ (by omega)
  obtain ⟨i, hi⟩ : ∃ i : Nat, i = g + v := ⟨_, rfl⟩
  have wi : IntKind.i64.wrap ((g : Int) + (v : Int)) = (i : Int) := by
    have h1 : ((g + v : Nat) : Int) = (g : Int) + (v : Int) := by simp
    rw [← h1, ← hi]; exact IntWalk.i64_in _ (by omega)
  rw [← hg, ← hi] at hx
  have hin : i < nr := by have := (List.getElem?_eq_some_iff.1 hx).1; omega
  have hiI : (i : Int) < (nr : Int) := by omega
  obtain ⟨p0, p1, p2⟩ := HSL.out.rec3 hx
  simp only [Nat.zero_add] at p0 p1 p2
  have HC : Hid (costM s ⟨xa, xb, xc⟩ l r = if noR ⟨xa, xb, xc⟩ then a + v + 1 + a + 1 + v else if xb = 1 then a + v + 1 + 2 * k + 1 + b + 1 + c + 1 + wa else a + v + 1 + a + 1 + wa + d + y + 1 + 2 * j + 1 + e + 1 + f + 1 + y) := by
    unfold Hid costM
    rw [← hk, ← hv, ← hj, ← hy, ← hwa, ← hz, ← hn, ← ha, ← hb, ← hc, ← hd, ← he, ← hf]
  obtain ⟨nb, hnb⟩ : ∃ nb, (!noR ⟨xa, xb, xc⟩) = nb := ⟨_, rfl⟩
  have HNB := Lib.hid hnb; have HSH := Lib.hid hsh
  clear hnb hsh
  have hs0 : ¬ (s : Int) = 0 := by omega
  have hs1 : ((s : Int) == 0) = false := by simp; omega
  have hs2 : ¬ s = 0 := by omega
  have hs3 : (s == 0) = false := by simp; omega
  have W1 : IntKind.i64.wrap (k : Int) = (k : Int) := IntWalk.i64_in _ (by omega)
  have W2 : IntKind.i64.wrap (v : Int) = (v : Int) := IntWalk.i64_in _ (by omega)
  have W3 : IntKind.i64.wrap (j : Int) = (j : Int) := IntWalk.i64_in _ (by omega)
  have W4 : IntKind.i64.wrap (y : Int) = (y : Int) := IntWalk.i64_in _ (by omega)
  have HLR := Lib.hid hlr; clear hlr
  obtain ⟨w3, HW3, b3, x3⟩ := al1 w2 (.cells #[.int .i64 xa, .int .i64 xb, .int .i64 xc] 59)
  have r0 : w3.cell? ⟨w2.heap.size, 0, none⟩ = some (.int .i64 xa) := by rw [cell_of_heap x3]; rfl
  have r1 : w3.cell? ⟨w2.heap.size, 1, none⟩ = some (.int .i64 xb) := by rw [cell_of_heap x3]; rfl
  have r2 : w3.cell? ⟨w2.heap.size, 2, none⟩ = some (.int .i64 xc) := by rw [cell_of_heap x3]; rfl
  have HB3 := Lib.hid (below_step HB.out b3)
  clear hk hv hj hy hx hrule hwa hz hn ha hb hc hd he hf hg hi x3 b3
  rw [HW2.out] at m0 k1
  go_enter Try.func23, Try.ntmps23
  go_wp2_with fail
  rw [← HW2.out] at m0 k1 ⊢
  refine HT1.out.mono ?_
  rintro e w' ⟨rfl, rfl⟩
  go_wp2_with fail
  refine HT2.out.mono ?_
  rintro e w' ⟨rfl, rfl⟩
  go_wp2_with fail
  go_region_held3 (fun _ => True) (trivial) (fail)
  go_wp2_with fail
  rw [← HW3.out]
  refine (isRule_is ⟨xa, xb, xc⟩ nb HNB.out _).mono ?_
  rintro e9 w4 ⟨rfl, b4'⟩
  have b4 := below_drew_at b4'
  replace r0 := cell_step r0 b4; replace r1 := cell_step r1 b4; replace r2 := cell_step r2 b4
  have HB4 := Lib.hid (below_step HB3.out b4)
  clear b4 b4' m0 m2 k0 k1 k2 p0 p1 p2 q1 q2 q5 q6 W1 W2
  cases nb with
  | false =>
    have hc := HC.out
    rw [if_pos (by have := HNB.out; simpa using this)] at hc
    have HCC := Lib.hid hc
    clear hc HC
    go_wp2
    go_ret2
    exact ⟨ret2_int (by rw [HCC.out]; omega), HB4.out⟩
  | true =>
    have hno : noR ⟨xa, xb, xc⟩ = false := by have := HNB.out; simpa using this
    obtain ⟨rfl, hm⟩ := HSH.out hno
    have hc := HC.out
    rw [if_neg (by rw [hno]; decide)] at hc
    clear hno
    rcases hm with rfl | rfl
    · rw [if_pos rfl] at hc
      have HCC := Lib.hid hc
      clear hc HC
      go_wp2
      go_ret2
      exact ⟨ret2_int (by rw [HCC.out]; omega), HB4.out⟩
    · rw [if_neg (by omega)] at hc
      have HCC := Lib.hid hc
      clear hc HC
      go_wp2_with fail
      go_region_held3 (fun W => W.cell? ⟨w2.heap.size, 0, none⟩ = some (.int .i64 (wa : Int))) (first | go_keep | exact r0) (fail)
      all_goals
        go_wp2
        go_ret2
        exact ⟨ret2_int (by rw [HCC.out]; omega), HB4.out.drew⟩
end Go.Proofs.Ytdnkkmmkkfbhhaa

/- The reference's pieces: l14Size, l14Length, l14Add, l14Head. -/
namespace Go.Proofs.Ytdnkkmmkkfbhhaa
open Go.RowKit
set_option linter.all false

theorem infoLp : (Try.prog.info? 116).map (fun i => (i.zero, i.size, i.bytes)) = some (some (Value.agg #[.int .i64 0, .int .i64 0, .int .i64 0]), 3, 24) := by kernel_rfl
def lpSum (xs : List R3) : Nat := (xs.map fun x => x.c.toNat + 1).sum
theorem lpSum_app (a b : List R3) : lpSum (a ++ b) = lpSum a + lpSum b := by simp [lpSum]
theorem lpSum_take {xs : List R3} {k : Nat} {x : R3} (h : xs[k]? = some x) : lpSum (xs.take (k + 1)) = lpSum (xs.take k) + (x.c.toNat + 1) := by
  simp [lpSum, List.take_add_one, h]
theorem lpSum_le (xs : List R3) (k : Nat) : lpSum (xs.take k) ≤ lpSum xs := by
  have h : lpSum xs = lpSum (xs.take k) + lpSum (xs.drop k) := by rw [← lpSum_app, List.take_append_drop]
  omega
/-- A list of pieces in memory, of altogether L instructions. -/
structure LP (w : World) (b : Nat) (v : Value) (n L : Nat) (xs : List R3) : Prop where
  len : xs.length = n
  own : w.ownsRow b 116 3 v n (rows R3.vs xs)
  by0 : ∀ x ∈ xs, 0 ≤ x.c ∧ x.c ≤ 6
  sum : lpSum xs = L
theorem LP.below {w w' : World} {b n L : Nat} {v : Value} {xs : List R3} (h : LP w b v n L xs) (hb : Below w.heap.size w w') : LP w' b v n L xs := ⟨h.len, own_below' h.own hb, h.by0, h.sum⟩
theorem one_R3 (xs : List R3) : ∀ u ∈ rows R3.vs xs, u.oneCell' = true := by
  intro u hu
  simp only [rows, List.mem_flatMap, R3.vs] at hu
  obtain ⟨x, _, hu⟩ := hu
  simp at hu
  rcases hu with rfl | rfl | rfl <;> rfl

set_option maxRecDepth 100000 in
theorem l14Size_any (g o : Nat) (x : Int) (w : World) (h : w.cell? ⟨g, o + 2, none⟩ = some (.int .i64 x)) (hx : 0 ≤ x ∧ x ≤ 6) :
    Calls Try.prog 72 #[.pointer (some ⟨g, o, none⟩)] w fun e w' => e = .returned (.int .i64 (x + 1)) ∧ w = w' := by
  go_enter Try.func72, Try.ntmps72
  go_wp2
  go_ret
  exact ⟨rfl, rfl⟩

set_option maxRecDepth 100000 in
set_option maxHeartbeats 1000000 in
theorem l14Length_any (b n L c : Nat) (A : Option Addr) (xs : List R3) (w : World) (h : LP w b (.slice A n c) n L xs) (hn : n ≤ 1000) :
    Calls Try.prog 59 #[.slice A n c] w fun e w' => e = .returned (.int .i64 L) ∧ w = w' := by
  have HL := Lib.hid h.len
  have H := Lib.hid h
  have HB : Hid (∀ k, k ≤ n → lpSum (xs.take k) ≤ 7 * k) := by
    intro k
    induction k with
    | zero => intro _; simp [lpSum]
    | succ k ih =>
      intro hk
      obtain ⟨x, HX⟩ := hget HL (show k < n by omega)
      rw [lpSum_take HX.out]
      have := ih (by omega)
      have := h.by0 x (List.mem_of_getElem? HX.out)
      omega
  clear h
  go_enter Try.func59, Try.ntmps59
  go_wp2
  go_loopw [3, 4] (fun s i wr => ∃ (k m : Nat), k ≤ n ∧ i = .int .i64 k ∧ s = .int .i64 m ∧ Hid (m = lpSum (xs.take k)) ∧ w = wr) (fun _ i _ => n - (intOf i).toNat)
  case atStart => exact ⟨0, 0, Nat.zero_le _, rfl, rfl, rfl, rfl⟩
  case round =>
    obtain ⟨k, m, hk, rfl, rfl, HM, rfl⟩ := hrel
    by_cases hlt : k < n
    · obtain ⟨x, HX⟩ := hget HL hlt
      obtain ⟨g, rfl, _, _⟩ := own_addr0 H.out.own (by omega)
      obtain ⟨p0, p1, p2⟩ := (sl_of_own H.out.own).rec3 HX.out
      simp only [Nat.zero_add] at p0 p1 p2
      have hx := H.out.by0 x (List.mem_of_getElem? HX.out)
      have hm : m ≤ 7000 := by have h1 := HB.out k hk; have h2 := HM.out; omega
      have HX0 := Lib.hid hx
      clear p0 p1
      go_wp2_with fail
      refine (l14Size_any g (k * 3) x.c _ p2 HX0.out).mono ?_
      rintro e w' ⟨rfl, rfl⟩
      clear hx
      obtain ⟨y, hy⟩ : ∃ y : Nat, x.c = y := ⟨x.c.toNat, by have := HX0.out; omega⟩
      rw [hy]
      have hy6 : y ≤ 6 := by have := HX0.out; omega
      have HY := Lib.hid hy
      clear hy
      go_wp2
      go_roundw
      case rel => exact ⟨k + 1, m + (y + 1), by omega, by go_num, by go_num, by have h1 := lpSum_take HX.out; have h2 := HM.out; have h3 := HY.out; unfold Hid; rw [h1, h3, h2]; rfl, trivial⟩
      case measure => simp [intOf]; omega
    · obtain rfl : n = k := by omega
      go_wp2
      go_ret
      refine ⟨ret_int ?_, rfl⟩
      rw [HM.out, List.take_of_length_le (by have := HL.out; omega), H.out.sum]

def AddPost (b n k : Nat) (reg : Int) (xs : List R3) (w : World) (e : Ending) (w' : World) : Prop :=
  (∃ A c, e = .returned (.slice A (n + k) c) ∧ w'.ownsRow b 116 3 (.slice A (n + k) c) (n + k) (rows R3.vs (xs ++ List.replicate k ⟨0, reg, 0⟩))) ∧ Below b w w'
set_option maxRecDepth 100000 in
set_option maxHeartbeats 1000000 in
theorem l14Add_any (b n c k : Nat) (A : Option Addr) (reg : Int) (xs : List R3) (w : World) (h : w.ownsRow b 116 3 (.slice A n c) n (rows R3.vs xs)) (hb : b ≤ w.heap.size) (hn : n ≤ 1000) (hk : k ≤ 1000) :
    Calls Try.prog 73 #[.slice A n c, .int .i64 reg, .int .i64 k] w (AddPost b n k reg xs w) := by
  have H := Lib.hid h
  have HB := Lib.hid hb
  clear h hb
  go_enter Try.func73, Try.ntmps73
  go_wp2
  go_loopw [0, 2] (fun v i wr => ∃ (j p : Nat) (B : Option Addr) (d : Nat), j ≤ k ∧ p ≤ 1000 + j ∧ i = .int .i64 ((k : Int) - j) ∧ v = .slice B p d ∧ Hid (p = n + j) ∧ Hid (wr.ownsRow b 116 3 (.slice B p d) p (rows R3.vs (xs ++ List.replicate j ⟨0, reg, 0⟩))) ∧ Hid (Below b w wr)) (fun _ i _ => (intOf i).toNat)
  case atStart => exact ⟨0, n, A, c, Nat.zero_le _, by omega, by simp, rfl, rfl, by simpa using H, Below.refl _ _⟩
  case round =>
    obtain ⟨j, p, B, d, hj, hp, rfl, rfl, HP, OR, BR⟩ := hrel
    by_cases hlt : j < k
    · have hgt : (0 : Int) < (k : Int) - j := by omega
      obtain ⟨w1, HW1, b1, x1⟩ := al1 wr (.cells #[.int .i64 0, .int .i64 reg, .int .i64 0] 116)
      have O1 := own_below' OR.out b1
      have HO1 := Lib.hid O1
      have B1 := Lib.hid (BR.out.trans (b1.mono (Nat.le_trans HB.out BR.out.size)))
      have hbs : b ≤ w1.heap.size := Nat.le_trans HB.out B1.out.size
      have src1 : Src 3 w1 (.slice (some ⟨wr.heap.size, 0, none⟩) 1 1) 1 (rows R3.vs [⟨0, reg, 0⟩]) := Src.of_sl (sl_block x1) rfl
      clear x1 b1
      go_wp2_with (at_builtin; rw [← HW1.out]; refine wpList_appx rfl _ _ _ rfl Try.underlying101 infoLp rfl (by omega) b O1 hbs rfl src1 rfl (one_R3 _) (by unfold maxLen; omega) (by omega) ?_; intro v2 w2 own2 hg2 hnil2; clear hnil2; obtain ⟨B2, d2, rfl⟩ := own_form own2; have O2 : Hid (w2.ownsRow b 116 3 (.slice B2 (p + 1) d2) (p + 1) (rows R3.vs (xs ++ List.replicate (j + 1) ⟨0, reg, 0⟩))) := (by unfold Hid; rw [List.replicate_succ', ← List.append_assoc, rows_app]; exact own2); have B2' := Lib.hid (B1.out.grown hg2 hbs (fun q hq => (HO1.out.lt q hq).1)); clear own2 hg2 src1 O1 hbs)
      go_roundw
      case rel => exact ⟨j + 1, p + 1, _, _, by omega, by omega, by go_num, rfl, by have := HP.out; unfold Hid; omega, O2, B2'⟩
      case measure => simp [intOf]; omega
    · obtain rfl : j = k := by omega
      have hgt : ¬ (0 : Int) < (j : Int) - j := by omega
      have e0 : (j : Int) - j = 0 := by omega
      rw [e0] at hgt ⊢
      go_wp2
      go_ret
      have h1 := HP.out
      subst h1
      exact ⟨⟨_, _, rfl, OR.out⟩, BR.out⟩

/-- The number of instructions of the first chain. -/
def headLen (s : Nat) (x : R3) (v : Nat) : Nat := if noR x then s + 1 + v else if x.b = 1 then s + 5 + x.a.toNat else s + 1 + x.a.toNat
def HeadPost (L : Nat) (w : World) (e : Ending) (w' : World) : Prop := (∃ A n c xs, e = .returned (.slice A n c) ∧ LP w' w.heap.size (.slice A n c) n L xs ∧ n ≤ 100) ∧ Below w.heap.size w w'
theorem lpSum_rep (k : Nat) (r : Int) : lpSum (List.replicate k ⟨0, r, 0⟩) = k := by simp [lpSum]
theorem HeadPost.of {w w1 : World} {b n k L : Nat} {reg : Int} {xs : List R3} {e : Ending} {w' : World} (hb : Below w.heap.size w w1) (hb2 : w.heap.size ≤ b) (h : AddPost b n k reg xs w1 e w') (hl : xs.length = n) (h0 : ∀ x ∈ xs, 0 ≤ x.c ∧ x.c ≤ 6) (hL : lpSum xs + k = L) (hn : n + k ≤ 100) : HeadPost L w e w' := by
  obtain ⟨⟨A, c, rfl, ho⟩, hB⟩ := h
  refine ⟨⟨A, n + k, c, xs ++ List.replicate k ⟨0, reg, 0⟩, rfl, ⟨by rw [List.length_append, hl, List.length_replicate], own_base ho hb2, ?_, by rw [lpSum_app, lpSum_rep, hL]⟩, hn⟩, hb.trans (hB.mono hb2)⟩
  intro x hx
  rcases List.mem_append.1 hx with hx | hx
  · exact h0 x hx
  · rw [List.eq_of_mem_replicate hx]; exact ⟨Int.le_refl _, by show (0 : Int) ≤ 6; omega⟩
end Go.Proofs.Ytdnkkmmkkfbhhaa

/- The reference's first chain: l14Head. -/
namespace Go.Proofs.Ytdnkkmmkkfbhhaa
open Go.RowKit
set_option linter.all false

def lp (a b c : Int) : Array Value := #[.int .i64 a, .int .i64 b, .int .i64 c]
theorem own_lp1 (w : World) (a b c : Int) : (w.alloc (.cells #[.int .i64 a, .int .i64 b, .int .i64 c] 116)).ownsRow w.heap.size 116 3 (.slice (some ⟨w.heap.size, 0, none⟩) 1 1) 1 (rows R3.vs [⟨a, b, c⟩]) :=
  own_laid w 116 3 1 #[.int .i64 a, .int .i64 b, .int .i64 c] rfl (by unfold maxLen; omega)
theorem own_lp3 (w : World) (a b c d e f g h i : Int) : (w.alloc (.cells #[.int .i64 a, .int .i64 b, .int .i64 c, .int .i64 d, .int .i64 e, .int .i64 f, .int .i64 g, .int .i64 h, .int .i64 i] 116)).ownsRow w.heap.size 116 3 (.slice (some ⟨w.heap.size, 0, none⟩) 3 3) 3 (rows R3.vs [⟨a, b, c⟩, ⟨d, e, f⟩, ⟨g, h, i⟩]) :=
  own_laid w 116 3 3 #[.int .i64 a, .int .i64 b, .int .i64 c, .int .i64 d, .int .i64 e, .int .i64 f, .int .i64 g, .int .i64 h, .int .i64 i] rfl (by unfold maxLen; omega)

set_option maxRecDepth 100000 in
set_option maxHeartbeats 2000000 in
theorem l14Head_any (gm s v : Nat) (S Q : Int) (x : R3) (w : World) (m0 : w.cell? ⟨gm, 0, none⟩ = some (.int .i64 s)) (hs : 1 ≤ s) (hs6 : s ≤ 6) (hv : v ≤ 6) (hS : S = s) (hx : ruleB S Q x = true) :
    Calls Try.prog 60 #[.pointer (some ⟨gm, 0, none⟩), .agg #[.int .i64 x.a, .int .i64 x.b, .int .i64 x.c], .int .i64 v] w (HeadPost (headLen s x v) w) := by
  obtain ⟨w1, HW1, B1, x1⟩ := al1 w (.cells #[.int .i64 x.a, .int .i64 x.b, .int .i64 x.c] 59)
  have l0 : w1.cell? ⟨w.heap.size, 0, none⟩ = some (.int .i64 x.a) := by rw [cell_of_heap x1]; rfl
  have l1 : w1.cell? ⟨w.heap.size, 1, none⟩ = some (.int .i64 x.b) := by rw [cell_of_heap x1]; rfl
  have l2 : w1.cell? ⟨w.heap.size, 2, none⟩ = some (.int .i64 x.c) := by rw [cell_of_heap x1]; rfl
  have n0 := cell_step m0 B1
  have HB1 := Lib.hid B1
  have hgd := guardRule
  clear x1 B1 m0
  rcases ruleB_cases hx with h0 | ⟨h0, hmv, ha, ha2, hc, hc2⟩
  · have HF : Hid (headLen s x v = s + 1 + v) := by unfold Hid headLen; rw [if_pos h0]
    rw [HF.out]
    have hq := eqRule_run x true h0
    clear h0 hx
    go_enter Try.func60, Try.ntmps60
    go_wp2_with fail
    rw [← HW1.out]
    go_region_held3 (fun W => W.cell? ⟨w.heap.size, 0, none⟩ = some (.int .i64 x.a) ∧ W.cell? ⟨w.heap.size, 1, none⟩ = some (.int .i64 x.b) ∧ W.cell? ⟨w.heap.size, 2, none⟩ = some (.int .i64 x.c)) (first | go_keep | exact ⟨r0, r1, r2⟩)
      ((go_at_call 32; refine (l05None_any _).mono ?_; rintro e w2 ⟨rfl, b2'⟩; have b2 := below_drew_at b2'; have r0 := cell_step (by exact l0) b2; have r1 := cell_step (by exact l1) b2; have r2 := cell_step (by exact l2) b2; have n2 := cell_step (by exact n0) b2))
    all_goals
      have HB2 := Lib.hid (below_step HB1.out b2)
      clear l0 l1 l2 n0 b2' b2 hq
      obtain ⟨w3, HW3, b3, -⟩ := al1 w2 (.cells #[.int .i64 2, .int .i64 1, .int .i64 s] 116)
      have O3 : Hid (w3.ownsRow w2.heap.size 116 3 (.slice (some ⟨w2.heap.size, 0, none⟩) 1 1) 1 (rows R3.vs [⟨2, 1, s⟩])) := by rw [HW3.out]; exact own_lp1 w2 2 1 s
      have HB3 := Lib.hid (below_step HB2.out b3)
      have hz3 : w2.heap.size ≤ w3.heap.size := b3.size
      have hz2 : w.heap.size ≤ w2.heap.size := HB2.out.size
      clear b3
      go_wp2_with fail
      rw [← HW3.out]
      refine (l14Add_any w2.heap.size 1 1 v _ 1 [⟨2, 1, s⟩] w3 O3.out hz3 (by omega) (by omega)).mono ?_
      rintro e w4 hp
      have HP := HeadPost.of (L := s + 1 + v) HB3.out hz2 hp rfl (by intro y hy; rw [List.mem_singleton] at hy; subst hy; dsimp only; omega) (by simp [lpSum]) (by omega)
      obtain ⟨⟨A4, n4, c4, xs4, rfl, hl4, hn4⟩, hb4⟩ := HP
      have HL4 := Lib.hid hl4; have HB4 := Lib.hid hb4; have HN4 := Lib.hid hn4
      clear hp hl4 hb4 hn4 r0 r1 r2 n2
      go_wp2
      go_ret
      exact ⟨⟨A4, n4, c4, xs4, rfl, HL4.out, HN4.out⟩, HB4.out⟩
  obtain ⟨xa, xb, xc⟩ := x
  dsimp only at hmv ha ha2 hc hc2 l0 l1 l2 hx h0 ⊢
  obtain ⟨wa, rfl⟩ : ∃ wa : Nat, xa = wa := ⟨xa.toNat, by omega⟩
  have hq := eqRule_run ⟨wa, xb, xc⟩ false h0
  dsimp only at hq
  have hwa : wa ≤ 5 := by omega
  rcases hmv with rfl | rfl
  · have HF : Hid (headLen s ⟨wa, 1, xc⟩ v = s + 5 + wa) := by unfold Hid headLen; rw [if_neg (by rw [h0]; decide), if_pos rfl]; simp
    rw [HF.out]
    clear h0 hx hc hc2 ha ha2
    go_enter Try.func60, Try.ntmps60
    go_wp2_with fail
    rw [← HW1.out]
    go_region_held3 (fun W => W.cell? ⟨w.heap.size, 0, none⟩ = some (.int .i64 wa) ∧ W.cell? ⟨w.heap.size, 1, none⟩ = some (.int .i64 1) ∧ W.cell? ⟨w.heap.size, 2, none⟩ = some (.int .i64 xc)) (first | go_keep | exact ⟨r0, r1, r2⟩)
      ((go_at_call 32; refine (l05None_any _).mono ?_; rintro e w2 ⟨rfl, b2'⟩; have b2 := below_drew_at b2'; have r0 := cell_step (by exact l0) b2; have r1 := cell_step (by exact l1) b2; have r2 := cell_step (by exact l2) b2; have n2 := cell_step (by exact n0) b2))
    all_goals
      have HB2 := Lib.hid (below_step HB1.out b2)
      clear l0 l1 l2 n0 b2' b2 hq
      obtain ⟨w3, HW3, b3, -⟩ := al1 w2 (.cells #[.int .i64 2, .int .i64 1, .int .i64 1, .int .i64 0, .int .i64 2, .int .i64 s, .int .i64 2, .int .i64 0, .int .i64 1] 116)
      have O3 : Hid (w3.ownsRow w2.heap.size 116 3 (.slice (some ⟨w2.heap.size, 0, none⟩) 3 3) 3 (rows R3.vs [⟨2, 1, 1⟩, ⟨0, 2, s⟩, ⟨2, 0, 1⟩])) := by rw [HW3.out]; exact own_lp3 w2 2 1 1 0 2 s 2 0 1
      have HB3 := Lib.hid (below_step HB2.out b3)
      have hz3 : w2.heap.size ≤ w3.heap.size := b3.size
      have hz2 : w.heap.size ≤ w2.heap.size := HB2.out.size
      have r3 := cell_step r0 b3
      rw [HW3.out] at r3
      clear b3
      go_wp2_with fail
      rw [← HW3.out]
      refine (l14Add_any w2.heap.size 3 3 wa _ 0 [⟨2, 1, 1⟩, ⟨0, 2, s⟩, ⟨2, 0, 1⟩] w3 O3.out hz3 (by omega) (by omega)).mono ?_
      rintro e w4 hp
      have HP := HeadPost.of (L := s + 5 + wa) HB3.out hz2 hp rfl (by intro y hy; simp only [List.mem_cons, List.not_mem_nil, or_false] at hy; rcases hy with rfl | rfl | rfl <;> dsimp only <;> omega) (by simp [lpSum]; omega) (by omega)
      obtain ⟨⟨A4, n4, c4, xs4, rfl, hl4, hn4⟩, hb4⟩ := HP
      have HL4 := Lib.hid hl4; have HB4 := Lib.hid hb4; have HN4 := Lib.hid hn4
      clear hp hl4 hb4 hn4 r0 r1 r2 r3 n2
      go_wp2
      go_ret
      exact ⟨⟨A4, n4, c4, xs4, rfl, HL4.out, HN4.out⟩, HB4.out⟩
  · have HF : Hid (headLen s ⟨wa, -1, xc⟩ v = s + 1 + wa) := by unfold Hid headLen; rw [if_neg (by rw [h0]; decide), if_neg (by dsimp only; omega)]; simp
    rw [HF.out]
    clear h0 hx hc hc2 ha ha2
    go_enter Try.func60, Try.ntmps60
    go_wp2_with fail
    rw [← HW1.out]
    go_region_held3 (fun W => W.cell? ⟨w.heap.size, 0, none⟩ = some (.int .i64 wa) ∧ W.cell? ⟨w.heap.size, 1, none⟩ = some (.int .i64 (-1)) ∧ W.cell? ⟨w.heap.size, 2, none⟩ = some (.int .i64 xc)) (first | go_keep | exact ⟨r0, r1, r2⟩)
      ((go_at_call 32; refine (l05None_any _).mono ?_; rintro e w2 ⟨rfl, b2'⟩; have b2 := below_drew_at b2'; have r0 := cell_step (by exact l0) b2; have r1 := cell_step (by exact l1) b2; have r2 := cell_step (by exact l2) b2; have n2 := cell_step (by exact n0) b2))
    all_goals
      have HB2 := Lib.hid (below_step HB1.out b2)
      clear l0 l1 l2 n0 b2' b2 hq
      have b3 := laid_below w2 (.cells #[.int .i64 2, .int .i64 1, .int .i64 s] 116)
      have O3 := Lib.hid (own_lp1 w2 2 1 s)
      have HB3 := Lib.hid (below_step HB2.out b3)
      have hz3 : w2.heap.size ≤ (w2.alloc (.cells #[.int .i64 2, .int .i64 1, .int .i64 s] 116)).heap.size := b3.size
      have HZ3 := Lib.hid hz3
      have hz2 : w.heap.size ≤ w2.heap.size := HB2.out.size
      have r3 := cell_step r0 b3
      have n3 := cell_step n2 b3
      clear b3 hz3
      go_wp2_with fail
      go_region_held3 (fun W => W.cell? ⟨gm, 0, none⟩ = some (.int .i64 s) ∧ W.cell? ⟨w.heap.size, 0, none⟩ = some (.int .i64 wa)) (first | go_keep | exact ⟨n2, r0⟩ | exact ⟨n3, r3⟩ | exact ⟨n4, r4⟩)
        ((go_at_call 73; refine (l14Add_any w2.heap.size 1 1 wa _ 1 [⟨2, 1, s⟩] _ (by exact O3.out) (by exact HZ3.out) (by omega) (by omega)).mono ?_; rintro e w4 hp; have n4 := (hp.2.cell (p := ⟨gm, 0, none⟩) (World.block_lt_of_cell? w2 _ n2)).trans (by exact n3); have r4 := (hp.2.cell (p := ⟨w.heap.size, 0, none⟩) (World.block_lt_of_cell? w2 _ r0)).trans (by exact r3); have HP := HeadPost.of (L := s + 1 + wa) HB3.out.drew hz2 hp rfl (by intro y hy; rw [List.mem_singleton] at hy; subst hy; dsimp only; omega) (by simp [lpSum]) (by omega); obtain ⟨⟨A4, k4, c4, xs4, rfl, hl4, hn4⟩, hb4⟩ := HP; have HL4 := Lib.hid hl4; have HB4 := Lib.hid hb4; have HN4 := Lib.hid hn4; clear hp hl4 hb4 hn4))
      all_goals
        clear r0 r1 r2 r3 n2 n3 r4 n4
        go_wp2
        go_ret
        exact ⟨⟨A4, k4, c4, xs4, rfl, HL4.out, HN4.out⟩, HB4.out⟩
end Go.Proofs.Ytdnkkmmkkfbhhaa

/- The reference's second split: l14Tails and l14Lengths. -/
namespace Go.Proofs.Ytdnkkmmkkfbhhaa
open Go.RowKit
set_option linter.all false

theorem infoLps : (Try.prog.info? 101).map (fun i => (i.zero, i.size, i.bytes)) = some (some (Value.slice none 0 0), 1, 24) := by kernel_rfl
/-- The tails so far: slice j holds a chain of s + 5 + j instructions. -/
structure TlV (lo : Nat) (v : Value) (k s : Nat) (us : List Value) (W : World) : Prop where
  len : us.length = k
  own : W.ownsRow lo 101 1 v k us
  all : ∀ (j : Nat) u, us[j]? = some u → ∃ n xs, n ≤ 100 ∧ LP W lo u n (s + 5 + j) xs
theorem TlV.below {lo k s : Nat} {v : Value} {us : List Value} {W W' : World} (h : TlV lo v k s us W) (hb : Below W.heap.size W W') : TlV lo v k s us W' :=
  ⟨h.len, own_below' h.own hb, fun j u hu => by obtain ⟨n, xs, hn, h2⟩ := h.all j u hu; exact ⟨n, xs, hn, h2.below hb⟩⟩
theorem LP.one {w : World} {b n L : Nat} {v : Value} {xs : List R3} (h : LP w b v n L xs) : v.oneCell' = true := by
  obtain ⟨A, c, rfl⟩ := own_form h.own; rfl
theorem TlV.push {lo k s n : Nat} {v v' u : Value} {us : List Value} {xs : List R3} {W W' : World} (h : TlV lo v k s us W) (hu : LP W lo u n (s + 5 + k) xs) (hn : n ≤ 100) (hg : W.grownBy W' v.ownBlock) (own' : W'.ownsRow lo 101 1 v' (k + 1) (us ++ [u])) : TlV lo v' (k + 1) s (us ++ [u]) W' := by
  have keep : ∀ {z : Value} {m L : Nat} {ys : List R3}, LP W lo z m L ys → LP W' lo z m L ys := fun hz => ⟨hz.len, own_grown hz.own hg (own_ne_own hz.own h.own (by decide)), hz.by0, hz.sum⟩
  refine ⟨by rw [List.length_append, h.len]; rfl, own', ?_⟩
  intro j z hz
  rcases snoc_at hz with ⟨_, h1⟩ | ⟨h1, h2⟩
  · obtain ⟨m, ys, hm, h3⟩ := h.all j z h1
    exact ⟨m, ys, hm, keep h3⟩
  · rw [h1, h2, h.len]
    exact ⟨n, xs, hn, keep hu⟩

def TlPost (s : Nat) (w : World) (e : Ending) (w' : World) : Prop := (∃ A c us, e = .returned (.slice A s c) ∧ TlV w.heap.size (.slice A s c) s s us w') ∧ Below w.heap.size w w'
set_option maxRecDepth 100000 in
set_option maxHeartbeats 2000000 in
theorem l14Tails_any (s : Nat) (w : World) (hs6 : s ≤ 6) :
    Calls Try.prog 62 #[.int .i64 s] w (TlPost s w) := by
  obtain ⟨w1, HW1, b1, -⟩ := al1 w (.cells #[] 101)
  have T1 : Hid (TlV w.heap.size (.slice (some ⟨w.heap.size, 0, none⟩) 0 0) 0 s [] w1) := ⟨rfl, by rw [HW1.out]; exact own_empty w 101 1, by simp⟩
  have B1 := Lib.hid b1
  clear b1
  go_enter Try.func62, Try.ntmps62
  go_wp2_with fail
  rw [← HW1.out]
  go_loopw [3, 4] (fun v i wr => ∃ (k : Nat) (A : Option Addr) (c : Nat) (us : List Value), k ≤ s ∧ i = .int .i64 k ∧ v = .slice A k c ∧ Hid (TlV w.heap.size (.slice A k c) k s us wr) ∧ Hid (Below w.heap.size w wr)) (fun _ i _ => s - (intOf i).toNat)
  case atStart => exact ⟨0, _, _, [], Nat.zero_le _, rfl, rfl, T1, B1⟩
  case round =>
    obtain ⟨k, A, c, us, hk, rfl, rfl, TR, BR⟩ := hrel
    by_cases hlt : k < s
    · obtain ⟨w3, HW3, b3, -⟩ := al1 wr (.cells #[.int .i64 2, .int .i64 0, .int .i64 1, .int .i64 1, .int .i64 2, .int .i64 s, .int .i64 2, .int .i64 1, .int .i64 1] 116)
      have O3 : Hid (w3.ownsRow wr.heap.size 116 3 (.slice (some ⟨wr.heap.size, 0, none⟩) 3 3) 3 (rows R3.vs [⟨2, 0, 1⟩, ⟨1, 2, s⟩, ⟨2, 1, 1⟩])) := by rw [HW3.out]; exact own_lp3 wr 2 0 1 1 2 s 2 1 1
      have B3 := Lib.hid b3
      have hz3 : wr.heap.size ≤ w3.heap.size := b3.size
      clear b3
      go_wp2_with fail
      rw [← HW3.out]
      refine (l14Add_any wr.heap.size 3 3 k _ 1 [⟨2, 0, 1⟩, ⟨1, 2, s⟩, ⟨2, 1, 1⟩] w3 O3.out hz3 (by omega) (by omega)).mono ?_
      rintro e w4 hp
      have HP := HeadPost.of (L := s + 5 + k) B3.out (Nat.le_refl _) hp rfl (by intro y hy; simp only [List.mem_cons, List.not_mem_nil, or_false] at hy; rcases hy with rfl | rfl | rfl <;> dsimp only <;> omega) (by simp [lpSum]; omega) (by omega)
      obtain ⟨⟨A4, n4, c4, xs4, rfl, hl4, hn4⟩, hb4⟩ := HP
      have b4w : Below w.heap.size w w4 := BR.out.trans (hb4.mono BR.out.size)
      obtain ⟨w5, HW5, b5, x5⟩ := al1 w4 (.cells #[.slice A4 n4 c4] 101)
      have T5 := Lib.hid ((TR.out.below hb4).below b5)
      have L5 : Hid (LP w5 w.heap.size (.slice A4 n4 c4) n4 (s + 5 + k) xs4) := ⟨hl4.len, own_base (own_below' hl4.own b5) BR.out.size, hl4.by0, hl4.sum⟩
      have B5 := Lib.hid (b4w.trans (b5.mono b4w.size))
      have OW5 := T5.out.own
      have hbs : w.heap.size ≤ w5.heap.size := B5.out.size
      have src5 : Src 1 w5 (.slice (some ⟨w4.heap.size, 0, none⟩) 1 1) 1 [.slice A4 n4 c4] := Src.of_sl (sl_block x5) rfl
      have HN4 := Lib.hid hn4
      clear hp hl4 hn4 hb4 b4w x5 b5 hz3
      go_wp2_with (at_builtin; rw [← HW5.out]; refine wpList_appx rfl _ _ _ rfl Try.underlying104 infoLps rfl (by omega) w.heap.size OW5 hbs rfl src5 rfl (by simp [Value.oneCell']) (by unfold maxLen; omega) (by omega) ?_; intro v6 w6 own6 hg6 hnil6; clear hnil6; obtain ⟨A6, c6, rfl⟩ := own_form own6; have T6 := Lib.hid (T5.out.push L5.out HN4.out hg6 own6); have B6 := Lib.hid (B5.out.grown hg6 hbs (fun q hq => (T5.out.own.lt q hq).1)); clear own6 hg6 src5 OW5 hbs)
      go_roundw
      case rel => exact ⟨k + 1, _, _, _, by omega, by go_num, rfl, T6, B6⟩
      case measure => simp [intOf]; omega
    · obtain rfl : s = k := by omega
      go_wp2
      go_ret
      exact ⟨⟨A, c, us, rfl, TR.out⟩, BR.out⟩

def tailLens (s k : Nat) : List Int := (List.range k).map fun j => ((s + 5 + j : Nat) : Int)
theorem tailLens_succ (s k : Nat) : tailLens s (k + 1) = tailLens s k ++ [((s + 5 + k : Nat) : Int)] := by simp [tailLens, List.range_succ]
theorem tailLens_at {s k j : Nat} (h : j < k) : (tailLens s k)[j]? = some ((s + 5 + j : Nat) : Int) := by simp [tailLens, h]
def LensPost (s : Nat) (w : World) (e : Ending) (w' : World) : Prop := (∃ A c, e = .returned (.slice A s c) ∧ w'.ownsRow w.heap.size 2 1 (.slice A s c) s ((tailLens s s).map (Value.int .i64))) ∧ Below w.heap.size w w'
set_option maxRecDepth 100000 in
set_option maxHeartbeats 2000000 in
theorem l14Lengths_any (s lo c : Nat) (A : Option Addr) (us : List Value) (w : World) (hs6 : s ≤ 6) (h : TlV lo (.slice A s c) s s us w) :
    Calls Try.prog 61 #[.slice A s c] w (LensPost s w) := by
  obtain ⟨w1, HW1, b1, -⟩ := al1 w (.cells #[] 2)
  have O1 : Hid (w1.ownsRow w.heap.size 2 1 (.slice (some ⟨w.heap.size, 0, none⟩) 0 0) 0 ((tailLens s 0).map (Value.int .i64))) := by rw [HW1.out]; exact own_empty w 2 1
  have B1 := Lib.hid b1
  have H := Lib.hid h
  clear b1 h
  go_enter Try.func61, Try.ntmps61
  go_wp2_with fail
  rw [← HW1.out]
  go_loopw [3, 4] (fun v i wr => ∃ (k : Nat) (B : Option Addr) (d : Nat), k ≤ s ∧ i = .int .i64 k ∧ v = .slice B k d ∧ Hid (wr.ownsRow w.heap.size 2 1 (.slice B k d) k ((tailLens s k).map (Value.int .i64))) ∧ Hid (Below w.heap.size w wr)) (fun _ i _ => s - (intOf i).toNat)
  case atStart => exact ⟨0, _, _, Nat.zero_le _, rfl, rfl, O1, B1⟩
  case round =>
    obtain ⟨k, B, d, hk, rfl, rfl, OR, BR⟩ := hrel
    by_cases hlt : k < s
    · have TR := H.out.below BR.out
      obtain ⟨g, rfl, _, _⟩ := own_addr0 TR.own (by omega)
      have hx : us[k]? = some (us[k]'(by have := TR.len; omega)) := List.getElem?_eq_getElem _
      obtain ⟨n, xs, hn, hLP⟩ := TR.all k _ hx
      have q0 := (sl_of_own TR.own).at hx
      rw [Nat.zero_add] at q0
      obtain ⟨u, hu⟩ : ∃ u, us[k]'(by have := TR.len; omega) = u := ⟨_, rfl⟩
      rw [hu] at hLP q0
      obtain ⟨A2, c2, rfl⟩ := own_form hLP.own
      have HLP := Lib.hid hLP
      clear hLP hx hu TR
      go_wp2_with fail
      refine (l14Length_any lo n (s + 5 + k) c2 A2 xs _ HLP.out (by omega)).mono ?_
      rintro e w' ⟨rfl, rfl⟩
      obtain ⟨y, hy⟩ : ∃ y : Nat, y = s + 5 + k := ⟨_, rfl⟩
      rw [← hy]
      have HY := Lib.hid hy; clear hy
      obtain ⟨w5, HW5, b5, x5⟩ := al1 wr (.cells #[.int .i64 y] 2)
      have O5 := own_below' OR.out b5
      have B5 := Lib.hid (BR.out.trans (b5.mono BR.out.size))
      have hbs : w.heap.size ≤ w5.heap.size := B5.out.size
      have src5 : Src 1 w5 (.slice (some ⟨wr.heap.size, 0, none⟩) 1 1) 1 [.int .i64 y] := Src.of_sl (sl_block x5) rfl
      have HO5 := Lib.hid O5
      clear x5 b5 q0
      go_wp2_with (at_builtin; rw [← HW5.out]; refine wpList_appx rfl _ _ _ rfl Try.underlying25 infoInt64S rfl (by omega) w.heap.size O5 hbs rfl src5 rfl (by simp [Value.oneCell']) (by unfold maxLen; omega) (by omega) ?_; intro v6 w6 own6 hg6 hnil6; clear hnil6; obtain ⟨A6, c6, rfl⟩ := own_form own6; have O6 : Hid (w6.ownsRow w.heap.size 2 1 (.slice A6 (k + 1) c6) (k + 1) ((tailLens s (k + 1)).map (Value.int .i64))) := (by unfold Hid; rw [tailLens_succ, List.map_append, ← HY.out]; exact own6); have B6 := Lib.hid (B5.out.grown hg6 hbs (fun q hq => (HO5.out.lt q hq).1)); clear own6 hg6 src5 O5 hbs)
      go_roundw
      case rel => exact ⟨k + 1, _, _, by omega, by go_num, rfl, O6, B6⟩
      case measure => simp [intOf]; omega
    · obtain rfl : s = k := by omega
      go_wp2
      go_ret
      exact ⟨⟨B, d, rfl, OR.out⟩, BR.out⟩
end Go.Proofs.Ytdnkkmmkkfbhhaa
