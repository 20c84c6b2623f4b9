/- Reading the text of a lambda term, by the program: readTerm, ReadLam and lamOf, at texts whose numbers are single digits. -/
import Derived.Test.YtkiaclajjlidoaaGreatDoorLamText
import Derived.Test.YtkiaclajjlidoaaGreatDoorLamRef
import Derived.Deep.RegionHeld3
namespace Go.Proofs.YtkiaclajjlidoaaGreatDoor
open Go.RowKit
set_option linter.all false

theorem below_setC2 {B g : Nat} {a w : World} (h : Below B a w) (hg : B ≤ g) (x y : Value) : Below B a ((w.setCell ⟨g, 0, none⟩ x).setCell ⟨g, 1, none⟩ y) :=
  (h.setCell (p := ⟨g, 0, none⟩) hg _).setCell (p := ⟨g, 1, none⟩) hg _

theorem lamVarB (k : Int) (w : World) : Calls Tryz.prog 29 #[.int .i64 k] w fun e w' => e = .returned (.agg #[.int .i64 0, .int .i64 k]) ∧ Below w.heap.size w w' := by
  have B : Below w.heap.size w (w.alloc (.cells #[.int .i64 0, .int .i64 k] 45)) := laid_below _ _
  have HI := infoLam
  go_enter Tryz.func29, Tryz.ntmps29
  go_wp2
  refine bodyPost_ret (v := .agg #[.int .i64 0, .int .i64 k]) (by simp [results, Tryz.results29, go_sem]) rfl ?_
  exact ⟨rfl, B⟩

theorem atomAbs (s : ByteArray) (r : List UInt8) (hs : s.data.toList = 94 :: r) (w : World) :
    Calls Tryz.prog 66 #[.string s] w fun e w' => e = .returned (.tuple #[.agg #[.int .i64 1, .int .i64 0], .int .i64 1]) ∧ Below w.heap.size w w' := by
  obtain ⟨h0, hb⟩ := str_at hs (k := 0) (b := 94) (r := r) rfl
  have hz : ((s[0].toNat : Int) == 94) = true := by rw [hb]; rfl
  have hsI : (0 : Int) < (s.size : Int) := by omega
  have B1 := laid_below w (.cells #[.int .i64 1, .int .i64 0] 45)
  clear hs hb
  go_enter Tryz.func66, Tryz.ntmps66
  go_wp2_with fail
  refine bodyPost_ret (v := .tuple #[.agg #[.int .i64 1, .int .i64 0], .int .i64 1]) (by simp [results, Tryz.results66, go_sem]) rfl ?_
  exact ⟨rfl, B1⟩

theorem atomDig (s : ByteArray) (d : Nat) (r : List UInt8) (hs : s.data.toList = UInt8.ofNat (48 + d) :: r) (hd : d < 10) (hr : digB (r.headD 0) = false) (hl : r.length ≤ 100000) (w : World) :
    Calls Tryz.prog 66 #[.string s] w fun e w' => e = .returned (.tuple #[.agg #[.int .i64 0, .int .i64 d], .int .i64 1]) ∧ Below w.heap.size w w' := by
  obtain ⟨h0, hb⟩ := str_at hs (k := 0) (b := UInt8.ofNat (48 + d)) (r := r) rfl
  have hbI : (s[0].toNat : Int) = 48 + (d : Int) := by rw [hb, dig_toNat hd]; omega
  have hz : ((s[0].toNat : Int) == 94) = false := by rw [beq_eq_false_iff_ne]; omega
  have hsI : (0 : Int) < (s.size : Int) := by omega
  have HDG := Lib.hid (digitsOne s d r hs hd hr hl)
  have hex : (s.extract 0 1).data.toList = [UInt8.ofNat (48 + d)] := by
    have e1 : s = ⟨(UInt8.ofNat (48 + d) :: r).toArray⟩ := by rw [← hs]
    rw [e1, ByteArray.extract_mk]; simp
  obtain ⟨s1, hs1⟩ : ∃ s1, s.extract 0 1 = s1 := ⟨_, rfl⟩
  rw [hs1] at hex
  have HNB := Lib.hid (readDecimalDig s1 d hd hex)
  have HLV := Lib.hid (lamVarB (d : Int))
  have hslc : ∀ W, (Instr.slice 9 (.string s) none (some (.int .i64 1)) none).run Tryz.prog W = .ok (.string s1) W := by
    intro W
    rw [run_slice_string_h W _ s Tryz.underlying9 .i64 1 (by omega) (by omega), ← hs1]
    rfl
  obtain ⟨w1, HW1, B1, x1⟩ := al1 w (.cells #[.int .i64 0, .int .i64 0] 45)
  have X1 := Lib.hid x1
  have HB1 := Lib.hid B1
  clear hs hb x1 B1 hex hs1 hbI hr hl
  go_enter Tryz.func66, Tryz.ntmps66
  go_wp2_with fail
  rw [← HW1.out]
  go_wp2_with fail
  refine (HDG.out _).mono ?_
  rintro e w2 ⟨rfl, b2⟩
  go_wp2_with fail
  refine (HNB.out _).mono ?_
  rintro e w3 ⟨rfl, b3⟩
  go_wp2_with fail
  refine (HLV.out _).mono ?_
  rintro e w4 ⟨rfl, b4⟩
  have B4 := below_step (below_step b2 b3) b4
  have x4 := (B4.block _ (heap_lt X1.out)).trans X1.out
  have f0 : w4.frozen? ⟨w.heap.size, 0, none⟩ = false := frozen_of_heap x4
  have f1 : w4.frozen? ⟨w.heap.size, 1, none⟩ = false := frozen_of_heap x4
  have c0 : w4.cell? ⟨w.heap.size, 0, none⟩ = some (.int .i64 0) := by rw [cell_of_heap x4]; rfl
  have c1 : w4.cell? ⟨w.heap.size, 1, none⟩ = some (.int .i64 0) := by rw [cell_of_heap x4]; rfl
  have BF := Lib.hid (below_setC2 (g := w.heap.size) (below_step HB1.out B4) (Nat.le_refl _) (.int .i64 0) (.int .i64 (d : Int)))
  have y1 := heap_set (heap_set x4 (i := 0) (.int .i64 0)) (i := 1) (.int .i64 (d : Int))
  have z0 : ((w4.setCell ⟨w.heap.size, 0, none⟩ (.int .i64 0)).setCell ⟨w.heap.size, 1, none⟩ (.int .i64 (d : Int))).cell? ⟨w.heap.size, 0, none⟩ = some (.int .i64 0) := by rw [cell_of_heap y1]; rfl
  have z1 : ((w4.setCell ⟨w.heap.size, 0, none⟩ (.int .i64 0)).setCell ⟨w.heap.size, 1, none⟩ (.int .i64 (d : Int))).cell? ⟨w.heap.size, 1, none⟩ = some (.int .i64 (d : Int)) := by rw [cell_of_heap y1]; rfl
  clear b2 b3 b4 B4 x4 y1
  go_wp2_with fail
  refine bodyPost_ret (v := .tuple #[.agg #[.int .i64 0, .int .i64 (d : Int)], .int .i64 1]) (by simp [results, Tryz.results66, go_sem, z0, z1]) rfl ?_
  exact ⟨rfl, BF.out⟩

def strSize : Value → Nat
  | .string s => s.size
  | _ => 0
theorem tail_str {S : ByteArray} {l : List UInt8} {k : Nat} {b : UInt8} {r : List UInt8} (h : S.data.toList = l.drop k) (hbr : l.drop k = b :: r) : (S.extract 1 S.size).data.toList = l.drop (k + 1) := by
  rw [drop_next hbr]
  have e1 : S = ⟨(b :: r).toArray⟩ := by rw [← hbr, ← h]
  rw [e1, ByteArray.extract_mk]
  simp [ByteArray.size]
def readFn : Value := .func (.func 66) #[] #[]

set_option maxRecDepth 100000 in
set_option maxHeartbeats 4000000 in
theorem readTerm_any (s : ByteArray) (l : List UInt8) (hs : s.data.toList = l) (hok : okT l = true) (hl : l.length ≤ 300) (w : World) :
    Calls Tryz.prog 65 #[.string s, .agg #[.int .i64 2, .int .i64 0], .func (.func 66) #[] #[], .int .i64 400] w fun e w' => ∃ v, e = .returned v ∧ w'.ownsRow w.heap.size 45 2 v (rdT l).length (rows R2.vs (rdT l)) ∧ Below w.heap.size w w' := by
  obtain ⟨n, hn⟩ : ∃ n, l.length = n := ⟨_, rfl⟩
  have HN := Lib.hid hn
  have hn3 : n ≤ 300 := by omega
  obtain ⟨w1, HW1, B1, X1⟩ := al1 w (.cells #[.int .i64 2, .int .i64 0] 45)
  obtain ⟨wa, HWa, Ba, xa⟩ := al1 w1 (.cells #[] 45)
  have HM0 : Hid (LamSt w1 l 0 (.slice (some ⟨w1.heap.size, 0, none⟩) 0 0) [] wa) := by
    refine ⟨?_, Ba, by simp, by simpa using hok⟩
    have := own_of_block (n := 0) (cap := 0) (s := 2) (xs := []) (base := w1.heap.size) xa (Nat.le_refl _) rfl (Nat.le_refl _) (Nat.zero_le _)
    rw [List.take_nil] at this
    exact this
  have hs1 : w1.heap.size = w.heap.size + 1 := by rw [HW1.out]; simp
  rw [hs1] at HM0
  have HS1 := Lib.hid hs1
  clear hs1
  have HX1 := Lib.hid X1
  have HB1 := Lib.hid B1
  have HS0 := Lib.hid hs
  have HI := Lib.hid infoLam
  clear hs hok hl hn xa Ba X1 B1
  go_enter Tryz.func65, Tryz.ntmps65
  go_wp2_with fail
  rw [← HW1.out, ← HWa.out]
  go_loopw [0, 9] (fun q o wr => ∃ (k : Nat) (S : ByteArray) (V : Value) (ts : List R2), V = o ∧ q = .string S ∧ k ≤ n ∧ Hid (S.data.toList = l.drop k) ∧ Hid (LamSt w1 l k V ts wr)) (fun q _ _ => strSize q)
  case atStart => exact ⟨0, s, _, [], rfl, rfl, by omega, HS0, HM0⟩
  case round =>
    obtain ⟨k, S, V, ts, rfl, rfl, hk, HS, HM⟩ := hrel
    clear HM0 HS0
    have HTL : Hid (ts.length ≤ 300) := by
      have h1 := congrArg List.length HM.out.2.2.1
      rw [List.length_append] at h1
      have := rdT_len l
      have := HN.out
      unfold Hid; omega
    obtain ⟨lt, hlt⟩ : ∃ m, ts.length = m := ⟨_, rfl⟩
    have HLT := Lib.hid hlt
    have hl3 : lt ≤ 300 := by rw [← hlt]; exact HTL.out
    have hl4 : (lt : Int) ≤ 400 := by omega
    have own := HM.out.1
    rw [hlt] at own
    obtain ⟨AV, cV, hAV⟩ := own_form own
    subst hAV
    have hsz : S.size = n - k := by have := congrArg List.length HS.out; rw [List.length_drop, HN.out] at this; simpa using this
    have x0 := (HM.out.2.1.block _ (heap_lt HX1.out)).trans HX1.out
    have c0 : wr.cell? ⟨w.heap.size, 0, none⟩ = some (.int .i64 2) := by rw [cell_of_heap x0]; rfl
    have c1 : wr.cell? ⟨w.heap.size, 1, none⟩ = some (.int .i64 0) := by rw [cell_of_heap x0]; rfl
    clear hlt HTL x0
    by_cases hkn : k < n
    · have h0s : 0 < S.size := by omega
      have h0I : (0 : Int) < (S.size : Int) := by omega
      have h1I : (1 : Int) ≤ (S.size : Int) := by omega
      obtain ⟨b, r, hbr⟩ : ∃ b r, l.drop k = b :: r := by
        cases hd : l.drop k with
        | nil => have := congrArg List.length hd; rw [List.length_drop, HN.out] at this; simp at this; omega
        | cons b r => exact ⟨b, r, rfl⟩
      have hne : S.toList.isEmpty = false := by rw [ByteArray.toList_eq, HS.out, hbr]; rfl
      obtain ⟨hor, hcase⟩ := okT_cases (by rw [← hbr]; exact HM.out.2.2.2)
      have hnx := drop_next hbr
      have hor' : okT (l.drop (k + 1)) = true := by rw [hnx]; exact hor
      obtain ⟨_, hb⟩ := str_at (HS.out.trans hbr) (k := 0) rfl
      have HTS := Lib.hid (tail_str HS.out hbr)
      have htz : (S.extract 1 S.size).size < S.size := by
        have := congrArg List.length HTS.out
        rw [List.length_drop, HN.out] at this
        have e : (S.extract 1 S.size).size = n - (k + 1) := by simpa using this
        omega
      have HTZ := Lib.hid htz
      have HNX : Hid (l.drop (k + 1) = r) := hnx
      have HBR := Lib.hid hbr
      have HOR := Lib.hid hor'
      clear hbr hor hnx hor' htz hsz
      rcases hcase with h | h | h | h | ⟨d, hd, h, hdr⟩
      · have HX : Hid (rdT (l.drop k) = (⟨2, 0⟩ : R2) :: rdT (l.drop (k + 1))) := by unfold Hid; rw [HBR.out, HNX.out, h]; exact rdT_app _
        have hz1 : ((S[0].toNat : Int) == 40) = true := by rw [hb, h]; rfl
        have HMX := HM
        have bz4 : Below (wr).heap.size (wr) ((wr).drew.alloc (.cells #[.int .i64 2, .int .i64 0] 45)) := ((Below.refl _ _).drew).alloc (Nat.le_refl _) _
        have own4 := own_below' own bz4
        have hbz4 : w1.heap.size ≤ ((wr).drew.alloc (.cells #[.int .i64 2, .int .i64 0] 45)).heap.size := (below_step HMX.out.2.1 bz4).size
        have src4 : Src 2 ((wr).drew.alloc (.cells #[.int .i64 2, .int .i64 0] 45)) (.slice (some ⟨(wr).heap.size, 0, none⟩) 1 1) 1 [.int .i64 2, .int .i64 0] := Src.of_own (own_of_block (n := 1) (cap := 1) (s := 2) (xs := [.int .i64 2, .int .i64 0]) (base := 0) (heap_alloc_new (wr).drew _) (by omega) rfl (by omega) (by unfold maxLen; omega))
        have BZ4 := Lib.hid bz4
        clear bz4
        clear own h hb
        go_wp2_with fail
        go_region_held3 (fun W => W.cell? ⟨w.heap.size, 0, none⟩ = some (.int .i64 2) ∧ W.cell? ⟨w.heap.size, 1, none⟩ = some (.int .i64 0)) (first | go_keep | exact ⟨c0, c1⟩ | exact ⟨e0, e1⟩)
          ((first
          | (refine step_appx (by rfl) _ _ _ (by rfl) Tryz.underlying24 HI.out rfl (by omega) _ own4 hbz4 (by rfl) src4 (by rfl) (by simp [Value.oneCell']) (by unfold maxLen; omega) (by omega) ?_; intro V5 w5 own5 hg5 hnil5; have HM5 : Hid (LamSt w1 l (k + 1) V5 (ts ++ [⟨2, 0⟩]) w5) := HMX.out.put BZ4.out HX.out HOR.out (by rw [HLT.out]; exact own5) hg5; have x5 := (HM5.out.2.1.block _ (heap_lt HX1.out)).trans HX1.out; have e0 : w5.cell? ⟨w.heap.size, 0, none⟩ = some (.int .i64 2) := (by rw [cell_of_heap x5]; rfl); have e1 : w5.cell? ⟨w.heap.size, 1, none⟩ = some (.int .i64 0) := (by rw [cell_of_heap x5]; rfl); clear x5; clear own5 hg5 hnil5)))
        all_goals
          go_wp2_with fail
          go_roundw
          case rel => exact ⟨k + 1, _, _, _, rfl, rfl, by omega, HTS, HM5⟩
          case measure => simp only [strSize]; exact HTZ.out
      · have HX : Hid (rdT (l.drop k) = rdT (l.drop (k + 1))) := by unfold Hid; rw [HBR.out, HNX.out, h]; exact rdT_blank _
        have hz1 : ((S[0].toNat : Int) == 40) = false := by rw [hb, h]; rfl
        have hz2 : ((S[0].toNat : Int) == 32) = true := by rw [hb, h]; rfl

        have HM5 := Lib.hid (HM.out.skip HX.out HOR.out)
        clear own h hb
        go_wp2_with fail
        go_roundw
        case rel => exact ⟨k + 1, _, _, _, rfl, rfl, by omega, HTS, HM5⟩
        case measure => simp only [strSize]; exact HTZ.out
      · have HX : Hid (rdT (l.drop k) = rdT (l.drop (k + 1))) := by unfold Hid; rw [HBR.out, HNX.out, h]; exact rdT_close _
        have hz1 : ((S[0].toNat : Int) == 40) = false := by rw [hb, h]; rfl
        have hz2 : ((S[0].toNat : Int) == 32) = false := by rw [hb, h]; rfl
        have hz3 : ((S[0].toNat : Int) == 41) = true := by rw [hb, h]; rfl
        have HM5 := Lib.hid (HM.out.skip HX.out HOR.out)
        clear own h hb
        go_wp2_with fail
        go_roundw
        case rel => exact ⟨k + 1, _, _, _, rfl, rfl, by omega, HTS, HM5⟩
        case measure => simp only [strSize]; exact HTZ.out
      · have HX : Hid (rdT (l.drop k) = (⟨1, 0⟩ : R2) :: rdT (l.drop (k + 1))) := by unfold Hid; rw [HBR.out, HNX.out, h]; exact rdT_abs _
        have hz1 : ((S[0].toNat : Int) == 40) = false := by rw [hb, h]; rfl
        have hz2 : ((S[0].toNat : Int) == 32) = false := by rw [hb, h]; rfl
        have hz3 : ((S[0].toNat : Int) == 41) = false := by rw [hb, h]; rfl
        have HAT := Lib.hid (atomAbs S r (by rw [HS.out, HBR.out, h]))
        have OWN := Lib.hid own
        clear own h hb
        go_wp2_with fail
        refine (HAT.out _).mono ?_
        rintro e w2 ⟨rfl, hb2⟩
        have HNE : Hid (some w2.heap.size ≠ (Value.slice AV lt cV).ownBlock) := by unfold Hid; intro e; have h1 := (OWN.out.lt _ e.symm).2; have h2 := hb2.size; omega
        obtain ⟨w3, HW3, b3, x3⟩ := al1 w2 (.cells #[.int .i64 1, .int .i64 0] 45)
        have HMX := Lib.hid (HM.out.below (below_step hb2 b3))
        have own3 := HMX.out.1
        rw [HLT.out] at own3
        have y0 : w3.cell? ⟨w2.heap.size, 0, none⟩ = some (.int .i64 1) := by rw [cell_of_heap x3]; rfl
        have y1 : w3.cell? ⟨w2.heap.size, 1, none⟩ = some (.int .i64 0) := by rw [cell_of_heap x3]; rfl
        have bz4 : Below (w3).heap.size (w3) ((w3).drew.alloc (.cells #[.int .i64 1, .int .i64 0] 45)) := ((Below.refl _ _).drew).alloc (Nat.le_refl _) _
        have own4 := own_below' own3 bz4
        have hbz4 : w1.heap.size ≤ ((w3).drew.alloc (.cells #[.int .i64 1, .int .i64 0] 45)).heap.size := (below_step HMX.out.2.1 bz4).size
        have src4 : Src 2 ((w3).drew.alloc (.cells #[.int .i64 1, .int .i64 0] 45)) (.slice (some ⟨(w3).heap.size, 0, none⟩) 1 1) 1 [.int .i64 1, .int .i64 0] := Src.of_own (own_of_block (n := 1) (cap := 1) (s := 2) (xs := [.int .i64 1, .int .i64 0]) (base := 0) (heap_alloc_new (w3).drew _) (by omega) rfl (by omega) (by unfold maxLen; omega))
        have BZ4 := Lib.hid bz4
        clear bz4
        have X3 := Lib.hid x3
        clear own3 hb2 b3 x3 c0 c1
        go_wp2_with fail
        rw [← HW3.out]
        go_region_held3 (fun W => W.cell? ⟨w2.heap.size, 0, none⟩ = some (.int .i64 1) ∧ W.cell? ⟨w2.heap.size, 1, none⟩ = some (.int .i64 0)) (first | go_keep | exact ⟨y0, y1⟩ | exact ⟨e0, e1⟩)
          ((first
          | (refine step_appx (by rfl) _ _ _ (by rfl) Tryz.underlying24 HI.out rfl (by omega) _ own4 hbz4 (by rfl) src4 (by rfl) (by simp [Value.oneCell']) (by unfold maxLen; omega) (by omega) ?_; intro V5 w5 own5 hg5 hnil5; have HM5 : Hid (LamSt w1 l (k + 1) V5 (ts ++ [⟨1, 0⟩]) w5) := HMX.out.put BZ4.out HX.out HOR.out (by rw [HLT.out]; exact own5) hg5; have x5 := grown_keep hg5 ((BZ4.out.block _ (heap_lt X3.out)).trans X3.out) HNE.out; have e0 : w5.cell? ⟨w2.heap.size, 0, none⟩ = some (.int .i64 1) := (by rw [cell_of_heap x5]; rfl); have e1 : w5.cell? ⟨w2.heap.size, 1, none⟩ = some (.int .i64 0) := (by rw [cell_of_heap x5]; rfl); clear x5; clear own5 hg5 hnil5)))
        all_goals
          go_wp2_with fail
          go_roundw
          case rel => exact ⟨k + 1, _, _, _, rfl, rfl, by omega, HTS, HM5⟩
          case measure => simp only [strSize]; exact HTZ.out
      · have hbI : (S[0].toNat : Int) = 48 + (d : Int) := by rw [hb, h, dig_toNat hd]; omega
        have HX : Hid (rdT (l.drop k) = (⟨0, (d : Int)⟩ : R2) :: rdT (l.drop (k + 1))) := by unfold Hid; rw [HBR.out, HNX.out, h]; exact rdT_dig hd r
        have hz1 : ((S[0].toNat : Int) == 40) = false := by rw [beq_eq_false_iff_ne]; omega
        have hz2 : ((S[0].toNat : Int) == 32) = false := by rw [beq_eq_false_iff_ne]; omega
        have hz3 : ((S[0].toNat : Int) == 41) = false := by rw [beq_eq_false_iff_ne]; omega
        have HAT := Lib.hid (atomDig S d r (by rw [HS.out, HBR.out, h]) hd hdr (by have := HN.out; have := congrArg List.length HBR.out; rw [List.length_drop, List.length_cons] at this; omega))
        have OWN := Lib.hid own
        clear own h hb hbI
        go_wp2_with fail
        refine (HAT.out _).mono ?_
        rintro e w2 ⟨rfl, hb2⟩
        have HNE : Hid (some w2.heap.size ≠ (Value.slice AV lt cV).ownBlock) := by unfold Hid; intro e; have h1 := (OWN.out.lt _ e.symm).2; have h2 := hb2.size; omega
        obtain ⟨w3, HW3, b3, x3⟩ := al1 w2 (.cells #[.int .i64 0, .int .i64 (d : Int)] 45)
        have HMX := Lib.hid (HM.out.below (below_step hb2 b3))
        have own3 := HMX.out.1
        rw [HLT.out] at own3
        have y0 : w3.cell? ⟨w2.heap.size, 0, none⟩ = some (.int .i64 0) := by rw [cell_of_heap x3]; rfl
        have y1 : w3.cell? ⟨w2.heap.size, 1, none⟩ = some (.int .i64 (d : Int)) := by rw [cell_of_heap x3]; rfl
        have bz4 : Below (w3).heap.size (w3) ((w3).drew.alloc (.cells #[.int .i64 0, .int .i64 (d : Int)] 45)) := ((Below.refl _ _).drew).alloc (Nat.le_refl _) _
        have own4 := own_below' own3 bz4
        have hbz4 : w1.heap.size ≤ ((w3).drew.alloc (.cells #[.int .i64 0, .int .i64 (d : Int)] 45)).heap.size := (below_step HMX.out.2.1 bz4).size
        have src4 : Src 2 ((w3).drew.alloc (.cells #[.int .i64 0, .int .i64 (d : Int)] 45)) (.slice (some ⟨(w3).heap.size, 0, none⟩) 1 1) 1 [.int .i64 0, .int .i64 (d : Int)] := Src.of_own (own_of_block (n := 1) (cap := 1) (s := 2) (xs := [.int .i64 0, .int .i64 (d : Int)]) (base := 0) (heap_alloc_new (w3).drew _) (by omega) rfl (by omega) (by unfold maxLen; omega))
        have BZ4 := Lib.hid bz4
        clear bz4
        have X3 := Lib.hid x3
        clear own3 hb2 b3 x3 c0 c1
        go_wp2_with fail
        rw [← HW3.out]
        go_region_held3 (fun W => W.cell? ⟨w2.heap.size, 0, none⟩ = some (.int .i64 0) ∧ W.cell? ⟨w2.heap.size, 1, none⟩ = some (.int .i64 (d : Int))) (first | go_keep | exact ⟨y0, y1⟩ | exact ⟨e0, e1⟩)
          ((first
          | (refine step_appx (by rfl) _ _ _ (by rfl) Tryz.underlying24 HI.out rfl (by omega) _ own4 hbz4 (by rfl) src4 (by rfl) (by simp [Value.oneCell']) (by unfold maxLen; omega) (by omega) ?_; intro V5 w5 own5 hg5 hnil5; have HM5 : Hid (LamSt w1 l (k + 1) V5 (ts ++ [⟨0, (d : Int)⟩]) w5) := HMX.out.put BZ4.out HX.out HOR.out (by rw [HLT.out]; exact own5) hg5; have x5 := grown_keep hg5 ((BZ4.out.block _ (heap_lt X3.out)).trans X3.out) HNE.out; have e0 : w5.cell? ⟨w2.heap.size, 0, none⟩ = some (.int .i64 0) := (by rw [cell_of_heap x5]; rfl); have e1 : w5.cell? ⟨w2.heap.size, 1, none⟩ = some (.int .i64 (d : Int)) := (by rw [cell_of_heap x5]; rfl); clear x5; clear own5 hg5 hnil5)))
        all_goals
          go_wp2_with fail
          go_roundw
          case rel => exact ⟨k + 1, _, _, _, rfl, rfl, by omega, HTS, HM5⟩
          case measure => simp only [strSize]; exact HTZ.out
    · obtain rfl : k = n := by omega
      have hne : S.toList.isEmpty = true := by rw [ByteArray.toList_eq, HS.out, List.drop_of_length_le (Nat.le_of_eq HN.out)]; rfl
      have HE : Hid (ts = rdT l) := by
        have h1 := HM.out.2.2.1
        rw [List.drop_of_length_le (Nat.le_of_eq HN.out)] at h1
        unfold Hid; rw [h1]; simp [rdT]
      have HB := Lib.hid (HB1.out.trans (HM.out.2.1.mono HB1.out.size))
      have HO := Lib.hid (own_base own HB1.out.size)
      clear own hsz
      go_wp2_with fail
      go_ret
      exact ⟨_, rfl, by rw [← HE.out, HLT.out]; exact HO.out, HB.out⟩

set_option maxRecDepth 100000 in
theorem readLam_any (s : ByteArray) (l : List UInt8) (T : LTm) (hs : s.data.toList = l) (h : TxOk l T) (w : World) :
    Calls Tryz.prog 46 #[.string s] w fun e w' => ∃ v, e = .returned (.tuple #[v, .bool true]) ∧ w'.ownsRow w.heap.size 45 2 v T.flat.length (rows R2.vs T.flat) ∧ Below w.heap.size w w' := by
  have HR := Lib.hid (readTerm_any s l hs h.ok (by have := h.len; omega))
  rw [h.rd] at HR
  obtain ⟨n, hn⟩ : ∃ n, T.flat.length = n := ⟨_, rfl⟩
  have hn4 : n ≤ 400 := by have h1 := h.len; have h2 := T.text_len.2; rw [h.text] at h2; omega
  rw [hn] at HR
  have HN := Lib.hid hn
  have HSM := Lib.hid h.small
  have HVD := Lib.hid h.valid
  have HTX : Hid (T.text = s.toList) := by unfold Hid; rw [h.text, ByteArray.toList_eq, hs]
  clear hn h hs
  go_enter Tryz.func46, Tryz.ntmps46
  go_wp2_with fail
  refine (HR.out _).mono ?_
  rintro e w1 ⟨v, rfl, own1, b1⟩
  obtain ⟨A, c, rfl⟩ := own_form own1
  have HO1 := Lib.hid own1
  have HA1 := Lib.hid ((Src.of_own own1).args)
  have HB1 := Lib.hid b1
  clear own1 b1
  go_wp2_with fail
  refine (validLam_is A n c T.flat true HVD.out _ HA1.out (by omega)).mono ?_
  rintro e w2 ⟨rfl, b2⟩
  have HA2 := Lib.hid (HA1.out.below b2)
  have HO2 := Lib.hid (own_below' HO1.out b2)
  have HB2 := Lib.hid (below_step HB1.out b2)
  clear b2
  have hz : (T.text == s.toList) = true := by rw [HTX.out]; simp
  go_wp2_with fail
  refine (lamTextOf_any T A n c _ HA2.out hn4 HSM.out HVD.out).mono ?_
  rintro e w3 ⟨rfl, b3⟩
  have HO3 := Lib.hid (own_below' HO2.out b3)
  have HB3 := Lib.hid (below_step HB2.out b3)
  clear b3
  go_wp2_with fail
  go_ret2
  exact ⟨_, rfl, by rw [HN.out]; exact HO3.out, HB3.out⟩

set_option maxRecDepth 100000 in
theorem lamOf_any (s : ByteArray) (l : List UInt8) (T : LTm) (hs : s.data.toList = l) (h : TxOk l T) (w : World) :
    Calls Tryz.prog 25 #[.string s] w fun e w' => ∃ v, e = .returned v ∧ w'.ownsRow w.heap.size 45 2 v T.flat.length (rows R2.vs T.flat) ∧ Below w.heap.size w w' := by
  have HR := Lib.hid (readLam_any s l T hs h)
  clear h hs
  go_enter Tryz.func25, Tryz.ntmps25
  go_wp2_with fail
  refine (HR.out _).mono ?_
  rintro e w1 ⟨v, rfl, own1, b1⟩
  go_wp2_with fail
  go_ret
  exact ⟨_, rfl, own1, b1⟩
/-- The same by the reference. -/
theorem l12Read_text (s : ByteArray) (l : List UInt8) (T : LTm) (hs : s.data.toList = l) (h : TxOk l T) (w : World) :
    Calls Tryz.prog 21 #[.string s] w fun e w' => ∃ v, e = .returned v ∧ w'.ownsRow w.heap.size 45 2 v T.flat.length (rows R2.vs T.flat) ∧ Below w.heap.size w w' := by
  have := l12Read_any s l hs h.ok (by have := h.len; omega) w
  rw [h.rd] at this
  exact this
end Go.Proofs.YtkiaclajjlidoaaGreatDoor
