/- The text of a loop program, by the program. -/
import Derived.Test.YtjakgeblmkdbpaaDoorTxtPlain
import Derived.Test.YtjakgeblmkdbpaaDoorTxtDec
import Derived.Test.YtjakgeblmkdbpaaDoorLoops
import Derived.Test.YtjakgeblmkdbpaaDoorNest
import Derived.Test.YtjakgeblmkdbpaaDoorHelpStr
import Derived.Test.YtjakgeblmkdbpaaDoorBox
import Derived.Deep.RegionLaw
namespace Go.Proofs.YtjakgeblmkdbpaaDoor
open Go.RowKit
set_option linter.all false

def strCell (t : List UInt8) : Value := .string ⟨t.toArray⟩
/-- The texts so far in their variable gl. -/
structure TxSt (w0 : World) (lo gl : Nat) (V : Value) (ts : List (List UInt8)) (W : World) : Prop where
  row : W.ownsRow lo 9 1 V ts.length (ts.map strCell)
  var : W.heap[gl]? = some (.cells #[V] 67 (0, 0))
  frame : Below w0.heap.size w0 W
  lo0 : w0.heap.size ≤ lo
  lo1 : lo ≤ W.heap.size
  gl0 : w0.heap.size ≤ gl
theorem TxSt.below {w0 : World} {lo gl : Nat} {V : Value} {ts : List (List UInt8)} {W W' : World} (h : TxSt w0 lo gl V ts W) (hb : Below W.heap.size W W') : TxSt w0 lo gl V ts W' :=
  ⟨own_below' h.row hb, (hb.block _ (heap_lt h.var)).trans h.var, below_step h.frame hb, h.lo0, Nat.le_trans h.lo1 hb.size, h.gl0⟩
theorem TxSt.add {w0 : World} {lo gl : Nat} {V V' : Value} {ts : List (List UInt8)} {t : List UInt8} {W W' : World} (h : TxSt w0 lo gl V ts W) (hg : W.grownBy W' V.ownBlock) (own' : W'.ownsRow lo 9 1 V' (ts.length + 1) (ts.map strCell ++ [strCell t])) :
    TxSt w0 lo gl V' (ts ++ [t]) (W'.setCell ⟨gl, 0, none⟩ V') := by
  have hv := grown_keep hg h.var (own_ne_block h.row h.var (by decide))
  have hs : (W'.setCell ⟨gl, 0, none⟩ V').heap.size = W'.heap.size := by simp [World.setCell]
  refine ⟨?_, ?_, ?_, h.lo0, ?_, h.gl0⟩
  · rw [List.length_append, List.map_append]
    exact own_setCell own' (fun e1 => own_ne_block own' hv (by decide) e1) V'
  · have := heap_set hv V' (i := 0)
    simpa using this
  · exact (grown_below h.frame h.row h.lo0 hg).setCell (p := ⟨gl, 0, none⟩) h.gl0 _
  · rw [hs]; exact Nat.le_trans h.lo1 hg.size

set_option maxRecDepth 100000 in
set_option maxHeartbeats 4000000 in
theorem txtAdd_any (x : R3) (m c gl lo : Nat) (A : Option Addr) (V : Value) (ts : List (List UInt8)) (B : List UInt8) (w0 w : World) (h : TxSt w0 lo gl V ts w) (hts : ts.length ≤ 1000) (hb : 0 ≤ x.b ∧ x.b ≤ 15) (hB : B.length ≤ 900)
    (hx : x.a = 0 ∨ x.a = 1 ∨ x.a = 3 ∨ x.a = 4 ∨ (x.a = 2 ∧ 0 ≤ x.c ∧ x.c ≤ 15))
    (hrec : Hid (∀ W, Below w.heap.size w W → Calls Tryd.prog 33 #[.slice A m c] W fun e w' => e = .returned (.string ⟨B.toArray⟩) ∧ Below W.heap.size W w')) :
    Calls Tryd.prog 56 #[.agg #[.int .i64 x.a, .int .i64 x.b, .int .i64 x.c], .slice A m c, .pointer (some ⟨gl, 0, none⟩)] w fun e w' => e = .returned (.tuple #[]) ∧ ∃ V', TxSt w0 lo gl V' (ts ++ [cmdT x B]) w' := by
  obtain ⟨xa, xb, xc⟩ := x
  dsimp only at hb hx
  obtain ⟨nb, rfl⟩ : ∃ nb : Nat, xb = nb := ⟨xb.toNat, by omega⟩
  obtain ⟨D, hD⟩ : ∃ D, Lib.decDigits nb = D := ⟨_, rfl⟩
  have HDEC : Hid (∀ W, Calls Tryd.prog 57 #[.int .i64 nb] W fun e w' => e = .returned (.string ⟨D.toArray⟩) ∧ W = w') := by
    intro W; rw [← hD]; exact decimal_small nb (by omega) W
  have HDL : Hid (D.length ≤ 2) := by have := decT_len (n := (nb : Int)) hb; unfold decT at this; rw [Int.toNat_natCast, hD] at this; exact this
  have HD : Hid (decT (nb : Int) = D) := by unfold Hid decT; rw [Int.toNat_natCast, hD]
  clear hD
  obtain ⟨lt, hlt⟩ : ∃ l, ts.length = l := ⟨_, rfl⟩
  have HLT := Lib.hid hlt
  rw [hlt] at hts
  have hrow := h.row
  rw [hlt] at hrow
  obtain ⟨AV, cV, hAV⟩ := own_form hrow
  subst hAV
  obtain ⟨CT, hCT⟩ : ∃ C, cmdT ⟨xa, (nb : Int), xc⟩ B = C := ⟨_, rfl⟩
  rw [hCT]
  have HCT := Lib.hid hCT
  obtain ⟨w1, HW1, B1, x1⟩ := al1 w (.cells #[.int .i64 xa, .int .i64 nb, .int .i64 xc] 61)
  have H1 := Lib.hid (h.below B1)
  have Q0 : Hid (w1.cell? ⟨w.heap.size, 0, none⟩ = some (.int .i64 xa)) := by unfold Hid; rw [cell_of_heap x1]; rfl
  have q1 : w1.cell? ⟨w.heap.size, 1, none⟩ = some (.int .i64 nb) := by rw [cell_of_heap x1]; rfl
  have Q2 : Hid (w1.cell? ⟨w.heap.size, 2, none⟩ = some (.int .i64 xc)) := by unfold Hid; rw [cell_of_heap x1]; rfl
  have v0 : w1.cell? ⟨gl, 0, none⟩ = some (.slice AV lt cV) := by rw [cell_of_heap H1.out.var]; rfl
  have HI := Lib.hid infoStringS
  have HBW := Lib.hid B1
  clear h hrow hlt hCT x1 B1
  go_enter Tryd.func56, Tryd.ntmps56
  go_wp2_with fail
  rw [← HW1.out]
  refine (HDEC.out _).mono ?_
  rintro e w' ⟨rfl, rfl⟩
  rcases hx with rfl | rfl | rfl | rfl | ⟨rfl, hc0, hc15⟩
  · have hrc := fun W => run_cat (P := Tryd.prog) [33] D (by have := HDL.out; simp; omega) W
    have e1 : Hid ([33] ++ D = CT) := by unfold Hid; rw [← HCT.out]; simp [cmdT, HD.out]
    rw [e1.out] at hrc
    have q0 : w1.cell? ⟨w.heap.size, 0, none⟩ = some (.int .i64 0) := Q0.out
    obtain ⟨w2, HW2, b2, x2⟩ := al1 w1 (.cells #[.string ⟨CT.toArray⟩] 9)
    have H2 := Lib.hid (H1.out.below b2)
    have own2 := H2.out.row
    rw [HLT.out] at own2
    have src2 : Src 1 w2 (.slice (some ⟨w1.heap.size, 0, none⟩) 1 1) 1 [.string ⟨CT.toArray⟩] := Src.of_own (own_of_block (n := 1) (cap := 1) (s := 1) (xs := [.string ⟨CT.toArray⟩]) (base := 0) x2 (by omega) rfl (by omega) (by unfold maxLen; omega))
    clear b2 x2
    go_wp2_with (at_builtin; rw [← HW2.out]; refine wpList_appx rfl _ _ _ rfl Tryd.underlying67 infoStringS rfl (by omega) lo own2 H2.out.lo1 rfl src2 rfl (by simp [Value.oneCell']) (by unfold maxLen; omega) (by omega) ?_; intro V3 w3 own3 hg3 hnil3; have TX : Hid (TxSt w0 lo gl V3 (ts ++ [CT]) (w3.setCell ⟨gl, 0, none⟩ V3)) := H2.out.add hg3 (by rw [HLT.out]; exact own3); have hv3 := grown_keep hg3 H2.out.var (own_ne_block H2.out.row H2.out.var (by decide)); have cv3 : w3.cell? ⟨gl, 0, none⟩ = some (.slice AV lt cV) := (by rw [cell_of_heap hv3]; rfl); have fv3 : w3.frozen? ⟨gl, 0, none⟩ = false := frozen_of_heap hv3; obtain ⟨A3, c3, rfl⟩ := own_form own3; clear hv3 own3 hg3 hnil3 src2 own2)
    go_end0
    have hlc := HLT.out
    exact ⟨rfl, _, TX.out⟩
  · have hrc := fun W => run_cat (P := Tryd.prog) [43] D (by have := HDL.out; simp; omega) W
    have e1 : Hid ([43] ++ D = CT) := by unfold Hid; rw [← HCT.out]; simp [cmdT, HD.out]
    rw [e1.out] at hrc
    have q0 : w1.cell? ⟨w.heap.size, 0, none⟩ = some (.int .i64 1) := Q0.out
    obtain ⟨w2, HW2, b2, x2⟩ := al1 w1 (.cells #[.string ⟨CT.toArray⟩] 9)
    have H2 := Lib.hid (H1.out.below b2)
    have own2 := H2.out.row
    rw [HLT.out] at own2
    have src2 : Src 1 w2 (.slice (some ⟨w1.heap.size, 0, none⟩) 1 1) 1 [.string ⟨CT.toArray⟩] := Src.of_own (own_of_block (n := 1) (cap := 1) (s := 1) (xs := [.string ⟨CT.toArray⟩]) (base := 0) x2 (by omega) rfl (by omega) (by unfold maxLen; omega))
    clear b2 x2
    go_wp2_with (at_builtin; rw [← HW2.out]; refine wpList_appx rfl _ _ _ rfl Tryd.underlying67 infoStringS rfl (by omega) lo own2 H2.out.lo1 rfl src2 rfl (by simp [Value.oneCell']) (by unfold maxLen; omega) (by omega) ?_; intro V3 w3 own3 hg3 hnil3; have TX : Hid (TxSt w0 lo gl V3 (ts ++ [CT]) (w3.setCell ⟨gl, 0, none⟩ V3)) := H2.out.add hg3 (by rw [HLT.out]; exact own3); have hv3 := grown_keep hg3 H2.out.var (own_ne_block H2.out.row H2.out.var (by decide)); have cv3 : w3.cell? ⟨gl, 0, none⟩ = some (.slice AV lt cV) := (by rw [cell_of_heap hv3]; rfl); have fv3 : w3.frozen? ⟨gl, 0, none⟩ = false := frozen_of_heap hv3; obtain ⟨A3, c3, rfl⟩ := own_form own3; clear hv3 own3 hg3 hnil3 src2 own2)
    go_end0
    have hlc := HLT.out
    exact ⟨rfl, _, TX.out⟩
  · obtain ⟨t1, ht1⟩ : ∃ t, D ++ [42, 40] = t := ⟨_, rfl⟩
    have hr1 := fun W => run_cat (P := Tryd.prog) D [42, 40] (by have := HDL.out; simp; omega) W
    rw [ht1] at hr1
    have hl1 : t1.length ≤ 4 := by rw [← ht1]; have := HDL.out; simp; omega
    obtain ⟨t2, ht2⟩ : ∃ t, t1 ++ B = t := ⟨_, rfl⟩
    have hr2 := fun W => run_cat (P := Tryd.prog) t1 B (by omega) W
    rw [ht2] at hr2
    have hl2 : t2.length ≤ 904 := by rw [← ht2, List.length_append]; omega
    have hr3 := fun W => run_cat (P := Tryd.prog) t2 [41] (by simp; omega) W
    have e1 : t2 ++ [41] = CT := by rw [← HCT.out, ← ht2, ← ht1]; simp [cmdT, HD.out]
    rw [e1] at hr3
    clear ht1 ht2 e1 hl1 hl2
    have q0 : w1.cell? ⟨w.heap.size, 0, none⟩ = some (.int .i64 3) := Q0.out
    go_wp2_with fail
    go_region_law ((first
      | (refine step_appx (by rfl) _ _ _ (by rfl) Tryd.underlying67 HI.out rfl (by omega) _ own4 H4.out.lo1 (by rfl) src4 (by rfl) (by simp [Value.oneCell']) (by unfold maxLen; omega) (by omega) ?_; intro V5 w5 own5 hg5 hnil5; have TX : Hid (TxSt w0 lo gl V5 (ts ++ [CT]) (w5.setCell ⟨gl, 0, none⟩ V5)) := H4.out.add hg5 (by rw [HLT.out]; exact own5); have hv5 := grown_keep hg5 H4.out.var (own_ne_block H4.out.row H4.out.var (by decide)); have cv5 : w5.cell? ⟨gl, 0, none⟩ = some (.slice AV lt cV) := (by rw [cell_of_heap hv5]; rfl); have fv5 : w5.frozen? ⟨gl, 0, none⟩ = false := frozen_of_heap hv5; obtain ⟨A5, c5, rfl⟩ := own_form own5; clear hv5 own5 hg5 hnil5)
      | (go_simp; go_at_call 33; refine (hrec.out _ HBW.out.drew).mono ?_; rintro e w3 ⟨rfl, b3⟩; have BX := below_step (Below.refl w1.heap.size w1).drew b3; have H4 := Lib.hid ((H1.out.below BX).below (laid_below w3 (.cells #[.string ⟨CT.toArray⟩] 9))); have own4 := H4.out.row; rw [HLT.out] at own4; have src4 : Src 1 (w3.alloc (.cells #[.string ⟨CT.toArray⟩] 9)) (.slice (some ⟨w3.heap.size, 0, none⟩) 1 1) 1 [.string ⟨CT.toArray⟩] := Src.of_own (own_of_block (n := 1) (cap := 1) (s := 1) (xs := [.string ⟨CT.toArray⟩]) (base := 0) (heap_alloc_new _ _) (by omega) rfl (by omega) (by unfold maxLen; omega)); have v3 : w3.cell? ⟨gl, 0, none⟩ = some (.slice AV lt cV) := cell_step (by exact v0) BX; have v4 : (w3.alloc (.cells #[.string ⟨CT.toArray⟩] 9)).cell? ⟨gl, 0, none⟩ = some (.slice AV lt cV) := cell_step v3 (laid_below _ _); clear b3)))
    all_goals
      go_wp2
      go_end0
      exact ⟨rfl, _, TX.out⟩
  · obtain ⟨t1, ht1⟩ : ∃ t, D ++ [63, 40] = t := ⟨_, rfl⟩
    have hr1 := fun W => run_cat (P := Tryd.prog) D [63, 40] (by have := HDL.out; simp; omega) W
    rw [ht1] at hr1
    have hl1 : t1.length ≤ 4 := by rw [← ht1]; have := HDL.out; simp; omega
    obtain ⟨t2, ht2⟩ : ∃ t, t1 ++ B = t := ⟨_, rfl⟩
    have hr2 := fun W => run_cat (P := Tryd.prog) t1 B (by omega) W
    rw [ht2] at hr2
    have hl2 : t2.length ≤ 904 := by rw [← ht2, List.length_append]; omega
    have hr3 := fun W => run_cat (P := Tryd.prog) t2 [41] (by simp; omega) W
    have e1 : t2 ++ [41] = CT := by rw [← HCT.out, ← ht2, ← ht1]; simp [cmdT, HD.out]
    rw [e1] at hr3
    clear ht1 ht2 e1 hl1 hl2
    have q0 : w1.cell? ⟨w.heap.size, 0, none⟩ = some (.int .i64 4) := Q0.out
    go_wp2_with fail
    go_region_law ((first
      | (refine step_appx (by rfl) _ _ _ (by rfl) Tryd.underlying67 HI.out rfl (by omega) _ own4 H4.out.lo1 (by rfl) src4 (by rfl) (by simp [Value.oneCell']) (by unfold maxLen; omega) (by omega) ?_; intro V5 w5 own5 hg5 hnil5; have TX : Hid (TxSt w0 lo gl V5 (ts ++ [CT]) (w5.setCell ⟨gl, 0, none⟩ V5)) := H4.out.add hg5 (by rw [HLT.out]; exact own5); have hv5 := grown_keep hg5 H4.out.var (own_ne_block H4.out.row H4.out.var (by decide)); have cv5 : w5.cell? ⟨gl, 0, none⟩ = some (.slice AV lt cV) := (by rw [cell_of_heap hv5]; rfl); have fv5 : w5.frozen? ⟨gl, 0, none⟩ = false := frozen_of_heap hv5; obtain ⟨A5, c5, rfl⟩ := own_form own5; clear hv5 own5 hg5 hnil5)
      | (go_simp; go_at_call 33; refine (hrec.out _ HBW.out.drew).mono ?_; rintro e w3 ⟨rfl, b3⟩; have BX := below_step (Below.refl w1.heap.size w1).drew b3; have H4 := Lib.hid ((H1.out.below BX).below (laid_below w3 (.cells #[.string ⟨CT.toArray⟩] 9))); have own4 := H4.out.row; rw [HLT.out] at own4; have src4 : Src 1 (w3.alloc (.cells #[.string ⟨CT.toArray⟩] 9)) (.slice (some ⟨w3.heap.size, 0, none⟩) 1 1) 1 [.string ⟨CT.toArray⟩] := Src.of_own (own_of_block (n := 1) (cap := 1) (s := 1) (xs := [.string ⟨CT.toArray⟩]) (base := 0) (heap_alloc_new _ _) (by omega) rfl (by omega) (by unfold maxLen; omega)); have v3 : w3.cell? ⟨gl, 0, none⟩ = some (.slice AV lt cV) := cell_step (by exact v0) BX; have v4 : (w3.alloc (.cells #[.string ⟨CT.toArray⟩] 9)).cell? ⟨gl, 0, none⟩ = some (.slice AV lt cV) := cell_step v3 (laid_below _ _); clear b3)))
    all_goals
      go_wp2
      go_end0
      exact ⟨rfl, _, TX.out⟩
  · obtain ⟨nc, rfl⟩ : ∃ nc : Nat, xc = nc := ⟨xc.toNat, by omega⟩
    obtain ⟨D2, hD2⟩ : ∃ D, Lib.decDigits nc = D := ⟨_, rfl⟩
    have HDEC2 : Hid (∀ W, Calls Tryd.prog 57 #[.int .i64 nc] W fun e w' => e = .returned (.string ⟨D2.toArray⟩) ∧ W = w') := by
      intro W; rw [← hD2]; exact decimal_small nc (by omega) W
    have HDL2 : Hid (D2.length ≤ 2) := by have := decT_len (n := (nc : Int)) ⟨hc0, hc15⟩; unfold decT at this; rw [Int.toNat_natCast, hD2] at this; exact this
    have HDT2 : Hid (decT (nc : Int) = D2) := by unfold Hid decT; rw [Int.toNat_natCast, hD2]
    clear hD2
    have q2 : w1.cell? ⟨w.heap.size, 2, none⟩ = some (.int .i64 (nc : Int)) := Q2.out
    obtain ⟨t1, ht1⟩ : ∃ t, D ++ [61] = t := ⟨_, rfl⟩
    have hr1 := fun W => run_cat (P := Tryd.prog) D [61] (by have := HDL.out; simp; omega) W
    rw [ht1] at hr1
    have hl1 : t1.length ≤ 3 := by rw [← ht1]; have := HDL.out; simp; omega
    have hr2 := fun W => run_cat (P := Tryd.prog) t1 D2 (by have := HDL2.out; omega) W
    have e1 : t1 ++ D2 = CT := by rw [← HCT.out, ← ht1]; simp [cmdT, HD.out, HDT2.out]
    rw [e1] at hr2
    clear ht1 e1 hl1
    have q0 : w1.cell? ⟨w.heap.size, 0, none⟩ = some (.int .i64 2) := Q0.out
    go_wp2_with fail
    go_region_law ((first
      | (refine step_appx (by rfl) _ _ _ (by rfl) Tryd.underlying67 HI.out rfl (by omega) _ own4 H4.out.lo1 (by rfl) src4 (by rfl) (by simp [Value.oneCell']) (by unfold maxLen; omega) (by omega) ?_; intro V5 w5 own5 hg5 hnil5; have TX : Hid (TxSt w0 lo gl V5 (ts ++ [CT]) (w5.setCell ⟨gl, 0, none⟩ V5)) := H4.out.add hg5 (by rw [HLT.out]; exact own5); have hv5 := grown_keep hg5 H4.out.var (own_ne_block H4.out.row H4.out.var (by decide)); have cv5 : w5.cell? ⟨gl, 0, none⟩ = some (.slice AV lt cV) := (by rw [cell_of_heap hv5]; rfl); have fv5 : w5.frozen? ⟨gl, 0, none⟩ = false := frozen_of_heap hv5; obtain ⟨A5, c5, rfl⟩ := own_form own5; clear hv5 own5 hg5 hnil5)
      | (go_simp; go_at_call 57; refine (HDEC2.out _).mono ?_; rintro e w3 ⟨rfl, hw3⟩; have BX : Below w1.heap.size w1 w3 := (by rw [← hw3]; exact (Below.refl w1.heap.size w1).drew); clear hw3; have H4 := Lib.hid ((H1.out.below BX).below (laid_below w3 (.cells #[.string ⟨CT.toArray⟩] 9))); have own4 := H4.out.row; rw [HLT.out] at own4; have src4 : Src 1 (w3.alloc (.cells #[.string ⟨CT.toArray⟩] 9)) (.slice (some ⟨w3.heap.size, 0, none⟩) 1 1) 1 [.string ⟨CT.toArray⟩] := Src.of_own (own_of_block (n := 1) (cap := 1) (s := 1) (xs := [.string ⟨CT.toArray⟩]) (base := 0) (heap_alloc_new _ _) (by omega) rfl (by omega) (by unfold maxLen; omega)); have v3 : w3.cell? ⟨gl, 0, none⟩ = some (.slice AV lt cV) := cell_step (by exact v0) BX; have v4 : (w3.alloc (.cells #[.string ⟨CT.toArray⟩] 9)).cell? ⟨gl, 0, none⟩ = some (.slice AV lt cV) := cell_step v3 (laid_below _ _))))
    all_goals
      go_wp2
      go_end0
      exact ⟨rfl, _, TX.out⟩
end Go.Proofs.YtjakgeblmkdbpaaDoor
