/- The text of a loop program, by the reference. -/
import Derived.Test.YtjakgeblmkdbpaaDoorTxtPlain
import Derived.Test.YtjakgeblmkdbpaaDoorTxtDec
import Derived.Test.YtjakgeblmkdbpaaDoorLoops
namespace Go.Proofs.YtjakgeblmkdbpaaDoor
open Go.RowKit
set_option linter.all false

theorem vl_le {d d' : Nat} {l : List R3} : True := trivial
theorem seg_body {xs : List R3} {k to : Nat} {x : R3} (hx : xs[k]? = some x) (hk : k < to) (hm : k + 1 + bodyLen x ≤ to) : (seg xs k to).drop (1 + bodyLen x) = seg xs (k + 1 + bodyLen x) to ∧ ((seg xs k to).drop 1).take (bodyLen x) = seg xs (k + 1) (k + 1 + bodyLen x) := by
  rw [seg_at hx hk]
  unfold seg
  constructor
  · rw [show 1 + bodyLen x = bodyLen x + 1 by omega, List.drop_succ_cons, List.drop_take, List.drop_drop]
    congr 1
    omega
  · rw [List.drop_succ_cons, List.drop_zero, List.take_take]
    congr 1
    omega
/-- How far the text is at a place. -/
def SoFar (fr k : Nat) (os : List UInt8) (rest : List R3) (T : List UInt8) : Prop := (k = fr ∧ os = [] ∧ textL rest = T) ∨ (fr < k ∧ os ++ tailT rest = T)

set_option maxRecDepth 100000 in
set_option maxHeartbeats 4000000 in
theorem l17Show_any (N : Nat) : ∀ (A : Option Addr) (n c fr to d : Nat) (xs : List R3) (w : World), Args 3 w A n (rows R3.vs xs) → n ≤ 150 → fr ≤ to → to ≤ n → to - fr ≤ N → vl d (seg xs fr to) = true →
    Calls Tryd.prog 30 #[.slice A n c, .int .i64 fr, .int .i64 to] w fun e w' => e = .returned (.string ⟨(textL (seg xs fr to)).toArray⟩) ∧ Below w.heap.size w w' := by
  induction N using Nat.strongRecOn with
  | ind N ih =>
  intro A n c fr to d xs w ha hn hft hto hN hv
  have IH := Lib.hid ih; clear ih
  have HL : Hid (xs.length = n) := by have := ha.1; rw [rows_len R3.vs_len] at this; unfold Hid; omega
  have HV := Lib.hid hv; clear hv
  have HA := Lib.hid ha; clear ha
  obtain ⟨T, hT⟩ : ∃ T, textL (seg xs fr to) = T := ⟨_, rfl⟩
  have HTL : Hid (T.length ≤ 900) := by have := textL_len HV.out; rw [seg_len (by have := HL.out; omega), hT] at this; unfold Hid; omega
  have HT := Lib.hid hT
  rw [hT]
  clear hT
  go_enter Tryd.func30, Tryd.ntmps30
  go_wp2_with fail
  go_loopw [7, 8] (fun o i wr => ∃ (k : Nat) (os : List UInt8), fr ≤ k ∧ k ≤ to ∧ i = .int .i64 k ∧ o = .string ⟨os.toArray⟩ ∧ Hid (Below w.heap.size w wr) ∧ Hid (vl d (seg xs k to) = true) ∧ Hid (SoFar fr k os (seg xs k to) T)) (fun _ i _ => to - (intOf i).toNat)
  case atStart => exact ⟨fr, [], Nat.le_refl _, hft, rfl, rfl, Below.refl _ _, HV.out, .inl ⟨rfl, rfl, HT.out⟩⟩
  case round =>
    obtain ⟨k, os, hfk, hk, rfl, rfl, HB, HVK, HSF⟩ := hrel
    by_cases hlt : k < to
    · obtain ⟨b, off, rfl, hs⟩ := HA.out.sl (k := k) (by omega)
      obtain ⟨x, HX⟩ := hget (k := k) HL (by omega)
      obtain ⟨p0, p1, p2⟩ := (hs.below' HB.out).rec3 HX.out
      have hseg := seg_at HX.out hlt
      have hvk := HVK.out
      rw [hseg] at hvk
      obtain ⟨hb0, hb15, hkind⟩ := vl_kind hvk
      have hst := vl_step (d := d) (k := 0) (x := x) (xs := seg xs k to) (by rw [hseg]; rfl) (by rw [List.drop_zero]; exact HVK.out)
      have hsl : (seg xs k to).length = to - k := seg_len (by have := HL.out; omega)
      rw [hsl] at hst
      obtain ⟨hm1, hv2, hv3⟩ := hst
      have hbody := seg_body HX.out hlt (by omega)
      rw [show 0 + 1 + bodyLen x = 1 + bodyLen x by omega, hbody.1] at hv2
      rw [show (0 : Nat) + 1 = 1 from rfl, hbody.2] at hv3
      have hm2 : k + 1 + bodyLen x ≤ to := by omega
      obtain ⟨Bd, hBd⟩ : ∃ B, textL (seg xs (k + 1) (k + 1 + bodyLen x)) = B := ⟨_, rfl⟩
      have htx : textL (seg xs k to) = cmdT x Bd ++ tailT (seg xs (k + 1 + bodyLen x) to) := by
        have e1 : seg xs k to = x :: (seg xs k to).drop 1 := by rw [hseg]; rfl
        rw [e1, textL_cons, List.drop_drop, hbody.1, hbody.2, hBd]
      have HBD := Lib.hid hBd; have HTX := Lib.hid htx; have HV2 := Lib.hid hv2; have HV3 := Lib.hid hv3
      clear hBd htx hv2 hv3 hvk hseg hsl hbody hs
      obtain ⟨xa, xb, xc⟩ := x
      dsimp only at hb0 hb15 hkind p0 p1 p2
      obtain ⟨nb, rfl⟩ : ∃ nb : Nat, xb = nb := ⟨xb.toNat, by omega⟩
      obtain ⟨D, hD⟩ : ∃ D, Lib.decDigits nb = D := ⟨_, rfl⟩
      have HDEC : Hid (∀ W, Calls Tryd.prog 53 #[.int .i64 nb] W fun e w' => e = .returned (.string ⟨D.toArray⟩) ∧ Below W.heap.size W w') := by
        intro W; rw [← hD]; exact l01Dec_any nb (by omega) W
      have HDL : Hid (D.length ≤ 2) := by have := decT_len (n := (nb : Int)) ⟨hb0, hb15⟩; unfold decT at this; rw [Int.toNat_natCast, hD] at this; exact this
      have HD : Hid (decT (nb : Int) = D) := by unfold Hid decT; rw [Int.toNat_natCast, hD]
      clear hD
      have hn1 : (k : Int) < (n : Int) := by omega
      have hk0 : (0 : Int) ≤ (k : Int) := by omega
      have hkI : (k : Int) < (to : Int) := by omega
      obtain ⟨w1, HW1, B1, x1⟩ := al1 wr (.cells #[.int .i64 xa, .int .i64 nb, .int .i64 xc] 61)
      have HB1 := Lib.hid (below_step HB.out B1)
      have q0 : w1.cell? ⟨wr.heap.size, 0, none⟩ = some (.int .i64 xa) := by rw [cell_of_heap x1]; rfl
      have q1 : w1.cell? ⟨wr.heap.size, 1, none⟩ = some (.int .i64 nb) := by rw [cell_of_heap x1]; rfl
      have q2 : w1.cell? ⟨wr.heap.size, 2, none⟩ = some (.int .i64 xc) := by rw [cell_of_heap x1]; rfl
      have Q0 := Lib.hid q0; have Q2 := Lib.hid q2
      clear x1 B1 q0 q2
      have hw1 : IntKind.i64.wrap ((k : Int) + 1) = (k : Int) + 1 := IntWalk.i64_in _ (by omega)
      -- the text so far with the sign between commands
      obtain ⟨os1, HOS1, HCAT1, HOL⟩ : ∃ os1 : List UInt8, Hid (os1 ++ cmdT ⟨xa, nb, xc⟩ Bd ++ tailT (seg xs (k + 1 + bodyLen ⟨xa, nb, xc⟩) to) = T) ∧ Hid ((k = fr ∧ os1 = os) ∨ (fr < k ∧ os1 = os ++ [59])) ∧ Hid (os.length ≤ 900 ∧ os1.length + (cmdT ⟨xa, nb, xc⟩ Bd).length ≤ 900) := by
        rcases HSF.out with ⟨h1, h2, h3⟩ | ⟨h1, h2⟩
        · subst h2
          have e : [] ++ cmdT ⟨xa, nb, xc⟩ Bd ++ tailT (seg xs (k + 1 + bodyLen ⟨xa, nb, xc⟩) to) = T := by rw [List.nil_append, ← HTX.out]; exact h3
          refine ⟨[], e, .inl ⟨h1, rfl⟩, by simp, ?_⟩
          have h5 := congrArg List.length e
          have := HTL.out
          rw [List.length_append, List.length_append] at h5
          omega
        · have e : (os ++ [59]) ++ cmdT ⟨xa, nb, xc⟩ Bd ++ tailT (seg xs (k + 1 + bodyLen ⟨xa, nb, xc⟩) to) = T := by
            rw [← h2, List.append_assoc, ← HTX.out]
            have e2 : seg xs k to = ⟨xa, nb, xc⟩ :: (seg xs k to).drop 1 := by rw [seg_at HX.out hlt]; rfl
            conv => rhs; rw [e2, tailT_cons, ← e2]
            simp
          refine ⟨os ++ [59], e, .inr ⟨h1, rfl⟩, ?_, ?_⟩
          · have h5 := congrArg List.length h2
            have := HTL.out
            rw [List.length_append] at h5
            omega
          · have h5 := congrArg List.length e
            have := HTL.out
            rw [List.length_append, List.length_append] at h5
            omega
      obtain ⟨CT, hCT⟩ : ∃ C, cmdT ⟨xa, nb, xc⟩ Bd = C := ⟨_, rfl⟩
      rw [hCT] at HOS1 HOL
      have HCT := Lib.hid hCT
      obtain ⟨os2, hos2⟩ : ∃ o, os1 ++ CT = o := ⟨_, rfl⟩
      rw [hos2] at HOS1
      have hrc2 := fun W => run_cat (P := Tryd.prog) os1 CT (by have := HOL.out; omega) W
      rw [hos2] at hrc2
      clear hCT hos2 HSF HTX
      rcases HCAT1.out with ⟨hkf, hoe⟩ | ⟨hkf, hoe⟩
      · have hkfI : ¬ (fr : Int) < (k : Int) := by omega
        subst hoe
        clear hkf
        rcases hkind with rfl | rfl | rfl | rfl | ⟨rfl, hc0, hc15⟩
        · have hrc := fun W => run_cat (P := Tryd.prog) [33] D (by have := HDL.out; simp; omega) W
          have e1 : Hid ([33] ++ D = CT) := by unfold Hid; rw [← HCT.out]; simp [cmdT, HD.out]
          rw [e1.out] at hrc
          have q0 : w1.cell? ⟨wr.heap.size, 0, none⟩ = some (.int .i64 0) := Q0.out
          have HBL : Hid (bodyLen ⟨0, (nb : Int), xc⟩ = 0) := by rfl
          go_wp2_with fail
          rw [← HW1.out]
          refine (HDEC.out _).mono ?_
          rintro e w2 ⟨rfl, b2⟩
          have q0 := cell_step (by exact q0) b2
          have HBE := Lib.hid (below_step HB1.out b2)
          clear b2 q1
          go_wp2_with fail
          go_roundw
          case rel => exact ⟨k + 1 + bodyLen ⟨0, nb, xc⟩, os2, by omega, hm2, by rw [HBL.out]; go_num, rfl, HBE, HV2.out, .inr ⟨by omega, HOS1.out⟩⟩
          case measure => simp [intOf]; omega
        · have hrc := fun W => run_cat (P := Tryd.prog) [43] D (by have := HDL.out; simp; omega) W
          have e1 : Hid ([43] ++ D = CT) := by unfold Hid; rw [← HCT.out]; simp [cmdT, HD.out]
          rw [e1.out] at hrc
          have q0 : w1.cell? ⟨wr.heap.size, 0, none⟩ = some (.int .i64 1) := Q0.out
          have HBL : Hid (bodyLen ⟨1, (nb : Int), xc⟩ = 0) := by rfl
          go_wp2_with fail
          rw [← HW1.out]
          refine (HDEC.out _).mono ?_
          rintro e w2 ⟨rfl, b2⟩
          have q0 := cell_step (by exact q0) b2
          have HBE := Lib.hid (below_step HB1.out b2)
          clear b2 q1
          go_wp2_with fail
          go_roundw
          case rel => exact ⟨k + 1 + bodyLen ⟨1, nb, xc⟩, os2, by omega, hm2, by rw [HBL.out]; go_num, rfl, HBE, HV2.out, .inr ⟨by omega, HOS1.out⟩⟩
          case measure => simp [intOf]; omega
        · have hlp : isLp ⟨3, (nb : Int), xc⟩ = true := by rfl
          obtain ⟨hvb, hxc0, hd0⟩ := HV3.out hlp
          have hbl := bodyLen_lp hlp
          dsimp only at hbl hxc0
          obtain ⟨m, hmm⟩ : ∃ m : Nat, bodyLen ⟨3, (nb : Int), xc⟩ = m := ⟨_, rfl⟩
          rw [hmm] at hbl hm2 hm1 HV2 HV3 HBD HOS1 hvb
          obtain rfl : xc = (m : Int) := by omega
          have HMM := Lib.hid hmm
          have HRB : Hid (∀ W, Below w.heap.size w W → Calls Tryd.prog 30 #[.slice (some ⟨b, off, none⟩) n c, .int .i64 ((k : Int) + 1), .int .i64 ((k : Int) + 1 + (m : Int))] W fun e w' => e = .returned (.string ⟨Bd.toArray⟩) ∧ Below W.heap.size W w') := by
            intro W hW
            rw [← HBD.out]
            have := IH.out m (by omega) (some ⟨b, off, none⟩) n c (k + 1) (k + 1 + m) (d - 1) xs W (HA.out.below hW) hn (by omega) (by omega) (by omega) hvb
            simpa using this
          have hbdl : Hid (Bd.length ≤ 900) := by have h5 := textL_len hvb; rw [seg_len (by have := HL.out; omega), HBD.out] at h5; unfold Hid; omega
          have q0 : w1.cell? ⟨wr.heap.size, 0, none⟩ = some (.int .i64 3) := Q0.out
          have q2 : w1.cell? ⟨wr.heap.size, 2, none⟩ = some (.int .i64 (m : Int)) := Q2.out
          have hw2 : IntKind.i64.wrap ((k : Int) + 1 + (m : Int)) = (k : Int) + 1 + (m : Int) := IntWalk.i64_in _ (by omega)
          have hw3 : IntKind.i64.wrap ((k : Int) + (m : Int)) = (k : Int) + (m : Int) := IntWalk.i64_in _ (by omega)
          have hw4 : IntKind.i64.wrap ((k : Int) + (m : Int) + 1) = (k : Int) + (m : Int) + 1 := IntWalk.i64_in _ (by omega)
          obtain ⟨t1, ht1⟩ : ∃ t, D ++ [42] = t := ⟨_, rfl⟩
          have hr1 := fun W => run_cat (P := Tryd.prog) D [42] (by have := HDL.out; simp; omega) W
          rw [ht1] at hr1
          obtain ⟨t2, ht2⟩ : ∃ t, t1 ++ [40] = t := ⟨_, rfl⟩
          have hl1 : t1.length ≤ 3 := by rw [← ht1]; have := HDL.out; simp; omega
          have hr2 := fun W => run_cat (P := Tryd.prog) t1 [40] (by simp; omega) W
          rw [ht2] at hr2
          obtain ⟨t3, ht3⟩ : ∃ t, t2 ++ Bd = t := ⟨_, rfl⟩
          have hl2 : t2.length ≤ 4 := by rw [← ht2]; simp; omega
          have hr3 := fun W => run_cat (P := Tryd.prog) t2 Bd (by have := hbdl.out; omega) W
          rw [ht3] at hr3
          have hl3 : t3.length ≤ 904 := by rw [← ht3, List.length_append]; have := hbdl.out; omega
          have hr4 := fun W => run_cat (P := Tryd.prog) t3 [41] (by simp; omega) W
          have e1 : t3 ++ [41] = CT := by rw [← HCT.out, ← ht3, ← ht2, ← ht1]; simp [cmdT, HD.out]
          rw [e1] at hr4
          clear ht1 ht2 ht3 e1 hbl hmm hvb hxc0 hd0 hlp hl1 hl2 hl3
          go_wp2_with fail
          rw [← HW1.out]
          refine (HDEC.out _).mono ?_
          rintro e w2 ⟨rfl, b2⟩
          have q0 := cell_step (by exact q0) b2
          have q2 := cell_step (by exact q2) b2
          have HB2 := Lib.hid (below_step HB1.out b2)
          clear b2 q1
          go_wp2_with fail
          refine (HRB.out _ HB2.out).mono ?_
          rintro e w3 ⟨rfl, b3⟩
          have q2 := cell_step (by exact q2) b3
          have HBE := Lib.hid (below_step HB2.out b3)
          clear b3 q0
          go_wp2_with fail
          go_roundw
          case rel => exact ⟨k + 1 + m, os2, by omega, hm2, by first | go_num | (simp; omega), rfl, HBE, HV2.out, .inr ⟨by omega, HOS1.out⟩⟩
          case measure => simp [intOf]; omega
        · have hlp : isLp ⟨4, (nb : Int), xc⟩ = true := by rfl
          obtain ⟨hvb, hxc0, hd0⟩ := HV3.out hlp
          have hbl := bodyLen_lp hlp
          dsimp only at hbl hxc0
          obtain ⟨m, hmm⟩ : ∃ m : Nat, bodyLen ⟨4, (nb : Int), xc⟩ = m := ⟨_, rfl⟩
          rw [hmm] at hbl hm2 hm1 HV2 HV3 HBD HOS1 hvb
          obtain rfl : xc = (m : Int) := by omega
          have HMM := Lib.hid hmm
          have HRB : Hid (∀ W, Below w.heap.size w W → Calls Tryd.prog 30 #[.slice (some ⟨b, off, none⟩) n c, .int .i64 ((k : Int) + 1), .int .i64 ((k : Int) + 1 + (m : Int))] W fun e w' => e = .returned (.string ⟨Bd.toArray⟩) ∧ Below W.heap.size W w') := by
            intro W hW
            rw [← HBD.out]
            have := IH.out m (by omega) (some ⟨b, off, none⟩) n c (k + 1) (k + 1 + m) (d - 1) xs W (HA.out.below hW) hn (by omega) (by omega) (by omega) hvb
            simpa using this
          have hbdl : Hid (Bd.length ≤ 900) := by have h5 := textL_len hvb; rw [seg_len (by have := HL.out; omega), HBD.out] at h5; unfold Hid; omega
          have q0 : w1.cell? ⟨wr.heap.size, 0, none⟩ = some (.int .i64 4) := Q0.out
          have q2 : w1.cell? ⟨wr.heap.size, 2, none⟩ = some (.int .i64 (m : Int)) := Q2.out
          have hw2 : IntKind.i64.wrap ((k : Int) + 1 + (m : Int)) = (k : Int) + 1 + (m : Int) := IntWalk.i64_in _ (by omega)
          have hw3 : IntKind.i64.wrap ((k : Int) + (m : Int)) = (k : Int) + (m : Int) := IntWalk.i64_in _ (by omega)
          have hw4 : IntKind.i64.wrap ((k : Int) + (m : Int) + 1) = (k : Int) + (m : Int) + 1 := IntWalk.i64_in _ (by omega)
          obtain ⟨t1, ht1⟩ : ∃ t, D ++ [63] = t := ⟨_, rfl⟩
          have hr1 := fun W => run_cat (P := Tryd.prog) D [63] (by have := HDL.out; simp; omega) W
          rw [ht1] at hr1
          obtain ⟨t2, ht2⟩ : ∃ t, t1 ++ [40] = t := ⟨_, rfl⟩
          have hl1 : t1.length ≤ 3 := by rw [← ht1]; have := HDL.out; simp; omega
          have hr2 := fun W => run_cat (P := Tryd.prog) t1 [40] (by simp; omega) W
          rw [ht2] at hr2
          obtain ⟨t3, ht3⟩ : ∃ t, t2 ++ Bd = t := ⟨_, rfl⟩
          have hl2 : t2.length ≤ 4 := by rw [← ht2]; simp; omega
          have hr3 := fun W => run_cat (P := Tryd.prog) t2 Bd (by have := hbdl.out; omega) W
          rw [ht3] at hr3
          have hl3 : t3.length ≤ 904 := by rw [← ht3, List.length_append]; have := hbdl.out; omega
          have hr4 := fun W => run_cat (P := Tryd.prog) t3 [41] (by simp; omega) W
          have e1 : t3 ++ [41] = CT := by rw [← HCT.out, ← ht3, ← ht2, ← ht1]; simp [cmdT, HD.out]
          rw [e1] at hr4
          clear ht1 ht2 ht3 e1 hbl hmm hvb hxc0 hd0 hlp hl1 hl2 hl3
          go_wp2_with fail
          rw [← HW1.out]
          refine (HDEC.out _).mono ?_
          rintro e w2 ⟨rfl, b2⟩
          have q0 := cell_step (by exact q0) b2
          have q2 := cell_step (by exact q2) b2
          have HB2 := Lib.hid (below_step HB1.out b2)
          clear b2 q1
          go_wp2_with fail
          refine (HRB.out _ HB2.out).mono ?_
          rintro e w3 ⟨rfl, b3⟩
          have q2 := cell_step (by exact q2) b3
          have HBE := Lib.hid (below_step HB2.out b3)
          clear b3 q0
          go_wp2_with fail
          go_roundw
          case rel => exact ⟨k + 1 + m, os2, by omega, hm2, by first | go_num | (simp; omega), rfl, HBE, HV2.out, .inr ⟨by omega, HOS1.out⟩⟩
          case measure => simp [intOf]; omega
        · obtain ⟨nc, rfl⟩ : ∃ nc : Nat, xc = nc := ⟨xc.toNat, by omega⟩
          obtain ⟨D2, hD2⟩ : ∃ D, Lib.decDigits nc = D := ⟨_, rfl⟩
          have HDEC2 : Hid (∀ W, Calls Tryd.prog 53 #[.int .i64 nc] W fun e w' => e = .returned (.string ⟨D2.toArray⟩) ∧ Below W.heap.size W w') := by
            intro W; rw [← hD2]; exact l01Dec_any nc (by omega) W
          have HDL2 : Hid (D2.length ≤ 2) := by have := decT_len (n := (nc : Int)) ⟨hc0, hc15⟩; unfold decT at this; rw [Int.toNat_natCast, hD2] at this; exact this
          have HDT2 : Hid (decT (nc : Int) = D2) := by unfold Hid decT; rw [Int.toNat_natCast, hD2]
          clear hD2
          have q0 : w1.cell? ⟨wr.heap.size, 0, none⟩ = some (.int .i64 2) := Q0.out
          have q2 : w1.cell? ⟨wr.heap.size, 2, none⟩ = some (.int .i64 (nc : Int)) := Q2.out
          have HBL : Hid (bodyLen ⟨2, (nb : Int), (nc : Int)⟩ = 0) := by rfl
          obtain ⟨t1, ht1⟩ : ∃ t, D ++ [61] = t := ⟨_, rfl⟩
          have hr1 := fun W => run_cat (P := Tryd.prog) D [61] (by have := HDL.out; simp; omega) W
          rw [ht1] at hr1
          have hl1 : t1.length ≤ 3 := by rw [← ht1]; have := HDL.out; simp; omega
          have hr2 := fun W => run_cat (P := Tryd.prog) t1 D2 (by have := HDL2.out; omega) W
          have e1 : t1 ++ D2 = CT := by rw [← HCT.out, ← ht1]; simp [cmdT, HD.out, HDT2.out]
          rw [e1] at hr2
          clear ht1 e1 hl1
          go_wp2_with fail
          rw [← HW1.out]
          refine (HDEC.out _).mono ?_
          rintro e w2 ⟨rfl, b2⟩
          have q0 := cell_step (by exact q0) b2
          have q2 := cell_step (by exact q2) b2
          have HB2 := Lib.hid (below_step HB1.out b2)
          clear b2 q1
          go_wp2_with fail
          refine (HDEC2.out _).mono ?_
          rintro e w3 ⟨rfl, b3⟩
          have HBE := Lib.hid (below_step HB2.out b3)
          clear b3 q0 q2
          go_wp2_with fail
          go_roundw
          case rel => exact ⟨k + 1 + bodyLen ⟨2, (nb : Int), (nc : Int)⟩, os2, by omega, hm2, by rw [HBL.out]; go_num, rfl, HBE, HV2.out, .inr ⟨by omega, HOS1.out⟩⟩
          case measure => simp [intOf]; omega
      · have hkfI : (fr : Int) < (k : Int) := by omega
        have hrc1 := fun W => run_cat (P := Tryd.prog) os [59] (by have := HOL.out.1; simp; omega) W
        rw [← hoe] at hrc1
        clear hoe
        rcases hkind with rfl | rfl | rfl | rfl | ⟨rfl, hc0, hc15⟩
        · have hrc := fun W => run_cat (P := Tryd.prog) [33] D (by have := HDL.out; simp; omega) W
          have e1 : Hid ([33] ++ D = CT) := by unfold Hid; rw [← HCT.out]; simp [cmdT, HD.out]
          rw [e1.out] at hrc
          have q0 : w1.cell? ⟨wr.heap.size, 0, none⟩ = some (.int .i64 0) := Q0.out
          have HBL : Hid (bodyLen ⟨0, (nb : Int), xc⟩ = 0) := by rfl
          go_wp2_with fail
          rw [← HW1.out]
          refine (HDEC.out _).mono ?_
          rintro e w2 ⟨rfl, b2⟩
          have q0 := cell_step (by exact q0) b2
          have HBE := Lib.hid (below_step HB1.out b2)
          clear b2 q1
          go_wp2_with fail
          go_roundw
          case rel => exact ⟨k + 1 + bodyLen ⟨0, nb, xc⟩, os2, by omega, hm2, by rw [HBL.out]; go_num, rfl, HBE, HV2.out, .inr ⟨by omega, HOS1.out⟩⟩
          case measure => simp [intOf]; omega
        · have hrc := fun W => run_cat (P := Tryd.prog) [43] D (by have := HDL.out; simp; omega) W
          have e1 : Hid ([43] ++ D = CT) := by unfold Hid; rw [← HCT.out]; simp [cmdT, HD.out]
          rw [e1.out] at hrc
          have q0 : w1.cell? ⟨wr.heap.size, 0, none⟩ = some (.int .i64 1) := Q0.out
          have HBL : Hid (bodyLen ⟨1, (nb : Int), xc⟩ = 0) := by rfl
          go_wp2_with fail
          rw [← HW1.out]
          refine (HDEC.out _).mono ?_
          rintro e w2 ⟨rfl, b2⟩
          have q0 := cell_step (by exact q0) b2
          have HBE := Lib.hid (below_step HB1.out b2)
          clear b2 q1
          go_wp2_with fail
          go_roundw
          case rel => exact ⟨k + 1 + bodyLen ⟨1, nb, xc⟩, os2, by omega, hm2, by rw [HBL.out]; go_num, rfl, HBE, HV2.out, .inr ⟨by omega, HOS1.out⟩⟩
          case measure => simp [intOf]; omega
        · have hlp : isLp ⟨3, (nb : Int), xc⟩ = true := by rfl
          obtain ⟨hvb, hxc0, hd0⟩ := HV3.out hlp
          have hbl := bodyLen_lp hlp
          dsimp only at hbl hxc0
          obtain ⟨m, hmm⟩ : ∃ m : Nat, bodyLen ⟨3, (nb : Int), xc⟩ = m := ⟨_, rfl⟩
          rw [hmm] at hbl hm2 hm1 HV2 HV3 HBD HOS1 hvb
          obtain rfl : xc = (m : Int) := by omega
          have HMM := Lib.hid hmm
          have HRB : Hid (∀ W, Below w.heap.size w W → Calls Tryd.prog 30 #[.slice (some ⟨b, off, none⟩) n c, .int .i64 ((k : Int) + 1), .int .i64 ((k : Int) + 1 + (m : Int))] W fun e w' => e = .returned (.string ⟨Bd.toArray⟩) ∧ Below W.heap.size W w') := by
            intro W hW
            rw [← HBD.out]
            have := IH.out m (by omega) (some ⟨b, off, none⟩) n c (k + 1) (k + 1 + m) (d - 1) xs W (HA.out.below hW) hn (by omega) (by omega) (by omega) hvb
            simpa using this
          have hbdl : Hid (Bd.length ≤ 900) := by have h5 := textL_len hvb; rw [seg_len (by have := HL.out; omega), HBD.out] at h5; unfold Hid; omega
          have q0 : w1.cell? ⟨wr.heap.size, 0, none⟩ = some (.int .i64 3) := Q0.out
          have q2 : w1.cell? ⟨wr.heap.size, 2, none⟩ = some (.int .i64 (m : Int)) := Q2.out
          have hw2 : IntKind.i64.wrap ((k : Int) + 1 + (m : Int)) = (k : Int) + 1 + (m : Int) := IntWalk.i64_in _ (by omega)
          have hw3 : IntKind.i64.wrap ((k : Int) + (m : Int)) = (k : Int) + (m : Int) := IntWalk.i64_in _ (by omega)
          have hw4 : IntKind.i64.wrap ((k : Int) + (m : Int) + 1) = (k : Int) + (m : Int) + 1 := IntWalk.i64_in _ (by omega)
          obtain ⟨t1, ht1⟩ : ∃ t, D ++ [42] = t := ⟨_, rfl⟩
          have hr1 := fun W => run_cat (P := Tryd.prog) D [42] (by have := HDL.out; simp; omega) W
          rw [ht1] at hr1
          obtain ⟨t2, ht2⟩ : ∃ t, t1 ++ [40] = t := ⟨_, rfl⟩
          have hl1 : t1.length ≤ 3 := by rw [← ht1]; have := HDL.out; simp; omega
          have hr2 := fun W => run_cat (P := Tryd.prog) t1 [40] (by simp; omega) W
          rw [ht2] at hr2
          obtain ⟨t3, ht3⟩ : ∃ t, t2 ++ Bd = t := ⟨_, rfl⟩
          have hl2 : t2.length ≤ 4 := by rw [← ht2]; simp; omega
          have hr3 := fun W => run_cat (P := Tryd.prog) t2 Bd (by have := hbdl.out; omega) W
          rw [ht3] at hr3
          have hl3 : t3.length ≤ 904 := by rw [← ht3, List.length_append]; have := hbdl.out; omega
          have hr4 := fun W => run_cat (P := Tryd.prog) t3 [41] (by simp; omega) W
          have e1 : t3 ++ [41] = CT := by rw [← HCT.out, ← ht3, ← ht2, ← ht1]; simp [cmdT, HD.out]
          rw [e1] at hr4
          clear ht1 ht2 ht3 e1 hbl hmm hvb hxc0 hd0 hlp hl1 hl2 hl3
          go_wp2_with fail
          rw [← HW1.out]
          refine (HDEC.out _).mono ?_
          rintro e w2 ⟨rfl, b2⟩
          have q0 := cell_step (by exact q0) b2
          have q2 := cell_step (by exact q2) b2
          have HB2 := Lib.hid (below_step HB1.out b2)
          clear b2 q1
          go_wp2_with fail
          refine (HRB.out _ HB2.out).mono ?_
          rintro e w3 ⟨rfl, b3⟩
          have q2 := cell_step (by exact q2) b3
          have HBE := Lib.hid (below_step HB2.out b3)
          clear b3 q0
          go_wp2_with fail
          go_roundw
          case rel => exact ⟨k + 1 + m, os2, by omega, hm2, by first | go_num | (simp; omega), rfl, HBE, HV2.out, .inr ⟨by omega, HOS1.out⟩⟩
          case measure => simp [intOf]; omega
        · have hlp : isLp ⟨4, (nb : Int), xc⟩ = true := by rfl
          obtain ⟨hvb, hxc0, hd0⟩ := HV3.out hlp
          have hbl := bodyLen_lp hlp
          dsimp only at hbl hxc0
          obtain ⟨m, hmm⟩ : ∃ m : Nat, bodyLen ⟨4, (nb : Int), xc⟩ = m := ⟨_, rfl⟩
          rw [hmm] at hbl hm2 hm1 HV2 HV3 HBD HOS1 hvb
          obtain rfl : xc = (m : Int) := by omega
          have HMM := Lib.hid hmm
          have HRB : Hid (∀ W, Below w.heap.size w W → Calls Tryd.prog 30 #[.slice (some ⟨b, off, none⟩) n c, .int .i64 ((k : Int) + 1), .int .i64 ((k : Int) + 1 + (m : Int))] W fun e w' => e = .returned (.string ⟨Bd.toArray⟩) ∧ Below W.heap.size W w') := by
            intro W hW
            rw [← HBD.out]
            have := IH.out m (by omega) (some ⟨b, off, none⟩) n c (k + 1) (k + 1 + m) (d - 1) xs W (HA.out.below hW) hn (by omega) (by omega) (by omega) hvb
            simpa using this
          have hbdl : Hid (Bd.length ≤ 900) := by have h5 := textL_len hvb; rw [seg_len (by have := HL.out; omega), HBD.out] at h5; unfold Hid; omega
          have q0 : w1.cell? ⟨wr.heap.size, 0, none⟩ = some (.int .i64 4) := Q0.out
          have q2 : w1.cell? ⟨wr.heap.size, 2, none⟩ = some (.int .i64 (m : Int)) := Q2.out
          have hw2 : IntKind.i64.wrap ((k : Int) + 1 + (m : Int)) = (k : Int) + 1 + (m : Int) := IntWalk.i64_in _ (by omega)
          have hw3 : IntKind.i64.wrap ((k : Int) + (m : Int)) = (k : Int) + (m : Int) := IntWalk.i64_in _ (by omega)
          have hw4 : IntKind.i64.wrap ((k : Int) + (m : Int) + 1) = (k : Int) + (m : Int) + 1 := IntWalk.i64_in _ (by omega)
          obtain ⟨t1, ht1⟩ : ∃ t, D ++ [63] = t := ⟨_, rfl⟩
          have hr1 := fun W => run_cat (P := Tryd.prog) D [63] (by have := HDL.out; simp; omega) W
          rw [ht1] at hr1
          obtain ⟨t2, ht2⟩ : ∃ t, t1 ++ [40] = t := ⟨_, rfl⟩
          have hl1 : t1.length ≤ 3 := by rw [← ht1]; have := HDL.out; simp; omega
          have hr2 := fun W => run_cat (P := Tryd.prog) t1 [40] (by simp; omega) W
          rw [ht2] at hr2
          obtain ⟨t3, ht3⟩ : ∃ t, t2 ++ Bd = t := ⟨_, rfl⟩
          have hl2 : t2.length ≤ 4 := by rw [← ht2]; simp; omega
          have hr3 := fun W => run_cat (P := Tryd.prog) t2 Bd (by have := hbdl.out; omega) W
          rw [ht3] at hr3
          have hl3 : t3.length ≤ 904 := by rw [← ht3, List.length_append]; have := hbdl.out; omega
          have hr4 := fun W => run_cat (P := Tryd.prog) t3 [41] (by simp; omega) W
          have e1 : t3 ++ [41] = CT := by rw [← HCT.out, ← ht3, ← ht2, ← ht1]; simp [cmdT, HD.out]
          rw [e1] at hr4
          clear ht1 ht2 ht3 e1 hbl hmm hvb hxc0 hd0 hlp hl1 hl2 hl3
          go_wp2_with fail
          rw [← HW1.out]
          refine (HDEC.out _).mono ?_
          rintro e w2 ⟨rfl, b2⟩
          have q0 := cell_step (by exact q0) b2
          have q2 := cell_step (by exact q2) b2
          have HB2 := Lib.hid (below_step HB1.out b2)
          clear b2 q1
          go_wp2_with fail
          refine (HRB.out _ HB2.out).mono ?_
          rintro e w3 ⟨rfl, b3⟩
          have q2 := cell_step (by exact q2) b3
          have HBE := Lib.hid (below_step HB2.out b3)
          clear b3 q0
          go_wp2_with fail
          go_roundw
          case rel => exact ⟨k + 1 + m, os2, by omega, hm2, by first | go_num | (simp; omega), rfl, HBE, HV2.out, .inr ⟨by omega, HOS1.out⟩⟩
          case measure => simp [intOf]; omega
        · obtain ⟨nc, rfl⟩ : ∃ nc : Nat, xc = nc := ⟨xc.toNat, by omega⟩
          obtain ⟨D2, hD2⟩ : ∃ D, Lib.decDigits nc = D := ⟨_, rfl⟩
          have HDEC2 : Hid (∀ W, Calls Tryd.prog 53 #[.int .i64 nc] W fun e w' => e = .returned (.string ⟨D2.toArray⟩) ∧ Below W.heap.size W w') := by
            intro W; rw [← hD2]; exact l01Dec_any nc (by omega) W
          have HDL2 : Hid (D2.length ≤ 2) := by have := decT_len (n := (nc : Int)) ⟨hc0, hc15⟩; unfold decT at this; rw [Int.toNat_natCast, hD2] at this; exact this
          have HDT2 : Hid (decT (nc : Int) = D2) := by unfold Hid decT; rw [Int.toNat_natCast, hD2]
          clear hD2
          have q0 : w1.cell? ⟨wr.heap.size, 0, none⟩ = some (.int .i64 2) := Q0.out
          have q2 : w1.cell? ⟨wr.heap.size, 2, none⟩ = some (.int .i64 (nc : Int)) := Q2.out
          have HBL : Hid (bodyLen ⟨2, (nb : Int), (nc : Int)⟩ = 0) := by rfl
          obtain ⟨t1, ht1⟩ : ∃ t, D ++ [61] = t := ⟨_, rfl⟩
          have hr1 := fun W => run_cat (P := Tryd.prog) D [61] (by have := HDL.out; simp; omega) W
          rw [ht1] at hr1
          have hl1 : t1.length ≤ 3 := by rw [← ht1]; have := HDL.out; simp; omega
          have hr2 := fun W => run_cat (P := Tryd.prog) t1 D2 (by have := HDL2.out; omega) W
          have e1 : t1 ++ D2 = CT := by rw [← HCT.out, ← ht1]; simp [cmdT, HD.out, HDT2.out]
          rw [e1] at hr2
          clear ht1 e1 hl1
          go_wp2_with fail
          rw [← HW1.out]
          refine (HDEC.out _).mono ?_
          rintro e w2 ⟨rfl, b2⟩
          have q0 := cell_step (by exact q0) b2
          have q2 := cell_step (by exact q2) b2
          have HB2 := Lib.hid (below_step HB1.out b2)
          clear b2 q1
          go_wp2_with fail
          refine (HDEC2.out _).mono ?_
          rintro e w3 ⟨rfl, b3⟩
          have HBE := Lib.hid (below_step HB2.out b3)
          clear b3 q0 q2
          go_wp2_with fail
          go_roundw
          case rel => exact ⟨k + 1 + bodyLen ⟨2, (nb : Int), (nc : Int)⟩, os2, by omega, hm2, by rw [HBL.out]; go_num, rfl, HBE, HV2.out, .inr ⟨by omega, HOS1.out⟩⟩
          case measure => simp [intOf]; omega
    · obtain rfl : k = to := by omega
      have hkI : ¬ (k : Int) < (k : Int) := by omega
      have hfin : os = T := by
        have e0 : seg xs k k = [] := by unfold seg; simp
        rcases HSF.out with ⟨h1, h2, h3⟩ | ⟨h1, h2⟩
        · rw [e0, textL_nil] at h3; rw [h2, h3]
        · rw [e0, tailT_nil, List.append_nil] at h2; exact h2
      subst hfin
      go_wp2_with fail
      go_ret
      exact ⟨rfl, HB.out⟩
end Go.Proofs.YtjakgeblmkdbpaaDoor
