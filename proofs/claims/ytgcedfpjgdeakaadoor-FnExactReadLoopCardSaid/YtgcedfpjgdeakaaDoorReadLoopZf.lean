/- The law FnExactReadLoop returns true for every input, and each argument reads afterwards as before: the proof, part 6. No conditions. -/
import Derived.Test.YtgcedfpjgdeakaaDoorReadLoopZe
import Derived.Stop.LaidErr
import Derived.MakeChecks
import Derived.Stop.Joined
import Derived.ProofKit
import Derived.OpenShut
import Derived.ShutString
import Derived.ChangeOld
import Derived.Deep.Slices
import Derived.Test.YtgcedfpjgdeakaaDoorCards
import Derived.Test.YtgcedfpjgdeakaaDoorTie
import Derived.LaidMore
import Derived.Lay
import Derived.SevenTiedAt
/- The text of a loop program, by the reference. -/
namespace Go.Proofs.YtgcedfpjgdeakaaDoor
open Go.RowKit
set_option linter.all false

theorem vl_le {d d' : Nat} {l : List R3} : True := trivial
theorem seg_body {xs : List R3} {k to : Nat} {x : R3} (hx : xs[k]? = some x) (hk : k < to) (hm : k + 1 + bodyLen x ≤ to) : (seg xs k to).drop (1 + bodyLen x) = seg xs (k + 1 + bodyLen x) to ∧ ((seg xs k to).drop 1).take (bodyLen x) = seg xs (k + 1) (k + 1 + bodyLen x) := by
  rw [seg_at hx hk]
  unfold seg
  constructor
  · rw [show 1 + bodyLen x = bodyLen x + 1 by omega, List.drop_succ_cons, List.drop_take, List.drop_drop]
    congr 1
    omega
  · rw [List.drop_succ_cons, List.drop_zero, List.take_take]
    congr 1
    omega
/-- How far the text is at a place. -/
def SoFar (fr k : Nat) (os : List UInt8) (rest : List R3) (T : List UInt8) : Prop := (k = fr ∧ os = [] ∧ textL rest = T) ∨ (fr < k ∧ os ++ tailT rest = T)

set_option maxRecDepth 100000 in
set_option maxHeartbeats 4000000 in
theorem l17Show_any (N : Nat) : ∀ (A : Option Addr) (n c fr to d : Nat) (xs : List R3) (w : World), Args 3 w A n (rows R3.vs xs) → n ≤ 150 → fr ≤ to → to ≤ n → to - fr ≤ N → vl d (seg xs fr to) = true →
    Calls Tryd.prog 36 #[.slice A n c, .int .i64 fr, .int .i64 to] w fun e w' => e = .returned (.string ⟨(textL (seg xs fr to)).toArray⟩) ∧ Below w.heap.size w w' := by
  induction N using Nat.strongRecOn with
  | ind N ih =>
  intro A n c fr to d xs w ha hn hft hto hN hv
  have IH := Lib.hid ih; clear ih
  have HL : Hid (xs.length = n) := by have := ha.1; rw [rows_len R3.vs_len] at this; unfold Hid; omega
  have HV := Lib.hid hv; clear hv
  have HA := Lib.hid ha; clear ha
  obtain ⟨T, hT⟩ : ∃ T, textL (seg xs fr to) = T := ⟨_, rfl⟩
  have HTL : Hid (T.length ≤ 900) := by have := textL_len HV.out; rw [seg_len (by have := HL.out; omega), hT] at this; unfold Hid; omega
  have HT := Lib.hid hT
  rw [hT]
  clear hT
  go_enter Tryd.func36, Tryd.ntmps36
  go_wp2_with fail
  go_loopw [7, 8] (fun o i wr => ∃ (k : Nat) (os : List UInt8), fr ≤ k ∧ k ≤ to ∧ i = .int .i64 k ∧ o = .string ⟨os.toArray⟩ ∧ Hid (Below w.heap.size w wr) ∧ Hid (vl d (seg xs k to) = true) ∧ Hid (SoFar fr k os (seg xs k to) T)) (fun _ i _ => to - (intOf i).toNat)
  case atStart => exact ⟨fr, [], Nat.le_refl _, hft, rfl, rfl, Below.refl _ _, HV.out, .inl ⟨rfl, rfl, HT.out⟩⟩
  case round =>
    obtain ⟨k, os, hfk, hk, rfl, rfl, HB, HVK, HSF⟩ := hrel
    by_cases hlt : k < to
    · obtain ⟨b, off, rfl, hs⟩ := HA.out.sl (k := k) (by omega)
      obtain ⟨x, HX⟩ := hget (k := k) HL (by omega)
      obtain ⟨p0, p1, p2⟩ := (hs.below' HB.out).rec3 HX.out
      have hseg := seg_at HX.out hlt
      have hvk := HVK.out
      rw [hseg] at hvk
      obtain ⟨hb0, hb15, hkind⟩ := vl_kind hvk
      have hst := vl_step (d := d) (k := 0) (x := x) (xs := seg xs k to) (by rw [hseg]; rfl) (by rw [List.drop_zero]; exact HVK.out)
      have hsl : (seg xs k to).length = to - k := seg_len (by have := HL.out; omega)
      rw [hsl] at hst
      obtain ⟨hm1, hv2, hv3⟩ := hst
      have hbody := seg_body HX.out hlt (by omega)
      rw [show 0 + 1 + bodyLen x = 1 + bodyLen x by omega, hbody.1] at hv2
      rw [show (0 : Nat) + 1 = 1 from rfl, hbody.2] at hv3
      have hm2 : k + 1 + bodyLen x ≤ to := by omega
      obtain ⟨Bd, hBd⟩ : ∃ B, textL (seg xs (k + 1) (k + 1 + bodyLen x)) = B := ⟨_, rfl⟩
      have htx : textL (seg xs k to) = cmdT x Bd ++ tailT (seg xs (k + 1 + bodyLen x) to) := by
        have e1 : seg xs k to = x :: (seg xs k to).drop 1 := by rw [hseg]; rfl
        rw [e1, textL_cons, List.drop_drop, hbody.1, hbody.2, hBd]
      have HBD := Lib.hid hBd; have HTX := Lib.hid htx; have HV2 := Lib.hid hv2; have HV3 := Lib.hid hv3
      clear hBd htx hv2 hv3 hvk hseg hsl hbody hs
      obtain ⟨xa, xb, xc⟩ := x
      dsimp only at hb0 hb15 hkind p0 p1 p2
      obtain ⟨nb, rfl⟩ : ∃ nb : Nat, xb = nb := ⟨xb.toNat, by omega⟩
      obtain ⟨D, hD⟩ : ∃ D, Lib.decDigits nb = D := ⟨_, rfl⟩
      have HDEC : Hid (∀ W, Calls Tryd.prog 50 #[.int .i64 nb] W fun e w' => e = .returned (.string ⟨D.toArray⟩) ∧ Below W.heap.size W w') := by
        intro W; rw [← hD]; exact l01Dec_any nb (by omega) W
      have HDL : Hid (D.length ≤ 2) := by have := decT_len (n := (nb : Int)) ⟨hb0, hb15⟩; unfold decT at this; rw [Int.toNat_natCast, hD] at this; exact this
      have HD : Hid (decT (nb : Int) = D) := by unfold Hid decT; rw [Int.toNat_natCast, hD]
      clear hD
      have hn1 : (k : Int) < (n : Int) := by omega
      have hk0 : (0 : Int) ≤ (k : Int) := by omega
      have hkI : (k : Int) < (to : Int) := by omega
      obtain ⟨w1, HW1, B1, x1⟩ := al1 wr (.cells #[.int .i64 xa, .int .i64 nb, .int .i64 xc] 54)
      have HB1 := Lib.hid (below_step HB.out B1)
      have q0 : w1.cell? ⟨wr.heap.size, 0, none⟩ = some (.int .i64 xa) := by rw [cell_of_heap x1]; rfl
      have q1 : w1.cell? ⟨wr.heap.size, 1, none⟩ = some (.int .i64 nb) := by rw [cell_of_heap x1]; rfl
      have q2 : w1.cell? ⟨wr.heap.size, 2, none⟩ = some (.int .i64 xc) := by rw [cell_of_heap x1]; rfl
      have Q0 := Lib.hid q0; have Q2 := Lib.hid q2
      clear x1 B1 q0 q2
      have hw1 : IntKind.i64.wrap ((k : Int) + 1) = (k : Int) + 1 := IntWalk.i64_in _ (by omega)
      -- the text so far with the sign between commands
      obtain ⟨os1, HOS1, HCAT1, HOL⟩ : ∃ os1 : List UInt8, Hid (os1 ++ cmdT ⟨xa, nb, xc⟩ Bd ++ tailT (seg xs (k + 1 + bodyLen ⟨xa, nb, xc⟩) to) = T) ∧ Hid ((k = fr ∧ os1 = os) ∨ (fr < k ∧ os1 = os ++ [59])) ∧ Hid (os.length ≤ 900 ∧ os1.length + (cmdT ⟨xa, nb, xc⟩ Bd).length ≤ 900) := by
        rcases HSF.out with ⟨h1, h2, h3⟩ | ⟨h1, h2⟩
        · subst h2
          have e : [] ++ cmdT ⟨xa, nb, xc⟩ Bd ++ tailT (seg xs (k + 1 + bodyLen ⟨xa, nb, xc⟩) to) = T := by rw [List.nil_append, ← HTX.out]; exact h3
          refine ⟨[], e, .inl ⟨h1, rfl⟩, by simp, ?_⟩
          have h5 := congrArg List.length e
          have := HTL.out
          rw [List.length_append, List.length_append] at h5
          omega
        · have e : (os ++ [59]) ++ cmdT ⟨xa, nb, xc⟩ Bd ++ tailT (seg xs (k + 1 + bodyLen ⟨xa, nb, xc⟩) to) = T := by
            rw [← h2, List.append_assoc, ← HTX.out]
            have e2 : seg xs k to = ⟨xa, nb, xc⟩ :: (seg xs k to).drop 1 := by rw [seg_at HX.out hlt]; rfl
            conv => rhs; rw [e2, tailT_cons, ← e2]
            simp
          refine ⟨os ++ [59], e, .inr ⟨h1, rfl⟩, ?_, ?_⟩
          · have h5 := congrArg List.length h2
            have := HTL.out
            rw [List.length_append] at h5
            omega
          · have h5 := congrArg List.length e
            have := HTL.out
            rw [List.length_append, List.length_append] at h5
            omega
      obtain ⟨CT, hCT⟩ : ∃ C, cmdT ⟨xa, nb, xc⟩ Bd = C := ⟨_, rfl⟩
      rw [hCT] at HOS1 HOL
      have HCT := Lib.hid hCT
      obtain ⟨os2, hos2⟩ : ∃ o, os1 ++ CT = o := ⟨_, rfl⟩
      rw [hos2] at HOS1
      have hrc2 := fun W => run_cat (P := Tryd.prog) os1 CT (by have := HOL.out; omega) W
      rw [hos2] at hrc2
      clear hCT hos2 HSF HTX
      rcases HCAT1.out with ⟨hkf, hoe⟩ | ⟨hkf, hoe⟩
      · have hkfI : ¬ (fr : Int) < (k : Int) := by omega
        subst hoe
        clear hkf
        rcases hkind with rfl | rfl | rfl | rfl | ⟨rfl, hc0, hc15⟩
        · have hrc := fun W => run_cat (P := Tryd.prog) [33] D (by have := HDL.out; simp; omega) W
          have e1 : Hid ([33] ++ D = CT) := by unfold Hid; rw [← HCT.out]; simp [cmdT, HD.out]
          rw [e1.out] at hrc
          have q0 : w1.cell? ⟨wr.heap.size, 0, none⟩ = some (.int .i64 0) := Q0.out
          have HBL : Hid (bodyLen ⟨0, (nb : Int), xc⟩ = 0) := by rfl
          go_wp2_with fail
          rw [← HW1.out]
          refine (HDEC.out _).mono ?_
          rintro e w2 ⟨rfl, b2⟩
          have q0 := cell_step (by exact q0) b2
          have HBE := Lib.hid (below_step HB1.out b2)
          clear b2 q1
          go_wp2_with fail
          go_roundw
          case rel => exact ⟨k + 1 + bodyLen ⟨0, nb, xc⟩, os2, by omega, hm2, by rw [HBL.out]; go_num, rfl, HBE, HV2.out, .inr ⟨by omega, HOS1.out⟩⟩
          case measure => simp [intOf]; omega
        · have hrc := fun W => run_cat (P := Tryd.prog) [43] D (by have := HDL.out; simp; omega) W
          have e1 : Hid ([43] ++ D = CT) := by unfold Hid; rw [← HCT.out]; simp [cmdT, HD.out]
          rw [e1.out] at hrc
          have q0 : w1.cell? ⟨wr.heap.size, 0, none⟩ = some (.int .i64 1) := Q0.out
          have HBL : Hid (bodyLen ⟨1, (nb : Int), xc⟩ = 0) := by rfl
          go_wp2_with fail
          rw [← HW1.out]
          refine (HDEC.out _).mono ?_
          rintro e w2 ⟨rfl, b2⟩
          have q0 := cell_step (by exact q0) b2
          have HBE := Lib.hid (below_step HB1.out b2)
          clear b2 q1
          go_wp2_with fail
          go_roundw
          case rel => exact ⟨k + 1 + bodyLen ⟨1, nb, xc⟩, os2, by omega, hm2, by rw [HBL.out]; go_num, rfl, HBE, HV2.out, .inr ⟨by omega, HOS1.out⟩⟩
          case measure => simp [intOf]; omega
        · have hlp : isLp ⟨3, (nb : Int), xc⟩ = true := by rfl
          obtain ⟨hvb, hxc0, hd0⟩ := HV3.out hlp
          have hbl := bodyLen_lp hlp
          dsimp only at hbl hxc0
          obtain ⟨m, hmm⟩ : ∃ m : Nat, bodyLen ⟨3, (nb : Int), xc⟩ = m := ⟨_, rfl⟩
          rw [hmm] at hbl hm2 hm1 HV2 HV3 HBD HOS1 hvb
          obtain rfl : xc = (m : Int) := by omega
          have HMM := Lib.hid hmm
          have HRB : Hid (∀ W, Below w.heap.size w W → Calls Tryd.prog 36 #[.slice (some ⟨b, off, none⟩) n c, .int .i64 ((k : Int) + 1), .int .i64 ((k : Int) + 1 + (m : Int))] W fun e w' => e = .returned (.string ⟨Bd.toArray⟩) ∧ Below W.heap.size W w') := by
            intro W hW
            rw [← HBD.out]
            have := IH.out m (by omega) (some ⟨b, off, none⟩) n c (k + 1) (k + 1 + m) (d - 1) xs W (HA.out.below hW) hn (by omega) (by omega) (by omega) hvb
            simpa using this
          have hbdl : Hid (Bd.length ≤ 900) := by have h5 := textL_len hvb; rw [seg_len (by have := HL.out; omega), HBD.out] at h5; unfold Hid; omega
          have q0 : w1.cell? ⟨wr.heap.size, 0, none⟩ = some (.int .i64 3) := Q0.out
          have q2 : w1.cell? ⟨wr.heap.size, 2, none⟩ = some (.int .i64 (m : Int)) := Q2.out
          have hw2 : IntKind.i64.wrap ((k : Int) + 1 + (m : Int)) = (k : Int) + 1 + (m : Int) := IntWalk.i64_in _ (by omega)
          have hw3 : IntKind.i64.wrap ((k : Int) + (m : Int)) = (k : Int) + (m : Int) := IntWalk.i64_in _ (by omega)
          have hw4 : IntKind.i64.wrap ((k : Int) + (m : Int) + 1) = (k : Int) + (m : Int) + 1 := IntWalk.i64_in _ (by omega)
          obtain ⟨t1, ht1⟩ : ∃ t, D ++ [42] = t := ⟨_, rfl⟩
          have hr1 := fun W => run_cat (P := Tryd.prog) D [42] (by have := HDL.out; simp; omega) W
          rw [ht1] at hr1
          obtain ⟨t2, ht2⟩ : ∃ t, t1 ++ [40] = t := ⟨_, rfl⟩
          have hl1 : t1.length ≤ 3 := by rw [← ht1]; have := HDL.out; simp; omega
          have hr2 := fun W => run_cat (P := Tryd.prog) t1 [40] (by simp; omega) W
          rw [ht2] at hr2
          obtain ⟨t3, ht3⟩ : ∃ t, t2 ++ Bd = t := ⟨_, rfl⟩
          have hl2 : t2.length ≤ 4 := by rw [← ht2]; simp; omega
          have hr3 := fun W => run_cat (P := Tryd.prog) t2 Bd (by have := hbdl.out; omega) W
          rw [ht3] at hr3
          have hl3 : t3.length ≤ 904 := by rw [← ht3, List.length_append]; have := hbdl.out; omega
          have hr4 := fun W => run_cat (P := Tryd.prog) t3 [41] (by simp; omega) W
          have e1 : t3 ++ [41] = CT := by rw [← HCT.out, ← ht3, ← ht2, ← ht1]; simp [cmdT, HD.out]
          rw [e1] at hr4
          clear ht1 ht2 ht3 e1 hbl hmm hvb hxc0 hd0 hlp hl1 hl2 hl3
          go_wp2_with fail
          rw [← HW1.out]
          refine (HDEC.out _).mono ?_
          rintro e w2 ⟨rfl, b2⟩
          have q0 := cell_step (by exact q0) b2
          have q2 := cell_step (by exact q2) b2
          have HB2 := Lib.hid (below_step HB1.out b2)
          clear b2 q1
          go_wp2_with fail
          refine (HRB.out _ HB2.out).mono ?_
          rintro e w3 ⟨rfl, b3⟩
          have q2 := cell_step (by exact q2) b3
          have HBE := Lib.hid (below_step HB2.out b3)
          clear b3 q0
          go_wp2_with fail
          go_roundw
          case rel => exact ⟨k + 1 + m, os2, by omega, hm2, by first | go_num | (simp; omega), rfl, HBE, HV2.out, .inr ⟨by omega, HOS1.out⟩⟩
          case measure => simp [intOf]; omega
        · have hlp : isLp ⟨4, (nb : Int), xc⟩ = true := by rfl
          obtain ⟨hvb, hxc0, hd0⟩ := HV3.out hlp
          have hbl := bodyLen_lp hlp
          dsimp only at hbl hxc0
          obtain ⟨m, hmm⟩ : ∃ m : Nat, bodyLen ⟨4, (nb : Int), xc⟩ = m := ⟨_, rfl⟩
          rw [hmm] at hbl hm2 hm1 HV2 HV3 HBD HOS1 hvb
          obtain rfl : xc = (m : Int) := by omega
          have HMM := Lib.hid hmm
          have HRB : Hid (∀ W, Below w.heap.size w W → Calls Tryd.prog 36 #[.slice (some ⟨b, off, none⟩) n c, .int .i64 ((k : Int) + 1), .int .i64 ((k : Int) + 1 + (m : Int))] W fun e w' => e = .returned (.string ⟨Bd.toArray⟩) ∧ Below W.heap.size W w') := by
            intro W hW
            rw [← HBD.out]
            have := IH.out m (by omega) (some ⟨b, off, none⟩) n c (k + 1) (k + 1 + m) (d - 1) xs W (HA.out.below hW) hn (by omega) (by omega) (by omega) hvb
            simpa using this
          have hbdl : Hid (Bd.length ≤ 900) := by have h5 := textL_len hvb; rw [seg_len (by have := HL.out; omega), HBD.out] at h5; unfold Hid; omega
          have q0 : w1.cell? ⟨wr.heap.size, 0, none⟩ = some (.int .i64 4) := Q0.out
          have q2 : w1.cell? ⟨wr.heap.size, 2, none⟩ = some (.int .i64 (m : Int)) := Q2.out
          have hw2 : IntKind.i64.wrap ((k : Int) + 1 + (m : Int)) = (k : Int) + 1 + (m : Int) := IntWalk.i64_in _ (by omega)
          have hw3 : IntKind.i64.wrap ((k : Int) + (m : Int)) = (k : Int) + (m : Int) := IntWalk.i64_in _ (by omega)
          have hw4 : IntKind.i64.wrap ((k : Int) + (m : Int) + 1) = (k : Int) + (m : Int) + 1 := IntWalk.i64_in _ (by omega)
          obtain ⟨t1, ht1⟩ : ∃ t, D ++ [63] = t := ⟨_, rfl⟩
          have hr1 := fun W => run_cat (P := Tryd.prog) D [63] (by have := HDL.out; simp; omega) W
          rw [ht1] at hr1
          obtain ⟨t2, ht2⟩ : ∃ t, t1 ++ [40] = t := ⟨_, rfl⟩
          have hl1 : t1.length ≤ 3 := by rw [← ht1]; have := HDL.out; simp; omega
          have hr2 := fun W => run_cat (P := Tryd.prog) t1 [40] (by simp; omega) W
          rw [ht2] at hr2
          obtain ⟨t3, ht3⟩ : ∃ t, t2 ++ Bd = t := ⟨_, rfl⟩
          have hl2 : t2.length ≤ 4 := by rw [← ht2]; simp; omega
          have hr3 := fun W => run_cat (P := Tryd.prog) t2 Bd (by have := hbdl.out; omega) W
          rw [ht3] at hr3
          have hl3 : t3.length ≤ 904 := by rw [← ht3, List.length_append]; have := hbdl.out; omega
          have hr4 := fun W => run_cat (P := Tryd.prog) t3 [41] (by simp; omega) W
          have e1 : t3 ++ [41] = CT := by rw [← HCT.out, ← ht3, ← ht2, ← ht1]; simp [cmdT, HD.out]
          rw [e1] at hr4
          clear ht1 ht2 ht3 e1 hbl hmm hvb hxc0 hd0 hlp hl1 hl2 hl3
          go_wp2_with fail
          rw [← HW1.out]
          refine (HDEC.out _).mono ?_
          rintro e w2 ⟨rfl, b2⟩
          have q0 := cell_step (by exact q0) b2
          have q2 := cell_step (by exact q2) b2
          have HB2 := Lib.hid (below_step HB1.out b2)
          clear b2 q1
          go_wp2_with fail
          refine (HRB.out _ HB2.out).mono ?_
          rintro e w3 ⟨rfl, b3⟩
          have q2 := cell_step (by exact q2) b3
          have HBE := Lib.hid (below_step HB2.out b3)
          clear b3 q0
          go_wp2_with fail
          go_roundw
          case rel => exact ⟨k + 1 + m, os2, by omega, hm2, by first | go_num | (simp; omega), rfl, HBE, HV2.out, .inr ⟨by omega, HOS1.out⟩⟩
          case measure => simp [intOf]; omega
        · obtain ⟨nc, rfl⟩ : ∃ nc : Nat, xc = nc := ⟨xc.toNat, by omega⟩
          obtain ⟨D2, hD2⟩ : ∃ D, Lib.decDigits nc = D := ⟨_, rfl⟩
          have HDEC2 : Hid (∀ W, Calls Tryd.prog 50 #[.int .i64 nc] W fun e w' => e = .returned (.string ⟨D2.toArray⟩) ∧ Below W.heap.size W w') := by
            intro W; rw [← hD2]; exact l01Dec_any nc (by omega) W
          have HDL2 : Hid (D2.length ≤ 2) := by have := decT_len (n := (nc : Int)) ⟨hc0, hc15⟩; unfold decT at this; rw [Int.toNat_natCast, hD2] at this; exact this
          have HDT2 : Hid (decT (nc : Int) = D2) := by unfold Hid decT; rw [Int.toNat_natCast, hD2]
          clear hD2
          have q0 : w1.cell? ⟨wr.heap.size, 0, none⟩ = some (.int .i64 2) := Q0.out
          have q2 : w1.cell? ⟨wr.heap.size, 2, none⟩ = some (.int .i64 (nc : Int)) := Q2.out
          have HBL : Hid (bodyLen ⟨2, (nb : Int), (nc : Int)⟩ = 0) := by rfl
          obtain ⟨t1, ht1⟩ : ∃ t, D ++ [61] = t := ⟨_, rfl⟩
          have hr1 := fun W => run_cat (P := Tryd.prog) D [61] (by have := HDL.out; simp; omega) W
          rw [ht1] at hr1
          have hl1 : t1.length ≤ 3 := by rw [← ht1]; have := HDL.out; simp; omega
          have hr2 := fun W => run_cat (P := Tryd.prog) t1 D2 (by have := HDL2.out; omega) W
          have e1 : t1 ++ D2 = CT := by rw [← HCT.out, ← ht1]; simp [cmdT, HD.out, HDT2.out]
          rw [e1] at hr2
          clear ht1 e1 hl1
          go_wp2_with fail
          rw [← HW1.out]
          refine (HDEC.out _).mono ?_
          rintro e w2 ⟨rfl, b2⟩
          have q0 := cell_step (by exact q0) b2
          have q2 := cell_step (by exact q2) b2
          have HB2 := Lib.hid (below_step HB1.out b2)
          clear b2 q1
          go_wp2_with fail
          refine (HDEC2.out _).mono ?_
          rintro e w3 ⟨rfl, b3⟩
          have HBE := Lib.hid (below_step HB2.out b3)
          clear b3 q0 q2
          go_wp2_with fail
          go_roundw
          case rel => exact ⟨k + 1 + bodyLen ⟨2, (nb : Int), (nc : Int)⟩, os2, by omega, hm2, by rw [HBL.out]; go_num, rfl, HBE, HV2.out, .inr ⟨by omega, HOS1.out⟩⟩
          case measure => simp [intOf]; omega
      · have hkfI : (fr : Int) < (k : Int) := by omega
        have hrc1 := fun W => run_cat (P := Tryd.prog) os [59] (by have := HOL.out.1; simp; omega) W
        rw [← hoe] at hrc1
        clear hoe
        rcases hkind with rfl | rfl | rfl | rfl | ⟨rfl, hc0, hc15⟩
        · have hrc := fun W => run_cat (P := Tryd.prog) [33] D (by have := HDL.out; simp; omega) W
          have e1 : Hid ([33] ++ D = CT) := by unfold Hid; rw [← HCT.out]; simp [cmdT, HD.out]
          rw [e1.out] at hrc
          have q0 : w1.cell? ⟨wr.heap.size, 0, none⟩ = some (.int .i64 0) := Q0.out
          have HBL : Hid (bodyLen ⟨0, (nb : Int), xc⟩ = 0) := by rfl
          go_wp2_with fail
          rw [← HW1.out]
          refine (HDEC.out _).mono ?_
          rintro e w2 ⟨rfl, b2⟩
          have q0 := cell_step (by exact q0) b2
          have HBE := Lib.hid (below_step HB1.out b2)
          clear b2 q1
          go_wp2_with fail
          go_roundw
          case rel => exact ⟨k + 1 + bodyLen ⟨0, nb, xc⟩, os2, by omega, hm2, by rw [HBL.out]; go_num, rfl, HBE, HV2.out, .inr ⟨by omega, HOS1.out⟩⟩
          case measure => simp [intOf]; omega
        · have hrc := fun W => run_cat (P := Tryd.prog) [43] D (by have := HDL.out; simp; omega) W
          have e1 : Hid ([43] ++ D = CT) := by unfold Hid; rw [← HCT.out]; simp [cmdT, HD.out]
          rw [e1.out] at hrc
          have q0 : w1.cell? ⟨wr.heap.size, 0, none⟩ = some (.int .i64 1) := Q0.out
          have HBL : Hid (bodyLen ⟨1, (nb : Int), xc⟩ = 0) := by rfl
          go_wp2_with fail
          rw [← HW1.out]
          refine (HDEC.out _).mono ?_
          rintro e w2 ⟨rfl, b2⟩
          have q0 := cell_step (by exact q0) b2
          have HBE := Lib.hid (below_step HB1.out b2)
          clear b2 q1
          go_wp2_with fail
          go_roundw
          case rel => exact ⟨k + 1 + bodyLen ⟨1, nb, xc⟩, os2, by omega, hm2, by rw [HBL.out]; go_num, rfl, HBE, HV2.out, .inr ⟨by omega, HOS1.out⟩⟩
          case measure => simp [intOf]; omega
        · have hlp : isLp ⟨3, (nb : Int), xc⟩ = true := by rfl
          obtain ⟨hvb, hxc0, hd0⟩ := HV3.out hlp
          have hbl := bodyLen_lp hlp
          dsimp only at hbl hxc0
          obtain ⟨m, hmm⟩ : ∃ m : Nat, bodyLen ⟨3, (nb : Int), xc⟩ = m := ⟨_, rfl⟩
          rw [hmm] at hbl hm2 hm1 HV2 HV3 HBD HOS1 hvb
          obtain rfl : xc = (m : Int) := by omega
          have HMM := Lib.hid hmm
          have HRB : Hid (∀ W, Below w.heap.size w W → Calls Tryd.prog 36 #[.slice (some ⟨b, off, none⟩) n c, .int .i64 ((k : Int) + 1), .int .i64 ((k : Int) + 1 + (m : Int))] W fun e w' => e = .returned (.string ⟨Bd.toArray⟩) ∧ Below W.heap.size W w') := by
            intro W hW
            rw [← HBD.out]
            have := IH.out m (by omega) (some ⟨b, off, none⟩) n c (k + 1) (k + 1 + m) (d - 1) xs W (HA.out.below hW) hn (by omega) (by omega) (by omega) hvb
            simpa using this
          have hbdl : Hid (Bd.length ≤ 900) := by have h5 := textL_len hvb; rw [seg_len (by have := HL.out; omega), HBD.out] at h5; unfold Hid; omega
          have q0 : w1.cell? ⟨wr.heap.size, 0, none⟩ = some (.int .i64 3) := Q0.out
          have q2 : w1.cell? ⟨wr.heap.size, 2, none⟩ = some (.int .i64 (m : Int)) := Q2.out
          have hw2 : IntKind.i64.wrap ((k : Int) + 1 + (m : Int)) = (k : Int) + 1 + (m : Int) := IntWalk.i64_in _ (by omega)
          have hw3 : IntKind.i64.wrap ((k : Int) + (m : Int)) = (k : Int) + (m : Int) := IntWalk.i64_in _ (by omega)
          have hw4 : IntKind.i64.wrap ((k : Int) + (m : Int) + 1) = (k : Int) + (m : Int) + 1 := IntWalk.i64_in _ (by omega)
          obtain ⟨t1, ht1⟩ : ∃ t, D ++ [42] = t := ⟨_, rfl⟩
          have hr1 := fun W => run_cat (P := Tryd.prog) D [42] (by have := HDL.out; simp; omega) W
          rw [ht1] at hr1
          obtain ⟨t2, ht2⟩ : ∃ t, t1 ++ [40] = t := ⟨_, rfl⟩
          have hl1 : t1.length ≤ 3 := by rw [← ht1]; have := HDL.out; simp; omega
          have hr2 := fun W => run_cat (P := Tryd.prog) t1 [40] (by simp; omega) W
          rw [ht2] at hr2
          obtain ⟨t3, ht3⟩ : ∃ t, t2 ++ Bd = t := ⟨_, rfl⟩
          have hl2 : t2.length ≤ 4 := by rw [← ht2]; simp; omega
          have hr3 := fun W => run_cat (P := Tryd.prog) t2 Bd (by have := hbdl.out; omega) W
          rw [ht3] at hr3
          have hl3 : t3.length ≤ 904 := by rw [← ht3, List.length_append]; have := hbdl.out; omega
          have hr4 := fun W => run_cat (P := Tryd.prog) t3 [41] (by simp; omega) W
          have e1 : t3 ++ [41] = CT := by rw [← HCT.out, ← ht3, ← ht2, ← ht1]; simp [cmdT, HD.out]
          rw [e1] at hr4
          clear ht1 ht2 ht3 e1 hbl hmm hvb hxc0 hd0 hlp hl1 hl2 hl3
          go_wp2_with fail
          rw [← HW1.out]
          refine (HDEC.out _).mono ?_
          rintro e w2 ⟨rfl, b2⟩
          have q0 := cell_step (by exact q0) b2
          have q2 := cell_step (by exact q2) b2
          have HB2 := Lib.hid (below_step HB1.out b2)
          clear b2 q1
          go_wp2_with fail
          refine (HRB.out _ HB2.out).mono ?_
          rintro e w3 ⟨rfl, b3⟩
          have q2 := cell_step (by exact q2) b3
          have HBE := Lib.hid (below_step HB2.out b3)
          clear b3 q0
          go_wp2_with fail
          go_roundw
          case rel => exact ⟨k + 1 + m, os2, by omega, hm2, by first | go_num | (simp; omega), rfl, HBE, HV2.out, .inr ⟨by omega, HOS1.out⟩⟩
          case measure => simp [intOf]; omega
        · have hlp : isLp ⟨4, (nb : Int), xc⟩ = true := by rfl
          obtain ⟨hvb, hxc0, hd0⟩ := HV3.out hlp
          have hbl := bodyLen_lp hlp
          dsimp only at hbl hxc0
          obtain ⟨m, hmm⟩ : ∃ m : Nat, bodyLen ⟨4, (nb : Int), xc⟩ = m := ⟨_, rfl⟩
          rw [hmm] at hbl hm2 hm1 HV2 HV3 HBD HOS1 hvb
          obtain rfl : xc = (m : Int) := by omega
          have HMM := Lib.hid hmm
          have HRB : Hid (∀ W, Below w.heap.size w W → Calls Tryd.prog 36 #[.slice (some ⟨b, off, none⟩) n c, .int .i64 ((k : Int) + 1), .int .i64 ((k : Int) + 1 + (m : Int))] W fun e w' => e = .returned (.string ⟨Bd.toArray⟩) ∧ Below W.heap.size W w') := by
            intro W hW
            rw [← HBD.out]
            have := IH.out m (by omega) (some ⟨b, off, none⟩) n c (k + 1) (k + 1 + m) (d - 1) xs W (HA.out.below hW) hn (by omega) (by omega) (by omega) hvb
            simpa using this
          have hbdl : Hid (Bd.length ≤ 900) := by have h5 := textL_len hvb; rw [seg_len (by have := HL.out; omega), HBD.out] at h5; unfold Hid; omega
          have q0 : w1.cell? ⟨wr.heap.size, 0, none⟩ = some (.int .i64 4) := Q0.out
          have q2 : w1.cell? ⟨wr.heap.size, 2, none⟩ = some (.int .i64 (m : Int)) := Q2.out
          have hw2 : IntKind.i64.wrap ((k : Int) + 1 + (m : Int)) = (k : Int) + 1 + (m : Int) := IntWalk.i64_in _ (by omega)
          have hw3 : IntKind.i64.wrap ((k : Int) + (m : Int)) = (k : Int) + (m : Int) := IntWalk.i64_in _ (by omega)
          have hw4 : IntKind.i64.wrap ((k : Int) + (m : Int) + 1) = (k : Int) + (m : Int) + 1 := IntWalk.i64_in _ (by omega)
          obtain ⟨t1, ht1⟩ : ∃ t, D ++ [63] = t := ⟨_, rfl⟩
          have hr1 := fun W => run_cat (P := Tryd.prog) D [63] (by have := HDL.out; simp; omega) W
          rw [ht1] at hr1
          obtain ⟨t2, ht2⟩ : ∃ t, t1 ++ [40] = t := ⟨_, rfl⟩
          have hl1 : t1.length ≤ 3 := by rw [← ht1]; have := HDL.out; simp; omega
          have hr2 := fun W => run_cat (P := Tryd.prog) t1 [40] (by simp; omega) W
          rw [ht2] at hr2
          obtain ⟨t3, ht3⟩ : ∃ t, t2 ++ Bd = t := ⟨_, rfl⟩
          have hl2 : t2.length ≤ 4 := by rw [← ht2]; simp; omega
          have hr3 := fun W => run_cat (P := Tryd.prog) t2 Bd (by have := hbdl.out; omega) W
          rw [ht3] at hr3
          have hl3 : t3.length ≤ 904 := by rw [← ht3, List.length_append]; have := hbdl.out; omega
          have hr4 := fun W => run_cat (P := Tryd.prog) t3 [41] (by simp; omega) W
          have e1 : t3 ++ [41] = CT := by rw [← HCT.out, ← ht3, ← ht2, ← ht1]; simp [cmdT, HD.out]
          rw [e1] at hr4
          clear ht1 ht2 ht3 e1 hbl hmm hvb hxc0 hd0 hlp hl1 hl2 hl3
          go_wp2_with fail
          rw [← HW1.out]
          refine (HDEC.out _).mono ?_
          rintro e w2 ⟨rfl, b2⟩
          have q0 := cell_step (by exact q0) b2
          have q2 := cell_step (by exact q2) b2
          have HB2 := Lib.hid (below_step HB1.out b2)
          clear b2 q1
          go_wp2_with fail
          refine (HRB.out _ HB2.out).mono ?_
          rintro e w3 ⟨rfl, b3⟩
          have q2 := cell_step (by exact q2) b3
          have HBE := Lib.hid (below_step HB2.out b3)
          clear b3 q0
          go_wp2_with fail
          go_roundw
          case rel => exact ⟨k + 1 + m, os2, by omega, hm2, by first | go_num | (simp; omega), rfl, HBE, HV2.out, .inr ⟨by omega, HOS1.out⟩⟩
          case measure => simp [intOf]; omega
        · obtain ⟨nc, rfl⟩ : ∃ nc : Nat, xc = nc := ⟨xc.toNat, by omega⟩
          obtain ⟨D2, hD2⟩ : ∃ D, Lib.decDigits nc = D := ⟨_, rfl⟩
          have HDEC2 : Hid (∀ W, Calls Tryd.prog 50 #[.int .i64 nc] W fun e w' => e = .returned (.string ⟨D2.toArray⟩) ∧ Below W.heap.size W w') := by
            intro W; rw [← hD2]; exact l01Dec_any nc (by omega) W
          have HDL2 : Hid (D2.length ≤ 2) := by have := decT_len (n := (nc : Int)) ⟨hc0, hc15⟩; unfold decT at this; rw [Int.toNat_natCast, hD2] at this; exact this
          have HDT2 : Hid (decT (nc : Int) = D2) := by unfold Hid decT; rw [Int.toNat_natCast, hD2]
          clear hD2
          have q0 : w1.cell? ⟨wr.heap.size, 0, none⟩ = some (.int .i64 2) := Q0.out
          have q2 : w1.cell? ⟨wr.heap.size, 2, none⟩ = some (.int .i64 (nc : Int)) := Q2.out
          have HBL : Hid (bodyLen ⟨2, (nb : Int), (nc : Int)⟩ = 0) := by rfl
          obtain ⟨t1, ht1⟩ : ∃ t, D ++ [61] = t := ⟨_, rfl⟩
          have hr1 := fun W => run_cat (P := Tryd.prog) D [61] (by have := HDL.out; simp; omega) W
          rw [ht1] at hr1
          have hl1 : t1.length ≤ 3 := by rw [← ht1]; have := HDL.out; simp; omega
          have hr2 := fun W => run_cat (P := Tryd.prog) t1 D2 (by have := HDL2.out; omega) W
          have e1 : t1 ++ D2 = CT := by rw [← HCT.out, ← ht1]; simp [cmdT, HD.out, HDT2.out]
          rw [e1] at hr2
          clear ht1 e1 hl1
          go_wp2_with fail
          rw [← HW1.out]
          refine (HDEC.out _).mono ?_
          rintro e w2 ⟨rfl, b2⟩
          have q0 := cell_step (by exact q0) b2
          have q2 := cell_step (by exact q2) b2
          have HB2 := Lib.hid (below_step HB1.out b2)
          clear b2 q1
          go_wp2_with fail
          refine (HDEC2.out _).mono ?_
          rintro e w3 ⟨rfl, b3⟩
          have HBE := Lib.hid (below_step HB2.out b3)
          clear b3 q0 q2
          go_wp2_with fail
          go_roundw
          case rel => exact ⟨k + 1 + bodyLen ⟨2, (nb : Int), (nc : Int)⟩, os2, by omega, hm2, by rw [HBL.out]; go_num, rfl, HBE, HV2.out, .inr ⟨by omega, HOS1.out⟩⟩
          case measure => simp [intOf]; omega
    · obtain rfl : k = to := by omega
      have hkI : ¬ (k : Int) < (k : Int) := by omega
      have hfin : os = T := by
        have e0 : seg xs k k = [] := by unfold seg; simp
        rcases HSF.out with ⟨h1, h2, h3⟩ | ⟨h1, h2⟩
        · rw [e0, textL_nil] at h3; rw [h2, h3]
        · rw [e0, tailT_nil, List.append_nil] at h2; exact h2
      subst hfin
      go_wp2_with fail
      go_ret
      exact ⟨rfl, HB.out⟩
end Go.Proofs.YtgcedfpjgdeakaaDoor

/- LoopText, the program's and the reference's. -/
namespace Go.Proofs.YtgcedfpjgdeakaaDoor
open Go.RowKit
set_option linter.all false

theorem textsL_len (N : Nat) : ∀ l : List R3, l.length ≤ N → (textsL l).length ≤ l.length := by
  induction N with
  | zero =>
    intro l h
    have : l = [] := List.length_eq_zero_iff.1 (by omega)
    subst this
    rw [textsL_nil]; simp
  | succ N ih =>
    intro l h
    cases l with
    | nil => rw [textsL_nil]; simp
    | cons x l =>
      rw [List.length_cons] at h
      have := ih (l.drop (bodyLen x)) (by rw [List.length_drop]; omega)
      rw [List.length_drop] at this
      rw [textsL_cons, List.length_cons, List.length_cons]
      omega
/-- What a run of bodies has made. -/
def TxInv (w : World) (lo gl : Nat) (xs : List R3) (k : Nat) (W : World) : Prop := ∃ V ts, TxSt w lo gl V ts W ∧ ts ++ textsL (xs.drop k) = textsL xs
theorem TxInv.mono {w : World} {lo gl : Nat} {xs : List R3} {k : Nat} {W W' : World} (h : TxInv w lo gl xs k W) (hb : Below W.heap.size W W') : TxInv w lo gl xs k W' := by
  obtain ⟨V, ts, h1, h2⟩ := h
  exact ⟨V, ts, h1.below hb, h2⟩
theorem joinNone (a : Option Addr) (c : Nat) (sep : ByteArray) (w : World) : Calls Tryd.prog 43 #[.slice a 0 c, .string sep] w fun e w' => e = .returned (.string ⟨#[]⟩) ∧ w' = w := Any.strings_Join_none Tryd.layJoin Tryd.joinExtra a c sep w
theorem join_texts (lo : Nat) (ts : List (List UInt8)) (V : Value) (n : Nat) (w : World) (h : w.ownsRow lo 9 1 V n (ts.map strCell)) (hn : n ≤ 1000) (hl : (Lib.join ts [59]).length ≤ 100000) :
    Calls Tryd.prog 43 #[V, .string ⟨#[59]⟩] w fun e w' => e = .returned (.string ⟨(Lib.join ts [59]).toArray⟩) ∧ Below w.heap.size w w' := by
  have hlen : ts.length = n := by have := h.1; rw [List.length_map] at this; omega
  by_cases h0 : n = 0
  · subst h0
    have : ts = [] := List.length_eq_zero_iff.1 hlen
    subst this
    obtain ⟨A, c, rfl⟩ := own_form h
    refine (joinNone A c _ w).mono ?_
    rintro e w' ⟨rfl, rfl⟩
    exact ⟨rfl, Below.refl _ _⟩
  · rcases h.2 with ⟨_, h1⟩ | ⟨g, cap, cur, rfl, _, hg, hcap, _⟩
    · exact absurd h1 h0
    · have hs := sl_of_own h
      have hmap : (ts.map (fun t : List UInt8 => (⟨t.toArray⟩ : ByteArray))).map (·.data.toList) = ts := by
        rw [List.map_map]
        conv => rhs; rw [← List.map_id ts]
        apply List.map_congr_left
        intro t _
        simp
      have hsep : (⟨#[59]⟩ : ByteArray).data.toList = [59] := rfl
      refine (strings_Join_any g 0 n cap (ts.map fun t => ⟨t.toArray⟩) ⟨#[59]⟩ w (by rw [List.length_map]; exact hlen) (fun j x hx => ?_) (heap_lt hg) (by omega) hcap (by rw [hmap, hsep]; omega)).mono ?_
      · refine hs.at ?_
        rw [List.getElem?_map] at hx ⊢
        cases ht : ts[j]? with
        | none => rw [ht] at hx; cases hx
        | some t =>
          rw [ht] at hx
          have e : x = ⟨t.toArray⟩ := by simpa using hx.symm
          subst e; rfl
      · rintro e w' ⟨rfl, hb⟩
        rw [hmap, hsep]
        exact ⟨rfl, hb⟩

set_option maxRecDepth 100000 in
set_option maxHeartbeats 2000000 in
theorem loopText_any (n : Nat) : ∀ (A : Option Addr) (c d : Nat) (xs : List R3) (w : World), Args 3 w A n (rows R3.vs xs) → n ≤ 150 → n ≤ c → vl d xs = true →
      Calls Tryd.prog 21 #[.slice A n c] w fun e w' => e = .returned (.string ⟨(textL xs).toArray⟩) ∧ Below w.heap.size w w' := by
  induction n using Nat.strongRecOn with
  | ind n ih =>
  intro A c d xs w ha hn hc hv
  have IH := Lib.hid ih; clear ih
  have HV := Lib.hid hv; clear hv
  have HA := Lib.hid ha; clear ha
  have HL : Hid (xs.length = n) := by have := HA.out.1; rw [rows_len R3.vs_len] at this; unfold Hid; omega
  obtain ⟨w1, HW, hB1, x1, y1⟩ := al2 w (.cells #[] 9) (.cells #[.slice (some ⟨w.heap.size, 0, none⟩) 0 0] 76)
  have HM0 : Hid (TxInv w w.heap.size (w.heap.size + 1) xs 0 w1) := by
    refine ⟨_, [], ⟨?_, y1, hB1, Nat.le_refl _, hB1.size, by omega⟩, by rw [List.drop_zero]; rfl⟩
    have := own_of_block (n := 0) (cap := 0) (s := 1) (xs := []) (base := w.heap.size) x1 (Nat.le_refl _) rfl (Nat.le_refl _) (Nat.zero_le _)
    simpa using this
  have HF1 : Hid (∀ (k : Nat) (x : R3) (m : Nat) (A' : Option Addr) (c' : Nat) (W : World), xs[k]? = some x → bodyLen x = m → vl d (xs.drop k) = true → k + 1 + m ≤ n → m ≤ c' → Args 3 W A' m (rows R3.vs ((xs.drop (k + 1)).take m)) → TxInv w w.heap.size (w.heap.size + 1) xs k W →
      Calls Tryd.prog 41 (#[.agg #[.int .i64 x.a, .int .i64 x.b, .int .i64 x.c], .slice A' m c'] ++ #[.pointer (some ⟨w.heap.size + 1, 0, none⟩)]) W fun e w' => e = .returned (.tuple #[]) ∧ TxInv w w.heap.size (w.heap.size + 1) xs (k + 1 + m) w') := by
    intro k x m A' c' W hx hm hvk hkm hmc ha' hinv
    obtain ⟨V, ts, h1, h2⟩ := hinv
    have hvk' := hvk
    rw [drop_at hx] at hvk'
    obtain ⟨hb0, hb15, hkind⟩ := vl_kind hvk'
    obtain ⟨_, _, hv3⟩ := vl_step hx hvk
    rw [hm] at hv3
    have hvy : vl (d - 1) ((xs.drop (k + 1)).take m) = true := by
      cases hl : isLp x with
      | true => exact (hv3 hl).1
      | false =>
        have : m = 0 := by rw [← hm, bodyLen_no hl]
        rw [this, List.take_zero, vl_nil]
    have htl : ts.length ≤ 1000 := by
      have h3 := congrArg List.length h2
      have h4 := textsL_len _ xs (Nat.le_refl _)
      have := HL.out
      rw [List.length_append] at h3
      omega
    have hbl := textL_len hvy
    rw [List.length_take, List.length_drop] at hbl
    refine (txtAdd_any x m c' (w.heap.size + 1) w.heap.size A' V ts (textL ((xs.drop (k + 1)).take m)) w W h1 htl ⟨hb0, hb15⟩ (by omega) hkind (fun W' hW' => IH.out m (by omega) A' c' (d - 1) _ W' (ha'.below hW') (by omega) hmc hvy)).mono ?_
    rintro e w' ⟨rfl, V', h5⟩
    refine ⟨rfl, V', _, h5, ?_⟩
    rw [← h2, drop_at hx, textsL_cons, hm, List.drop_drop, List.append_assoc]
    rw [show k + 1 + m = k + 1 + m from rfl]
    rfl
  have HI1 : Hid (∀ k W W', TxInv w w.heap.size (w.heap.size + 1) xs k W → Below W.heap.size W W' → TxInv w w.heap.size (w.heap.size + 1) xs k W') := fun k W W' h hb => h.mono hb
  have HA1 : Hid (∀ k W, TxInv w w.heap.size (w.heap.size + 1) xs k W → Args 3 W A n (rows R3.vs xs)) := fun k W ⟨_, _, h, _⟩ => HA.out.below h.frame
  have HE := Lib.hid (enters_of' (P := Tryd.prog) Tryd.func41 (by kernel_rfl) rfl)
  have HBD := Lib.hid (bodies_any 41 #[.pointer (some ⟨w.heap.size + 1, 0, none⟩)] d (TxInv w w.heap.size (w.heap.size + 1) xs) A n c xs w1 (HA.out.below hB1) (by omega) hc HV.out HE.out HI1 HA1 HF1 HM0.out)
  clear x1 y1 hB1 HM0 HF1 HI1 HA1
  go_enter Tryd.func21, Tryd.ntmps21
  go_wp2_with fail
  rw [← HW.out]
  refine HBD.out.mono ?_
  rintro e w2 ⟨rfl, hinv⟩
  obtain ⟨V, ts, h1, h2⟩ := hinv
  rw [List.drop_of_length_le (by have := HL.out; omega), textsL_nil, List.append_nil] at h2
  subst h2
  have p0 : w2.cell? ⟨w.heap.size + 1, 0, none⟩ = some V := by rw [cell_of_heap h1.var]; rfl
  have HJ := Lib.hid (join_texts w.heap.size (textsL xs) V (textsL xs).length w2 h1.row (by have := textsL_len _ xs (Nat.le_refl _); have := HL.out; omega) (by have := textL_len HV.out; have := HL.out; unfold textL at *; omega))
  have HF := Lib.hid h1.frame
  clear h1 HBD
  go_wp2_with fail
  refine HJ.out.mono ?_
  rintro e w3 ⟨rfl, hb⟩
  go_wp2_with fail
  go_ret
  exact ⟨rfl, below_step HF.out hb⟩

theorem validL_parts {xs : List R3} (h : validL xs = true) : xs.length ≤ 150 ∧ vl 7 xs = true := by
  unfold validL at h; rw [Bool.and_eq_true] at h; exact ⟨of_decide_eq_true h.1, h.2⟩
end Go.Proofs.YtgcedfpjgdeakaaDoor

/- Commands read by the program: ReadLoop. -/
namespace Go.Proofs.YtgcedfpjgdeakaaDoor
open Go.RowKit
set_option linter.all false

/-- What ReadLoop says. -/
def RlAns (s : ByteArray) (w : World) : Ending → World → Prop := fun e w' => ∃ v, e = .returned (.tuple #[v, .bool (readLoop s).2]) ∧
  w'.ownsRow w.heap.size 54 3 v (readLoop s).1.length (rows R3.vs (readLoop s).1) ∧ Below w.heap.size w w'
theorem rl_yes {s : ByteArray} {w w' : World} {l : List R3} {v : Value} (h : readOkL s.data.toList l = true) (own : w'.ownsRow w.heap.size 54 3 v l.length (rows R3.vs l)) (b : Below w.heap.size w w') : RlAns s w (.returned (.tuple #[v, .bool true])) w' := by
  unfold RlAns
  rw [readLoop_yes h]
  exact ⟨v, rfl, own, b⟩
theorem rl_no {s : ByteArray} {w w' : World} (h : ∀ l, readOkL s.data.toList l = false) (b : Below w.heap.size w w') : RlAns s w (.returned (.tuple #[.slice none 0 0, .bool false])) w' := by
  unfold RlAns
  rw [readLoop_no h]
  exact ⟨_, rfl, ⟨rfl, .inl ⟨rfl, rfl⟩⟩, b⟩
theorem readOk_none {S : List UInt8} (h : readOkL S (rdI 8 S).1 = false) : ∀ l, readOkL S l = false := by
  intro l
  cases hl : readOkL S l with
  | false => rfl
  | true => rw [← readOk_rd hl, h] at hl; cases hl
theorem implValidLoop_at (A : Option Addr) (n c : Nat) (xs : List R3) (v : Bool) (hv : validL xs = v) (w : World) (hs : Args 3 w A n (rows R3.vs xs)) (hn : n ≤ 1048576) (hc : n ≤ c) :
    Calls Tryd.prog 20 #[.slice A n c] w fun e w' => e = .returned (.bool v) ∧ Below w.heap.size w w' := by
  have HL : Hid (xs.length = n) := by have := hs.1; rw [rows_len R3.vs_len] at this; unfold Hid; omega
  subst hv
  by_cases h : n ≤ 150
  · have HV : Hid (validL xs = vl 7 xs) := by unfold Hid validL; rw [HL.out]; simp [h]
    go_enter Tryd.func20, Tryd.ntmps20
    go_wp2_with fail
    refine (validLoops_any 7 _ n c 0 xs _ hs hn hc (by omega) (by omega)).mono ?_
    rintro e w1 ⟨rfl, hb⟩
    go_wp2
    go_ret
    exact ⟨ret_bool HV.out.symm, hb⟩
  · have HV : Hid (validL xs = false) := by unfold Hid validL; rw [HL.out]; simp [h]
    go_enter Tryd.func20, Tryd.ntmps20
    go_wp2
    go_ret
    exact ⟨ret_bool HV.out.symm, Below.refl _ _⟩
theorem implReadLoop_any (s : ByteArray) (w : World) (hl : s.size ≤ 1048576) (hE : ErrAt w) :
    Calls Tryd.prog 6 #[.string s] w (RlAns s w) := by
  obtain ⟨S, hS⟩ : ∃ S, s.data.toList = S := ⟨_, rfl⟩
  have HS := Lib.hid hS
  have hl2 : S.length ≤ 1048576 := by rw [← hS]; simpa using hl
  go_enter Tryd.func6, Tryd.ntmps6
  go_wp2_with fail
  refine (readLoops_any 8 s S 0 _ hS (by omega) ⟨by omega, hl2⟩ hE).mono ?_
  clear hS hl hE
  rintro e w1 ⟨A, n, c, q, rfl, hn, hq, own, b1⟩
  obtain ⟨l, hL⟩ : ∃ l, (rdI 8 S).1 = l := ⟨_, rfl⟩
  have HL := Lib.hid hL
  rw [hL] at hn own
  have hlen : n ≤ 151 * 8 := by have := rdI_len 8 S; rw [hL] at this; omega
  have HN := Lib.hid hn
  have HA := Lib.hid (args_of_own own)
  have hnc : n ≤ c := by
    rcases own.2 with ⟨h0, h1⟩ | ⟨g, cap, cur, hv, _, _, h3, _⟩
    · omega
    · injection hv with _ _ hcc
      omega
  have HO := Lib.hid own
  have HB := Lib.hid b1
  clear own b1 hq hL hn
  have hva : n ≤ 150 → validL l = vl 7 l := fun h => by unfold validL; rw [HN.out]; simp [h]
  go_wp2_with fail
  refine (implValidLoop_at A n c l _ rfl _ HA.out (by omega) hnc).mono ?_
  rintro e w2 ⟨rfl, b2⟩
  have HB2 := Lib.hid (below_step HB.out b2)
  have HA2 := Lib.hid (HA.out.below b2)
  have HO2 := Lib.hid (own_below' HO.out b2)
  clear b2 hva
  cases hv : validL l with
  | false =>
    have hno : ∀ l, readOkL s.data.toList l = false := by
      rw [HS.out]; exact readOk_none (by rw [HL.out]; unfold readOkL; rw [hv]; rfl)
    have FIN := Lib.hid (rl_no (w' := w2) hno HB2.out)
    clear hno
    go_wp2_with fail
    go_ret2
    exact FIN.out
  | true =>
    have hv7 : n ≤ 150 ∧ vl 7 l = true := by
      unfold validL at hv; rw [Bool.and_eq_true, HN.out] at hv; exact ⟨of_decide_eq_true hv.1, hv.2⟩
    have H7 := Lib.hid hv7.2
    have h150 := hv7.1
    clear hv7
    go_wp2_with fail
    refine (loopText_any n A c 7 l _ HA2.out h150 hnc H7.out).mono ?_
    rintro e w3 ⟨rfl, b3⟩
    have HB3 := Lib.hid (below_step HB2.out b3)
    have HO3 := Lib.hid (own_below' HO2.out b3)
    obtain ⟨T, hT⟩ : ∃ T, (⟨(textL l).toArray⟩ : ByteArray) = T := ⟨_, rfl⟩
    rw [hT]
    have hTl : textL l = T.data.toList := by rw [← hT]
    clear b3 hT
    by_cases hts : T = s
    · have hyes : readOkL s.data.toList l = true := by unfold readOkL; rw [hv, hTl, hts]; exact decide_eq_true rfl
      have FIN := Lib.hid (rl_yes (w' := w3) (v := .slice A n c) hyes (by rw [HN.out]; exact HO3.out) HB3.out)
      have hbb : (T.toList == s.toList) = true := by rw [hts]; exact beq_self_eq_true _
      clear hyes hts hTl hv
      go_wp2_with fail
      go_ret2
      exact FIN.out
    · have hno : ∀ l, readOkL s.data.toList l = false := by
        rw [HS.out]
        refine readOk_none ?_
        rw [HL.out, ← HS.out]
        unfold readOkL
        rw [hTl, Bool.and_eq_false_iff]
        right
        exact decide_eq_false (fun e => hts (ByteArray.ext (Array.toList_inj.1 e)))
      have FIN := Lib.hid (rl_no (w' := w3) hno HB3.out)
      have hbb : (T.toList == s.toList) = false := by rw [beq_eq_false_iff_ne]; intro e; rw [ByteArray.toList_eq, ByteArray.toList_eq] at e; exact hts (ByteArray.ext (Array.toList_inj.1 e))
      clear hno hts hTl hv
      go_wp2_with fail
      go_ret2
      exact FIN.out
end Go.Proofs.YtgcedfpjgdeakaaDoor

/- ReadLoop of the reference: what it reads is what the program reads. -/
namespace Go.Proofs.YtgcedfpjgdeakaaDoor
open Go.RowKit
set_option linter.all false

theorem l17Is_at (A : Option Addr) (n c : Nat) (xs : List R3) (v : Bool) (hv : validL xs = v) (w : World) (hs : Args 3 w A n (rows R3.vs xs)) (h : n ≤ 150) :
    Calls Tryd.prog 35 #[.slice A n c] w fun e w' => e = .returned (.bool v) ∧ Below w.heap.size w w' := by
  have HL : Hid (xs.length = n) := by have := hs.1; rw [rows_len R3.vs_len] at this; unfold Hid; omega
  have HV : Hid (v = vl 7 (seg xs 0 n)) := by unfold Hid; rw [← hv]; unfold validL; rw [← HL.out, seg_all, HL.out]; simp [h]
  clear hv
  go_enter Tryd.func35, Tryd.ntmps35
  go_wp2_with fail
  refine (l17Part_any 7 _ n c 0 n 0 xs _ hs (by omega) (by omega) (by omega) (by omega) (by omega)).mono ?_
  rintro e w1 ⟨rfl, hb⟩
  rw [← HV.out]
  go_wp2
  go_ret
  exact ⟨rfl, hb⟩

set_option maxRecDepth 100000 in
set_option maxHeartbeats 4000000 in
theorem l17Read_any (s : ByteArray) (w : World) (hl : s.size ≤ 1048576) :
    Calls Tryd.prog 18 #[.string s] w (RlAns s w) := by
  obtain ⟨S, hS⟩ : ∃ S, s.data.toList = S := ⟨_, rfl⟩
  have HS := Lib.hid hS
  have hl2 : S.length = s.size := by rw [← hS]; simp
  have HSZ := Lib.hid hl2
  have HP := l17Parse_any s S hS (by omega) 8 0 S 0 w (by rw [List.drop_zero]) (Nat.zero_le _) rfl (Nat.le_refl _)
  rw [show ((0 : Nat) : Int) = 0 from rfl] at HP
  have HP := Lib.hid HP
  clear hS hl2
  go_enter Tryd.func18, Tryd.ntmps18
  go_wp2_with fail
  refine HP.out.mono ?_
  rintro e w1 (⟨qf, ho, rfl, b1⟩ | ⟨A, n, c, q, l, r, ho, rfl, hn, hn150, hq, hr, own, b1⟩)
  · have hno : ∀ l, readOkL s.data.toList l = false := by
      rw [HS.out]
      refine prs_no fun l h => ?_
      rw [ho] at h; cases h
    have FIN := Lib.hid (rl_no (w' := w1) hno b1)
    clear hno ho b1
    go_wp2_with fail
    go_ret2
    exact FIN.out
  by_cases hqs : q = s.size
  rotate_left
  · have hno : ∀ l, readOkL s.data.toList l = false := by
      rw [HS.out]
      refine prs_no fun l' h => ?_
      exfalso
      rw [ho] at h
      injection h with h
      injection h with _ h
      rw [h] at hr
      have h2 := congrArg List.length hr
      rw [List.length_drop, List.length_nil, HSZ.out] at h2
      have h3 := HSZ.out
      omega
    have FIN := Lib.hid (rl_no (w' := w1) hno b1)
    have hne : ((q : Int) != (s.size : Int)) = true := by simp; omega
    clear hno ho b1 hqs own hr
    go_wp2_with fail
    go_ret2
    exact FIN.out
  have hr0 : r = [] := by
    rw [← hr]
    exact List.drop_of_length_le (by rw [HSZ.out, hqs]; exact Nat.le_refl _)
  subst hr0
  have hne : ((q : Int) != (s.size : Int)) = false := by simp; omega
  have HO := Lib.hid ho
  have HON := Lib.hid own
  have HB := Lib.hid b1
  have HN := Lib.hid hn
  have HA := Lib.hid (args_of_own own)
  clear ho own b1 hr hn hqs
  cases hv : validL l with
  | false =>
    have hno : ∀ l, readOkL s.data.toList l = false := by
      rw [HS.out]
      refine prs_no fun l' h => ?_
      rw [HO.out] at h
      injection h with h
      injection h with h _
      subst h
      unfold readOkL; rw [hv]; rfl
    have HV := Lib.hid hv
    clear hv
    go_wp2_with fail
    refine (l17Is_at A n c l false HV.out _ HA.out hn150).mono ?_
    rintro e w2 ⟨rfl, b2⟩
    have FIN := Lib.hid (rl_no (w' := w2) hno (below_step HB.out b2))
    clear hno b2
    go_wp2_with fail
    go_ret2
    exact FIN.out
  | true =>
    have hv7 : vl 7 l = true := by
      unfold validL at hv; rw [Bool.and_eq_true] at hv; exact hv.2
    have HV7 : Hid (vl 7 (seg l 0 n) = true) := by unfold Hid; rw [← HN.out, seg_all]; exact hv7
    have HT : Hid (seg l 0 n = l) := by unfold Hid; rw [← HN.out, seg_all]
    have HV := Lib.hid hv
    clear hv7 hv
    go_wp2_with fail
    refine (l17Is_at A n c l true HV.out _ HA.out hn150).mono ?_
    rintro e w2 ⟨rfl, b2⟩
    have HB2 := Lib.hid (below_step HB.out b2)
    have HA2 := Lib.hid (HA.out.below b2)
    have HO2 := Lib.hid (own_below' HON.out b2)
    have HSH := l17Show_any n A n c 0 n 7 l w2 HA2.out hn150 (Nat.zero_le _) (Nat.le_refl _) (by omega) HV7.out
    rw [show ((0 : Nat) : Int) = 0 from rfl, HT.out] at HSH
    have HSH := Lib.hid HSH
    clear b2
    obtain ⟨T, hT⟩ : ∃ T, (⟨(textL l).toArray⟩ : ByteArray) = T := ⟨_, rfl⟩
    have hTl : textL l = T.data.toList := by rw [← hT]
    rw [hT] at HSH
    clear hT
    by_cases hts : T = s
    · have hyes : readOkL s.data.toList l = true := by unfold readOkL; rw [HV.out, hTl, hts]; exact decide_eq_true rfl
      have hbb : (T.toList == s.toList) = true := by rw [hts]; exact beq_self_eq_true _
      have HYES := Lib.hid hyes
      clear hyes hts hTl
      go_wp2_with fail
      refine HSH.out.mono ?_
      rintro e w3 ⟨rfl, b3⟩
      have FIN := Lib.hid (rl_yes (w' := w3) (v := .slice A n c) HYES.out (by rw [HN.out]; exact own_below' HO2.out b3) (below_step HB2.out b3))
      clear b3
      go_wp2_with fail
      go_ret2
      exact FIN.out
    · have hno : ∀ l, readOkL s.data.toList l = false := by
        rw [HS.out]
        refine prs_no fun l' h => ?_
        rw [HO.out] at h
        injection h with h
        injection h with h _
        subst h
        rw [← HS.out]
        unfold readOkL
        rw [hTl, Bool.and_eq_false_iff]
        right
        exact decide_eq_false (fun e => hts (ByteArray.ext (Array.toList_inj.1 e)))
      have hbb : (T.toList == s.toList) = false := by rw [beq_eq_false_iff_ne]; intro e; rw [ByteArray.toList_eq, ByteArray.toList_eq] at e; exact hts (ByteArray.ext (Array.toList_inj.1 e))
      have HNO := Lib.hid hno
      clear hno hts hTl
      go_wp2_with fail
      refine HSH.out.mono ?_
      rintro e w3 ⟨rfl, b3⟩
      have FIN := Lib.hid (rl_no (w' := w3) HNO.out (below_step HB2.out b3))
      clear b3
      go_wp2_with fail
      go_ret2
      exact FIN.out

theorem specReadLoop_ans (s : ByteArray) (w : World) (hl : s.size ≤ 1048576) :
    Calls Tryd.prog 5 #[.string s] w (RlAns s w) := by
  go_enter Tryd.func5, Tryd.ntmps5
  go_wp2_with fail
  refine (l17Read_any s w hl).mono ?_
  rintro e w1 ⟨v, rfl, own, b⟩
  have FIN : Hid (RlAns s w (.returned (.tuple #[v, .bool (readLoop s).2])) w1) := ⟨v, rfl, own, b⟩
  clear own b
  go_wp2_with fail
  go_ret2
  exact FIN.out
end Go.Proofs.YtgcedfpjgdeakaaDoor

/- The walk of the law FnExactReadLoop: it returns true, whatever the arguments, and writes nothing that was there. -/
namespace Go.Proofs.YtgcedfpjgdeakaaDoor
open Go.RowKit

set_option maxRecDepth 100000 in
set_option maxHeartbeats 2000000 in
theorem walkReadLoop (x0 : ByteArray) (w : World) (m0 : x0.size ≤ maxLen) (hE : ErrAt w) :
    Calls Tryd.prog 3 #[.string x0] w fun e w' => e = .returned (.bool true) ∧ Below w.heap.size w w' := by
  unfold maxLen at m0
  by_cases s0 : x0.size ≤ 1048576
  rotate_left
  · go_enter Tryd.func3, Tryd.ntmps3
    go_wp2_with fail
    go_ret
    exact ⟨rfl, Below.refl _ _⟩
  go_enter Tryd.func3, Tryd.ntmps3
  have B0 : Below w.heap.size w w := Below.refl _ _
  go_wp2_with fail
  refine (specReadLoop_ans x0 _ s0).mono ?_
  rintro e w1 ⟨p0v, rfl, p0_1, b1⟩
  obtain ⟨p0A, p0c, rfl⟩ := own_form p0_1
  have B1 := below_step B0 b1
  have hl0 := bndReadLoop0 x0 
  go_wp2_with fail
  refine (implReadLoop_any x0 _ s0 (hE.below B1)).mono ?_
  rintro e w2 ⟨g0v, rfl, g0_2, b2⟩
  obtain ⟨g0A, g0c, rfl⟩ := own_form g0_2
  have B2 := below_step B1 b2
  have p0_2 := own_below' p0_1 b2
  go_wp2_with fail
  refine (eqLoopS_any _ _ _ _ _ _ _ _ _ (args_of_own g0_2) (args_of_own p0_2) (by omega) (by omega)).mono ?_
  rintro e w3 ⟨rfl, b3⟩
  have B3 := below_step B2 b3
  have p0_3 := own_below' p0_2 b3
  have g0_3 := own_below' g0_2 b3
  go_wp2_with fail
  refine (markLoopS_any _ _ _ _ _ _ g0_3 (by omega) (by omega) (by omega)).mono ?_
  rintro e w4 ⟨rfl, g0_4, g4⟩
  have B4 := grown_below B3 g0_3 (by have := B3.size; have := b1.size; have := b2.size; have := b3.size; omega) g4
  have p0_4 := World.ownsRow.kept p0_3 g4 (own_apart p0_1 g0_2 (by have := b1.size; have := b2.size; have := b3.size; omega))
  clear g4
  go_wp2_with fail
  refine (heldLoopS_any _ _ _ _ _ (args_of_own g0_4) (by omega) (by omega) (by omega)).mono ?_
  rintro e w5 ⟨rfl, rfl⟩
  go_wp2_with fail
  refine (implReadLoop_any x0 _ s0 (hE.below B4)).mono ?_
  rintro e w5 ⟨h0v, rfl, h0_5, b5⟩
  obtain ⟨h0A, h0c, rfl⟩ := own_form h0_5
  have B5 := below_step B4 b5
  have p0_5 := own_below' p0_4 b5
  have g0_5 := own_below' g0_4 b5
  go_wp2_with fail
  refine (eqLoopS_any _ _ _ _ _ _ _ _ _ (args_of_own h0_5) (args_of_own p0_5) (by omega) (by omega)).mono ?_
  rintro e w6 ⟨rfl, b6⟩
  have B6 := below_step B5 b6
  have p0_6 := own_below' p0_5 b6
  have g0_6 := own_below' g0_5 b6
  have h0_6 := own_below' h0_5 b6
  go_wp2_with fail
  refine (heldLoopS_any _ _ _ _ _ (args_of_own g0_6) (by omega) (by omega) (by omega)).mono ?_
  rintro e w7 ⟨rfl, rfl⟩
  go_wp2_with fail
  go_ret
  exact ⟨rfl, B6⟩
end Go.Proofs.YtgcedfpjgdeakaaDoor

/- strconv.ErrSyntax, as the row lists it, holds an interface value. -/
namespace Go.Proofs.YtgcedfpjgdeakaaDoor
open Go.RowKit
set_option linter.all false

theorem gES : Tryd.prog.globalNamed "strconv.ErrSyntax" = some (Tryd.layParseInt_ren.g 15) := by kernel_rfl
theorem gESType : (Tryd.prog.globals[Tryd.layParseInt_ren.g 15]?).map (·.type) = some 109 := by kernel_rfl
theorem errStar : "*" ++ "errors.errorString" = "*errors.errorString" := by decide
theorem errRow (u : TypeId) (h : Tryd.prog.typeName? 3 u = some "*errors.errorString") : u = 191 :=
  typeName_ptr_named (nm := "errors.errorString") (by rw [errStar]; kernel_rfl) (by kernel_rfl) (by decide) u (by rw [errStar]; exact h)
theorem errAt_of {r : List (String × DataW Unit)} {W : World} (h : laidMet Tryd.prog (("strconv.ErrSyntax", .iface "*errors.errorString" (.ptr (.agg [.lit (.string [105, 110, 118, 97, 108, 105, 100, 32, 115, 121, 110, 116, 97, 120])]))) :: r) W) : ErrAt W := by
  obtain ⟨a0, s0, hv0, -, -, -⟩ := laid_sentinel h gES gESType Tryd.underlying109 errRow Tryd.underlying191 Tryd.underlying193 rfl rfl Tryd.underlying9 (by kernel_rfl) (by kernel_rfl)
  exact ⟨_, (by have h0 := World.var?_cell gES hv0 0; simpa using h0), Or.inr ⟨_, _, rfl⟩⟩

theorem errAt_laid {W : World} (hL : laidMetH Tryd.prog Rows.fnExactReadLoopRow.laid W) : ErrAt W := by
  rw [MakeChecks.laidMetH_plain _ _ _ (by kernel_rfl)] at hL
  have h1 : laidMet Tryd.prog (("math/bits.deBruijn32tab", Rows.laid_math_bits_deBruijn32tab) :: ("math/bits.deBruijn64tab", Rows.laid_math_bits_deBruijn64tab) :: ("internal/strconv.uint64pow10", Rows.laid_internal_strconv_uint64pow10) :: ("unicode/utf8.acceptRanges", Rows.laid_unicode_utf8_acceptRanges) :: ("strconv.ErrRange", Rows.laid_strconv_ErrRange) :: ("strconv.ErrSyntax", Rows.laid_strconv_ErrSyntax) :: [("unicode/utf8.first", Rows.laid_unicode_utf8_first)]) W := hL
  exact errAt_of h1.tail.tail.tail.tail.tail
end Go.Proofs.YtgcedfpjgdeakaaDoor

/- How the laws' arguments are opened: a slice that came in reads as a list of its elements' cells. -/
namespace Go.Proofs.YtgcedfpjgdeakaaDoor
open Go.ChangeShapes Go.WideShapes Go.ChangeAt Go.RowKit Go.Deep
open Go.ChangeMaps (open_string shut_string)

theorem own : ownKnob Tryd.prog.godebug = none := by kernel_rfl
theorem laidOut : laidOutB Tryd.prog = true := by kernel_rfl

theorem list_of_fun {α : Type} (n : Nat) (p : Nat → α → Prop) (h : ∀ i, i < n → ∃ x, p i x) : ∃ xs : List α, xs.length = n ∧ ∀ i x, xs[i]? = some x → p i x := by
  induction n with
  | zero => exact ⟨[], rfl, by simp⟩
  | succ n ih =>
    obtain ⟨xs, hl, hp⟩ := ih (fun i hi => h i (by omega))
    obtain ⟨x, hx⟩ := h n (by omega)
    refine ⟨xs ++ [x], by simp [hl], fun i y hy => ?_⟩
    rw [List.getElem?_append] at hy
    split at hy
    · exact hp i y hy
    · rw [List.getElem?_singleton] at hy
      split at hy
      · injection hy with hy
        subst hy
        obtain rfl : i = n := by omega
        exact hx
      · cases hy

theorem add_none {b off j : Nat} : (⟨b, off, none⟩ : Addr).add j = ⟨b, off + j, none⟩ := by
  unfold Addr.add
  split
  · rename_i h; subst h; rfl
  · rfl

section
variable {H : Type} {enc : TypeId × Value → H} {P : Program} {w : World} {base : Nat} {spare : Nat → Bool} {held : Bool}

/-- A slice of one-cell elements that came in. 'helem' says how an element's cell reads. -/
theorem arg_of_trod {α : Type} (f : α → Value) (ok : α → Prop) {t e : TypeId} {A : Option Addr} {n c : Nat} {d : DataW H} {ps : List MemPlace} (ht : P.underlying t = some (.slice e)) (hC : P.cellsOf e = 1)
    (helem : ∀ fuel cs x, DataW.trod enc P w base spare held fuel e cs = some x → ∃ a, cs = [f a] ∧ ok a)
    (h : DataW.Trod enc P w base spare held t (.slice A n c) d ps) : ∃ xs : List α, Arg w A n (xs.map f) ∧ (∀ x ∈ xs, ok x) ∧ n ≤ maxLen := by
  obtain ⟨fuel, hf⟩ := h
  rcases open_slice ht hf with ⟨h0, _⟩ | ⟨a, len, cap, m, n', D, Pl, hcs, _, hl, hm, hmm, _, hi⟩
  · simp [Value.cells] at h0
    obtain ⟨rfl, rfl, rfl⟩ := h0
    exact ⟨[], Arg.of_nil _ _, by simp, by simp [maxLen]⟩
  · simp [Value.cells] at hcs
    obtain ⟨rfl, rfl, rfl⟩ := hcs
    have hnm : n ≤ m := by rw [hmm]; split <;> omega
    have hex : ∀ i, i < n → ∃ x : α, w.cell? (a.add i) = some (f x) ∧ ok x := by
      intro i hin
      obtain ⟨cs', hc, ht'⟩ := hi i (by omega)
      rw [hC] at hc
      obtain ⟨x, rfl, hok⟩ := helem _ _ _ ht'
      obtain ⟨_, _, hat⟩ := World.cells?_some hc
      refine ⟨x, ?_, hok⟩
      have := hat 0 (by omega)
      simpa [Addr.add] using this
    obtain ⟨xs, hlen, hp⟩ := list_of_fun n _ hex
    refine ⟨xs, ⟨by simp [hlen], ?_⟩, fun x hx => by obtain ⟨i, hi⟩ := List.getElem?_of_mem hx; exact (hp i x hi).2, by omega⟩
    rcases Nat.eq_zero_or_pos n with h0 | h0
    · exact .inl h0
    · obtain ⟨b, off, spot⟩ := a
      obtain ⟨x0, hx0, _⟩ := hex 0 h0
      have hspot : spot = none := by simpa [Addr.add] using World.cell?_spot hx0
      subst hspot
      refine .inr ⟨b, off, rfl, World.block_lt_of_cell? w _ (by simpa [Addr.add] using hx0), fun j u hu => ?_⟩
      rw [List.getElem?_map] at hu
      obtain ⟨x, hx, rfl⟩ := Option.map_eq_some_iff.1 hu
      rw [← add_none]
      exact (hp j x hx).1

theorem arg_bools {t e : TypeId} {A : Option Addr} {n c : Nat} {d : DataW H} {ps : List MemPlace} (ht : P.underlying t = some (.slice e)) (hC : P.cellsOf e = 1) (he : P.underlying e = some .bool)
    (h : DataW.Trod enc P w base spare held t (.slice A n c) d ps) : ∃ xs : List Bool, Arg w A n (xs.map Value.bool) ∧ n ≤ maxLen := by
  obtain ⟨xs, h1, _, h3⟩ := arg_of_trod Value.bool (fun _ => True) ht hC (fun fuel cs x hx => by obtain ⟨b, hb, _⟩ := DataW.trod_bool he hx; exact ⟨b, hb, trivial⟩) h
  exact ⟨xs, h1, h3⟩

theorem arg_ints {k : IntKind} {t e : TypeId} {A : Option Addr} {n c : Nat} {d : DataW H} {ps : List MemPlace} (ht : P.underlying t = some (.slice e)) (hC : P.cellsOf e = 1) (he : P.underlying e = some (.int k))
    (h : DataW.Trod enc P w base spare held t (.slice A n c) d ps) : ∃ xs : List Int, Arg w A n (xs.map (Value.int k)) ∧ (∀ x ∈ xs, (Lit.int k x).wf = true) ∧ n ≤ maxLen :=
  arg_of_trod (Value.int k) (fun x => (Lit.int k x).wf = true) ht hC (fun fuel cs x hx => by obtain ⟨b, hb, _, hw⟩ := DataW.trod_int he hx; exact ⟨b, hb, hw⟩) h

theorem arg_strings {t e : TypeId} {A : Option Addr} {n c : Nat} {d : DataW H} {ps : List MemPlace} (ht : P.underlying t = some (.slice e)) (hC : P.cellsOf e = 1) (he : P.underlying e = some .string)
    (h : DataW.Trod enc P w base spare held t (.slice A n c) d ps) : ∃ xs : List ByteArray, Arg w A n (xs.map Value.string) ∧ (∀ x ∈ xs, x.size ≤ maxLen) ∧ n ≤ maxLen :=
  arg_of_trod Value.string (fun x => x.size ≤ maxLen) ht hC (fun fuel cs x hx => by obtain ⟨b, hb, _, hw⟩ := DataW.trod_string he hx; exact ⟨b, hb, hw⟩) h
end
end Go.Proofs.YtgcedfpjgdeakaaDoor

/- The law FnExactReadLoop returns true for every input, and each argument reads afterwards as before. No conditions. -/
namespace Go.Proofs.YtgcedfpjgdeakaaDoor.lawReadLoop
open Go.ChangeShapes Go.WideShapes Go.ChangeAt Go.RowKit Go.Deep
open Go.ChangeMaps (open_string shut_string)

set_option maxRecDepth 100000 in
theorem lifted (os : Os) (started : os.Started) (H : Type) (enc : TypeId × Value → H) :
    ReturnsInHanded {} Tryd.checked os 3 .any (fun w args => (Rows.fnExactReadLoopSpec.pre enc Tryd.prog Tryd.f3 Rows.fnExactReadLoopRow.domain false w args ∧ laidMetH Tryd.prog Rows.fnExactReadLoopRow.laid w) ∧ sizedMet enc Tryd.prog Tryd.f3 (OpenSpec.ofChange Rows.fnExactReadLoopSpec) false w args) (Rows.fnExactReadLoopSpec.post enc Tryd.prog Tryd.f3 false true false false) := by
  refine returnsInHanded_of_change_and (C := Tryd.checked) (X := fun w _ => laidMetH Tryd.prog Rows.fnExactReadLoopRow.laid w) (fun _ _ _ hh h => h.of_heap hh) own started (by kernel_rfl) Tryd.func3
    (ChangeSpec.witness_shaped (enc := enc) (C := Tryd.checked) (os := os) (X := fun w _ => laidMetH Tryd.prog Rows.fnExactReadLoopRow.laid w) false (World.laidAll Tryd.prog os Rows.fnExactReadLoopRow.laid) #[.string ⟨#[]⟩] 8 (World.laidAll_os _ _ _)
      (World.shaped_of_ZipB (by kernel_rfl) (by kernel_rfl)) (by kernel_rfl) (by kernel_rfl) (by kernel_rfl)
      (by rw [MakeChecks.laidMetH_plain _ _ _ (by kernel_rfl)]; exact laidMet_laidAll _ (by kernel_rfl) (by kernel_rfl))) ?_
  intro W base args ds gs before hval0 hW hcnd _ hL _
  have hval : ∀ (j : Nat) t v, Tryd.f3.params[j]? = some t → args[j]? = some v → Value.okWide Tryd.prog W .any base t v := hval0
  have hW' := hW
  obtain ⟨p, q, hA0, hV, rfl, hfz, hnd⟩ := hW
  have hA : DataW.TrodAll enc Tryd.prog W 0 (fun _ => true) true Tryd.f3.params.toList args.toList ds p := hA0
  rw [Tryd.params3] at hA hval
  obtain ⟨v0, vs0, d0, ds0, p0, q0, hargs, rfl, rfl, h0, r0⟩ := trodAll_cons hA
  obtain ⟨rfl, rfl, rfl⟩ := trodAll_nil r0
  obtain rfl : args = #[v0] := by cases args; simp_all
  obtain ⟨rfl, rfl⟩ := trodVars_none hV
  obtain ⟨z0, rfl, rfl, rfl, f0⟩ := open_string Tryd.underlying9 (hval 0 9 v0 rfl rfl) h0
  clear hA0 hval0
  refine (walkReadLoop z0 W f0 (errAt_laid hL)).mono fun e W' ⟨he, bel⟩ => ?_
  subst he
  exact ⟨_, rfl, _, _, _, [], _, [], hW', trodAll_mk1 (shut_bool Tryd.underlying4 _), (trodAll_cons_mk (shut_string Tryd.underlying9 f0) trodAll_mk0), rfl, bel.frame _, fun h => by cases h⟩

theorem factA : Tryd.pinned.checked.prog.funcNamed Rows.fnExactReadLoopRow.func = some 3 := by kernel_rfl
theorem factB0 : (Rows.fnExactReadLoopRow.wf (OpenSpec.ofChange Rows.fnExactReadLoopSpec)) = true := by kernel_rfl
theorem factB3 : (Tryd.f3.params.all (Tryd.pinned.checked.prog.readableRec ·)) = true := by kernel_rfl
theorem factB4 : (namedTie Tryd.pinned.checked.prog Rows.fnExactReadLoopRow.named Rows.fnExactReadLoopSpec.vars) = true := by kernel_rfl
theorem factB5 : (Rows.fnExactReadLoopRow.stops == []) = true := by kernel_rfl
theorem factB7 : (Rows.fnExactReadLoopRow.knobs == []) = true := by kernel_rfl
theorem factB9 : (Rows.fnExactReadLoopRow.inPlace == Tryd.pinned.checked.prog.inPlace 3) = true := by kernel_rfl
theorem factB10 : (Rows.fnExactReadLoopRow.unfollowed == Tryd.pinned.checked.prog.unfollowed 3) = true := by kernel_rfl
theorem factB11 : (Rows.fnExactReadLoopRow.recurses == Tryd.pinned.checked.prog.recurses 3) = true := by kernel_rfl
theorem factB12 : (Rows.fnExactReadLoopRow.named == Tryd.pinned.checked.prog.varsNamed 3) = true := by kernel_rfl
theorem factB13 : (Rows.fnExactReadLoopRow.maps == (Tryd.f3.params.toList ++ Rows.fnExactReadLoopSpec.plain.varTypes Tryd.pinned.checked.prog).any (Tryd.pinned.checked.prog.mapsRec ·)) = true := by kernel_rfl
theorem factB14 : (Rows.fnExactReadLoopRow.ifaces == (Tryd.f3.params.toList ++ Rows.fnExactReadLoopSpec.plain.varTypes Tryd.pinned.checked.prog).any (Tryd.pinned.checked.prog.ifacesRec ·)) = true := by kernel_rfl
theorem factB15 : (Rows.fnExactReadLoopRow.mapsOut == Tryd.pinned.checked.prog.mapsAmong Tryd.f3.resultTypes.toList) = true := by kernel_rfl
theorem factB16 : (Rows.fnExactReadLoopRow.loops == (Tryd.f3.params.toList ++ Rows.fnExactReadLoopSpec.plain.varTypes Tryd.pinned.checked.prog).any (Tryd.pinned.checked.prog.loopsFrom ·)) = true := by kernel_rfl
theorem factB17 : (Rows.fnExactReadLoopRow.wideKeys == (Tryd.f3.params.toList ++ Rows.fnExactReadLoopSpec.plain.varTypes Tryd.pinned.checked.prog ++ Tryd.f3.resultTypes.toList).any (Tryd.pinned.checked.prog.wideKeysFrom ·)) = true := by kernel_rfl
theorem factB18 : (Rows.fnExactReadLoopSpec.vars.all (Tryd.pinned.checked.prog.varReadable ·)) = true := by kernel_rfl
theorem factB19 : (Tryd.f3.resultTypes.all (fun t => Tryd.pinned.checked.prog.readableRec t && decide (t < Tryd.pinned.checked.prog.types.size))) = true := by kernel_rfl
theorem factB20 : (Rows.fnExactReadLoopRow.ifacesOut == Tryd.f3.resultTypes.toList.any (Tryd.pinned.checked.prog.ifacesRec ·)) = true := by kernel_rfl
theorem factB21 : (Rows.fnExactReadLoopRow.loopsOut == Tryd.f3.resultTypes.toList.any (Tryd.pinned.checked.prog.loopsFrom ·)) = true := by kernel_rfl
theorem factB23 : (Rows.fnExactReadLoopRow.shortTexts.isNone) = true := by kernel_rfl
theorem factB28 : (Rows.fnExactReadLoopRow.kinds == (if Rows.fnExactReadLoopRow.domain.isEmpty then [] else Tryd.f3.params.toList.map fun t => match Tryd.pinned.checked.prog.underlying t with | some (.int k) => some k | _ => none)) = true := by kernel_rfl
theorem factB29 : (Rows.fnExactReadLoopRow.pinned == Rows.fnExactReadLoopRow.pinnedBy) = true := by kernel_rfl
theorem factB30 : (Rows.fnExactReadLoopRow.veiled == (Tryd.f3.params.toList ++ Rows.fnExactReadLoopSpec.plain.varTypes Tryd.pinned.checked.prog ++ Tryd.f3.resultTypes.toList).any (Tryd.pinned.checked.prog.veiledRec ·)) = true := by kernel_rfl
theorem factB31 : (Rows.fnExactReadLoopRow.veiledFits Tryd.pinned.checked.prog Tryd.f3.params.toList (Tryd.f3.params.toList ++ Rows.fnExactReadLoopSpec.plain.varTypes Tryd.pinned.checked.prog ++ Tryd.f3.resultTypes.toList)) = true := by kernel_rfl
set_option maxRecDepth 100000 in
theorem factB : joinedFacts Tryd.pinned.checked.prog 3 Tryd.f3 Rows.fnExactReadLoopSpec Rows.fnExactReadLoopRow = true := by
  unfold joinedFacts
  exact (pf.band (pf.band (pf.band (pf.band (pf.band (pf.band (pf.band (pf.band (pf.band (pf.band (pf.band (pf.band (pf.band (pf.band (pf.band (pf.band (pf.band (pf.band (pf.band (pf.band (pf.band (pf.band (pf.band (pf.band (pf.band (pf.band (pf.band (pf.band (pf.band (pf.band (pf.band factB0 pf.laid) pf.mapsRow) factB3) factB4) factB5) pf.stops) factB7) pf.stopKnobs) factB9) factB10) factB11) factB12) factB13) factB14) factB15) factB16) factB17) factB18) factB19) factB20) factB21) (by show (Rows.fnExactReadLoopRow.plainKeys == Tryd.pinned.checked.prog.plainKeys) = true; rw [pf.plainKeys]; kernel_rfl)) factB23) pf.heard) pf.enter) (by show (Rows.fnExactReadLoopRow.lifted == Tryd.pinned.checked.prog.liftsFinal) = true; rw [pf.lifts]; kernel_rfl)) (by show (Tryd.pinned.checked.prog.make == some Rows.fnExactReadLoopRow.make) = true; rw [pf.make]; kernel_rfl)) factB28) factB29) factB30) factB31)
theorem factC : decide (Func.isInstance Tryd.pinned.checked.prog Tryd.f3 Rows.fnExactReadLoopRow.origin Rows.fnExactReadLoopRow.targs) = true := by kernel_rfl
theorem factD : Func.isWrapper Tryd.pinned.checked.prog Tryd.f3 Rows.fnExactReadLoopRow.wrapper Rows.fnExactReadLoopRow.mainSum := by
  unfold Func.isWrapper; first | (rw [if_pos (by decide +kernel)]; kernel_rfl) | (rw [if_neg (by decide +kernel)]; exact ⟨rfl, rfl⟩)

theorem over : Rows.fnExactReadLoopRow.holds Tryd.pinned (OpenSpec.ofChange Rows.fnExactReadLoopSpec) :=
  OpenClaim.holds_of_wide 3 Tryd.f3 rfl rfl rfl rfl rfl rfl rfl ⟨rfl, rfl, rfl, rfl, rfl⟩ rfl rfl rfl rfl rfl factA Tryd.func3 factB (of_decide_eq_true factC) factD
    (fun os started H enc _ => lifted os started H enc)

/-- The statement. -/
theorem proved : Rows.FnExactReadLoopCardSaid :=
  Claim7.holds_tied_plain_at .later [] [.data, .data, .data, .data, .sentinel, .sentinel, .pinned] true (true, "f60ea794665be1a9574279043f00b7561cd0aceb6730081b193091a94adcda49") true over (fun _ h => by cases h) (by kernel_rfl) (fun _ h => by cases h) fnExactReadLoop_row_tie rfl ⟨rfl, rfl⟩ (by kernel_rfl) rfl
    (fun f fn hf hfn => by
      obtain rfl : f = 3 := Option.some.inj (factA.symm.trans hf) |>.symm
      obtain rfl : fn = Tryd.f3 := (Option.some.inj (Tryd.func3.symm.trans hfn)).symm
      exact ⟨by kernel_rfl, fun j t ht => by
        rw [Tryd.params3] at ht
        have hm : t ∈ [9] := by simpa using Array.mem_of_getElem? ht
        have hall : ([9].all fun u => !Tryd.prog.wantsStandIn u) = true := by kernel_rfl
        exact (show Tryd.prog.wantsStandIn t = false by simpa using List.all_eq_true.1 hall t hm)⟩)
    (by kernel_rfl)
#print axioms proved
end Go.Proofs.YtgcedfpjgdeakaaDoor.lawReadLoop
