/- The law FnExactFuncToLam returns true for every input, and each argument reads afterwards as before: the proof, part 8. No conditions. -/
import Derived.Test.YtkiaclajjlidoaaGreatDoorFuncToLamZg
import Derived.ProofKit
import Derived.OpenShut
import Derived.ShutString
import Derived.ChangeOld
import Derived.Deep.Slices
import Derived.Deep.Fields
import Derived.ChangeSame
import Derived.Test.YtkiaclajjlidoaaGreatDoorCards
import Derived.Test.YtkiaclajjlidoaaGreatDoorTie
import Derived.LaidMore
import Derived.Lay
import Derived.SevenTiedAt
import Derived.Stop.Joined
/- l18Term of the reference. -/
namespace Go.Proofs.YtkiaclajjlidoaaGreatDoor
open Go.RowKit
set_option linter.all false

set_option maxRecDepth 100000 in
set_option maxHeartbeats 8000000 in
theorem l18Term_any (b : Nat) : ∀ (N off n c : Nat) (T : List R3) (a : Int) (ob : Bool) (w : World), T.length = n → n ≤ N → n ≤ 60 → n ≤ c → fRun [a] T = some [] → (∀ x ∈ T, fOkN x = true) → okF N T = ob → Sl w b off (rows R3.vs T) →
    Calls Tryz.prog 33 #[.slice (some ⟨b, off, none⟩) n c] w (StPost N T w ob) := by
  intro N
  induction N with
  | zero =>
    intro off n c T a ob w hl hn _ _ hr _ _ _
    have : T = [] := List.length_eq_zero_iff.1 (by omega)
    subst this
    rw [fRun_none] at hr; cases hr
  | succ N ih =>
    intro off n c T a ob w hl hn hn60 hc hr hall hob hs
    have IH := Lib.hid ih; clear ih
    cases T with
    | nil => rw [fRun_none] at hr; cases hr
    | cons x l =>
      obtain ⟨hok, _, hrun⟩ := parts_of hr
      have hM5 := fMany_le hok
      have hfl := fFols_len hok
      have hxb := (fOkN_iff x).1 hok
      obtain ⟨TT, hTT⟩ : ∃ TT, x :: l = TT := ⟨_, rfl⟩
      have HTT := Lib.hid hTT
      have hd1 : TT.drop 1 = l := by rw [← hTT]; rfl
      have HD1 := Lib.hid hd1
      obtain ⟨M, hMM⟩ : ∃ M, fMany x = M := ⟨_, rfl⟩
      have HMM := Lib.hid hMM
      have HTL : Hid ((terms N x l).length = M) := by unfold Hid terms; rw [List.length_map, cut_len, hMM]
      have HFL : Hid ((fFols x).length = M) := by unfold Hid; omega
      have hx0 : (x :: l)[0]? = some x := rfl
      obtain ⟨p0, p1, p2⟩ := hs.rec3 hx0
      rw [Nat.zero_mul, Nat.add_zero] at p0 p1 p2
      have hbn : 0 ≤ x.b ∧ x.b ≤ 4 := by omega
      obtain ⟨ar, har⟩ : ∃ ar : Nat, x.b = ar := ⟨x.b.toNat, by omega⟩
      have har4 : ar ≤ 4 := by omega
      have HM0 := Lib.hid (GRow.start w _ rfl)
      have HMN := Lib.hid (fun W hW => l11Many_any b off x hok W hW)
      rw [hTT] at hl hs hall hob
      have hn1 : 1 ≤ n := by rw [← hl, ← hTT]; simp
      have hn0 : (0 : Int) < (n : Int) := by omega
      have HS := Lib.hid hs; have HAL := Lib.hid hall; have HOB := Lib.hid hob; have HL := Lib.hid hl
      have HRUN := Lib.hid hrun; have HOK := Lib.hid hok; have HAR := Lib.hid har
      rw [har] at p1
      have P0 := Lib.hid p0; have P1 := Lib.hid p1; have P2 := Lib.hid p2
      have B0 := Lib.hid (laid_below w (.cells #[] 24))
      have HXB := Lib.hid hxb
      have A3 : Hid (At3 (w.alloc (.cells #[] 24)) b off x) := ⟨cell_step (by exact p0) B0.out, by rw [har]; exact cell_step (by exact p1) B0.out, cell_step (by exact p2) B0.out⟩
      rw [hMM] at hM5 HMN
      clear hl hr hs hok hrun hfl hMM hx0 p0 p2 har hall hob hTT hd1 hxb
      go_enter Tryz.func33, Tryz.ntmps33
      go_wp2_with fail
      refine (HMN.out _ A3.out).mono ?_
      rintro e w1 ⟨rfl, hw1⟩
      obtain ⟨wa, HWA⟩ : ∃ wa, Hid (wa = w.alloc (.cells #[] 24)) := ⟨_, rfl⟩
      rw [← HWA.out] at hw1 HM0
      subst hw1
      clear p1
      go_wp2_with fail
      go_loopw [5, 6, 7] (fun o kf i wr => ∃ (j k r g c : Nat), o = .slice (some ⟨g, 0, none⟩) j c ∧ kf = .int .i64 (k : Int) ∧ i = .int .i64 (r : Int) ∧ Hid (j + r = M) ∧ (1 ≤ k ∧ k ≤ n) ∧ Hid (GRow w g j c ((terms N x l).take j) wr) ∧ Hid (fRun ((fFols x).drop j) (TT.drop k) = some []) ∧ Hid ((cut M l).drop j = cut (M - j) (TT.drop k)) ∧ Hid (∀ i p, i < j → (cut M l)[i]? = some p → okF N p = true)) (fun _ _ i _ => (intOf i).toNat)
      case atStart => exact ⟨0, 1, M, _, _, rfl, rfl, rfl, by unfold Hid; omega, ⟨Nat.le_refl _, hn1⟩, HM0, by unfold Hid; rw [List.drop_zero, HD1.out]; exact HRUN.out, by unfold Hid; rw [List.drop_zero, HD1.out]; rfl, by unfold Hid; intro i p h; omega⟩
      case round =>
        obtain ⟨j, k, r, g, c9, rfl, rfl, rfl, HJ, ⟨hk1, hk⟩, HG, HRR, HCC, HOKS⟩ := hrel
        clear HM0 A3
        cases r with
        | succ r =>
          have hjM : j < M := by have := HJ.out; omega
          obtain ⟨ri, hri⟩ : ∃ ri : Int, ((r + 1 : Nat) : Int) = ri := ⟨_, rfl⟩
          have hr0 : (0 : Int) < ri := by omega
          have hw1 : IntKind.i64.wrap (ri - 1) = (r : Int) := by rw [IntWalk.i64_in _ (by have := HJ.out; omega)]; omega
          have HRI := Lib.hid hri
          rw [hri]
          obtain ⟨a', ha'⟩ : ∃ a', (fFols x)[j]? = some a' := ⟨_, List.getElem?_eq_getElem (by have := HFL.out; omega)⟩
          have hrr := HRR.out
          rw [drop_at ha'] at hrr
          obtain ⟨h1, h2, h3, h4, h5, h6⟩ := fRun_one hrr
          obtain ⟨hc1, hc2⟩ := cut_at hjM HCC.out
          obtain ⟨q, hq⟩ : ∃ q, q = endL (TT.drop k) := ⟨_, rfl⟩
          have HEND := Lib.hid (fun W (hW : Below w.heap.size w W) => lEnd_exact (some ⟨b, off, none⟩) n c k k rfl TT HL.out hn60 hk HAL.out a' _ _ hrr q hq W (Args.of_sl (HS.out.below' hW) (by rw [rows_len R3.vs_len, HL.out])))
          rw [← hq] at h1 h2 h5 h6 hc1 hc2
          rw [List.length_drop, HL.out] at h1
          obtain ⟨p, hp⟩ : ∃ p, p = (TT.drop k).take q := ⟨_, rfl⟩
          rw [← hp] at hc1 h5
          obtain ⟨o', ho', hsl⟩ := run_slice_part (P := Tryz.prog) 37 60 Tryz.underlying37 infoFunc b off n c k q (k : Int) ((k + q : Nat) : Int) rfl rfl (by omega)
          have hpl : p.length = q := by rw [hp, List.length_take, List.length_drop, HL.out]; omega
          have hsp : Sl w b o' (rows R3.vs p) := by
            have := sl_part (k := k) (q := q) HS.out (by rw [HL.out]; omega)
            rw [hp, show o' = off + k * 3 by omega]; exact this
          obtain ⟨ob2, hob2⟩ : ∃ ob2, okF N p = ob2 := ⟨_, rfl⟩
          have hpm : ∀ y ∈ p, fOkN y = true := fun y hy => HAL.out y (by rw [hp] at hy; exact List.mem_of_mem_drop (List.mem_of_mem_take hy))
          have HCALL := Lib.hid (fun W (hW : Below w.heap.size w W) => IH.out o' q (c - k) p a' ob2 W hpl (by omega) (by omega) (by omega) h5 hpm hob2 (hsp.below' hW))
          have hkqI : (k : Int) ≤ ((k + q : Nat) : Int) := by omega
          have hkqc : ((k + q : Nat) : Int) ≤ (c : Int) := by omega
          have hkq : k + q ≤ n := by omega
          obtain ⟨kq, hkq'⟩ : ∃ kq, kq = k + q := ⟨_, rfl⟩
          rw [← hkq'] at HEND hsl hkqI hkqc hkq
          have hrr2 : Hid (fRun ((fFols x).drop (j + 1)) (TT.drop kq) = some []) := by
            unfold Hid; rw [List.drop_drop] at h6; rw [hkq']; exact h6
          have hcc2 : Hid ((cut M l).drop (j + 1) = cut (M - (j + 1)) (TT.drop kq)) := by
            unfold Hid; rw [hc2, hkq', List.drop_drop]
          have HCJ := Lib.hid hc1
          have HTJ : Hid ((terms N x l).take (j + 1) = (terms N x l).take j ++ [fT N p]) := take_snocL (by unfold terms; rw [List.getElem?_map, HMM.out, hc1]; rfl)
          have HK1 : Hid (1 ≤ kq) := by unfold Hid; omega
          have HOB2 := Lib.hid hob2
          clear h1 h2 h3 h4 h5 h6 hc1 hc2 hq hrr ha' ho' hpl hsp hp hpm hri hkq' hob2
          go_wp2_with fail
          refine (HEND.out _ HG.out.frame).mono ?_
          rintro e w2 ⟨rfl, b2⟩
          have HG2 := Lib.hid (HG.out.below b2)
          clear b2
          cases ob2 with
          | false =>
            have HBF : Hid (okF (N + 1) TT = false) := by
              have := okF_bad (N := N) (x := x) (l := l) (p := p) (j := j) (by rw [HMM.out]; exact HCJ.out) HOB2.out
              rw [HTT.out] at this
              exact okF_no this
            have hob : ob = false := by rw [← HOB.out, HBF.out]
            subst hob
            go_wp2_with fail
            refine (HCALL.out _ HG2.out.frame).mono ?_
            rintro e w3 ⟨A3, n3, c3, rfl, _, b3⟩
            have HB3 := Lib.hid (below_step HG2.out.frame b3)
            clear b3
            go_wp2_with fail
            go_ret2
            exact ⟨none, 0, 0, rfl, ⟨fun h => absurd h (by decide), HB3.out⟩⟩
          | true =>
            go_wp2_with fail
            refine (HCALL.out _ HG2.out.frame).mono ?_
            rintro e w3 ⟨A3, n3, c3, rfl, hown3, b3⟩
            obtain ⟨hn3, own3⟩ := hown3 rfl
            have hl4 : (fT N p).flat.length ≤ 400 := by
              have := HOB2.out
              unfold okF at this
              simp only [Bool.and_eq_true, decide_eq_true_eq] at this
              exact this.2
            have HN3 := Lib.hid hn3
            obtain ⟨w4, HW4, b4, y4⟩ := al1 w3 (.cells #[.slice A3 n3 c3] 24)
            have HG4 := Lib.hid (HG2.out.below (below_step b3 b4))
            obtain ⟨vs, hv1, hv2⟩ := HG4.out.els
            have hu : w4.ownsRow w.heap.size 45 2 (.slice A3 n3 c3) (fT N p).flat.length (rows R2.vs (fT N p).flat) := by
              rw [← HN3.out]; exact own_base (own_below' own3 b4) HG2.out.frame.size
            have src4 : Src 1 w4 (.slice (some ⟨w3.heap.size, 0, none⟩) 1 1) 1 [.slice A3 n3 c3] := Src.of_own (own_of_block (n := 1) (cap := 1) (s := 1) (xs := [.slice A3 n3 c3]) (base := 0) y4 (by omega) rfl (by omega) (by unfold maxLen; omega))
            have HV1 := Lib.hid hv1; have HV2 := Lib.hid hv2; have HU := Lib.hid hu; have HL4 := Lib.hid hl4
            have hbz := HG4.out.frame.size
            clear y4 hu hv2 own3 hown3 b3 b4 hn3 hl4
            go_wp2_with (at_builtin; rw [← HW4.out]; refine wpList_appx rfl _ _ _ rfl Tryz.underlying73 infoLamE rfl (by omega) w.heap.size hv1 hbz rfl src4 rfl (by simp [Value.oneCell']) (by unfold maxLen; omega) (by omega) ?_; intro V6 w6 own6 hg6 hnil6; obtain ⟨A6, c6, rfl⟩ := own_form own6; obtain ⟨g6, rfl, _, _⟩ := own_addr0 own6 (by omega))
            have HG6 : Hid (GRow w g6 (j + 1) c6 ((terms N x l).take (j + 1)) w6) := by
              unfold Hid; rw [HTJ.out]
              exact HG4.out.put HV1.out HV2.out HG4.out.frame HU.out (by have := HL4.out; omega) own6 hg6
            have HOKS2 : Hid (∀ i q, i < j + 1 → (cut M l)[i]? = some q → okF N q = true) := by
              intro i q hi hq
              rcases Nat.lt_or_ge i j with h | h
              · exact HOKS.out i q h hq
              · obtain rfl : i = j := by omega
                rw [HCJ.out] at hq; injection hq with hq; rw [← hq]; exact HOB2.out
            clear own6 hg6 hnil6 src4 hv1
            go_roundw
            case rel => exact ⟨j + 1, kq, r, g6, c6, rfl, rfl, rfl, by have := HJ.out; unfold Hid; omega, ⟨HK1.out, hkq⟩, HG6, hrr2, hcc2, HOKS2⟩
            case measure => have := HRI.out; simp [intOf]; omega
        | zero =>
          obtain rfl : j = M := by have := HJ.out; omega
          have hr0 : ¬ (0 : Int) < ((0 : Nat) : Int) := by omega
          rw [show ((0 : Nat) : Int) = 0 from rfl] at *
          have HTK : Hid ((terms N x l).take j = terms N x l) := List.take_of_length_le (Nat.le_of_eq HTL.out)
          have HRV0 : Hid (RdTs wr (.slice (some ⟨g, 0, none⟩) j c9) (terms N x l)) := by have := HG.out.rd; rw [HTK.out] at this; exact this
          have HCP : Hid (j ≤ c9) := HG.out.cap
          have HALF : Hid (fitF (N + 1) TT = true) := by
            unfold Hid
            rw [← HTT.out, fitF_succ, List.all_eq_true]
            intro p hp
            obtain ⟨i, hi⟩ := List.getElem?_of_mem hp
            rw [HMM.out] at hi
            exact HOKS.out i p (by have := (List.getElem?_eq_some_iff.1 hi).1; rw [cut_len] at this; exact this) hi
          have hp4 : ∀ t ∈ terms N x l, t.flat.length ≤ 400 := by
            intro t ht
            obtain ⟨p, hp, rfl⟩ := List.mem_map.1 ht
            have h1 := HALF.out
            rw [← HTT.out, fitF_succ] at h1
            have h2 := List.all_eq_true.1 h1 p hp
            unfold okF at h2
            simp only [Bool.and_eq_true, decide_eq_true_eq] at h2
            exact h2.2
          have hbl : (bodyT x.a ar x.c.toNat (terms N x l)).flat.length ≤ 3000 := bodyT_len har4 (by have := HTL.out; omega) hp4
          have HFT : Hid (fT (N + 1) TT = absL ar (bodyT x.a ar x.c.toNat (terms N x l))) := by
            unfold Hid
            rw [← HTT.out, fT_succ, HAR.out, Int.toNat_natCast]; rfl
          have HVT : Hid (validT (absL ar (bodyT x.a ar x.c.toNat (terms N x l))).flat = ob) := by
            unfold Hid
            rw [← HFT.out, okF_eq HALF.out HAL.out, HOB.out]
          obtain ⟨wy, HWY, by_, _⟩ := al1 wr (.cells #[] 45)
          have HRV := Lib.hid (HRV0.out.below by_)
          have HB := below_step HG.out.frame by_
          have q0 := cell_step (by exact P0.out) HB
          have q1 := cell_step (by exact P1.out) HB
          have q2 := cell_step (by exact P2.out) HB
          rw [HWY.out] at q0 q1 q2
          clear by_ HRV0
          have HBL := Lib.hid hbl
          have HP4 := Lib.hid hp4
          obtain ⟨ps, hps⟩ : ∃ ps, terms N x l = ps := ⟨_, rfl⟩
          rw [hps] at HRV HFT HVT HBL HTL HP4
          clear hp4 hbl hps HG HRR HCC HOKS HTK
          have hkd := HXB.out
          have hca := hc
          obtain ⟨xa, xb, xc⟩ := x
          dsimp only at hkd q0 q1 q2 HFT HVT HBL HMM HAR
          rcases hkd with ⟨rfl, hx⟩ | ⟨rfl, hx⟩ | ⟨rfl, hx⟩ | ⟨rfl, hx⟩ | ⟨rfl, hx⟩ | ⟨rfl, hx⟩
          · rw [bodyT_0] at HFT HVT HBL
            go_wp2_with fail
            rw [← HWY.out] at q0 q1 q2 ⊢
            refine (sNumZ _).mono ?_
            rintro e y1 ⟨⟨Ara, nra, cra, rfl, ra⟩, bb⟩
            replace q0 := cell_step (by exact q0) bb
            replace q1 := cell_step (by exact q1) bb
            replace q2 := cell_step (by exact q2) bb
            replace HB := below_step HB bb
            clear bb
            have RB := Lib.hid ra
            have HBX := Lib.hid HB
            clear ra q0 q1 q2 HB
            go_wp2_with fail
            refine (sAbsOwn ar _ rfl _ (numT0) _ RB.out (by omega) (by have := HBL.out; omega)).mono ?_
            rintro e z1 ⟨⟨Az, nz, cz, rfl, hnz, ownz⟩, bz⟩
            have HOZ := Lib.hid ownz; have HNZ := Lib.hid hnz
            have HBZ := Lib.hid (below_step HBX.out bz)
            have hnz9 : nz ≤ 1048576 := by have := HBL.out; rw [absL_len] at hnz; omega
            have HLZ := Lib.hid (l12Is_is Az nz cz _ ob HVT.out z1 (Src.of_own ownz).args hnz9)
            clear ownz bz hnz
            go_wp2_with fail
            refine HLZ.out.mono ?_
            rintro e z2 ⟨rfl, rfl⟩
            go_wp2_with fail
            go_ret2
            exact ⟨Az, nz, cz, rfl, fun _ => ⟨by rw [HTT.out, HFT.out]; exact HNZ.out, by rw [HTT.out, HFT.out]; exact own_base HOZ.out HBX.out.size⟩, HBZ.out⟩
          · rw [bodyT_1] at HFT HVT HBL
            go_wp2_with fail
            rw [← HWY.out] at q0 q1 q2 ⊢
            refine (sNext _).mono ?_
            rintro e y1 ⟨⟨Ara, nra, cra, rfl, ra⟩, bb⟩
            replace q0 := cell_step (by exact q0) bb
            replace q1 := cell_step (by exact q1) bb
            replace q2 := cell_step (by exact q2) bb
            replace HB := below_step HB bb
            clear bb
            go_wp2_with fail
            refine (sVar 0 _ rfl _).mono ?_
            rintro e y2 ⟨⟨Arb, crb, rfl, rb⟩, bb⟩
            replace ra := ra.below bb
            replace q0 := cell_step (by exact q0) bb
            replace q1 := cell_step (by exact q1) bb
            replace q2 := cell_step (by exact q2) bb
            replace HB := below_step HB bb
            clear bb
            obtain ⟨y3, HWy3, bb, rl, rls⟩ := alL y2 [.slice Arb 1 crb] [.v 0] ⟨rb, (by simp [LTm.flat]), trivial⟩
            replace ra := ra.below bb
            replace rb := rb.below bb
            replace q0 := cell_step (by exact q0) bb
            replace q1 := cell_step (by exact q1) bb
            replace q2 := cell_step (by exact q2) bb
            replace HB := below_step HB bb
            clear bb
            go_wp2_with fail
            rw [← HWy3.out]
            refine (sApply _ _ nextT [.v 0] _ ra rl (by have := HBL.out; omega)).mono ?_
            rintro e y4 ⟨⟨Arc, nrc, crc, rfl, rc⟩, bb⟩
            replace ra := ra.below bb
            replace rb := rb.below bb
            replace rl := rl.below bb
            replace q0 := cell_step (by exact q0) bb
            replace q1 := cell_step (by exact q1) bb
            replace q2 := cell_step (by exact q2) bb
            replace HB := below_step HB bb
            clear bb
            have RB := Lib.hid rc
            have HBX := Lib.hid HB
            clear ra rb rl rc q0 q1 q2 HB
            go_wp2_with fail
            refine (sAbsOwn ar _ rfl _ (appsL nextT [.v 0]) _ RB.out (by omega) (by have := HBL.out; omega)).mono ?_
            rintro e z1 ⟨⟨Az, nz, cz, rfl, hnz, ownz⟩, bz⟩
            have HOZ := Lib.hid ownz; have HNZ := Lib.hid hnz
            have HBZ := Lib.hid (below_step HBX.out bz)
            have hnz9 : nz ≤ 1048576 := by have := HBL.out; rw [absL_len] at hnz; omega
            have HLZ := Lib.hid (l12Is_is Az nz cz _ ob HVT.out z1 (Src.of_own ownz).args hnz9)
            clear ownz bz hnz
            go_wp2_with fail
            refine HLZ.out.mono ?_
            rintro e z2 ⟨rfl, rfl⟩
            go_wp2_with fail
            go_ret2
            exact ⟨Az, nz, cz, rfl, fun _ => ⟨by rw [HTT.out, HFT.out]; exact HNZ.out, by rw [HTT.out, HFT.out]; exact own_base HOZ.out HBX.out.size⟩, HBZ.out⟩
          · rw [bodyT_2] at HFT HVT HBL
            obtain ⟨z, hz⟩ : ∃ z, ar - 1 - xc.toNat = z := ⟨_, rfl⟩
            have hw1 : IntKind.i64.wrap ((ar : Int) - 1) = (ar : Int) - 1 := IntWalk.i64_in _ (by omega)
            have HAX := HAR.out
            have hw2 : IntKind.i64.wrap ((ar : Int) - 1 - xc) = (z : Int) := by rw [IntWalk.i64_in _ (by omega)]; omega
            rw [hz] at HFT HVT HBL
            clear HAX hz
            go_wp2_with fail
            rw [← HWY.out] at q0 q1 q2 ⊢
            refine (sVar z _ rfl _).mono ?_
            rintro e y1 ⟨⟨Ara, cra, rfl, ra⟩, bb⟩
            replace q0 := cell_step (by exact q0) bb
            replace q1 := cell_step (by exact q1) bb
            replace q2 := cell_step (by exact q2) bb
            replace HB := below_step HB bb
            clear bb
            have RB := Lib.hid ra
            have HBX := Lib.hid HB
            clear ra q0 q1 q2 HB
            go_wp2_with fail
            refine (sAbsOwn ar _ rfl _ (.v z) _ RB.out (by omega) (by have := HBL.out; omega)).mono ?_
            rintro e z1 ⟨⟨Az, nz, cz, rfl, hnz, ownz⟩, bz⟩
            have HOZ := Lib.hid ownz; have HNZ := Lib.hid hnz
            have HBZ := Lib.hid (below_step HBX.out bz)
            have hnz9 : nz ≤ 1048576 := by have := HBL.out; rw [absL_len] at hnz; omega
            have HLZ := Lib.hid (l12Is_is Az nz cz _ ob HVT.out z1 (Src.of_own ownz).args hnz9)
            clear ownz bz hnz
            go_wp2_with fail
            refine HLZ.out.mono ?_
            rintro e z2 ⟨rfl, rfl⟩
            go_wp2_with fail
            go_ret2
            exact ⟨Az, nz, cz, rfl, fun _ => ⟨by rw [HTT.out, HFT.out]; exact HNZ.out, by rw [HTT.out, HFT.out]; exact own_base HOZ.out HBX.out.size⟩, HBZ.out⟩
          · rw [bodyT_3] at HFT HVT HBL
            have hm3 : 2 ≤ j := by have h := HMM.out; rw [fMany_3 rfl] at h; dsimp only at h; omega
            obtain ⟨p0, hp0⟩ : ∃ p, ps[0]? = some p := ⟨_, List.getElem?_eq_getElem (by have := HTL.out; have := HMM.out; omega)⟩
            obtain ⟨Ap0, np0, cp0, pc0, rp0, hi0⟩ := HRV.out.at hp0
            rw [Nat.zero_add] at pc0
            have HL0 : Hid (p0.flat.length ≤ 400) := HP4.out p0 (List.mem_of_getElem? hp0)
            have hj0N : 0 < j := hi0
            have hj0I : (0 : Int) < (j : Int) := by omega
            rw [getD_of hp0] at HFT HVT HBL
            clear hp0 hi0
            obtain ⟨d0, hd0⟩ : ∃ d0, j = d0 + 1 := ⟨j - 1, by omega⟩
            have HD0 := Lib.hid hd0
            have HLI : Hid ((innT ar ps).length = d0) := by unfold Hid; rw [innT, List.length_map, List.length_drop, HTL.out, hd0]; rfl
            have hd5 : d0 ≤ 5 := by omega
            have hsy : wy.heap.size = wr.heap.size + 1 := by rw [HWY.out]; simp
            obtain ⟨wz, HWZ, bz, _⟩ := al1 wy (.cells #[] 24)
            have hm1 := GRow.start wy _ rfl
            rw [← HWZ.out, hsy] at hm1
            have HM1 := Lib.hid hm1
            have HBY := Lib.hid HB
            have PC0 := Lib.hid pc0
            have RP0 := Lib.hid rp0
            clear hm1 hd0 hsy bz HB pc0 rp0 q1 q2
            go_wp2_with fail
            rw [← HWY.out, ← HWZ.out]
            clear q0 HWY
            go_loopw [13, 14] (fun o i wr2 => ∃ (d g2 c2 : Nat), o = .slice (some ⟨g2, 0, none⟩) d c2 ∧ i = .int .i64 ((d + 1 : Nat) : Int) ∧ d ≤ d0 ∧ Hid (GRow wy g2 d c2 ((innT ar ps).take d) wr2)) (fun _ i _ => j - (intOf i).toNat)
            case atStart => exact ⟨0, _, _, rfl, rfl, by omega, HM1⟩
            case round =>
              obtain ⟨d, g2, c2, rfl, rfl, hd, HG2⟩ := hrel
              clear HM1
              obtain ⟨e1, he1⟩ : ∃ e1, d + 1 = e1 := ⟨_, rfl⟩
              have HE1 := Lib.hid he1
              by_cases hdd : d < d0
              · have heI : (e1 : Int) < (j : Int) := by have := HD0.out; omega
                have heN : e1 < j := by have := HD0.out; omega
                rw [he1]
                obtain ⟨p, hp⟩ : ∃ p, ps[e1]? = some p := ⟨_, List.getElem?_eq_getElem (by have := HTL.out; omega)⟩
                obtain ⟨Au, nu, cu, pcu, ru, -⟩ := HRV.out.at hp
                rw [Nat.zero_add] at pcu
                have PCU := Lib.hid pcu
                have pc := cell_step (by exact pcu) HG2.out.frame
                have ru2 := ru.below HG2.out.frame
                have HTK : Hid ((innT ar ps).take (d + 1) = (innT ar ps).take d ++ [appsL p (vL ar 0 0)]) := take_snocL (by unfold innT; rw [List.getElem?_map, List.getElem?_drop, show 1 + d = e1 by omega, hp]; rfl)
                have HAP : Hid ((appsL p (vL ar 0 0)).flat.length ≤ 408) := appsV_len (ps := ps) HP4.out har4 (HP4.out p (List.mem_of_getElem? hp))
                have hw1 : IntKind.i64.wrap ((e1 : Int) + 1) = (e1 : Int) + 1 := IntWalk.i64_in _ (by omega)
                clear hp pcu ru he1
                have k1_ : True := trivial
                go_wp2_with fail
                go_region_held3 (fun W => W.cell? ⟨g, e1, none⟩ = some (.slice Au nu cu)) (first | go_keep | exact pc)
                    ((first
                      | (have _ := k1_; clear k1_; go_at_call 55; refine (sVars ar 0 0 (by omega) (by omega) (by omega) _).mono ?_; rintro e x1 ⟨⟨vv, rfl, rv, cv⟩, bb⟩; replace bb := below_drew_at bb; replace pc := cell_step (by exact pc) bb; have ru3 := ru2.below bb; have HGx := Lib.hid (HG2.out.below bb); clear bb; have k2_ : True := trivial)
                      | (have _ := k2_; clear k2_; go_at_call 52; refine (sApplyOwn _ _ p _ _ ru3 rv (by have := HAP.out; omega)).mono ?_; rintro e x2 ⟨⟨A4, n4, c4, rfl, hn4, o4⟩, bb⟩; replace pc := cell_step (by exact pc) bb; have bl : Below x2.heap.size x2 (x2.alloc (.cells #[.slice A4 n4 c4] 24)) := laid_below _ _; have HGy := Lib.hid (HGx.out.below (below_step bb bl)); obtain ⟨vs, hv1, hv2⟩ := HGy.out.els; have hu : (x2.alloc (.cells #[.slice A4 n4 c4] 24)).ownsRow wy.heap.size 45 2 (.slice A4 n4 c4) (appsL p (vL ar 0 0)).flat.length (rows R2.vs (appsL p (vL ar 0 0)).flat) := (by rw [← hn4]; exact own_base (own_below' o4 bl) HGx.out.frame.size); have HU := Lib.hid hu; have HV1 := Lib.hid hv1; have HV2 := Lib.hid hv2; have src : Src 1 (x2.alloc (.cells #[.slice A4 n4 c4] 24)) (.slice (some ⟨x2.heap.size, 0, none⟩) 1 1) 1 [.slice A4 n4 c4] := Src.of_own (own_of_block (n := 1) (cap := 1) (s := 1) (xs := [.slice A4 n4 c4]) (base := 0) (heap_alloc_new _ _) (by omega) rfl (by omega) (by unfold maxLen; omega)); have hbz := HGy.out.frame.size; clear hn4 o4 bb bl hu hv2; have k3_ : True := trivial)
                      | (have _ := k3_; clear k3_; refine step_appx (by rfl) _ _ _ (by rfl) Tryz.underlying73 infoLamE rfl (by omega) _ hv1 hbz (by rfl) src (by rfl) (by simp [Value.oneCell']) (by unfold maxLen; omega) (by omega) ?_; intro V6 w6 own6 hg6 hnil6; obtain ⟨A6, c6, rfl⟩ := own_form own6; obtain ⟨g6, rfl, _, _⟩ := own_addr0 own6 (by omega); have HG6 : Hid (GRow wy g6 (d + 1) c6 ((innT ar ps).take (d + 1)) w6) := (by unfold Hid; rw [HTK.out]; exact HGy.out.put HV1.out HV2.out HGy.out.frame HU.out (by have := HAP.out; omega) own6 hg6); replace pc := cell_step (by exact PCU.out) HG6.out.frame; clear own6 hg6 hnil6 src hv1)))
                all_goals
                  go_wp2_with fail
                  go_roundw
                  case rel => exact ⟨d + 1, g6, c6, rfl, by have := HE1.out; rw [this]; go_num, by omega, HG6⟩
                  case measure => simp [intOf]; omega
              · obtain rfl : d = d0 := by omega
                have heI : ¬ (e1 : Int) < (j : Int) := by have := HD0.out; omega
                rw [he1]
                have HTK : Hid ((innT ar ps).take d = innT ar ps) := List.take_of_length_le (Nat.le_of_eq HLI.out)
                have rvv : RdTs wr (.slice (some ⟨g2, 0, none⟩) d c2) (innT ar ps) := by have := HG2.out.rd; rw [HTK.out] at this; exact this
                have rp0 := RP0.out.below HG2.out.frame
                have pc0 := cell_step (by exact PC0.out) HG2.out.frame
                have HB := below_step HBY.out HG2.out.frame
                clear he1
                go_wp2_with fail
                refine (sApply _ _ p0 (innT ar ps) _ rp0 rvv (by have := HBL.out; omega)).mono ?_
                rintro e y1 ⟨⟨Aro, nro, cro, rfl, ro⟩, bb⟩
                replace rp0 := rp0.below bb
                replace rvv := rvv.below bb
                replace pc0 := cell_step (by exact pc0) bb
                replace HB := below_step HB bb
                clear bb
                have RB := Lib.hid ro
                have HBX := Lib.hid HB
                clear rp0 rvv ro pc0 HB
                go_wp2_with fail
                refine (sAbsOwn ar _ rfl _ (appsL p0 (innT ar ps)) _ RB.out (by omega) (by have := HBL.out; omega)).mono ?_
                rintro e z1 ⟨⟨Az, nz, cz, rfl, hnz, ownz⟩, bz⟩
                have HOZ := Lib.hid ownz; have HNZ := Lib.hid hnz
                have HBZ := Lib.hid (below_step HBX.out bz)
                have hnz9 : nz ≤ 1048576 := by have := HBL.out; rw [absL_len] at hnz; omega
                have HLZ := Lib.hid (l12Is_is Az nz cz _ ob HVT.out z1 (Src.of_own ownz).args hnz9)
                clear ownz bz hnz
                go_wp2_with fail
                refine HLZ.out.mono ?_
                rintro e z2 ⟨rfl, rfl⟩
                go_wp2_with fail
                go_ret2
                exact ⟨Az, nz, cz, rfl, fun _ => ⟨by rw [HTT.out, HFT.out]; exact HNZ.out, by rw [HTT.out, HFT.out]; exact own_base HOZ.out HBX.out.size⟩, HBZ.out⟩
          · rw [bodyT_4] at HFT HVT HBL
            have hj2 : 2 ≤ j := by have h := HMM.out; rw [fMany_4 rfl] at h; omega
            obtain ⟨p0, hp0⟩ : ∃ p, ps[0]? = some p := ⟨_, List.getElem?_eq_getElem (by have := HTL.out; have := HMM.out; omega)⟩
            obtain ⟨Ap0, np0, cp0, pc0, rp0, hi0⟩ := HRV.out.at hp0
            rw [Nat.zero_add] at pc0
            have HL0 : Hid (p0.flat.length ≤ 400) := HP4.out p0 (List.mem_of_getElem? hp0)
            have hj0N : 0 < j := hi0
            have hj0I : (0 : Int) < (j : Int) := by omega
            obtain ⟨p1, hp1⟩ : ∃ p, ps[1]? = some p := ⟨_, List.getElem?_eq_getElem (by have := HTL.out; have := HMM.out; omega)⟩
            obtain ⟨Ap1, np1, cp1, pc1, rp1, hi1⟩ := HRV.out.at hp1
            rw [Nat.zero_add] at pc1
            have HL1 : Hid (p1.flat.length ≤ 400) := HP4.out p1 (List.mem_of_getElem? hp1)
            have hj1N : 1 < j := hi1
            have hj1I : (1 : Int) < (j : Int) := by omega
            rw [getD_of hp0, getD_of hp1] at HFT HVT HBL
            clear hp0 hi0 hp1 hi1
            have HVL : Hid ((appsL p1 ([.v 1, .v 0] ++ vL ar 1 3)).flat.length ≤ 412) := appsW_len har4 HL1.out (by simp) (by intro a ha; simp at ha; rcases ha with rfl | rfl <;> simp [LTm.flat])
            have HAP : Hid ((appsL nextT [.v 1]).flat.length ≤ 62) := by have := next_len; unfold Hid; rw [appsL_len]; simp [flats, LTm.flat]; omega
            have HRL : Hid ((repT ar p1).flat.length ≤ 490) := repT_len har4 HL1.out
            obtain ⟨IN, hIN⟩ : ∃ IN, appsL (.v 2) [appsL nextT [.v 1], appsL p1 ([.v 1, .v 0] ++ vL ar 1 3)] = IN := ⟨_, rfl⟩
            have HIN : Hid (IN.flat.length ≤ 490) := by have := HRL.out; unfold repT at this; rw [hIN, absL_len] at this; unfold Hid; omega
            have HRE : Hid (repT ar p1 = absL 3 IN) := by unfold Hid repT; rw [hIN]
            have HA0 : Hid ((appsL p0 (vL ar 1 0)).flat.length ≤ 408) := appsV_len (ps := ps) HP4.out har4 HL0.out
            have HVN : Hid ((vL ar 1 3).length ≤ 100) := by unfold Hid; rw [vL_len]; omega
            have har1 : 1 ≤ ar := by have := HAR.out; omega
            have HINE := Lib.hid hIN
            rw [HRE.out] at HFT HVT HBL
            have hw1 : IntKind.i64.wrap ((ar : Int) - 1) = ((ar - 1 : Nat) : Int) := by rw [IntWalk.i64_in _ (by omega)]; omega
            obtain ⟨az, haz⟩ : ∃ az, ar - 1 = az := ⟨_, rfl⟩
            rw [haz] at hw1 HFT HVT HBL
            clear hIN haz
            go_wp2_with fail
            rw [← HWY.out] at q0 q1 q2 ⊢
            refine (sVar 1 _ rfl _).mono ?_
            rintro e y1 ⟨⟨Ar1, cr1, rfl, r1⟩, bb⟩
            replace rp0 := rp0.below bb
            replace rp1 := rp1.below bb
            replace q0 := cell_step (by exact q0) bb
            replace q1 := cell_step (by exact q1) bb
            replace q2 := cell_step (by exact q2) bb
            replace pc0 := cell_step (by exact pc0) bb
            replace pc1 := cell_step (by exact pc1) bb
            replace HB := below_step HB bb
            clear bb
            go_wp2_with fail
            refine (sVar 0 _ rfl _).mono ?_
            rintro e y2 ⟨⟨Ar0, cr0, rfl, r0⟩, bb⟩
            replace rp0 := rp0.below bb
            replace rp1 := rp1.below bb
            replace r1 := r1.below bb
            replace q0 := cell_step (by exact q0) bb
            replace q1 := cell_step (by exact q1) bb
            replace q2 := cell_step (by exact q2) bb
            replace pc0 := cell_step (by exact pc0) bb
            replace pc1 := cell_step (by exact pc1) bb
            replace HB := below_step HB bb
            clear bb
            obtain ⟨y3, HWy3, bb, rl, rls⟩ := alL y2 [.slice Ar1 1 cr1, .slice Ar0 1 cr0] [.v 1, .v 0] ⟨r1, (by simp [LTm.flat]), r0, (by simp [LTm.flat]), trivial⟩
            replace rp0 := rp0.below bb
            replace rp1 := rp1.below bb
            replace r1 := r1.below bb
            replace r0 := r0.below bb
            replace q0 := cell_step (by exact q0) bb
            replace q1 := cell_step (by exact q1) bb
            replace q2 := cell_step (by exact q2) bb
            replace pc0 := cell_step (by exact pc0) bb
            replace pc1 := cell_step (by exact pc1) bb
            replace HB := below_step HB bb
            clear bb
            clear rl
            go_wp2_with fail
            rw [← HWy3.out]
            refine (sVars ar 1 3 (by omega) (by omega) (by omega) _).mono ?_
            rintro e y4 ⟨⟨vv, rfl, rv, cv⟩, bb⟩
            replace rp0 := rp0.below bb
            replace rp1 := rp1.below bb
            replace r1 := r1.below bb
            replace r0 := r0.below bb
            replace q0 := cell_step (by exact q0) bb
            replace q1 := cell_step (by exact q1) bb
            replace q2 := cell_step (by exact q2) bb
            replace pc0 := cell_step (by exact pc0) bb
            replace pc1 := cell_step (by exact pc1) bb
            replace HB := below_step HB bb
            replace rls := rls.below' bb
            clear bb
            go_wp2_with (at_builtin; refine wpList_litvars rfl _ _ rfl rfl rfl (by omega) (by omega) rls (show RdL _ [.slice Ar1 1 cr1, .slice Ar0 1 cr0] [.v 1, .v 0] from ⟨r1, by simp [LTm.flat], r0, by simp [LTm.flat], trivial⟩) rfl rv HVN.out ?_; intro v15 y5 r15 bb)
            clear rls
            replace rp0 := rp0.below bb
            replace rp1 := rp1.below bb
            replace r1 := r1.below bb
            replace r0 := r0.below bb
            replace rv := rv.below bb
            replace q0 := cell_step (by exact q0) bb
            replace q1 := cell_step (by exact q1) bb
            replace q2 := cell_step (by exact q2) bb
            replace pc0 := cell_step (by exact pc0) bb
            replace pc1 := cell_step (by exact pc1) bb
            replace HB := below_step HB bb
            clear bb
            have k1_ : True := trivial
            go_wp2_with fail
            go_region_held3 (fun W => W.cell? ⟨g, 1, none⟩ = some (.slice Ap1 np1 cp1)) (first | go_keep | exact pc1)
                ((first
                  | (have _ := k1_; clear k1_; go_at_call 54; refine (sVar 2 _ rfl _).mono ?_; rintro e y6 ⟨⟨Aa, ca, rfl, ra⟩, bb⟩; replace bb := below_drew_at bb; replace rp0 := rp0.below bb; replace rp1 := rp1.below bb; replace r1 := r1.below bb; replace r0 := r0.below bb; replace rv := rv.below bb; replace r15 := r15.below bb; replace q0 := cell_step (by exact q0) bb; replace q1 := cell_step (by exact q1) bb; replace q2 := cell_step (by exact q2) bb; replace pc0 := cell_step (by exact pc0) bb; replace pc1 := cell_step (by exact pc1) bb; replace HB := below_step HB bb; clear bb; have k2_ : True := trivial)
                  | (have _ := k2_; clear k2_; go_at_call 53; refine (sNext _).mono ?_; rintro e y7 ⟨⟨Ab, nb, cb, rfl, rb⟩, bb⟩; replace rp0 := rp0.below bb; replace rp1 := rp1.below bb; replace r1 := r1.below bb; replace r0 := r0.below bb; replace rv := rv.below bb; replace r15 := r15.below bb; replace ra := ra.below bb; replace q0 := cell_step (by exact q0) bb; replace q1 := cell_step (by exact q1) bb; replace q2 := cell_step (by exact q2) bb; replace pc0 := cell_step (by exact pc0) bb; replace pc1 := cell_step (by exact pc1) bb; replace HB := below_step HB bb; clear bb; have k3_ : True := trivial)
                  | (have _ := k3_; clear k3_; go_at_call 54; refine (sVar 1 _ rfl _).mono ?_; rintro e y8 ⟨⟨Ac, cc, rfl, rc⟩, bb⟩; replace rp0 := rp0.below bb; replace rp1 := rp1.below bb; replace r1 := r1.below bb; replace r0 := r0.below bb; replace rv := rv.below bb; replace r15 := r15.below bb; replace ra := ra.below bb; replace rb := rb.below bb; replace q0 := cell_step (by exact q0) bb; replace q1 := cell_step (by exact q1) bb; replace q2 := cell_step (by exact q2) bb; replace pc0 := cell_step (by exact pc0) bb; replace pc1 := cell_step (by exact pc1) bb; replace HB := below_step HB bb; clear bb; have k4_ : True := trivial)
                  | (have _ := k4_; clear k4_; go_at_call 52; refine (sApply _ _ nextT [.v 1] _ (rb.below (laid_below _ _)) (RdTs.lit (vs := [.slice Ac 1 cc]) (ts := [.v 1]) ⟨rc, (by simp [LTm.flat]), trivial⟩ 24) (by have := HAP.out; omega)).mono ?_; rintro e y9 ⟨⟨Ad, nd, cd, rfl, rd⟩, bb⟩; replace bb := below_step (laid_below _ _) bb; replace rp0 := rp0.below bb; replace rp1 := rp1.below bb; replace r1 := r1.below bb; replace r0 := r0.below bb; replace rv := rv.below bb; replace r15 := r15.below bb; replace ra := ra.below bb; replace rb := rb.below bb; replace rc := rc.below bb; replace q0 := cell_step (by exact q0) bb; replace q1 := cell_step (by exact q1) bb; replace q2 := cell_step (by exact q2) bb; replace pc0 := cell_step (by exact pc0) bb; replace pc1 := cell_step (by exact pc1) bb; replace HB := below_step HB bb; clear bb; have k5_ : True := trivial)
                  | (have _ := k5_; clear k5_; go_at_call 52; refine (sApply _ _ p1 _ _ rp1 r15 (by have := HVL.out; omega)).mono ?_; rintro e y10 ⟨⟨Ae, ne, ce, rfl, re⟩, bb⟩; replace rp0 := rp0.below bb; replace rp1 := rp1.below bb; replace r1 := r1.below bb; replace r0 := r0.below bb; replace rv := rv.below bb; replace r15 := r15.below bb; replace ra := ra.below bb; replace rb := rb.below bb; replace rc := rc.below bb; replace rd := rd.below bb; replace q0 := cell_step (by exact q0) bb; replace q1 := cell_step (by exact q1) bb; replace q2 := cell_step (by exact q2) bb; replace pc0 := cell_step (by exact pc0) bb; replace pc1 := cell_step (by exact pc1) bb; replace HB := below_step HB bb; clear bb; have k6_ : True := trivial)
                  | (have _ := k6_; clear k6_; go_at_call 52; refine (sApply _ _ (.v 2) [appsL nextT [.v 1], appsL p1 ([.v 1, .v 0] ++ vL ar 1 3)] _ (ra.below (laid_below _ _)) (RdTs.lit (vs := [.slice Ad nd cd, .slice Ae ne ce]) (ts := [appsL nextT [.v 1], appsL p1 ([.v 1, .v 0] ++ vL ar 1 3)]) ⟨rd, (by have := HAP.out; omega), re, (by have := HVL.out; omega), trivial⟩ 24) (by rw [HINE.out]; have := HIN.out; omega)).mono ?_; rintro e y11 ⟨⟨Af, nf, cf, rfl, rf⟩, bb⟩; replace bb := below_step (laid_below _ _) bb; replace rp0 := rp0.below bb; replace rp1 := rp1.below bb; replace r1 := r1.below bb; replace r0 := r0.below bb; replace rv := rv.below bb; replace r15 := r15.below bb; replace ra := ra.below bb; replace rb := rb.below bb; replace rc := rc.below bb; replace rd := rd.below bb; replace re := re.below bb; replace q0 := cell_step (by exact q0) bb; replace q1 := cell_step (by exact q1) bb; replace q2 := cell_step (by exact q2) bb; replace pc0 := cell_step (by exact pc0) bb; replace pc1 := cell_step (by exact pc1) bb; replace HB := below_step HB bb; clear bb; have k7_ : True := trivial)))
            rw [HINE.out] at rf
            have k1_ : True := trivial
            go_wp2_with fail
            go_region_held3 (fun W => W.cell? ⟨g, 0, none⟩ = some (.slice Ap0 np0 cp0)) (first | go_keep | exact pc0)
                ((first
                  | (have _ := k1_; clear k1_; go_at_call 55; refine (sVars ar 1 0 (by omega) (by omega) (by omega) _).mono ?_; rintro e y12 ⟨⟨vg, rfl, rg, cg⟩, bb⟩; replace bb := below_drew_at bb; replace rp0 := rp0.below bb; replace rp1 := rp1.below bb; replace r1 := r1.below bb; replace r0 := r0.below bb; replace rv := rv.below bb; replace r15 := r15.below bb; replace ra := ra.below bb; replace rb := rb.below bb; replace rc := rc.below bb; replace rd := rd.below bb; replace re := re.below bb; replace rf := rf.below bb; replace q0 := cell_step (by exact q0) bb; replace q1 := cell_step (by exact q1) bb; replace q2 := cell_step (by exact q2) bb; replace pc0 := cell_step (by exact pc0) bb; replace pc1 := cell_step (by exact pc1) bb; replace HB := below_step HB bb; clear bb; have k2_ : True := trivial)
                  | (have _ := k2_; clear k2_; go_at_call 52; refine (sApply _ _ p0 _ _ rp0 rg (by have := HA0.out; omega)).mono ?_; rintro e y13 ⟨⟨Ah, nh, ch, rfl, rh⟩, bb⟩; replace rp0 := rp0.below bb; replace rp1 := rp1.below bb; replace r1 := r1.below bb; replace r0 := r0.below bb; replace rv := rv.below bb; replace r15 := r15.below bb; replace ra := ra.below bb; replace rb := rb.below bb; replace rc := rc.below bb; replace rd := rd.below bb; replace re := re.below bb; replace rf := rf.below bb; replace rg := rg.below bb; replace q0 := cell_step (by exact q0) bb; replace q1 := cell_step (by exact q1) bb; replace q2 := cell_step (by exact q2) bb; replace pc0 := cell_step (by exact pc0) bb; replace pc1 := cell_step (by exact pc1) bb; replace HB := below_step HB bb; clear bb; have k3_ : True := trivial)))
            go_wp2_with fail
            refine (sVar az _ rfl _).mono ?_
            rintro e y14 ⟨⟨Ari, cri, rfl, ri⟩, bb⟩
            replace rp0 := rp0.below bb
            replace rp1 := rp1.below bb
            replace r1 := r1.below bb
            replace r0 := r0.below bb
            replace rv := rv.below bb
            replace r15 := r15.below bb
            replace ra := ra.below bb
            replace rb := rb.below bb
            replace rc := rc.below bb
            replace rd := rd.below bb
            replace re := re.below bb
            replace rf := rf.below bb
            replace rg := rg.below bb
            replace rh := rh.below bb
            replace q0 := cell_step (by exact q0) bb
            replace q1 := cell_step (by exact q1) bb
            replace q2 := cell_step (by exact q2) bb
            replace pc0 := cell_step (by exact pc0) bb
            replace pc1 := cell_step (by exact pc1) bb
            replace HB := below_step HB bb
            clear bb
            go_wp2_with fail
            refine (sAbs 3 _ rfl _ IN _ rf (by omega) (by have := HIN.out; omega)).mono ?_
            rintro e y15 ⟨⟨Arj, nrj, crj, rfl, rj⟩, bb⟩
            replace rp0 := rp0.below bb
            replace rp1 := rp1.below bb
            replace r1 := r1.below bb
            replace r0 := r0.below bb
            replace rv := rv.below bb
            replace r15 := r15.below bb
            replace ra := ra.below bb
            replace rb := rb.below bb
            replace rc := rc.below bb
            replace rd := rd.below bb
            replace re := re.below bb
            replace rf := rf.below bb
            replace rg := rg.below bb
            replace rh := rh.below bb
            replace ri := ri.below bb
            replace q0 := cell_step (by exact q0) bb
            replace q1 := cell_step (by exact q1) bb
            replace q2 := cell_step (by exact q2) bb
            replace pc0 := cell_step (by exact pc0) bb
            replace pc1 := cell_step (by exact pc1) bb
            replace HB := below_step HB bb
            clear bb
            go_wp2_with fail
            refine (sFalse _).mono ?_
            rintro e y16 ⟨⟨Ark, nrk, crk, rfl, rk⟩, bb⟩
            replace rp0 := rp0.below bb
            replace rp1 := rp1.below bb
            replace r1 := r1.below bb
            replace r0 := r0.below bb
            replace rv := rv.below bb
            replace r15 := r15.below bb
            replace ra := ra.below bb
            replace rb := rb.below bb
            replace rc := rc.below bb
            replace rd := rd.below bb
            replace re := re.below bb
            replace rf := rf.below bb
            replace rg := rg.below bb
            replace rh := rh.below bb
            replace ri := ri.below bb
            replace rj := rj.below bb
            replace q0 := cell_step (by exact q0) bb
            replace q1 := cell_step (by exact q1) bb
            replace q2 := cell_step (by exact q2) bb
            replace pc0 := cell_step (by exact pc0) bb
            replace pc1 := cell_step (by exact pc1) bb
            replace HB := below_step HB bb
            clear bb
            go_wp2_with fail
            refine (sNumZ _).mono ?_
            rintro e y17 ⟨⟨Arm, nrm, crm, rfl, rm⟩, bb⟩
            replace rp0 := rp0.below bb
            replace rp1 := rp1.below bb
            replace r1 := r1.below bb
            replace r0 := r0.below bb
            replace rv := rv.below bb
            replace r15 := r15.below bb
            replace ra := ra.below bb
            replace rb := rb.below bb
            replace rc := rc.below bb
            replace rd := rd.below bb
            replace re := re.below bb
            replace rf := rf.below bb
            replace rg := rg.below bb
            replace rh := rh.below bb
            replace ri := ri.below bb
            replace rj := rj.below bb
            replace rk := rk.below bb
            replace q0 := cell_step (by exact q0) bb
            replace q1 := cell_step (by exact q1) bb
            replace q2 := cell_step (by exact q2) bb
            replace pc0 := cell_step (by exact pc0) bb
            replace pc1 := cell_step (by exact pc1) bb
            replace HB := below_step HB bb
            clear bb
            obtain ⟨y18, HWy18, bb, rn, rns⟩ := alL y17 [.slice Arj nrj crj, .slice Ark nrk crk, .slice Arm nrm crm, .slice Ah nh ch] [absL 3 IN, falseT, numT0, appsL p0 (vL ar 1 0)] ⟨rj, (by rw [absL_len]; have := HIN.out; omega), rk, (by have := false_len; omega), rm, (by simp [numT0, LTm.flat]), rh, (by have := HA0.out; omega), trivial⟩
            replace rp0 := rp0.below bb
            replace rp1 := rp1.below bb
            replace r1 := r1.below bb
            replace r0 := r0.below bb
            replace rv := rv.below bb
            replace r15 := r15.below bb
            replace ra := ra.below bb
            replace rb := rb.below bb
            replace rc := rc.below bb
            replace rd := rd.below bb
            replace re := re.below bb
            replace rf := rf.below bb
            replace rg := rg.below bb
            replace rh := rh.below bb
            replace ri := ri.below bb
            replace rj := rj.below bb
            replace rk := rk.below bb
            replace rm := rm.below bb
            replace q0 := cell_step (by exact q0) bb
            replace q1 := cell_step (by exact q1) bb
            replace q2 := cell_step (by exact q2) bb
            replace pc0 := cell_step (by exact pc0) bb
            replace pc1 := cell_step (by exact pc1) bb
            replace HB := below_step HB bb
            clear bb
            go_wp2_with fail
            rw [← HWy18.out]
            refine (sApply _ _ (.v az) [absL 3 IN, falseT, numT0, appsL p0 (vL ar 1 0)] _ ri rn (by have := HBL.out; omega)).mono ?_
            rintro e y19 ⟨⟨Aro, nro, cro, rfl, ro⟩, bb⟩
            replace rp0 := rp0.below bb
            replace rp1 := rp1.below bb
            replace r1 := r1.below bb
            replace r0 := r0.below bb
            replace rv := rv.below bb
            replace r15 := r15.below bb
            replace ra := ra.below bb
            replace rb := rb.below bb
            replace rc := rc.below bb
            replace rd := rd.below bb
            replace re := re.below bb
            replace rf := rf.below bb
            replace rg := rg.below bb
            replace rh := rh.below bb
            replace ri := ri.below bb
            replace rj := rj.below bb
            replace rk := rk.below bb
            replace rm := rm.below bb
            replace rn := rn.below bb
            replace q0 := cell_step (by exact q0) bb
            replace q1 := cell_step (by exact q1) bb
            replace q2 := cell_step (by exact q2) bb
            replace pc0 := cell_step (by exact pc0) bb
            replace pc1 := cell_step (by exact pc1) bb
            replace HB := below_step HB bb
            clear bb
            have RB := Lib.hid ro
            have HBX := Lib.hid HB
            clear rp0 rp1 r1 r0 rv r15 ra rb rc rd re rf rg rh ri rj rk rm rn ro q0 q1 q2 pc0 pc1 HB
            go_wp2_with fail
            refine (sAbsOwn ar _ rfl _ (appsL (.v az) [absL 3 IN, falseT, numT0, appsL p0 (vL ar 1 0)]) _ RB.out (by omega) (by have := HBL.out; omega)).mono ?_
            rintro e z1 ⟨⟨Az, nz, cz, rfl, hnz, ownz⟩, bz⟩
            have HOZ := Lib.hid ownz; have HNZ := Lib.hid hnz
            have HBZ := Lib.hid (below_step HBX.out bz)
            have hnz9 : nz ≤ 1048576 := by have := HBL.out; rw [absL_len] at hnz; omega
            have HLZ := Lib.hid (l12Is_is Az nz cz _ ob HVT.out z1 (Src.of_own ownz).args hnz9)
            clear ownz bz hnz
            go_wp2_with fail
            refine HLZ.out.mono ?_
            rintro e z2 ⟨rfl, rfl⟩
            go_wp2_with fail
            go_ret2
            exact ⟨Az, nz, cz, rfl, fun _ => ⟨by rw [HTT.out, HFT.out]; exact HNZ.out, by rw [HTT.out, HFT.out]; exact own_base HOZ.out HBX.out.size⟩, HBZ.out⟩
          · rw [bodyT_5] at HFT HVT HBL
            have hj1 : 1 ≤ j := by have h := HMM.out; rw [fMany_5 rfl] at h; omega
            obtain ⟨p0, hp0⟩ : ∃ p, ps[0]? = some p := ⟨_, List.getElem?_eq_getElem (by have := HTL.out; have := HMM.out; omega)⟩
            obtain ⟨Ap0, np0, cp0, pc0, rp0, hi0⟩ := HRV.out.at hp0
            rw [Nat.zero_add] at pc0
            have HL0 : Hid (p0.flat.length ≤ 400) := HP4.out p0 (List.mem_of_getElem? hp0)
            have hj0N : 0 < j := hi0
            have hj0I : (0 : Int) < (j : Int) := by omega
            rw [getD_of hp0] at HFT HVT HBL
            clear hp0 hi0
            have HVL : Hid ((appsL p0 ([.v 0] ++ vL ar 0 2)).flat.length ≤ 412) := appsW_len har4 HL0.out (by simp) (by intro a ha; simp at ha; subst ha; simp [LTm.flat])
            have HAP : Hid ((appsL nextT [.v 1]).flat.length ≤ 62) := by have := next_len; unfold Hid; rw [appsL_len]; simp [flats, LTm.flat]; omega
            have HAG := Lib.hid againT_len
            have HLT : Hid ((leastT ar p0).flat.length ≤ 490) := leastT_len har4 HL0.out
            obtain ⟨IN, hIN⟩ : ∃ IN, appsL (appsL p0 ([.v 0] ++ vL ar 0 2)) [againT, .v 0] = IN := ⟨_, rfl⟩
            have HRE : Hid (leastT ar p0 = absL 2 IN) := by unfold Hid leastT; rw [hIN]
            have HIN : Hid (IN.flat.length ≤ 490) := by have := HLT.out; rw [HRE.out, absL_len] at this; unfold Hid; omega
            have HINE := Lib.hid hIN
            obtain ⟨AG, hAG⟩ : ∃ AG, appsL (.v 2) [.v 2, appsL nextT [.v 1]] = AG := ⟨_, rfl⟩
            have HGE : Hid (againT = absL 1 AG) := by unfold Hid againT; rw [hAG]
            have HGI : Hid (AG.flat.length ≤ 70) := by have := HAG.out; rw [HGE.out, absL_len] at this; unfold Hid; omega
            have HGN := Lib.hid hAG
            have HVN : Hid ((vL ar 0 2).length ≤ 100) := by unfold Hid; rw [vL_len]; omega
            rw [HRE.out] at HFT HVT HBL
            clear hIN hAG
            rw [HWY.out] at pc0 rp0 HB
            go_wp2_with fail
            rw [← HWY.out] at q0 q1 q2 pc0 rp0 HB ⊢
            have k1_ : True := trivial
            go_region_held3 (fun W => W.cell? ⟨g, 0, none⟩ = some (.slice Ap0 np0 cp0)) (first | go_keep | exact pc0)
                ((first
                  | (have _ := k1_; clear k1_; go_at_call 54; refine (sVar 0 _ rfl _).mono ?_; rintro e y1 ⟨⟨Aa, ca, rfl, ra⟩, bb⟩; replace bb := below_drew_at bb; replace rp0 := rp0.below bb; replace q0 := cell_step (by exact q0) bb; replace q1 := cell_step (by exact q1) bb; replace q2 := cell_step (by exact q2) bb; replace pc0 := cell_step (by exact pc0) bb; replace HB := below_step HB bb; clear bb; have k2_ : True := trivial)
                  | (have _ := k2_; go_at_call 55; refine (sVars ar 0 2 (by omega) (by omega) (by omega) _).mono ?_; rintro e y2 ⟨⟨vv, rfl, rv, cv⟩, bb⟩; have rls : Sl y2 y1.heap.size 0 [.slice Aa 1 ca] := (by have h9 := sl_laid y1 [Value.slice Aa 1 ca].toArray 24; exact (show Sl _ y1.heap.size 0 [.slice Aa 1 ca] by simpa using h9).below' bb); replace bb := below_step (laid_below _ _) bb; replace rp0 := rp0.below bb; replace ra := ra.below bb; replace q0 := cell_step (by exact q0) bb; replace q1 := cell_step (by exact q1) bb; replace q2 := cell_step (by exact q2) bb; replace pc0 := cell_step (by exact pc0) bb; replace HB := below_step HB bb; clear bb; clear k2_; have k3a_ : True := trivial)
                  | (have _ := k2_; go_at_call 55; refine (sVars ar 0 2 (by omega) (by omega) (by omega) _).mono ?_; rintro e y2 ⟨⟨vv, rfl, rv, cv⟩, bb⟩; replace rp0 := rp0.below bb; replace ra := ra.below bb; replace q0 := cell_step (by exact q0) bb; replace q1 := cell_step (by exact q1) bb; replace q2 := cell_step (by exact q2) bb; replace pc0 := cell_step (by exact pc0) bb; replace HB := below_step HB bb; clear bb; clear k2_; have k3b_ : True := trivial)
                  | (have _ := k3a_; clear k3a_; refine step_litvars (by rfl) _ _ (by rfl) (by rfl) (by rfl) (by omega) (by omega) rls (show RdL _ [.slice Aa 1 ca] [.v 0] from ⟨ra, by simp [LTm.flat], trivial⟩) (by rfl) rv HVN.out ?_; intro v9 y3 r9 bb; clear rls; replace rp0 := rp0.below bb; replace ra := ra.below bb; replace rv := rv.below bb; replace q0 := cell_step (by exact q0) bb; replace q1 := cell_step (by exact q1) bb; replace q2 := cell_step (by exact q2) bb; replace pc0 := cell_step (by exact pc0) bb; replace HB := below_step HB bb; clear bb; have k4_ : True := trivial)
                  | (have _ := k3b_; clear k3b_; refine step_litvars (by rfl) _ _ (by rfl) (by rfl) (by rfl) (by omega) (by omega) (show Sl _ y2.heap.size 0 [.slice Aa 1 ca] by have h9 := sl_laid y2 [Value.slice Aa 1 ca].toArray 24; simpa using h9) (show RdL _ [.slice Aa 1 ca] [.v 0] from ⟨ra.below (laid_below _ _), by simp [LTm.flat], trivial⟩) (by rfl) (rv.below (laid_below _ _)) HVN.out ?_; intro v9 y3 r9 bb; replace bb := below_step (laid_below _ _) bb; replace rp0 := rp0.below bb; replace ra := ra.below bb; replace rv := rv.below bb; replace q0 := cell_step (by exact q0) bb; replace q1 := cell_step (by exact q1) bb; replace q2 := cell_step (by exact q2) bb; replace pc0 := cell_step (by exact pc0) bb; replace HB := below_step HB bb; clear bb; have k4_ : True := trivial)
                  | (have _ := k4_; clear k4_; go_at_call 52; refine (sApply _ _ p0 _ _ rp0 r9 (by have := HVL.out; omega)).mono ?_; rintro e y4 ⟨⟨Ab, nb, cb, rfl, rb⟩, bb⟩; replace rp0 := rp0.below bb; replace ra := ra.below bb; replace rv := rv.below bb; replace r9 := r9.below bb; replace q0 := cell_step (by exact q0) bb; replace q1 := cell_step (by exact q1) bb; replace q2 := cell_step (by exact q2) bb; replace pc0 := cell_step (by exact pc0) bb; replace HB := below_step HB bb; clear bb)))
            all_goals
              go_wp2_with fail
              refine (sVar 2 _ rfl _).mono ?_
              rintro e y5 ⟨⟨Arc, crc, rfl, rc⟩, bb⟩
              replace rp0 := rp0.below bb
              replace ra := ra.below bb
              replace rv := rv.below bb
              replace r9 := r9.below bb
              replace rb := rb.below bb
              replace q0 := cell_step (by exact q0) bb
              replace q1 := cell_step (by exact q1) bb
              replace q2 := cell_step (by exact q2) bb
              replace pc0 := cell_step (by exact pc0) bb
              replace HB := below_step HB bb
              clear bb
              go_wp2_with fail
              refine (sVar 2 _ rfl _).mono ?_
              rintro e y6 ⟨⟨Ard, crd, rfl, rd⟩, bb⟩
              replace rp0 := rp0.below bb
              replace ra := ra.below bb
              replace rv := rv.below bb
              replace r9 := r9.below bb
              replace rb := rb.below bb
              replace rc := rc.below bb
              replace q0 := cell_step (by exact q0) bb
              replace q1 := cell_step (by exact q1) bb
              replace q2 := cell_step (by exact q2) bb
              replace pc0 := cell_step (by exact pc0) bb
              replace HB := below_step HB bb
              clear bb
              go_wp2_with fail
              refine (sNext _).mono ?_
              rintro e y7 ⟨⟨Are, nre, cre, rfl, re⟩, bb⟩
              replace rp0 := rp0.below bb
              replace ra := ra.below bb
              replace rv := rv.below bb
              replace r9 := r9.below bb
              replace rb := rb.below bb
              replace rc := rc.below bb
              replace rd := rd.below bb
              replace q0 := cell_step (by exact q0) bb
              replace q1 := cell_step (by exact q1) bb
              replace q2 := cell_step (by exact q2) bb
              replace pc0 := cell_step (by exact pc0) bb
              replace HB := below_step HB bb
              clear bb
              go_wp2_with fail
              refine (sVar 1 _ rfl _).mono ?_
              rintro e y8 ⟨⟨Arf, crf, rfl, rf⟩, bb⟩
              replace rp0 := rp0.below bb
              replace ra := ra.below bb
              replace rv := rv.below bb
              replace r9 := r9.below bb
              replace rb := rb.below bb
              replace rc := rc.below bb
              replace rd := rd.below bb
              replace re := re.below bb
              replace q0 := cell_step (by exact q0) bb
              replace q1 := cell_step (by exact q1) bb
              replace q2 := cell_step (by exact q2) bb
              replace pc0 := cell_step (by exact pc0) bb
              replace HB := below_step HB bb
              clear bb
              obtain ⟨y9, HWy9, bb, rg, rgs⟩ := alL y8 [.slice Arf 1 crf] [.v 1] ⟨rf, (by simp [LTm.flat]), trivial⟩
              replace rp0 := rp0.below bb
              replace ra := ra.below bb
              replace rv := rv.below bb
              replace r9 := r9.below bb
              replace rb := rb.below bb
              replace rc := rc.below bb
              replace rd := rd.below bb
              replace re := re.below bb
              replace rf := rf.below bb
              replace q0 := cell_step (by exact q0) bb
              replace q1 := cell_step (by exact q1) bb
              replace q2 := cell_step (by exact q2) bb
              replace pc0 := cell_step (by exact pc0) bb
              replace HB := below_step HB bb
              clear bb
              go_wp2_with fail
              rw [← HWy9.out]
              refine (sApply _ _ nextT [.v 1] _ re rg (by have := HAP.out; omega)).mono ?_
              rintro e y10 ⟨⟨Arh, nrh, crh, rfl, rh⟩, bb⟩
              replace rp0 := rp0.below bb
              replace ra := ra.below bb
              replace rv := rv.below bb
              replace r9 := r9.below bb
              replace rb := rb.below bb
              replace rc := rc.below bb
              replace rd := rd.below bb
              replace re := re.below bb
              replace rf := rf.below bb
              replace rg := rg.below bb
              replace q0 := cell_step (by exact q0) bb
              replace q1 := cell_step (by exact q1) bb
              replace q2 := cell_step (by exact q2) bb
              replace pc0 := cell_step (by exact pc0) bb
              replace HB := below_step HB bb
              clear bb
              obtain ⟨y11, HWy11, bb, ri, ris⟩ := alL y10 [.slice Ard 1 crd, .slice Arh nrh crh] [.v 2, appsL nextT [.v 1]] ⟨rd, (by simp [LTm.flat]), rh, (by have := HAP.out; omega), trivial⟩
              replace rp0 := rp0.below bb
              replace ra := ra.below bb
              replace rv := rv.below bb
              replace r9 := r9.below bb
              replace rb := rb.below bb
              replace rc := rc.below bb
              replace rd := rd.below bb
              replace re := re.below bb
              replace rf := rf.below bb
              replace rg := rg.below bb
              replace rh := rh.below bb
              replace q0 := cell_step (by exact q0) bb
              replace q1 := cell_step (by exact q1) bb
              replace q2 := cell_step (by exact q2) bb
              replace pc0 := cell_step (by exact pc0) bb
              replace HB := below_step HB bb
              clear bb
              go_wp2_with fail
              rw [← HWy11.out]
              refine (sApply _ _ (.v 2) [.v 2, appsL nextT [.v 1]] _ rc ri (by rw [HGN.out]; have := HGI.out; omega)).mono ?_
              rintro e y12 ⟨⟨Arj, nrj, crj, rfl, rj⟩, bb⟩
              replace rp0 := rp0.below bb
              replace ra := ra.below bb
              replace rv := rv.below bb
              replace r9 := r9.below bb
              replace rb := rb.below bb
              replace rc := rc.below bb
              replace rd := rd.below bb
              replace re := re.below bb
              replace rf := rf.below bb
              replace rg := rg.below bb
              replace rh := rh.below bb
              replace ri := ri.below bb
              replace q0 := cell_step (by exact q0) bb
              replace q1 := cell_step (by exact q1) bb
              replace q2 := cell_step (by exact q2) bb
              replace pc0 := cell_step (by exact pc0) bb
              replace HB := below_step HB bb
              clear bb
              rw [HGN.out] at rj
              go_wp2_with fail
              refine (sAbs 1 _ rfl _ AG _ rj (by omega) (by have := HGI.out; omega)).mono ?_
              rintro e y13 ⟨⟨Ark, nrk, crk, rfl, rk⟩, bb⟩
              replace rp0 := rp0.below bb
              replace ra := ra.below bb
              replace rv := rv.below bb
              replace r9 := r9.below bb
              replace rb := rb.below bb
              replace rc := rc.below bb
              replace rd := rd.below bb
              replace re := re.below bb
              replace rf := rf.below bb
              replace rg := rg.below bb
              replace rh := rh.below bb
              replace ri := ri.below bb
              replace rj := rj.below bb
              replace q0 := cell_step (by exact q0) bb
              replace q1 := cell_step (by exact q1) bb
              replace q2 := cell_step (by exact q2) bb
              replace pc0 := cell_step (by exact pc0) bb
              replace HB := below_step HB bb
              clear bb
              go_wp2_with fail
              refine (sVar 0 _ rfl _).mono ?_
              rintro e y14 ⟨⟨Arm, crm, rfl, rm⟩, bb⟩
              replace rp0 := rp0.below bb
              replace ra := ra.below bb
              replace rv := rv.below bb
              replace r9 := r9.below bb
              replace rb := rb.below bb
              replace rc := rc.below bb
              replace rd := rd.below bb
              replace re := re.below bb
              replace rf := rf.below bb
              replace rg := rg.below bb
              replace rh := rh.below bb
              replace ri := ri.below bb
              replace rj := rj.below bb
              replace rk := rk.below bb
              replace q0 := cell_step (by exact q0) bb
              replace q1 := cell_step (by exact q1) bb
              replace q2 := cell_step (by exact q2) bb
              replace pc0 := cell_step (by exact pc0) bb
              replace HB := below_step HB bb
              clear bb
              rw [← HGE.out] at rk
              obtain ⟨y15, HWy15, bb, rn, rns⟩ := alL y14 [.slice Ark nrk crk, .slice Arm 1 crm] [againT, .v 0] ⟨rk, (by have := HAG.out; omega), rm, (by simp [LTm.flat]), trivial⟩
              replace rp0 := rp0.below bb
              replace ra := ra.below bb
              replace rv := rv.below bb
              replace r9 := r9.below bb
              replace rb := rb.below bb
              replace rc := rc.below bb
              replace rd := rd.below bb
              replace re := re.below bb
              replace rf := rf.below bb
              replace rg := rg.below bb
              replace rh := rh.below bb
              replace ri := ri.below bb
              replace rj := rj.below bb
              replace rk := rk.below bb
              replace rm := rm.below bb
              replace q0 := cell_step (by exact q0) bb
              replace q1 := cell_step (by exact q1) bb
              replace q2 := cell_step (by exact q2) bb
              replace pc0 := cell_step (by exact pc0) bb
              replace HB := below_step HB bb
              clear bb
              go_wp2_with fail
              rw [← HWy15.out]
              refine (sApply _ _ (appsL p0 ([.v 0] ++ vL ar 0 2)) [againT, .v 0] _ rb rn (by rw [HINE.out]; have := HIN.out; omega)).mono ?_
              rintro e y16 ⟨⟨Aro, nro, cro, rfl, ro⟩, bb⟩
              replace rp0 := rp0.below bb
              replace ra := ra.below bb
              replace rv := rv.below bb
              replace r9 := r9.below bb
              replace rb := rb.below bb
              replace rc := rc.below bb
              replace rd := rd.below bb
              replace re := re.below bb
              replace rf := rf.below bb
              replace rg := rg.below bb
              replace rh := rh.below bb
              replace ri := ri.below bb
              replace rj := rj.below bb
              replace rk := rk.below bb
              replace rm := rm.below bb
              replace rn := rn.below bb
              replace q0 := cell_step (by exact q0) bb
              replace q1 := cell_step (by exact q1) bb
              replace q2 := cell_step (by exact q2) bb
              replace pc0 := cell_step (by exact pc0) bb
              replace HB := below_step HB bb
              clear bb
              rw [HINE.out] at ro
              go_wp2_with fail
              refine (sAbs 2 _ rfl _ IN _ ro (by omega) (by have := HIN.out; omega)).mono ?_
              rintro e y17 ⟨⟨Arp, nrp, crp, rfl, rp⟩, bb⟩
              replace rp0 := rp0.below bb
              replace ra := ra.below bb
              replace rv := rv.below bb
              replace r9 := r9.below bb
              replace rb := rb.below bb
              replace rc := rc.below bb
              replace rd := rd.below bb
              replace re := re.below bb
              replace rf := rf.below bb
              replace rg := rg.below bb
              replace rh := rh.below bb
              replace ri := ri.below bb
              replace rj := rj.below bb
              replace rk := rk.below bb
              replace rm := rm.below bb
              replace rn := rn.below bb
              replace ro := ro.below bb
              replace q0 := cell_step (by exact q0) bb
              replace q1 := cell_step (by exact q1) bb
              replace q2 := cell_step (by exact q2) bb
              replace pc0 := cell_step (by exact pc0) bb
              replace HB := below_step HB bb
              clear bb
              go_wp2_with fail
              refine (sNumZ _).mono ?_
              rintro e y18 ⟨⟨Arq, nrq, crq, rfl, rq⟩, bb⟩
              replace rp0 := rp0.below bb
              replace ra := ra.below bb
              replace rv := rv.below bb
              replace r9 := r9.below bb
              replace rb := rb.below bb
              replace rc := rc.below bb
              replace rd := rd.below bb
              replace re := re.below bb
              replace rf := rf.below bb
              replace rg := rg.below bb
              replace rh := rh.below bb
              replace ri := ri.below bb
              replace rj := rj.below bb
              replace rk := rk.below bb
              replace rm := rm.below bb
              replace rn := rn.below bb
              replace ro := ro.below bb
              replace rp := rp.below bb
              replace q0 := cell_step (by exact q0) bb
              replace q1 := cell_step (by exact q1) bb
              replace q2 := cell_step (by exact q2) bb
              replace pc0 := cell_step (by exact pc0) bb
              replace HB := below_step HB bb
              clear bb
              obtain ⟨y19, HWy19, bb, rr, rrs⟩ := alL y18 [.slice Arp nrp crp, .slice Arq nrq crq] [absL 2 IN, numT0] ⟨rp, (by rw [absL_len]; have := HIN.out; omega), rq, (by simp [numT0, LTm.flat]), trivial⟩
              replace rp0 := rp0.below bb
              replace ra := ra.below bb
              replace rv := rv.below bb
              replace r9 := r9.below bb
              replace rb := rb.below bb
              replace rc := rc.below bb
              replace rd := rd.below bb
              replace re := re.below bb
              replace rf := rf.below bb
              replace rg := rg.below bb
              replace rh := rh.below bb
              replace ri := ri.below bb
              replace rj := rj.below bb
              replace rk := rk.below bb
              replace rm := rm.below bb
              replace rn := rn.below bb
              replace ro := ro.below bb
              replace rp := rp.below bb
              replace rq := rq.below bb
              replace q0 := cell_step (by exact q0) bb
              replace q1 := cell_step (by exact q1) bb
              replace q2 := cell_step (by exact q2) bb
              replace pc0 := cell_step (by exact pc0) bb
              replace HB := below_step HB bb
              clear bb
              go_wp2_with fail
              rw [← HWy19.out]
              refine (sApply _ _ (absL 2 IN) [absL 2 IN, numT0] _ rp rr (by have := HBL.out; omega)).mono ?_
              rintro e y20 ⟨⟨Ars, nrs, crs, rfl, rs⟩, bb⟩
              replace rp0 := rp0.below bb
              replace ra := ra.below bb
              replace rv := rv.below bb
              replace r9 := r9.below bb
              replace rb := rb.below bb
              replace rc := rc.below bb
              replace rd := rd.below bb
              replace re := re.below bb
              replace rf := rf.below bb
              replace rg := rg.below bb
              replace rh := rh.below bb
              replace ri := ri.below bb
              replace rj := rj.below bb
              replace rk := rk.below bb
              replace rm := rm.below bb
              replace rn := rn.below bb
              replace ro := ro.below bb
              replace rp := rp.below bb
              replace rq := rq.below bb
              replace rr := rr.below bb
              replace q0 := cell_step (by exact q0) bb
              replace q1 := cell_step (by exact q1) bb
              replace q2 := cell_step (by exact q2) bb
              replace pc0 := cell_step (by exact pc0) bb
              replace HB := below_step HB bb
              clear bb
              have RB := Lib.hid rs
              have HBX := Lib.hid HB
              clear rp0 ra rv r9 rb rc rd re rf rg rh ri rj rk rm rn ro rp rq rr rs q0 q1 q2 pc0 HB
              go_wp2_with fail
              refine (sAbsOwn ar _ rfl _ (appsL (absL 2 IN) [absL 2 IN, numT0]) _ RB.out (by omega) (by have := HBL.out; omega)).mono ?_
              rintro e z1 ⟨⟨Az, nz, cz, rfl, hnz, ownz⟩, bz⟩
              have HOZ := Lib.hid ownz; have HNZ := Lib.hid hnz
              have HBZ := Lib.hid (below_step HBX.out bz)
              have hnz9 : nz ≤ 1048576 := by have := HBL.out; rw [absL_len] at hnz; omega
              have HLZ := Lib.hid (l12Is_is Az nz cz _ ob HVT.out z1 (Src.of_own ownz).args hnz9)
              clear ownz bz hnz
              go_wp2_with fail
              refine HLZ.out.mono ?_
              rintro e z2 ⟨rfl, rfl⟩
              go_wp2_with fail
              go_ret2
              exact ⟨Az, nz, cz, rfl, fun _ => ⟨by rw [HTT.out, HFT.out]; exact HNZ.out, by rw [HTT.out, HFT.out]; exact own_base HOZ.out HBX.out.size⟩, HBZ.out⟩
end Go.Proofs.YtkiaclajjlidoaaGreatDoor

/- FuncToLam of the reference. -/
namespace Go.Proofs.YtkiaclajjlidoaaGreatDoor
open Go.RowKit
set_option linter.all false

set_option maxRecDepth 100000 in
theorem specFuncToLam_any (b off n c : Nat) (T : List R3) (w : World) (hs : Sl w b off (rows R3.vs T)) (hl : T.length = n) (hn : n ≤ 1048576) (hc : n ≤ c) (hf : ∀ x ∈ T, x.wf) :
    Calls Tryz.prog 15 #[.slice (some ⟨b, off, none⟩) n c] w fun e w' => ∃ v, e = .returned (.tuple #[v, .int .i64 (funcLam T).2]) ∧ w'.ownsRow w.heap.size 45 2 v (funcLam T).1.length (rows R2.vs (funcLam T).1) ∧ Below w.heap.size w w' := by
  have HV0 := fun v hv => l11Is_is (some ⟨b, off, none⟩) n c T v hv w (Args.of_sl hs (by rw [rows_len R3.vs_len, hl])) hn
  rcases Bool.eq_false_or_eq_true (validF T) with hv | hv
  rotate_left
  · have HF : Hid (funcLam T = ([], 1)) := by unfold Hid funcLam; rw [if_neg (by rw [hv]; decide)]
    have HV := Lib.hid (HV0 false hv)
    clear hv hl hf hs HV0
    go_enter Tryz.func15, Tryz.ntmps15
    go_wp2_with fail
    refine HV.out.mono ?_
    rintro e w1 ⟨rfl, hb⟩
    go_wp2_with fail
    go_ret2
    rw [HF.out]
    exact ⟨_, rfl, World.ownsRow_nil _ _ _ _, hb⟩
  · have HV := Lib.hid (HV0 true hv)
    obtain ⟨h1, h2, h3, h4⟩ := validF_parts hv
    obtain ⟨ob, hob⟩ : ∃ ob, okF 61 T = ob := ⟨_, rfl⟩
    have HST := Lib.hid (fun W (hW : Below w.heap.size w W) => l18Term_any b 61 off n c T (-1) ob W hl (by omega) (by omega) hc h3 h4 hob (hs.below' hW))
    have HFL : Hid (funcLam T = if okF 61 T = true then ((fT 61 T).flat, 0) else ([], 5)) := by unfold Hid funcLam; rw [if_pos hv]
    have HOB := Lib.hid hob
    clear hv hl hf hs HV0 h1 h2 h3 h4 hob
    cases ob with
    | false =>
      have HF : Hid (funcLam T = ([], 5)) := by unfold Hid; rw [HFL.out, HOB.out]; rfl
      go_enter Tryz.func15, Tryz.ntmps15
      go_wp2_with fail
      refine HV.out.mono ?_
      rintro e w1 ⟨rfl, b1⟩
      have HB1 := Lib.hid b1
      clear b1
      go_wp2_with fail
      refine (HST.out _ HB1.out).mono ?_
      rintro e w2 ⟨A2, n2, c2, rfl, -, b2⟩
      have HB2 := Lib.hid (below_step HB1.out b2)
      clear b2
      go_wp2_with fail
      go_ret2
      rw [HF.out]
      exact ⟨_, rfl, World.ownsRow_nil _ _ _ _, HB2.out⟩
    | true =>
      have HF : Hid (funcLam T = ((fT 61 T).flat, 0)) := by unfold Hid; rw [HFL.out, HOB.out]; rfl
      go_enter Tryz.func15, Tryz.ntmps15
      go_wp2_with fail
      refine HV.out.mono ?_
      rintro e w1 ⟨rfl, b1⟩
      have HB1 := Lib.hid b1
      clear b1
      go_wp2_with fail
      refine (HST.out _ HB1.out).mono ?_
      rintro e w2 ⟨A2, n2, c2, rfl, ho, b2⟩
      obtain ⟨hn2, own2⟩ := ho rfl
      have HO2 := Lib.hid (own_base own2 HB1.out.size)
      have HN2 := Lib.hid hn2
      have HB2 := Lib.hid (below_step HB1.out b2)
      clear ho own2 b2 hn2
      go_wp2_with fail
      go_ret2
      rw [HF.out]
      exact ⟨_, rfl, by show World.ownsRow _ _ _ _ _ (fT 61 T).flat.length _; rw [← HN2.out]; exact HO2.out, HB2.out⟩
end Go.Proofs.YtkiaclajjlidoaaGreatDoor

/- The walk of the law FnExactFuncToLam: it returns true, whatever the arguments, and writes nothing that was there. -/
namespace Go.Proofs.YtkiaclajjlidoaaGreatDoor
open Go.RowKit

set_option maxRecDepth 100000 in
set_option maxHeartbeats 2000000 in
theorem walkFuncToLam (A0 : Option Addr) (n0 c0 : Nat) (x0 : List R3) (w : World) (h0 : Args 3 w A0 n0 (rows R3.vs x0)) (m0 : n0 ≤ maxLen) (f0 : ∀ x ∈ x0, x.wf) :
    Calls Tryz.prog 4 #[.slice A0 n0 c0] w fun e w' => e = .returned (.bool true) ∧ Below w.heap.size w w' := by
  unfold maxLen at m0
  have H0 : Hid (x0.length = n0) := by have := h0.1; rw [rows_len R3.vs_len] at this; unfold Hid; omega
  by_cases z0 : n0 ≤ 1048576
  rotate_left
  · go_enter Tryz.func4, Tryz.ntmps4
    go_wp2_with fail
    refine (szFuncS_not A0 n0 c0 1048576 _ (by omega) (by omega) (by omega)).mono ?_
    rintro e w' ⟨rfl, rfl⟩
    go_wp2_with fail
    go_ret
    exact ⟨rfl, Below.refl _ _⟩
  obtain ⟨r0, R0⟩ : ∃ r : Nat, Hid (r + n0 = 1048576) := ⟨1048576 - n0, by unfold Hid; omega⟩
  have q0 : r0 ≤ 1048576 := by have := R0.out; omega
  have s0 : n0 ≤ 1048576 := by omega
  have Z0 := Lib.hid z0; clear z0
  go_enter Tryz.func4, Tryz.ntmps4
  go_wp2_with fail
  refine (szFuncS_is A0 n0 c0 1048576 r0 _ R0.out (by omega)).mono ?_
  rintro e w' ⟨rfl, rfl⟩
  have B0 : Below w.heap.size w w := Below.refl _ _
  go_wp2_with fail
  refine (toFuncS_any A0 n0 c0 x0 _ (h0.below B0) s0).mono ?_
  rintro e w1 ⟨rfl, s0x_1, b1⟩
  have B1 := below_step B0 b1
  go_wp2_with fail
  refine (specFuncToLam_any _ _ n0 n0 x0 _ (sl_of_own s0x_1) H0.out s0 (Nat.le_refl _) f0).mono ?_
  rintro e w2 ⟨p0v, rfl, p0_2, b2⟩
  obtain ⟨p0A, p0c, rfl⟩ := own_form p0_2
  have B2 := below_step B1 b2
  have s0x_2 := own_below' s0x_1 b2
  go_wp2_with fail
  refine (toFuncS_any A0 n0 c0 x0 _ (h0.below B2) s0).mono ?_
  rintro e w3 ⟨rfl, u0x_3, b3⟩
  have B3 := below_step B2 b3
  have p0_3 := own_below' p0_2 b3
  have hl0 := bndFuncToLam0 x0 (by have := H0.out; omega)
  go_wp2_with fail
  refine (implFuncToLam_any _ _ n0 n0 x0 _ (sl_of_own u0x_3) H0.out s0 (Nat.le_refl _) f0).mono ?_
  rintro e w4 ⟨g0v, rfl, g0_4, b4⟩
  obtain ⟨g0A, g0c, rfl⟩ := own_form g0_4
  have B4 := below_step B3 b4
  have p0_4 := own_below' p0_3 b4
  have u0x_4 := own_below' u0x_3 b4
  go_wp2_with fail
  refine (eqLamS_any _ _ _ _ _ _ _ _ _ (args_of_own g0_4) (args_of_own p0_4) (by omega) (by omega)).mono ?_
  rintro e w5 ⟨rfl, b5⟩
  have B5 := below_step B4 b5
  have p0_5 := own_below' p0_4 b5
  have u0x_5 := own_below' u0x_4 b5
  have g0_5 := own_below' g0_4 b5
  go_wp2_with fail
  refine (toFuncS_any A0 n0 c0 x0 _ (h0.below B5) s0).mono ?_
  rintro e w6 ⟨rfl, t0x_6, b6⟩
  have B6 := below_step B5 b6
  have p0_6 := own_below' p0_5 b6
  have u0x_6 := own_below' u0x_5 b6
  have g0_6 := own_below' g0_5 b6
  go_wp2_with fail
  refine (eqFuncS_any _ _ _ _ _ _ _ _ _ (args_of_own u0x_6) (args_of_own t0x_6) (by omega) (by omega)).mono ?_
  rintro e w7 ⟨rfl, b7⟩
  have B7 := below_step B6 b7
  have p0_7 := own_below' p0_6 b7
  have u0x_7 := own_below' u0x_6 b7
  have g0_7 := own_below' g0_6 b7
  have t0x_7 := own_below' t0x_6 b7
  go_wp2_with fail
  refine (markFuncS_any _ _ _ _ _ _ u0x_7 (by omega) (by omega) (by omega)).mono ?_
  rintro e w8 ⟨rfl, u0x_8, g8⟩
  have B8 := grown_below B7 u0x_7 (by have := B7.size; have := b1.size; have := b2.size; have := b3.size; have := b4.size; have := b5.size; have := b6.size; have := b7.size; omega) g8
  have p0_8 := World.ownsRow.kept p0_7 g8 (own_apart p0_2 u0x_3 (by have := b1.size; have := b2.size; have := b3.size; have := b4.size; have := b5.size; have := b6.size; have := b7.size; omega))
  have g0_8 := World.ownsRow.kept g0_7 g8 (own_apart' u0x_3 g0_4 (by have := b1.size; have := b2.size; have := b3.size; have := b4.size; have := b5.size; have := b6.size; have := b7.size; omega))
  clear g8
  go_wp2_with fail
  refine (eqLamS_any _ _ _ _ _ _ _ _ _ (args_of_own g0_8) (args_of_own p0_8) (by omega) (by omega)).mono ?_
  rintro e w9 ⟨rfl, b9⟩
  have B9 := below_step B8 b9
  have p0_9 := own_below' p0_8 b9
  have g0_9 := own_below' g0_8 b9
  go_wp2_with fail
  refine (markLamS_any _ _ _ _ _ _ g0_9 (by omega) (by omega) (by omega)).mono ?_
  rintro e w10 ⟨rfl, g0_10, g10⟩
  have B10 := grown_below B9 g0_9 (by have := B9.size; have := b1.size; have := b2.size; have := b3.size; have := b4.size; have := b5.size; have := b6.size; have := b7.size; omega) g10
  have p0_10 := World.ownsRow.kept p0_9 g10 (own_apart p0_2 g0_4 (by have := b1.size; have := b2.size; have := b3.size; have := b4.size; have := b5.size; have := b6.size; have := b7.size; omega))
  clear g10
  go_wp2_with fail
  refine (heldLamS_any _ _ _ _ _ (args_of_own g0_10) (by omega) (by omega) (by omega)).mono ?_
  rintro e w11 ⟨rfl, rfl⟩
  go_wp2_with fail
  refine (toFuncS_any A0 n0 c0 x0 _ (h0.below B10) s0).mono ?_
  rintro e w11 ⟨rfl, y0x_11, b11⟩
  have B11 := below_step B10 b11
  have p0_11 := own_below' p0_10 b11
  have g0_11 := own_below' g0_10 b11
  go_wp2_with fail
  refine (implFuncToLam_any _ _ n0 n0 x0 _ (sl_of_own y0x_11) H0.out s0 (Nat.le_refl _) f0).mono ?_
  rintro e w12 ⟨h0v, rfl, h0_12, b12⟩
  obtain ⟨h0A, h0c, rfl⟩ := own_form h0_12
  have B12 := below_step B11 b12
  have p0_12 := own_below' p0_11 b12
  have g0_12 := own_below' g0_11 b12
  have y0x_12 := own_below' y0x_11 b12
  go_wp2_with fail
  refine (eqLamS_any _ _ _ _ _ _ _ _ _ (args_of_own h0_12) (args_of_own p0_12) (by omega) (by omega)).mono ?_
  rintro e w13 ⟨rfl, b13⟩
  have B13 := below_step B12 b13
  have p0_13 := own_below' p0_12 b13
  have g0_13 := own_below' g0_12 b13
  have h0_13 := own_below' h0_12 b13
  go_wp2_with fail
  refine (heldLamS_any _ _ _ _ _ (args_of_own g0_13) (by omega) (by omega) (by omega)).mono ?_
  rintro e w14 ⟨rfl, rfl⟩
  go_wp2_with fail
  go_ret
  exact ⟨rfl, B13⟩
end Go.Proofs.YtkiaclajjlidoaaGreatDoor

/- How the laws' arguments are opened: a slice that came in reads as a list of its elements' cells. -/
namespace Go.Proofs.YtkiaclajjlidoaaGreatDoor
open Go.ChangeShapes Go.WideShapes Go.ChangeAt Go.RowKit Go.Deep
open Go.ChangeMaps (open_string shut_string)

theorem own : ownKnob Tryz.prog.godebug = none := by kernel_rfl
theorem laidOut : laidOutB Tryz.prog = true := by kernel_rfl

theorem list_of_fun {α : Type} (n : Nat) (p : Nat → α → Prop) (h : ∀ i, i < n → ∃ x, p i x) : ∃ xs : List α, xs.length = n ∧ ∀ i x, xs[i]? = some x → p i x := by
  induction n with
  | zero => exact ⟨[], rfl, by simp⟩
  | succ n ih =>
    obtain ⟨xs, hl, hp⟩ := ih (fun i hi => h i (by omega))
    obtain ⟨x, hx⟩ := h n (by omega)
    refine ⟨xs ++ [x], by simp [hl], fun i y hy => ?_⟩
    rw [List.getElem?_append] at hy
    split at hy
    · exact hp i y hy
    · rw [List.getElem?_singleton] at hy
      split at hy
      · injection hy with hy
        subst hy
        obtain rfl : i = n := by omega
        exact hx
      · cases hy

theorem add_none {b off j : Nat} : (⟨b, off, none⟩ : Addr).add j = ⟨b, off + j, none⟩ := by
  unfold Addr.add
  split
  · rename_i h; subst h; rfl
  · rfl

section
variable {H : Type} {enc : TypeId × Value → H} {P : Program} {w : World} {base : Nat} {spare : Nat → Bool} {held : Bool}

/-- A slice of one-cell elements that came in. 'helem' says how an element's cell reads. -/
theorem arg_of_trod {α : Type} (f : α → Value) (ok : α → Prop) {t e : TypeId} {A : Option Addr} {n c : Nat} {d : DataW H} {ps : List MemPlace} (ht : P.underlying t = some (.slice e)) (hC : P.cellsOf e = 1)
    (helem : ∀ fuel cs x, DataW.trod enc P w base spare held fuel e cs = some x → ∃ a, cs = [f a] ∧ ok a)
    (h : DataW.Trod enc P w base spare held t (.slice A n c) d ps) : ∃ xs : List α, Arg w A n (xs.map f) ∧ (∀ x ∈ xs, ok x) ∧ n ≤ maxLen := by
  obtain ⟨fuel, hf⟩ := h
  rcases open_slice ht hf with ⟨h0, _⟩ | ⟨a, len, cap, m, n', D, Pl, hcs, _, hl, hm, hmm, _, hi⟩
  · simp [Value.cells] at h0
    obtain ⟨rfl, rfl, rfl⟩ := h0
    exact ⟨[], Arg.of_nil _ _, by simp, by simp [maxLen]⟩
  · simp [Value.cells] at hcs
    obtain ⟨rfl, rfl, rfl⟩ := hcs
    have hnm : n ≤ m := by rw [hmm]; split <;> omega
    have hex : ∀ i, i < n → ∃ x : α, w.cell? (a.add i) = some (f x) ∧ ok x := by
      intro i hin
      obtain ⟨cs', hc, ht'⟩ := hi i (by omega)
      rw [hC] at hc
      obtain ⟨x, rfl, hok⟩ := helem _ _ _ ht'
      obtain ⟨_, _, hat⟩ := World.cells?_some hc
      refine ⟨x, ?_, hok⟩
      have := hat 0 (by omega)
      simpa [Addr.add] using this
    obtain ⟨xs, hlen, hp⟩ := list_of_fun n _ hex
    refine ⟨xs, ⟨by simp [hlen], ?_⟩, fun x hx => by obtain ⟨i, hi⟩ := List.getElem?_of_mem hx; exact (hp i x hi).2, by omega⟩
    rcases Nat.eq_zero_or_pos n with h0 | h0
    · exact .inl h0
    · obtain ⟨b, off, spot⟩ := a
      obtain ⟨x0, hx0, _⟩ := hex 0 h0
      have hspot : spot = none := by simpa [Addr.add] using World.cell?_spot hx0
      subst hspot
      refine .inr ⟨b, off, rfl, World.block_lt_of_cell? w _ (by simpa [Addr.add] using hx0), fun j u hu => ?_⟩
      rw [List.getElem?_map] at hu
      obtain ⟨x, hx, rfl⟩ := Option.map_eq_some_iff.1 hu
      rw [← add_none]
      exact (hp j x hx).1

theorem arg_bools {t e : TypeId} {A : Option Addr} {n c : Nat} {d : DataW H} {ps : List MemPlace} (ht : P.underlying t = some (.slice e)) (hC : P.cellsOf e = 1) (he : P.underlying e = some .bool)
    (h : DataW.Trod enc P w base spare held t (.slice A n c) d ps) : ∃ xs : List Bool, Arg w A n (xs.map Value.bool) ∧ n ≤ maxLen := by
  obtain ⟨xs, h1, _, h3⟩ := arg_of_trod Value.bool (fun _ => True) ht hC (fun fuel cs x hx => by obtain ⟨b, hb, _⟩ := DataW.trod_bool he hx; exact ⟨b, hb, trivial⟩) h
  exact ⟨xs, h1, h3⟩

theorem arg_ints {k : IntKind} {t e : TypeId} {A : Option Addr} {n c : Nat} {d : DataW H} {ps : List MemPlace} (ht : P.underlying t = some (.slice e)) (hC : P.cellsOf e = 1) (he : P.underlying e = some (.int k))
    (h : DataW.Trod enc P w base spare held t (.slice A n c) d ps) : ∃ xs : List Int, Arg w A n (xs.map (Value.int k)) ∧ (∀ x ∈ xs, (Lit.int k x).wf = true) ∧ n ≤ maxLen :=
  arg_of_trod (Value.int k) (fun x => (Lit.int k x).wf = true) ht hC (fun fuel cs x hx => by obtain ⟨b, hb, _, hw⟩ := DataW.trod_int he hx; exact ⟨b, hb, hw⟩) h

theorem arg_strings {t e : TypeId} {A : Option Addr} {n c : Nat} {d : DataW H} {ps : List MemPlace} (ht : P.underlying t = some (.slice e)) (hC : P.cellsOf e = 1) (he : P.underlying e = some .string)
    (h : DataW.Trod enc P w base spare held t (.slice A n c) d ps) : ∃ xs : List ByteArray, Arg w A n (xs.map Value.string) ∧ (∀ x ∈ xs, x.size ≤ maxLen) ∧ n ≤ maxLen :=
  arg_of_trod Value.string (fun x => x.size ≤ maxLen) ht hC (fun fuel cs x hx => by obtain ⟨b, hb, _, hw⟩ := DataW.trod_string he hx; exact ⟨b, hb, hw⟩) h
end
end Go.Proofs.YtkiaclajjlidoaaGreatDoor

/- How the laws' arguments that are slices of records of numbers are opened. -/
namespace Go.Proofs.YtkiaclajjlidoaaGreatDoor
open Go.ChangeShapes Go.WideShapes Go.ChangeAt Go.RowKit Go.Deep
set_option linter.all false

section
variable {H : Type} {enc : TypeId × Value → H} {P : Program} {w : World} {base : Nat} {spare : Nat → Bool} {held : Bool}

theorem args_of_trod {α : Type} (f : α → List Value) (ok : α → Prop) {s : Nat} (hs : ∀ x, (f x).length = s) (hs0 : 0 < s) {t e : TypeId} {A : Option Addr} {n c : Nat} {d : DataW H} {ps : List MemPlace} (ht : P.underlying t = some (.slice e)) (hC : P.cellsOf e = s)
    (helem : ∀ fuel cs x, DataW.trod enc P w base spare held fuel e cs = some x → ∃ a, cs = f a ∧ ok a)
    (h : DataW.Trod enc P w base spare held t (.slice A n c) d ps) : ∃ xs : List α, Args s w A n (rows f xs) ∧ (∀ x ∈ xs, ok x) ∧ n ≤ maxLen := by
  obtain ⟨fuel, hf⟩ := h
  rcases open_slice ht hf with ⟨h0, _⟩ | ⟨a, len, cap, m, n', D, Pl, hcs, _, hl, hm, hmm, _, hi⟩
  · simp [Value.cells] at h0
    obtain ⟨rfl, rfl, rfl⟩ := h0
    exact ⟨[], Args.of_nil _ _ _, by simp, by simp [maxLen]⟩
  · simp [Value.cells] at hcs
    obtain ⟨rfl, rfl, rfl⟩ := hcs
    have hnm : n ≤ m := by rw [hmm]; split <;> omega
    have hex : ∀ i, i < n → ∃ x : α, (∀ j u, (f x)[j]? = some u → w.cell? (a.add (i * s + j)) = some u) ∧ ok x := by
      intro i hin
      obtain ⟨cs', hc, ht'⟩ := hi i (by omega)
      rw [hC] at hc
      obtain ⟨x, rfl, hok⟩ := helem _ _ _ ht'
      obtain ⟨_, _, hat⟩ := World.cells?_some hc
      refine ⟨x, fun j u hu => ?_, hok⟩
      have hj : j < s := by rw [← hs x]; exact (List.getElem?_eq_some_iff.1 hu).1
      have := hat j hj
      rw [← Go.Deep.add_add, this, hu]
    obtain ⟨xs, hlen, hp⟩ := list_of_fun n _ hex
    refine ⟨xs, ⟨by rw [rows_len hs, hlen], ?_⟩, fun x hx => by obtain ⟨i, hi⟩ := List.getElem?_of_mem hx; exact (hp i x hi).2, by omega⟩
    rcases Nat.eq_zero_or_pos n with h0 | h0
    · exact .inl h0
    · obtain ⟨b, off, spot⟩ := a
      obtain ⟨x0, hx0, _⟩ := hex 0 h0
      have hx0' := hx0 0 ((f x0)[0]'(by rw [hs]; exact hs0)) (List.getElem?_eq_getElem _)
      have hspot : spot = none := by simpa [Addr.add] using World.cell?_spot hx0'
      subst hspot
      refine .inr ⟨b, off, rfl, World.block_lt_of_cell? w _ (by simpa [Addr.add] using hx0'), fun j u hu => ?_⟩
      have hjl : j < n * s := by have := (List.getElem?_eq_some_iff.1 hu).1; rw [rows_len hs, hlen] at this; exact this
      have hq : j / s < n := Nat.div_lt_of_lt_mul (by rw [Nat.mul_comm]; exact hjl)
      have hm : j % s < s := Nat.mod_lt _ hs0
      have hjj : j = j / s * s + j % s := by rw [Nat.mul_comm]; exact (Nat.div_add_mod j s).symm
      have hx : xs[j / s]? = some (xs[j / s]'(by omega)) := List.getElem?_eq_getElem _
      rw [hjj, rows_at hs hx hm] at hu
      rw [hjj, ← add_none]
      exact (hp _ _ hx).1 _ _ hu

theorem one_of {n : Nat} {ty : TypeId} {v : Value} {y : DataW H × List MemPlace} (hu : P.underlying ty = some (.int .i64)) (h : DataW.trod enc P w base spare held n ty [v] = some y) : ∃ x : Int, v = .int .i64 x ∧ Wf64 x := by
  obtain ⟨b, hb, _, hw⟩ := DataW.trod_int hu h
  exact ⟨b, by simpa using hb, wf64_of hw⟩

theorem args_recs2 {t e : TypeId} {f0 f1 : Field} {A : Option Addr} {n c : Nat} {d : DataW H} {ps : List MemPlace} (ht : P.underlying t = some (.slice e)) (hC : P.cellsOf e = 2) (he : P.underlying e = some (.struct #[f0, f1])) (hone : oneCellFields P #[f0, f1] = true)
    (h0 : P.underlying f0.type = some (.int .i64)) (h1 : P.underlying f1.type = some (.int .i64)) (h : DataW.Trod enc P w base spare held t (.slice A n c) d ps) : ∃ xs : List R2, Args 2 w A n (rows R2.vs xs) ∧ (∀ x ∈ xs, x.wf) ∧ n ≤ maxLen := by
  refine args_of_trod R2.vs R2.wf R2.vs_len (by omega) ht hC (fun fuel cs x hx => ?_) h
  obtain ⟨xs, n', _, hx', hcl, hlen, hg⟩ := DataW.trod_struct he hx
  obtain ⟨o0, k0⟩ := hone_of hone 0 f0 rfl
  obtain ⟨o1, k1⟩ := hone_of hone 1 f1 rfl
  rw [hC] at hcl
  match cs, hcl with
  | [c0, c1], _ =>
    match xs, hlen with
    | [y0, y1], _ =>
      obtain ⟨a0, rfl, w0⟩ := one_of h0 (by simpa [o0, k0] using hg 0 f0 rfl)
      obtain ⟨a1, rfl, w1⟩ := one_of h1 (by simpa [o1, k1] using hg 1 f1 rfl)
      exact ⟨⟨a0, a1⟩, rfl, w0, w1⟩

theorem args_recs3 {t e : TypeId} {f0 f1 f2 : Field} {A : Option Addr} {n c : Nat} {d : DataW H} {ps : List MemPlace} (ht : P.underlying t = some (.slice e)) (hC : P.cellsOf e = 3) (he : P.underlying e = some (.struct #[f0, f1, f2])) (hone : oneCellFields P #[f0, f1, f2] = true)
    (h0 : P.underlying f0.type = some (.int .i64)) (h1 : P.underlying f1.type = some (.int .i64)) (h2 : P.underlying f2.type = some (.int .i64)) (h : DataW.Trod enc P w base spare held t (.slice A n c) d ps) : ∃ xs : List R3, Args 3 w A n (rows R3.vs xs) ∧ (∀ x ∈ xs, x.wf) ∧ n ≤ maxLen := by
  refine args_of_trod R3.vs R3.wf R3.vs_len (by omega) ht hC (fun fuel cs x hx => ?_) h
  obtain ⟨xs, n', _, hx', hcl, hlen, hg⟩ := DataW.trod_struct he hx
  obtain ⟨o0, k0⟩ := hone_of hone 0 f0 rfl
  obtain ⟨o1, k1⟩ := hone_of hone 1 f1 rfl
  obtain ⟨o2, k2⟩ := hone_of hone 2 f2 rfl
  rw [hC] at hcl
  match cs, hcl with
  | [c0, c1, c2], _ =>
    match xs, hlen with
    | [y0, y1, y2], _ =>
      obtain ⟨a0, rfl, w0⟩ := one_of h0 (by simpa [o0, k0] using hg 0 f0 rfl)
      obtain ⟨a1, rfl, w1⟩ := one_of h1 (by simpa [o1, k1] using hg 1 f1 rfl)
      obtain ⟨a2, rfl, w2⟩ := one_of h2 (by simpa [o2, k2] using hg 2 f2 rfl)
      exact ⟨⟨a0, a1, a2⟩, rfl, w0, w1, w2⟩

theorem args_recs4 {t e : TypeId} {f0 f1 f2 f3 : Field} {A : Option Addr} {n c : Nat} {d : DataW H} {ps : List MemPlace} (ht : P.underlying t = some (.slice e)) (hC : P.cellsOf e = 4) (he : P.underlying e = some (.struct #[f0, f1, f2, f3])) (hone : oneCellFields P #[f0, f1, f2, f3] = true)
    (h0 : P.underlying f0.type = some (.int .i64)) (h1 : P.underlying f1.type = some (.int .i64)) (h2 : P.underlying f2.type = some (.int .i64)) (h3 : P.underlying f3.type = some (.int .i64)) (h : DataW.Trod enc P w base spare held t (.slice A n c) d ps) : ∃ xs : List R4, Args 4 w A n (rows R4.vs xs) ∧ (∀ x ∈ xs, x.wf) ∧ n ≤ maxLen := by
  refine args_of_trod R4.vs R4.wf R4.vs_len (by omega) ht hC (fun fuel cs x hx => ?_) h
  obtain ⟨xs, n', _, hx', hcl, hlen, hg⟩ := DataW.trod_struct he hx
  obtain ⟨o0, k0⟩ := hone_of hone 0 f0 rfl
  obtain ⟨o1, k1⟩ := hone_of hone 1 f1 rfl
  obtain ⟨o2, k2⟩ := hone_of hone 2 f2 rfl
  obtain ⟨o3, k3⟩ := hone_of hone 3 f3 rfl
  rw [hC] at hcl
  match cs, hcl with
  | [c0, c1, c2, c3], _ =>
    match xs, hlen with
    | [y0, y1, y2, y3], _ =>
      obtain ⟨a0, rfl, w0⟩ := one_of h0 (by simpa [o0, k0] using hg 0 f0 rfl)
      obtain ⟨a1, rfl, w1⟩ := one_of h1 (by simpa [o1, k1] using hg 1 f1 rfl)
      obtain ⟨a2, rfl, w2⟩ := one_of h2 (by simpa [o2, k2] using hg 2 f2 rfl)
      obtain ⟨a3, rfl, w3⟩ := one_of h3 (by simpa [o3, k3] using hg 3 f3 rfl)
      exact ⟨⟨a0, a1, a2, a3⟩, rfl, w0, w1, w2, w3⟩
end
end Go.Proofs.YtkiaclajjlidoaaGreatDoor

/- The law FnExactFuncToLam returns true for every input, and each argument reads afterwards as before. No conditions. -/
namespace Go.Proofs.YtkiaclajjlidoaaGreatDoor.lawFuncToLam
open Go.ChangeShapes Go.WideShapes Go.ChangeAt Go.RowKit Go.Deep
open Go.ChangeMaps (open_string shut_string)

set_option maxRecDepth 100000 in
theorem lifted (os : Os) (started : os.Started) (H : Type) (enc : TypeId × Value → H) :
    ReturnsInHanded {} Tryz.checked os 4 .any (fun w args => (Rows.fnExactFuncToLamSpec.pre enc Tryz.prog Tryz.f4 Rows.fnExactFuncToLamRow.domain false w args ∧ laidMetH Tryz.prog Rows.fnExactFuncToLamRow.laid w) ∧ sizedMet enc Tryz.prog Tryz.f4 (OpenSpec.ofChange Rows.fnExactFuncToLamSpec) false w args) (Rows.fnExactFuncToLamSpec.post enc Tryz.prog Tryz.f4 false true false false) := by
  refine returnsInHanded_of_change_and (C := Tryz.checked) (X := fun w _ => laidMetH Tryz.prog Rows.fnExactFuncToLamRow.laid w) (fun _ _ _ hh h => h.of_heap hh) own started (by kernel_rfl) Tryz.func4
    (ChangeSpec.witness_shaped (enc := enc) (C := Tryz.checked) (os := os) (X := fun w _ => laidMetH Tryz.prog Rows.fnExactFuncToLamRow.laid w) false (World.laidAll Tryz.prog os Rows.fnExactFuncToLamRow.laid) #[.slice none 0 0] 8 (World.laidAll_os _ _ _)
      (World.shaped_of_ZipB (by kernel_rfl) (by kernel_rfl)) (by kernel_rfl) (by kernel_rfl) (by kernel_rfl)
      (by rw [MakeChecks.laidMetH_plain _ _ _ (by kernel_rfl)]; exact laidMet_laidAll _ (by kernel_rfl) (by kernel_rfl))) ?_
  intro W base args ds gs before hval0 hW hcnd _ hL _
  have hval : ∀ (j : Nat) t v, Tryz.f4.params[j]? = some t → args[j]? = some v → Value.okWide Tryz.prog W .any base t v := hval0
  have hW' := hW
  obtain ⟨p, q, hA0, hV, rfl, hfz, hnd⟩ := hW
  have hA : DataW.TrodAll enc Tryz.prog W 0 (fun _ => true) true Tryz.f4.params.toList args.toList ds p := hA0
  rw [Tryz.params4] at hA hval
  obtain ⟨v0, vs0, d0, ds0, p0, q0, hargs, rfl, rfl, h0, r0⟩ := trodAll_cons hA
  obtain ⟨rfl, rfl, rfl⟩ := trodAll_nil r0
  obtain rfl : args = #[v0] := by cases args; simp_all
  obtain ⟨rfl, rfl⟩ := trodVars_none hV
  obtain ⟨a0, len0, cap0, rfl⟩ := okWide_slice Tryz.underlying34 (hval 0 34 v0 rfl rfl)
  have k0 := h0
  have lt0 : ∀ x ∈ p0, x.block < W.heap.size := by obtain ⟨m, hm⟩ := k0; exact DataW.trod_lt m _ _ _ hm
  obtain ⟨z0, g0, f0, m0⟩ := args_recs3 Tryz.underlying34 (by kernel_rfl) Tryz.underlying62 (by kernel_rfl) Tryz.underlying2 Tryz.underlying2 Tryz.underlying2 h0
  clear hA0 hval0
  refine (walkFuncToLam a0 len0 cap0 z0 W g0 m0 f0).mono fun e W' ⟨he, bel⟩ => ?_
  subst he
  exact ⟨_, rfl, _, _, _, [], _, [], hW', trodAll_mk1 (shut_bool Tryz.underlying4 _), (trodAll_cons_mk (Below.trod laidOut (by kernel_rfl) (of_decide_eq_true (by kernel_rfl)) k0 bel lt0) trodAll_mk0), rfl, bel.frame _, fun h => by cases h⟩

theorem factA : Tryz.pinned.checked.prog.funcNamed Rows.fnExactFuncToLamRow.func = some 4 := by kernel_rfl
theorem factB0 : (Rows.fnExactFuncToLamRow.wf (OpenSpec.ofChange Rows.fnExactFuncToLamSpec)) = true := by kernel_rfl
theorem factB3 : (Tryz.f4.params.all (Tryz.pinned.checked.prog.readableRec ·)) = true := by kernel_rfl
theorem factB4 : (namedTie Tryz.pinned.checked.prog Rows.fnExactFuncToLamRow.named Rows.fnExactFuncToLamSpec.vars) = true := by kernel_rfl
theorem factB5 : (Rows.fnExactFuncToLamRow.stops == []) = true := by kernel_rfl
theorem factB7 : (Rows.fnExactFuncToLamRow.knobs == []) = true := by kernel_rfl
theorem factB9 : (Rows.fnExactFuncToLamRow.inPlace == Tryz.pinned.checked.prog.inPlace 4) = true := by kernel_rfl
theorem factB10 : (Rows.fnExactFuncToLamRow.unfollowed == Tryz.pinned.checked.prog.unfollowed 4) = true := by kernel_rfl
theorem factB11 : (Rows.fnExactFuncToLamRow.recurses == Tryz.pinned.checked.prog.recurses 4) = true := by kernel_rfl
theorem factB12 : (Rows.fnExactFuncToLamRow.named == Tryz.pinned.checked.prog.varsNamed 4) = true := by kernel_rfl
theorem factB13 : (Rows.fnExactFuncToLamRow.maps == (Tryz.f4.params.toList ++ Rows.fnExactFuncToLamSpec.plain.varTypes Tryz.pinned.checked.prog).any (Tryz.pinned.checked.prog.mapsRec ·)) = true := by kernel_rfl
theorem factB14 : (Rows.fnExactFuncToLamRow.ifaces == (Tryz.f4.params.toList ++ Rows.fnExactFuncToLamSpec.plain.varTypes Tryz.pinned.checked.prog).any (Tryz.pinned.checked.prog.ifacesRec ·)) = true := by kernel_rfl
theorem factB15 : (Rows.fnExactFuncToLamRow.mapsOut == Tryz.pinned.checked.prog.mapsAmong Tryz.f4.resultTypes.toList) = true := by kernel_rfl
theorem factB16 : (Rows.fnExactFuncToLamRow.loops == (Tryz.f4.params.toList ++ Rows.fnExactFuncToLamSpec.plain.varTypes Tryz.pinned.checked.prog).any (Tryz.pinned.checked.prog.loopsFrom ·)) = true := by kernel_rfl
theorem factB17 : (Rows.fnExactFuncToLamRow.wideKeys == (Tryz.f4.params.toList ++ Rows.fnExactFuncToLamSpec.plain.varTypes Tryz.pinned.checked.prog ++ Tryz.f4.resultTypes.toList).any (Tryz.pinned.checked.prog.wideKeysFrom ·)) = true := by kernel_rfl
theorem factB18 : (Rows.fnExactFuncToLamSpec.vars.all (Tryz.pinned.checked.prog.varReadable ·)) = true := by kernel_rfl
theorem factB19 : (Tryz.f4.resultTypes.all (fun t => Tryz.pinned.checked.prog.readableRec t && decide (t < Tryz.pinned.checked.prog.types.size))) = true := by kernel_rfl
theorem factB20 : (Rows.fnExactFuncToLamRow.ifacesOut == Tryz.f4.resultTypes.toList.any (Tryz.pinned.checked.prog.ifacesRec ·)) = true := by kernel_rfl
theorem factB21 : (Rows.fnExactFuncToLamRow.loopsOut == Tryz.f4.resultTypes.toList.any (Tryz.pinned.checked.prog.loopsFrom ·)) = true := by kernel_rfl
theorem factB23 : (Rows.fnExactFuncToLamRow.shortTexts.isNone) = true := by kernel_rfl
theorem factB28 : (Rows.fnExactFuncToLamRow.kinds == (if Rows.fnExactFuncToLamRow.domain.isEmpty then [] else Tryz.f4.params.toList.map fun t => match Tryz.pinned.checked.prog.underlying t with | some (.int k) => some k | _ => none)) = true := by kernel_rfl
theorem factB29 : (Rows.fnExactFuncToLamRow.pinned == Rows.fnExactFuncToLamRow.pinnedBy) = true := by kernel_rfl
theorem factB30 : (Rows.fnExactFuncToLamRow.veiled == (Tryz.f4.params.toList ++ Rows.fnExactFuncToLamSpec.plain.varTypes Tryz.pinned.checked.prog ++ Tryz.f4.resultTypes.toList).any (Tryz.pinned.checked.prog.veiledRec ·)) = true := by kernel_rfl
theorem factB31 : (Rows.fnExactFuncToLamRow.veiledFits Tryz.pinned.checked.prog Tryz.f4.params.toList (Tryz.f4.params.toList ++ Rows.fnExactFuncToLamSpec.plain.varTypes Tryz.pinned.checked.prog ++ Tryz.f4.resultTypes.toList)) = true := by kernel_rfl
set_option maxRecDepth 100000 in
theorem factB : joinedFacts Tryz.pinned.checked.prog 4 Tryz.f4 Rows.fnExactFuncToLamSpec Rows.fnExactFuncToLamRow = true := by
  unfold joinedFacts
  exact (pf.band (pf.band (pf.band (pf.band (pf.band (pf.band (pf.band (pf.band (pf.band (pf.band (pf.band (pf.band (pf.band (pf.band (pf.band (pf.band (pf.band (pf.band (pf.band (pf.band (pf.band (pf.band (pf.band (pf.band (pf.band (pf.band (pf.band (pf.band (pf.band (pf.band (pf.band factB0 pf.laid) pf.mapsRow) factB3) factB4) factB5) pf.stops) factB7) pf.stopKnobs) factB9) factB10) factB11) factB12) factB13) factB14) factB15) factB16) factB17) factB18) factB19) factB20) factB21) (by show (Rows.fnExactFuncToLamRow.plainKeys == Tryz.pinned.checked.prog.plainKeys) = true; rw [pf.plainKeys]; kernel_rfl)) factB23) pf.heard) pf.enter) (by show (Rows.fnExactFuncToLamRow.lifted == Tryz.pinned.checked.prog.liftsFinal) = true; rw [pf.lifts]; kernel_rfl)) (by show (Tryz.pinned.checked.prog.make == some Rows.fnExactFuncToLamRow.make) = true; rw [pf.make]; kernel_rfl)) factB28) factB29) factB30) factB31)
theorem factC : decide (Func.isInstance Tryz.pinned.checked.prog Tryz.f4 Rows.fnExactFuncToLamRow.origin Rows.fnExactFuncToLamRow.targs) = true := by kernel_rfl
theorem factD : Func.isWrapper Tryz.pinned.checked.prog Tryz.f4 Rows.fnExactFuncToLamRow.wrapper Rows.fnExactFuncToLamRow.mainSum := by
  unfold Func.isWrapper; first | (rw [if_pos (by decide +kernel)]; kernel_rfl) | (rw [if_neg (by decide +kernel)]; exact ⟨rfl, rfl⟩)

theorem over : Rows.fnExactFuncToLamRow.holds Tryz.pinned (OpenSpec.ofChange Rows.fnExactFuncToLamSpec) :=
  OpenClaim.holds_of_wide 4 Tryz.f4 rfl rfl rfl rfl rfl rfl rfl ⟨rfl, rfl, rfl, rfl, rfl⟩ rfl rfl rfl rfl rfl factA Tryz.func4 factB (of_decide_eq_true factC) factD
    (fun os started H enc _ => lifted os started H enc)

/-- The statement. -/
theorem proved : Rows.FnExactFuncToLamCardSaid :=
  Claim7.holds_tied_plain_at .later [] [.data, .data, .data, .data, .sentinel, .sentinel, .pinned] true (true, "02bdd44d8747e0a8ac7a15b68a3f8dc86a02d6f71f0122180596a71c94cdedee") true over (fun _ h => by cases h) (by kernel_rfl) (fun _ h => by cases h) fnExactFuncToLam_row_tie rfl ⟨rfl, rfl⟩ (by kernel_rfl) rfl
    (fun f fn hf hfn => by
      obtain rfl : f = 4 := Option.some.inj (factA.symm.trans hf) |>.symm
      obtain rfl : fn = Tryz.f4 := (Option.some.inj (Tryz.func4.symm.trans hfn)).symm
      exact ⟨by kernel_rfl, fun j t ht => by
        rw [Tryz.params4] at ht
        have hm : t ∈ [34] := by simpa using Array.mem_of_getElem? ht
        have hall : ([34].all fun u => !Tryz.prog.wantsStandIn u) = true := by kernel_rfl
        exact (show Tryz.prog.wantsStandIn t = false by simpa using List.all_eq_true.1 hall t hm)⟩)
    (by kernel_rfl)
#print axioms proved
end Go.Proofs.YtkiaclajjlidoaaGreatDoor.lawFuncToLam
