/- The law FnExactFuncToLam returns true for every input, and each argument reads afterwards as before: the proof, part 5. No conditions. -/
import Derived.Test.YtkiaclajjlidoaaGreatDoorFuncToLamZd
import Derived.StillTailTactics
/- Lambda terms of recursive functions, by the program: variables, numeralLam at 0, repeatStep, leastLoop. -/
namespace Go.Proofs.YtkiaclajjlidoaaGreatDoor
open Go.RowKit
set_option linter.all false

theorem vL_at {n k wi j : Nat} (h : j < n - k) : (vL n k wi)[j]? = some (.v (n - 1 - (k + j) + wi)) := by
  unfold vL
  rw [List.getElem?_map, List.getElem?_range h]; rfl
theorem take_snocL {α : Type} {l : List α} {j : Nat} {x : α} (h : l[j]? = some x) : l.take (j + 1) = l.take j ++ [x] := by
  rw [List.take_add_one, h]; rfl
set_option maxRecDepth 100000 in
set_option maxHeartbeats 2000000 in
theorem varsT (n k wi : Nat) (hn : n ≤ 10) (hk : k ≤ n) (hw : wi ≤ 10) (w : World) :
    Calls Tryz.prog 80 #[.int .i64 n, .int .i64 k, .int .i64 wi] w fun e w' => (∃ v, e = .returned v ∧ RdTs w' v (vL n k wi) ∧ capOk v) ∧ Below w.heap.size w w' := by
  obtain ⟨d, hd⟩ : ∃ d, n - k = d := ⟨_, rfl⟩
  have HM0 := Lib.hid (GRow.start w _ rfl)
  have HVL : Hid (vL n k wi = (vL n k wi).take d) := by unfold Hid; rw [List.take_of_length_le (by rw [vL_len]; omega)]
  go_enter Tryz.func80, Tryz.ntmps80
  go_wp2_with fail
  go_loopw [7, 8] (fun o i wr => ∃ (j g c : Nat), i = .int .i64 ((k + j : Nat) : Int) ∧ o = .slice (some ⟨g, 0, none⟩) j c ∧ j ≤ d ∧ Hid (GRow w g j c ((vL n k wi).take j) wr)) (fun _ i _ => n - (intOf i).toNat)
  case atStart => exact ⟨0, _, _, rfl, rfl, by omega, HM0⟩
  case round =>
    obtain ⟨j, g, c, rfl, rfl, hj, HG⟩ := hrel
    clear HM0
    by_cases hjd : j < d
    · obtain ⟨q, hq⟩ : ∃ q, k + j = q := ⟨_, rfl⟩
      rw [hq]
      have hqn : (q : Int) < (n : Int) := by omega
      obtain ⟨z, hz⟩ : ∃ z, n - 1 - q + wi = z := ⟨_, rfl⟩
      have hw1 : IntKind.i64.wrap ((n : Int) - 1) = (n : Int) - 1 := IntWalk.i64_in _ (by omega)
      have hw2 : IntKind.i64.wrap ((n : Int) - 1 - (q : Int)) = (n : Int) - 1 - (q : Int) := IntWalk.i64_in _ (by omega)
      have hw3 : IntKind.i64.wrap ((n : Int) - 1 - (q : Int) + (wi : Int)) = (z : Int) := by rw [IntWalk.i64_in _ (by omega)]; omega
      have hw4 : IntKind.i64.wrap ((q : Int) + 1) = (q : Int) + 1 := IntWalk.i64_in _ (by omega)
      have HQ : Hid (k + (j + 1) = q + 1) := by unfold Hid; omega
      have HTK : Hid ((vL n k wi).take (j + 1) = (vL n k wi).take j ++ [.v z]) := by unfold Hid; rw [take_snocL (vL_at (by omega)), hq, hz]
      have HLV := Lib.hid (lamVarB (z : Int))
      have HNQ : Hid (q < n) := by unfold Hid; omega
      clear hq hz
      go_wp2_with fail
      refine (HLV.out _).mono ?_
      rintro e w2 ⟨rfl, b2⟩
      obtain ⟨w4, HW4, b4, x4, y4⟩ := al2 w2 (.cells #[.int .i64 0, .int .i64 (z : Int)] 45) (.cells #[.slice (some ⟨w2.heap.size, 0, none⟩) 1 1] 24)
      have HG4 := Lib.hid (HG.out.below (below_step b2 b4))
      obtain ⟨vs, hv1, hv2⟩ := HG4.out.els
      have hu : w4.ownsRow w.heap.size 45 2 (.slice (some ⟨w2.heap.size, 0, none⟩) 1 1) (LTm.v z).flat.length (rows R2.vs (LTm.v z).flat) :=
        own_of_block (n := 1) (cap := 1) (s := 2) (xs := [.int .i64 0, .int .i64 (z : Int)]) x4 (by have := HG.out.frame.size; have := b2.size; omega) rfl (Nat.le_refl _) (by unfold maxLen; omega)
      have src4 : Src 1 w4 (.slice (some ⟨w2.heap.size + 1, 0, none⟩) 1 1) 1 [.slice (some ⟨w2.heap.size, 0, none⟩) 1 1] := Src.of_own (own_of_block (n := 1) (cap := 1) (s := 1) (xs := [.slice (some ⟨w2.heap.size, 0, none⟩) 1 1]) (base := 0) y4 (by omega) rfl (by omega) (by unfold maxLen; omega))
      have HV1 := Lib.hid hv1; have HV2 := Lib.hid hv2; have HU := Lib.hid hu
      have hbz := HG4.out.frame.size
      have hd10 : d ≤ 10 := by omega
      clear x4 y4 b4 b2 hu hv2
      go_wp2_with (at_builtin; rw [← HW4.out]; refine wpList_appx rfl _ _ _ rfl Tryz.underlying73 infoLamE rfl (by omega) w.heap.size hv1 hbz rfl src4 rfl (by simp [Value.oneCell']) (by unfold maxLen; omega) (by omega) ?_; intro V5 w5 own5 hg5 hnil5; obtain ⟨A5, c5, rfl⟩ := own_form own5; obtain ⟨g5, rfl, _, _⟩ := own_addr0 own5 (by omega))
      have HG5 : Hid (GRow w g5 (j + 1) c5 ((vL n k wi).take (j + 1)) w5) := by
        unfold Hid; rw [HTK.out]
        exact HG4.out.put HV1.out HV2.out HG4.out.frame HU.out (by simp [LTm.flat]) own5 hg5
      clear own5 hg5 hnil5 src4 hv1
      go_roundw
      case rel => exact ⟨j + 1, g5, c5, by rw [HQ.out]; go_num, rfl, by omega, HG5⟩
      case measure => have := HNQ.out; simp [intOf]; omega
    · obtain rfl : j = d := by omega
      have hqn : ¬ ((k + j : Nat) : Int) < (n : Int) := by omega
      obtain ⟨q, hq⟩ : ∃ q, k + j = q := ⟨_, rfl⟩
      rw [hq] at hqn ⊢
      clear hq
      go_wp2_with fail
      go_ret
      exact ⟨⟨_, rfl, by rw [HVL.out]; exact HG.out.rd, HG.out.cap⟩, HG.out.frame⟩

theorem numeralZ (w : World) :
    Calls Tryz.prog 81 #[.int .i64 0] w fun e w' => (∃ v, e = .returned v ∧ RdT w' v numT0) ∧ Below w.heap.size w w' := by
  have HLV := Lib.hid (lamVarB 0)
  have HAB := Lib.hid (fun x W hx => abstractT 2 x (.v 0) W hx (by omega) (by simp [LTm.flat]))
  go_enter Tryz.func81, Tryz.ntmps81
  go_wp2_with fail
  refine (HLV.out _).mono ?_
  rintro e w1 ⟨rfl, b1⟩
  obtain ⟨w2, HW2, b2, hr⟩ := alV w1 0
  rw [show ((0 : Nat) : Int) = 0 from rfl] at HW2
  have HB2 := Lib.hid (below_step b1 b2)
  have HR := Lib.hid hr
  clear hr b1 b2
  go_wp2_with fail
  rw [← HW2.out]
  go_loopw [3, 7] (fun o i wr => i = .int .i64 0 ∧ o = .slice (some ⟨w1.heap.size, 0, none⟩) 1 1 ∧ wr = w2) (fun _ _ _ => 0)
  case atStart => exact ⟨rfl, rfl, rfl⟩
  case round =>
    obtain ⟨rfl, rfl, rfl⟩ := hrel
    go_wp2_with fail
    refine (HAB.out _ _ HR.out).mono ?_
    rintro e w3 ⟨⟨v, rfl, h3⟩, b3⟩
    have H3 := Lib.hid h3
    go_wp2_with fail
    go_ret
    exact ⟨⟨_, rfl, H3.out⟩, below_step HB2.out b3⟩

set_option maxRecDepth 100000 in
set_option maxHeartbeats 4000000 in
theorem repeatStepT (n : Nat) (x : Value) (p : LTm) (w : World) (hx : RdT w x p) (hn1 : 1 ≤ n) (hn : n ≤ 4) (hp : p.flat.length ≤ 400) :
    Calls Tryz.prog 83 #[.int .i64 n, x] w fun e w' => (∃ v, e = .returned v ∧ RdT w' v (repT n p)) ∧ Below w.heap.size w w' := by
  have HM := Lib.hid (repT_len hn hp)
  have hvl : (appsL p ([.v 1, .v 0] ++ vL n 1 3)).flat.length ≤ 412 := appsW_len hn hp (by simp) (by intro a ha; simp at ha; rcases ha with rfl | rfl <;> simp [LTm.flat])
  have HVL := Lib.hid hvl
  have HNL := Lib.hid next_len
  have HNX := fun W => lamOfT ⟨#[94, 94, 94, 40, 49, 32, 40, 40, 50, 32, 49, 41, 32, 48, 41, 41]⟩ txNext rfl txNext_ok W
  have HNT := Lib.hid HNX
  have HX := Lib.hid hx
  have HI : Hid (appsL nextT [.v 1] = appsL nextT [.v 1]) := rfl
  have hin : (appsL (.v 2) [appsL nextT [.v 1], appsL p ([.v 1, .v 0] ++ vL n 1 3)]).flat.length ≤ 490 := by
    have := HM.out
    unfold repT at this
    rw [absL_len] at this; omega
  have HIN := Lib.hid hin
  have HAP : Hid ((appsL nextT [.v 1]).flat.length ≤ 62) := by
    have := next_len
    unfold Hid; rw [appsL_len]; simp [flats, LTm.flat]; omega
  have HVN : Hid ((vL n 1 3).length ≤ 100) := by unfold Hid; rw [vL_len]; omega
  clear hvl HNX hx hin HI hp
  go_enter Tryz.func83, Tryz.ntmps83
  go_wp2_with fail
  refine (lamVarB 2 _).mono ?_
  rintro e w1 ⟨rfl, b1⟩
  obtain ⟨w2, HW2, b2, r2⟩ := alV w1 2
  rw [show ((2 : Nat) : Int) = 2 from rfl] at HW2
  have HB := Lib.hid (below_step b1 b2)
  have R2_ := Lib.hid r2
  clear b1 b2 r2
  go_wp2_with fail
  rw [← HW2.out]
  refine (lamVarB 1 _).mono ?_
  rintro e w3 ⟨rfl, b1⟩
  obtain ⟨w4, HW4, b2, r1⟩ := alV w3 1
  rw [show ((1 : Nat) : Int) = 1 from rfl] at HW4
  have HB4 := Lib.hid (below_step b1 b2)
  have R1_ := Lib.hid r1
  clear b1 b2 r1
  go_wp2_with fail
  rw [← HW4.out]
  refine (lamVarB 0 _).mono ?_
  rintro e w5 ⟨rfl, b1⟩
  obtain ⟨w6, HW6, b2, r0⟩ := alV w5 0
  rw [show ((0 : Nat) : Int) = 0 from rfl] at HW6
  have B6 := below_step b1 b2
  have R1b := R1_.out.below B6
  obtain ⟨w7, HW7, b7, hl7, hs7⟩ := alL w6 [.slice (some ⟨w3.heap.size, 0, none⟩) 1 1, .slice (some ⟨w5.heap.size, 0, none⟩) 1 1] [.v 1, .v 0] ⟨R1b, by simp [LTm.flat], r0, by simp [LTm.flat], trivial⟩
  have HB7 := Lib.hid (below_step HB.out (below_step HB4.out (below_step B6 b7)))
  have HRL : Hid (RdL w7 [.slice (some ⟨w3.heap.size, 0, none⟩) 1 1, .slice (some ⟨w5.heap.size, 0, none⟩) 1 1] [.v 1, .v 0]) := ⟨R1b.below b7, by simp [LTm.flat], r0.below b7, by simp [LTm.flat], trivial⟩
  rw [show w6.heap.size = w5.heap.size + 1 by rw [HW6.out]; simp] at hs7
  have HS7 := Lib.hid hs7
  have HR2 := Lib.hid (R2_.out.below (below_step HB4.out (below_step B6 b7)))
  have HR1 := Lib.hid (R1b.below b7)
  clear b1 b2 b7 hl7 hs7 R1b r0 B6
  go_wp2_with fail
  rw [← HW6.out]
  go_wp2_with fail
  rw [← HW7.out]
  refine (varsT n 1 3 (by omega) (by omega) (by omega) _).mono ?_
  rintro e w8 ⟨⟨v8, rfl, r8, c8⟩, b8⟩
  have R8 := Lib.hid r8
  have HB8 := Lib.hid b8
  clear r8 b8 c8
  go_wp2_with (at_builtin; refine wpList_litvars rfl _ _ rfl rfl rfl (by omega) (by omega) (HS7.out.below' HB8.out) (RdL.below HB8.out HRL.out) rfl R8.out HVN.out ?_; intro v9 w9 r9 b9)
  have R9 := Lib.hid r9
  have HB9 := Lib.hid (below_step HB8.out b9)
  clear r9 b9
  refine (HNT.out _).mono ?_
  rintro e w10 ⟨⟨v10, rfl, r10⟩, b10⟩
  have r1 := (HR1.out.below HB9.out).below b10
  obtain ⟨w11, HW11, b11, r11, _⟩ := alL w10 [.slice (some ⟨w3.heap.size, 0, none⟩) 1 1] [.v 1] ⟨r1, by simp [LTm.flat], trivial⟩
  have R11 := Lib.hid r11
  have HB11 := Lib.hid (below_step b10 b11)
  have R10 := Lib.hid (r10.below b11)
  clear r10 r11 b10 b11 r1
  go_wp2_with fail
  rw [← HW11.out]
  refine (applyT _ _ nextT [.v 1] _ R10.out R11.out (by have := HAP.out; omega)).mono ?_
  rintro e w12 ⟨⟨v12, rfl, r12⟩, b12⟩
  obtain ⟨A12, n12, c12, rfl⟩ := r12.form
  have HB12 := Lib.hid (below_step HB11.out b12)
  have R12 := Lib.hid r12
  clear r12 b12
  go_wp2_with fail
  refine (applyT _ _ p _ _ (HX.out.below (below_step HB7.out (below_step HB9.out HB12.out))) (R9.out.below HB12.out) (by have := HVL.out; omega)).mono ?_
  rintro e w13 ⟨⟨v13, rfl, r13⟩, b13⟩
  obtain ⟨A13, n13, c13, rfl⟩ := r13.form
  obtain ⟨w14, HW14, b14, r14, _⟩ := alL w13 [.slice A12 n12 c12, .slice A13 n13 c13] [appsL nextT [.v 1], appsL p ([.v 1, .v 0] ++ vL n 1 3)] ⟨R12.out.below b13, by have := HAP.out; omega, r13, by have := HVL.out; omega, trivial⟩
  have R14 := Lib.hid r14
  have HB14 := Lib.hid (below_step HB12.out (below_step b13 b14))
  clear r13 r14 b13 b14
  go_wp2_with fail
  rw [← HW14.out]
  refine (applyT _ _ (.v 2) _ _ (HR2.out.below (below_step HB9.out HB14.out)) R14.out (by have := HIN.out; omega)).mono ?_
  rintro e w15 ⟨⟨v15, rfl, r15⟩, b15⟩
  have R15 := Lib.hid r15
  have HB15 := Lib.hid (below_step HB14.out b15)
  clear r15 b15
  go_wp2_with fail
  refine (abstractT 3 _ _ _ R15.out (by omega) (by have := HIN.out; omega)).mono ?_
  rintro e w16 ⟨⟨v16, rfl, r16⟩, b16⟩
  have R16 := Lib.hid r16
  clear r16
  go_wp2_with fail
  go_ret
  exact ⟨⟨_, rfl, R16.out⟩, below_step HB7.out (below_step HB9.out (below_step HB15.out b16))⟩

set_option maxRecDepth 100000 in
set_option maxHeartbeats 4000000 in
theorem leastLoopT (n : Nat) (x : Value) (p : LTm) (w : World) (hx : RdT w x p) (hn : n ≤ 4) (hp : p.flat.length ≤ 400) :
    Calls Tryz.prog 84 #[.int .i64 n, x] w fun e w' => (∃ v, e = .returned v ∧ RdT w' v (leastT n p)) ∧ Below w.heap.size w w' := by
  have HM := Lib.hid (leastT_len hn hp)
  have HVL : Hid ((appsL p ([.v 0] ++ vL n 0 2)).flat.length ≤ 412) := appsW_len hn hp (by simp) (by intro a ha; simp at ha; subst ha; simp [LTm.flat])
  have HAG := Lib.hid againT_len
  have HNT := Lib.hid (fun W => lamOfT ⟨#[94, 94, 94, 40, 49, 32, 40, 40, 50, 32, 49, 41, 32, 48, 41, 41]⟩ txNext rfl txNext_ok W)
  have HX := Lib.hid hx
  have HIN : Hid ((appsL (appsL p ([.v 0] ++ vL n 0 2)) [againT, .v 0]).flat.length ≤ 490) := by
    have := HM.out
    unfold leastT at this
    rw [absL_len] at this; unfold Hid; omega
  have HIA : Hid ((appsL (.v 2) [.v 2, appsL nextT [.v 1]]).flat.length ≤ 70) := by
    have := HAG.out
    unfold againT at this
    rw [absL_len] at this; unfold Hid; omega
  have HAP : Hid ((appsL nextT [.v 1]).flat.length ≤ 62) := by
    have := next_len
    unfold Hid; rw [appsL_len]; simp [flats, LTm.flat]; omega
  have HVN : Hid ((vL n 0 2).length ≤ 100) := by unfold Hid; rw [vL_len]; omega
  clear hx hp
  go_enter Tryz.func84, Tryz.ntmps84
  go_wp2_with fail
  refine (lamVarB 0 _).mono ?_
  rintro e w1 ⟨rfl, b1⟩
  obtain ⟨w2, HW2, b2, r0⟩ := alV w1 0
  rw [show ((0 : Nat) : Int) = 0 from rfl] at HW2
  obtain ⟨w3, HW3, b3, hl3, hs3⟩ := alL w2 [.slice (some ⟨w1.heap.size, 0, none⟩) 1 1] [.v 0] ⟨r0, by simp [LTm.flat], trivial⟩
  have HB3 := Lib.hid (below_step (below_step b1 b2) b3)
  have HRL : Hid (RdL w3 [.slice (some ⟨w1.heap.size, 0, none⟩) 1 1] [.v 0]) := ⟨r0.below b3, by simp [LTm.flat], trivial⟩
  rw [show w2.heap.size = w1.heap.size + 1 by rw [HW2.out]; simp] at hs3
  have HS3 := Lib.hid hs3
  have HR0 := Lib.hid (r0.below b3)
  clear b1 b2 b3 hl3 hs3 r0
  go_wp2_with fail
  rw [← HW2.out]
  go_wp2_with fail
  rw [← HW3.out]
  refine (varsT n 0 2 (by omega) (by omega) (by omega) _).mono ?_
  rintro e w4 ⟨⟨v4, rfl, r4, c4⟩, b4⟩
  have R4 := Lib.hid r4
  have HB4 := Lib.hid b4
  clear r4 b4 c4
  go_wp2_with (at_builtin; refine wpList_litvars rfl _ _ rfl rfl rfl (by omega) (by omega) (HS3.out.below' HB4.out) (RdL.below HB4.out HRL.out) rfl R4.out HVN.out ?_; intro v5 w5 r5 b5)
  have R5 := Lib.hid r5
  have HB5 := Lib.hid (below_step HB4.out b5)
  clear r5 b5
  refine (lamVarB 2 _).mono ?_
  rintro e w6 ⟨rfl, b1⟩
  obtain ⟨w7, HW7, b2, r2⟩ := alV w6 2
  rw [show ((2 : Nat) : Int) = 2 from rfl] at HW7
  have HB7 := Lib.hid (below_step b1 b2)
  have R2_ := Lib.hid r2
  clear b1 b2 r2
  go_wp2_with fail
  rw [← HW7.out]
  refine (HNT.out _).mono ?_
  rintro e w8 ⟨⟨v8, rfl, r8⟩, b8⟩
  have R8 := Lib.hid r8
  have HB8 := Lib.hid b8
  clear r8 b8
  go_wp2_with fail
  refine (lamVarB 1 _).mono ?_
  rintro e w9 ⟨rfl, b1⟩
  obtain ⟨w10, HW10, b2, r1⟩ := alV w9 1
  rw [show ((1 : Nat) : Int) = 1 from rfl] at HW10
  obtain ⟨w11, HW11, b3, r11, _⟩ := alL w10 [.slice (some ⟨w9.heap.size, 0, none⟩) 1 1] [.v 1] ⟨r1, by simp [LTm.flat], trivial⟩
  have B11 := below_step (below_step b1 b2) b3
  rw [show w10.heap.size = w9.heap.size + 1 by rw [HW10.out]; simp] at r11
  have R11 := Lib.hid r11
  have HB11 := Lib.hid (below_step HB8.out B11)
  have R8b := Lib.hid (R8.out.below B11)
  clear b1 b2 b3 r1 r11 B11
  go_wp2_with fail
  rw [← HW10.out]
  go_wp2_with fail
  rw [← HW11.out]
  refine (applyT _ _ nextT [.v 1] _ R8b.out R11.out (by have := HAP.out; omega)).mono ?_
  rintro e w12 ⟨⟨v12, rfl, r12⟩, b12⟩
  obtain ⟨A12, n12, c12, rfl⟩ := r12.form
  have r2 := R2_.out.below (below_step HB11.out b12)
  obtain ⟨w13, HW13, b13, r13, _⟩ := alL w12 [.slice (some ⟨w6.heap.size, 0, none⟩) 1 1, .slice A12 n12 c12] [.v 2, appsL nextT [.v 1]] ⟨r2, by simp [LTm.flat], r12, by have := HAP.out; omega, trivial⟩
  have R13 := Lib.hid r13
  have R2b := Lib.hid (r2.below b13)
  have HB13 := Lib.hid (below_step HB11.out (below_step b12 b13))
  clear r12 b12 r2 r13 b13
  go_wp2_with fail
  rw [← HW13.out]
  refine (applyT _ _ (.v 2) _ _ R2b.out R13.out (by have := HIA.out; omega)).mono ?_
  rintro e w14 ⟨⟨v14, rfl, r14⟩, b14⟩
  have R14 := Lib.hid r14
  have HB14 := Lib.hid (below_step HB13.out b14)
  clear r14 b14
  go_wp2_with fail
  refine (abstractT 1 _ _ _ R14.out (by omega) (by have := HIA.out; omega)).mono ?_
  rintro e w15 ⟨⟨v15, rfl, r15⟩, b15⟩
  obtain ⟨A15, n15, c15, rfl⟩ := r15.form
  have R15 := Lib.hid r15
  have HB15 := Lib.hid (below_step HB7.out (below_step HB14.out b15))
  clear r15 b15
  go_wp2_with fail
  refine (applyT _ _ p _ _ (HX.out.below (below_step HB3.out (below_step HB5.out HB15.out))) (R5.out.below HB15.out) (by have := HVL.out; omega)).mono ?_
  rintro e w16 ⟨⟨v16, rfl, r16⟩, b16⟩
  obtain ⟨w17, HW17, b17, r17, _⟩ := alL w16 [.slice A15 n15 c15, .slice (some ⟨w1.heap.size, 0, none⟩) 1 1] [againT, .v 0] ⟨R15.out.below b16, by have := HAG.out; omega, HR0.out.below (below_step HB5.out (below_step HB15.out b16)), by simp [LTm.flat], trivial⟩
  have R17 := Lib.hid r17
  have R16 := Lib.hid (r16.below b17)
  have HB17 := Lib.hid (below_step HB15.out (below_step b16 b17))
  clear r16 r17 b16 b17
  go_wp2_with fail
  rw [← HW17.out]
  refine (applyT _ _ _ _ _ R16.out R17.out (by have := HIN.out; omega)).mono ?_
  rintro e w18 ⟨⟨v18, rfl, r18⟩, b18⟩
  have R18 := Lib.hid r18
  have HB18 := Lib.hid (below_step HB17.out b18)
  clear r18 b18
  go_wp2_with fail
  refine (abstractT 2 _ _ _ R18.out (by omega) (by have := HIN.out; omega)).mono ?_
  rintro e w19 ⟨⟨v19, rfl, r19⟩, b19⟩
  have R19 := Lib.hid r19
  clear r19
  go_wp2_with fail
  go_ret
  exact ⟨⟨_, rfl, R19.out⟩, below_step HB3.out (below_step HB5.out (below_step HB18.out b19))⟩
end Go.Proofs.YtkiaclajjlidoaaGreatDoor

/- Facts for regions walked by facts: a value, a fresh row, a row that reads. Plain words. -/
namespace Go.Proofs.YtkiaclajjlidoaaGreatDoor
open Go.RowKit
set_option linter.all false

theorem kev {a : Act} {t : Tmp} {v : Value} (h : a.eval (.tmp t) = v) : a.tmps[t]?.getD undef = v := by
  rw [Act.eval] at h; simpa using h
def kcst (v : Value) : Fact := ⟨fun x _ => x = v, fun _ _ _ h _ => h⟩
def ksl (n : Nat) (xs : List Value) : Fact := ⟨fun x w => ∃ g, x = .slice (some ⟨g, 0, none⟩) n n ∧ Sl w g 0 xs, fun _ _ _ ⟨g, h, k⟩ hb => ⟨g, h, k.below' hb⟩⟩
def karg (s n : Nat) (xs : List Value) : Fact := ⟨fun x w => ∃ A c, x = .slice A n c ∧ Args s w A n xs, fun _ _ _ ⟨A, c, h, k⟩ hb => ⟨A, c, h, k.below hb⟩⟩
end Go.Proofs.YtkiaclajjlidoaaGreatDoor

/- The body of the lambda term of a recursive function, by the program: lamBody. -/
namespace Go.Proofs.YtkiaclajjlidoaaGreatDoor
open Go.RowKit
set_option linter.all false

def kT (t : LTm) : Fact := ⟨fun v w => RdT w v t, fun _ _ _ h hb => h.below hb⟩
def kTs (ts : List LTm) : Fact := ⟨fun v w => RdTs w v ts, fun _ _ _ h hb => h.below hb⟩
theorem vL_tail (n : Nat) : (vL n 0 0).drop 1 = vL n 1 0 := by
  apply List.ext_getElem?
  intro j
  rw [List.getElem?_drop]
  rcases Nat.lt_or_ge j (n - 1) with h | h
  · rw [vL_at (by omega), vL_at (by omega)]
    congr 2
    omega
  · rw [List.getElem?_eq_none (by rw [vL_len]; omega), List.getElem?_eq_none (by rw [vL_len]; omega)]
theorem getD_of {ps : List LTm} {i : Nat} {p : LTm} (h : ps[i]? = some p) : ps.getD i dT = p := by rw [List.getD_eq_getElem?_getD, h]; rfl
theorem bodyT_0 (n c : Nat) (ps : List LTm) : bodyT 0 n c ps = numT0 := rfl
theorem bodyT_1 (n c : Nat) (ps : List LTm) : bodyT 1 n c ps = appsL nextT [.v 0] := rfl
theorem bodyT_2 (n c : Nat) (ps : List LTm) : bodyT 2 n c ps = .v (n - 1 - c) := rfl
theorem bodyT_3 (n c : Nat) (ps : List LTm) : bodyT 3 n c ps = appsL (ps.getD 0 dT) (innT n ps) := rfl
theorem bodyT_4 (n c : Nat) (ps : List LTm) : bodyT 4 n c ps = appsL (.v (n - 1)) [repT n (ps.getD 1 dT), falseT, numT0, appsL (ps.getD 0 dT) (vL n 1 0)] := rfl
theorem bodyT_5 (n c : Nat) (ps : List LTm) : bodyT 5 n c ps = appsL (leastT n (ps.getD 0 dT)) [leastT n (ps.getD 0 dT), numT0] := rfl
end Go.Proofs.YtkiaclajjlidoaaGreatDoor

/- The body of the lambda term of a recursive function, by the program, kind 0. -/
namespace Go.Proofs.YtkiaclajjlidoaaGreatDoor
open Go.RowKit
set_option linter.all false

set_option maxRecDepth 100000 in
set_option maxHeartbeats 4000000 in
theorem lamBody_0 (b c : Int) (n : Nat) (v : Value) (ps : List LTm) (w : World) (hp : RdTs w v ps) (hcp : capOk v) (hn : n ≤ 4) (hpl : ps.length ≤ 5) (hp4 : ∀ p ∈ ps, p.flat.length ≤ 400)  :
    Calls Tryz.prog 61 #[.agg #[.int .i64 0, .int .i64 b, .int .i64 c], .int .i64 n, v] w fun e w' => (∃ v, e = .returned v ∧ RdT w' v (bodyT 0 n c.toNat ps)) ∧ Below w.heap.size w w' := by
  have HLEN : Hid ((bodyT 0 n c.toNat ps).flat.length ≤ 3000) := bodyT_len hn hpl hp4
  have HP := Lib.hid hp
  have HP4 := Lib.hid hp4
  obtain ⟨w1, HW1, B1, x1⟩ := al1 w (.cells #[.int .i64 0, .int .i64 b, .int .i64 c] 60)
  have X1 := Lib.hid x1
  have HB1 := Lib.hid B1
  rw [bodyT_0] at HLEN ⊢
  clear hp4 x1 B1
  go_enter Tryz.func61, Tryz.ntmps61
  go_wp2_with fail
  rw [← HW1.out]
  refine (varsT n 0 0 (by omega) (by omega) (by omega) _).mono ?_
  rintro e w2 ⟨⟨v7, rfl, r7, c7⟩, b2⟩
  have x2 := (b2.block _ (heap_lt X1.out)).trans X1.out
  have d0 : w2.cell? ⟨w.heap.size, 0, none⟩ = some (.int .i64 0) := by rw [cell_of_heap x2]; rfl
  have d1 : w2.cell? ⟨w.heap.size, 1, none⟩ = some (.int .i64 b) := by rw [cell_of_heap x2]; rfl
  have d2 : w2.cell? ⟨w.heap.size, 2, none⟩ = some (.int .i64 c) := by rw [cell_of_heap x2]; rfl
  have HB2 := Lib.hid (below_step HB1.out b2)
  have R7 := Lib.hid r7
  clear b2 x2 r7
  go_wp2_with fail
  refine (numeralZ _).mono ?_
  rintro e w3 ⟨⟨v3, rfl, r3⟩, b3⟩
  have R3_ := Lib.hid r3
  clear r3
  go_wp2_with fail
  go_ret
  exact ⟨⟨_, rfl, R3_.out⟩, below_step HB2.out b3⟩
end Go.Proofs.YtkiaclajjlidoaaGreatDoor

/- The body of the lambda term of a recursive function, by the program, kind 1. -/
namespace Go.Proofs.YtkiaclajjlidoaaGreatDoor
open Go.RowKit
set_option linter.all false

set_option maxRecDepth 100000 in
set_option maxHeartbeats 4000000 in
theorem lamBody_1 (b c : Int) (n : Nat) (v : Value) (ps : List LTm) (w : World) (hp : RdTs w v ps) (hcp : capOk v) (hn : n ≤ 4) (hpl : ps.length ≤ 5) (hp4 : ∀ p ∈ ps, p.flat.length ≤ 400) (hn1 : n = 1) :
    Calls Tryz.prog 61 #[.agg #[.int .i64 1, .int .i64 b, .int .i64 c], .int .i64 n, v] w fun e w' => (∃ v, e = .returned v ∧ RdT w' v (bodyT 1 n c.toNat ps)) ∧ Below w.heap.size w w' := by
  have HLEN : Hid ((bodyT 1 n c.toNat ps).flat.length ≤ 3000) := bodyT_len hn hpl hp4
  have HP := Lib.hid hp
  have HP4 := Lib.hid hp4
  obtain ⟨w1, HW1, B1, x1⟩ := al1 w (.cells #[.int .i64 1, .int .i64 b, .int .i64 c] 60)
  have X1 := Lib.hid x1
  have HB1 := Lib.hid B1
  rw [bodyT_1] at HLEN ⊢
  have HN1 := Lib.hid hn1
  clear hn1
  clear hp4 x1 B1
  go_enter Tryz.func61, Tryz.ntmps61
  go_wp2_with fail
  rw [← HW1.out]
  refine (varsT n 0 0 (by omega) (by omega) (by omega) _).mono ?_
  rintro e w2 ⟨⟨v7, rfl, r7, c7⟩, b2⟩
  have x2 := (b2.block _ (heap_lt X1.out)).trans X1.out
  have d0 : w2.cell? ⟨w.heap.size, 0, none⟩ = some (.int .i64 1) := by rw [cell_of_heap x2]; rfl
  have d1 : w2.cell? ⟨w.heap.size, 1, none⟩ = some (.int .i64 b) := by rw [cell_of_heap x2]; rfl
  have d2 : w2.cell? ⟨w.heap.size, 2, none⟩ = some (.int .i64 c) := by rw [cell_of_heap x2]; rfl
  have HB2 := Lib.hid (below_step HB1.out b2)
  have R7 := Lib.hid r7
  clear b2 x2 r7
  obtain ⟨gx, ox, mx, cx, u0, rfl, hmx, h0x, hc0, r0⟩ := R7.out.get (vL_at (n := n) (k := 0) (wi := 0) (j := 0) (by have := HN1.out; omega))
  obtain ⟨A0, n0, c0, rfl⟩ := r0.form
  have R0 := Lib.hid r0
  have hmxI : (0 : Int) < (mx : Int) := by omega
  have hmx1 : 1 ≤ mx := by omega
  have hmxN : 0 < mx := by omega
  have HMX := Lib.hid hmx
  clear r0 hmx h0x
  rw [show n - 1 - (0 + 0) + 0 = 0 by have := HN1.out; omega] at R0
  go_wp2_with fail
  refine region_facts (by kernel_rfl) [kT (nextT), kcst (.slice (some ⟨gx, ox, none⟩) mx cx), kcst (.pointer (some ⟨gx, ox, none⟩)), kcst (.slice A0 n0 c0), kTs [.v 0], kT (appsL nextT [.v 0]), kT (appsL nextT [.v 0])] [21, 22, 23, 24, 25, 26, 6] (by kernel_rfl) ?_ ?_
  · refine ⟨?_, ?_, ?_, ?_, ?_, ?_, ?_, trivial⟩
    · intro a W hB hin haft K hK
      clear haft hin
      unfold Oper.wp
      go_simp
      refine (lamOfT ⟨#[94, 94, 94, 40, 49, 32, 40, 40, 50, 32, 49, 41, 32, 48, 41, 41]⟩ txNext rfl txNext_ok _).mono ?_
      rintro e2 w' ⟨⟨u, rfl, hr⟩, hb⟩
      exact hK _ _ hr hb
    · intro a W hB hin haft K hK
      have h0 : a.tmps[7]?.getD undef = .slice (some ⟨gx, ox, none⟩) mx cx := kev (hin 7 (by decide))
      clear haft hin
      unfold Oper.wp
      go_simp
      exact hK _ _ rfl (Below.refl _ _)
    · intro a W hB hin haft K hK
      have h22 : a.tmps[22]?.getD undef = .slice (some ⟨gx, ox, none⟩) mx cx := kev (haft ⟨1, .data⟩ (by simp) rfl 22 rfl)
      clear haft hin
      unfold Oper.wp
      go_simp
      exact hK _ _ rfl (Below.refl _ _)
    · intro a W hB hin haft K hK
      have h23 : a.tmps[23]?.getD undef = .pointer (some ⟨gx, ox, none⟩) := kev (haft ⟨2, .data⟩ (by simp) rfl 23 rfl)
      have k9 := cell_step (by exact hc0) hB
      rw [Nat.add_zero] at k9
      clear haft hin
      unfold Oper.wp
      go_simp
      exact hK _ _ rfl (Below.refl _ _)
    · intro a W hB hin haft K hK
      have h24 : a.tmps[24]?.getD undef = .slice A0 n0 c0 := kev (haft ⟨3, .data⟩ (by simp) rfl 24 rfl)
      clear haft hin
      unfold Oper.wp
      go_simp
      exact hK _ _ (RdTs.lit (vs := [.slice A0 n0 c0]) (ts := [.v 0]) ⟨(R0.out.below hB), (by simp [LTm.flat]), trivial⟩ _) (laid_below _ _)
    · intro a W hB hin haft K hK
      have s0 : RdT W (a.eval (.tmp 21)) (nextT) := haft ⟨0, .data⟩ (by simp) rfl 21 rfl
      obtain ⟨A0_, n0_, c0_, x0_⟩ := s0.form
      rw [x0_] at s0
      have h21 := kev x0_
      clear x0_
      have s1 : RdTs W (a.eval (.tmp 25)) ([.v 0]) := haft ⟨4, .data⟩ (by simp) rfl 25 rfl
      obtain ⟨g1_, o1_, m1_, c1_, x1_, hl1_⟩ := s1.form
      rw [x1_] at s1
      have h25 := kev x1_
      clear x1_ hl1_
      clear haft hin
      unfold Oper.wp
      go_simp
      refine (applyT _ _ nextT [.v 0] _ s0 s1 (by have := HLEN.out; omega)).mono ?_
      rintro e2 w' ⟨⟨u, rfl, hr⟩, hb⟩
      exact hK _ _ hr hb
    · intro a W hB hin haft K hK
      have s0 : RdT W (a.eval (.tmp 26)) (appsL nextT [.v 0]) := haft ⟨5, .data⟩ (by simp) rfl 26 rfl
      obtain ⟨A0_, n0_, c0_, x0_⟩ := s0.form
      rw [x0_] at s0
      have h26 := kev x0_
      clear x0_
      clear haft hin
      unfold Oper.wp
      go_simp
      exact hK _ _ s0 (Below.refl _ _)
  · intro a W hB hdf hsz hin hf
    have s0 : RdT W (a.eval (.tmp 6)) (appsL nextT [.v 0]) := hf 6 6 rfl
    obtain ⟨A9, n9, c9, hx⟩ := s0.form
    rw [hx] at s0
    have h6 := kev hx
    have S0 := Lib.hid s0
    clear hin hf hx s0
    go_wp2
    refine bodyPost_ret (v := .slice A9 n9 c9) (by simp [results, Tryz.results61, go_sem, h6]) hdf ?_
    exact ⟨⟨_, rfl, S0.out⟩, below_step HB2.out hB⟩
end Go.Proofs.YtkiaclajjlidoaaGreatDoor

/- The body of the lambda term of a recursive function, by the program, kind 2. -/
namespace Go.Proofs.YtkiaclajjlidoaaGreatDoor
open Go.RowKit
set_option linter.all false

set_option maxRecDepth 100000 in
set_option maxHeartbeats 4000000 in
theorem lamBody_2 (b c : Int) (n : Nat) (v : Value) (ps : List LTm) (w : World) (hp : RdTs w v ps) (hcp : capOk v) (hn : n ≤ 4) (hpl : ps.length ≤ 5) (hp4 : ∀ p ∈ ps, p.flat.length ≤ 400) (hn1 : 1 ≤ n) (hc0 : 0 ≤ c) (hcn : c < n) :
    Calls Tryz.prog 61 #[.agg #[.int .i64 2, .int .i64 b, .int .i64 c], .int .i64 n, v] w fun e w' => (∃ v, e = .returned v ∧ RdT w' v (bodyT 2 n c.toNat ps)) ∧ Below w.heap.size w w' := by
  have HLEN : Hid ((bodyT 2 n c.toNat ps).flat.length ≤ 3000) := bodyT_len hn hpl hp4
  have HP := Lib.hid hp
  have HP4 := Lib.hid hp4
  obtain ⟨w1, HW1, B1, x1⟩ := al1 w (.cells #[.int .i64 2, .int .i64 b, .int .i64 c] 60)
  have X1 := Lib.hid x1
  have HB1 := Lib.hid B1
  rw [bodyT_2] at HLEN ⊢
  obtain ⟨ci, rfl⟩ : ∃ ci : Nat, c = ci := ⟨c.toNat, by omega⟩
  have hciN : ci < n := by omega
  rw [Int.toNat_natCast] at HLEN ⊢
  clear hp4 x1 B1
  go_enter Tryz.func61, Tryz.ntmps61
  go_wp2_with fail
  rw [← HW1.out]
  refine (varsT n 0 0 (by omega) (by omega) (by omega) _).mono ?_
  rintro e w2 ⟨⟨v7, rfl, r7, c7⟩, b2⟩
  have x2 := (b2.block _ (heap_lt X1.out)).trans X1.out
  have d0 : w2.cell? ⟨w.heap.size, 0, none⟩ = some (.int .i64 2) := by rw [cell_of_heap x2]; rfl
  have d1 : w2.cell? ⟨w.heap.size, 1, none⟩ = some (.int .i64 b) := by rw [cell_of_heap x2]; rfl
  have d2 : w2.cell? ⟨w.heap.size, 2, none⟩ = some (.int .i64 (ci : Int)) := by rw [cell_of_heap x2]; rfl
  have HB2 := Lib.hid (below_step HB1.out b2)
  have R7 := Lib.hid r7
  clear b2 x2 r7
  obtain ⟨gx, ox, mx, cx, u0, rfl, hmx, h0x, hc0, r0⟩ := R7.out.get (vL_at (n := n) (k := 0) (wi := 0) (j := ci) (by omega))
  rw [show n - 1 - (0 + ci) + 0 = n - 1 - ci by omega] at r0
  have R0 := Lib.hid r0
  have hmxI : (ci : Int) < (mx : Int) := by omega
  clear r0 hmx h0x
  go_wp2_with fail
  go_ret
  exact ⟨⟨_, rfl, R0.out⟩, HB2.out⟩
end Go.Proofs.YtkiaclajjlidoaaGreatDoor

/- The body of the lambda term of a recursive function, by the program, kind 3. -/
namespace Go.Proofs.YtkiaclajjlidoaaGreatDoor
open Go.RowKit
set_option linter.all false

set_option maxRecDepth 100000 in
set_option maxHeartbeats 4000000 in
theorem lamBody_3 (b c : Int) (n : Nat) (v : Value) (ps : List LTm) (w : World) (hp : RdTs w v ps) (hcp : capOk v) (hn : n ≤ 4) (hpl : ps.length ≤ 5) (hp4 : ∀ p ∈ ps, p.flat.length ≤ 400) (hp1 : 1 ≤ ps.length) :
    Calls Tryz.prog 61 #[.agg #[.int .i64 3, .int .i64 b, .int .i64 c], .int .i64 n, v] w fun e w' => (∃ v, e = .returned v ∧ RdT w' v (bodyT 3 n c.toNat ps)) ∧ Below w.heap.size w w' := by
  have HLEN : Hid ((bodyT 3 n c.toNat ps).flat.length ≤ 3000) := bodyT_len hn hpl hp4
  have HP := Lib.hid hp
  have HP4 := Lib.hid hp4
  obtain ⟨w1, HW1, B1, x1⟩ := al1 w (.cells #[.int .i64 3, .int .i64 b, .int .i64 c] 60)
  have X1 := Lib.hid x1
  have HB1 := Lib.hid B1
  rw [bodyT_3] at HLEN ⊢
  obtain ⟨p0, hp0⟩ : ∃ p0, ps[0]? = some p0 := ⟨_, List.getElem?_eq_getElem (by omega)⟩
  rw [getD_of hp0] at HLEN ⊢
  have HQ0 := Lib.hid hp0
  clear hp0
  clear hp4 x1 B1
  go_enter Tryz.func61, Tryz.ntmps61
  go_wp2_with fail
  rw [← HW1.out]
  refine (varsT n 0 0 (by omega) (by omega) (by omega) _).mono ?_
  rintro e w2 ⟨⟨v7, rfl, r7, c7⟩, b2⟩
  have x2 := (b2.block _ (heap_lt X1.out)).trans X1.out
  have d0 : w2.cell? ⟨w.heap.size, 0, none⟩ = some (.int .i64 3) := by rw [cell_of_heap x2]; rfl
  have d1 : w2.cell? ⟨w.heap.size, 1, none⟩ = some (.int .i64 b) := by rw [cell_of_heap x2]; rfl
  have d2 : w2.cell? ⟨w.heap.size, 2, none⟩ = some (.int .i64 c) := by rw [cell_of_heap x2]; rfl
  have HB2 := Lib.hid (below_step HB1.out b2)
  have R7 := Lib.hid r7
  clear b2 x2 r7
  obtain ⟨gp, op, mp, cp, u0, rfl, hmp, h0p, hq0, q0⟩ := (HP.out.below HB2.out).get HQ0.out
  have Q0 := Lib.hid q0
  have hmpI : (0 : Int) < (mp : Int) := by omega
  obtain ⟨vt, hsl, ht⟩ := HP.out.tail hcp hp1
  obtain ⟨gt, ot, mt, ct, rfl, hmt⟩ := ht.form
  have HT := Lib.hid (ht.below HB2.out)
  rw [List.length_drop] at hmt
  have HM0 := Lib.hid (GRow.start w2 _ rfl)
  have hone : (1 : Int) ≤ (mp : Int) := by omega
  have HLI : Hid ((innT n ps).length = mt) := by unfold Hid; rw [innT, List.length_map, List.length_drop, hmt]
  have HPC := Lib.hid hq0
  have hmt4 : mt ≤ 4 := by omega
  have HMT := Lib.hid hmt
  have HMP := Lib.hid hmp
  clear ht q0 hq0 hmt hmp h0p
  go_wp2_with fail
  go_loopw [8, 40] (fun o i wr => ∃ (j g c : Nat), i = .int .i64 (j : Int) ∧ o = .slice (some ⟨g, 0, none⟩) j c ∧ j ≤ mt ∧ Hid (GRow w2 g j c ((innT n ps).take j) wr)) (fun _ i _ => mt - (intOf i).toNat)
  case atStart => exact ⟨0, _, _, rfl, rfl, by omega, HM0⟩
  case round =>
    obtain ⟨j, g, c9, rfl, rfl, hj, HG⟩ := hrel
    clear HM0
    by_cases hjd : j < mt
    · have hjI : (j : Int) < (mt : Int) := by omega
      obtain ⟨p, hpj⟩ : ∃ p, (ps.drop 1)[j]? = some p := ⟨_, List.getElem?_eq_getElem (by have := HMT.out; rw [List.length_drop]; omega)⟩
      have hpm : p ∈ ps := List.mem_of_mem_drop (List.mem_of_getElem? hpj)
      obtain ⟨_, _, _, _, uj, e9, -, -, hcj, rj⟩ := (HT.out.below HG.out.frame).get hpj
      injection e9 with e9 em ec
      injection e9 with e9
      injection e9 with eg eo
      subst eg eo em ec
      have HTK : Hid ((innT n ps).take (j + 1) = (innT n ps).take j ++ [appsL p (vL n 0 0)]) := by unfold Hid; rw [take_snocL (by unfold innT; rw [List.getElem?_map, hpj]; rfl)]
      have hap : (appsL p (vL n 0 0)).flat.length ≤ 408 := appsV_len (ps := ps) HP4.out hn (HP4.out p hpm)
      have HAP := Lib.hid hap
      have RJ := Lib.hid rj
      have R7j := Lib.hid (R7.out.below HG.out.frame)
      have hw4 : IntKind.i64.wrap ((j : Int) + 1) = (j : Int) + 1 := IntWalk.i64_in _ (by omega)
      have hmt5 : mt ≤ 5 := by omega
      obtain ⟨Aj, nj, cj, rfl⟩ := rj.form
      clear rj hap hpj hpm
      go_wp2_with fail
      refine (applyOwn _ _ p _ _ RJ.out R7j.out (by have := HAP.out; omega)).mono ?_
      rintro e w4 ⟨⟨v4, rfl, o4⟩, b4⟩
      obtain ⟨A4, c4, rfl⟩ := own_form o4
      obtain ⟨l4, hl4⟩ : ∃ l, (appsL p (vL n 0 0)).flat.length = l := ⟨_, rfl⟩
      rw [hl4] at o4 ⊢
      obtain ⟨w5, HW5, b5, y5⟩ := al1 w4 (.cells #[.slice A4 l4 c4] 24)
      have HG5 := Lib.hid (HG.out.below (below_step b4 b5))
      obtain ⟨vs, hv1, hv2⟩ := HG5.out.els
      have hu : w5.ownsRow w2.heap.size 45 2 (.slice A4 l4 c4) (appsL p (vL n 0 0)).flat.length (rows R2.vs (appsL p (vL n 0 0)).flat) := by
        rw [hl4]; exact own_base (own_below' o4 b5) HG.out.frame.size
      have src5 : Src 1 w5 (.slice (some ⟨w4.heap.size, 0, none⟩) 1 1) 1 [.slice A4 l4 c4] := Src.of_own (own_of_block (n := 1) (cap := 1) (s := 1) (xs := [.slice A4 l4 c4]) (base := 0) y5 (by omega) rfl (by omega) (by unfold maxLen; omega))
      have HV1 := Lib.hid hv1; have HV2 := Lib.hid hv2; have HU := Lib.hid hu
      have hbz := HG5.out.frame.size
      clear y5 b4 b5 hu hv2 o4 hl4
      go_wp2_with (at_builtin; rw [← HW5.out]; refine wpList_appx rfl _ _ _ rfl Tryz.underlying73 infoLamE rfl (by omega) w2.heap.size hv1 hbz rfl src5 rfl (by simp [Value.oneCell']) (by unfold maxLen; omega) (by omega) ?_; intro V6 w6 own6 hg6 hnil6; obtain ⟨A6, c6, rfl⟩ := own_form own6; obtain ⟨g6, rfl, _, _⟩ := own_addr0 own6 (by omega))
      have HG6 : Hid (GRow w2 g6 (j + 1) c6 ((innT n ps).take (j + 1)) w6) := by
        unfold Hid; rw [HTK.out]
        exact HG5.out.put HV1.out HV2.out HG5.out.frame HU.out (by have := HAP.out; omega) own6 hg6
      clear own6 hg6 hnil6 src5 hv1
      go_roundw
      case rel => exact ⟨j + 1, g6, c6, by go_num, rfl, by omega, HG6⟩
      case measure => first | (simp [intOf]; done) | (simp [intOf]; omega)
    · obtain rfl : j = mt := by omega
      have hjI : ¬ (j : Int) < (j : Int) := by omega
      have HTK : Hid ((innT n ps).take j = innT n ps) := List.take_of_length_le (Nat.le_of_eq HLI.out)
      have HRV : Hid (RdTs wr (.slice (some ⟨g, 0, none⟩) j c9) (innT n ps)) := by have := HG.out.rd; rw [HTK.out] at this; exact this
      have Q0r := Lib.hid (Q0.out.below HG.out.frame)
      have HBr := Lib.hid (below_step HB2.out HG.out.frame)
      have hpc := cell_step (by exact HPC.out) HG.out.frame
      rw [Nat.add_zero] at hpc
      go_wp2_with fail
      refine (applyT _ _ p0 _ _ Q0r.out HRV.out (by have := HLEN.out; omega)).mono ?_
      rintro e w4 ⟨⟨v4, rfl, r4⟩, b4⟩
      have R4_ := Lib.hid r4
      clear r4
      go_wp2_with fail
      go_ret
      exact ⟨⟨_, rfl, R4_.out⟩, below_step HBr.out b4⟩
end Go.Proofs.YtkiaclajjlidoaaGreatDoor

/- The body of the lambda term of a recursive function, by the program, kind 4. -/
namespace Go.Proofs.YtkiaclajjlidoaaGreatDoor
open Go.RowKit
set_option linter.all false

set_option maxRecDepth 100000 in
set_option maxHeartbeats 4000000 in
theorem lamBody_4 (b c : Int) (n : Nat) (v : Value) (ps : List LTm) (w : World) (hp : RdTs w v ps) (hcp : capOk v) (hn : n ≤ 4) (hpl : ps.length ≤ 5) (hp4 : ∀ p ∈ ps, p.flat.length ≤ 400) (hn1 : 1 ≤ n) (hp2 : 2 ≤ ps.length) :
    Calls Tryz.prog 61 #[.agg #[.int .i64 4, .int .i64 b, .int .i64 c], .int .i64 n, v] w fun e w' => (∃ v, e = .returned v ∧ RdT w' v (bodyT 4 n c.toNat ps)) ∧ Below w.heap.size w w' := by
  have HLEN : Hid ((bodyT 4 n c.toNat ps).flat.length ≤ 3000) := bodyT_len hn hpl hp4
  have HP := Lib.hid hp
  have HP4 := Lib.hid hp4
  obtain ⟨w1, HW1, B1, x1⟩ := al1 w (.cells #[.int .i64 4, .int .i64 b, .int .i64 c] 60)
  have X1 := Lib.hid x1
  have HB1 := Lib.hid B1
  rw [bodyT_4] at HLEN ⊢
  obtain ⟨p0, hp0⟩ : ∃ p0, ps[0]? = some p0 := ⟨_, List.getElem?_eq_getElem (by omega)⟩
  obtain ⟨p1, hp1⟩ : ∃ p1, ps[1]? = some p1 := ⟨_, List.getElem?_eq_getElem (by omega)⟩
  rw [getD_of hp0, getD_of hp1] at HLEN ⊢
  have HQ0 := Lib.hid hp0
  have HQ1 := Lib.hid hp1
  have HL1 : Hid (p1.flat.length ≤ 400) := hp4 p1 (List.mem_of_getElem? hp1)
  have HRL : Hid ((repT n p1).flat.length ≤ 490) := repT_len hn HL1.out
  have HAL : Hid ((appsL p0 (vL n 1 0)).flat.length ≤ 408) := appsV_len (ps := ps) hp4 hn (hp4 p0 (List.mem_of_getElem? hp0))
  clear hp0 hp1
  clear hp4 x1 B1
  go_enter Tryz.func61, Tryz.ntmps61
  go_wp2_with fail
  rw [← HW1.out]
  refine (varsT n 0 0 (by omega) (by omega) (by omega) _).mono ?_
  rintro e w2 ⟨⟨v7, rfl, r7, c7⟩, b2⟩
  have x2 := (b2.block _ (heap_lt X1.out)).trans X1.out
  have d0 : w2.cell? ⟨w.heap.size, 0, none⟩ = some (.int .i64 4) := by rw [cell_of_heap x2]; rfl
  have d1 : w2.cell? ⟨w.heap.size, 1, none⟩ = some (.int .i64 b) := by rw [cell_of_heap x2]; rfl
  have d2 : w2.cell? ⟨w.heap.size, 2, none⟩ = some (.int .i64 c) := by rw [cell_of_heap x2]; rfl
  have HB2 := Lib.hid (below_step HB1.out b2)
  have R7 := Lib.hid r7
  clear b2 x2 r7
  obtain ⟨gx, ox, mx, cx, u0, rfl, hmx, h0x, hc0, r0⟩ := R7.out.get (vL_at (n := n) (k := 0) (wi := 0) (j := 0) (by omega))
  obtain ⟨A0, n0, c0, rfl⟩ := r0.form
  have R0 := Lib.hid r0
  have hmxI : (0 : Int) < (mx : Int) := by omega
  have hmx1 : 1 ≤ mx := by omega
  have hmxN : 0 < mx := by omega
  have HMX := Lib.hid hmx
  clear r0 hmx h0x
  rw [show n - 1 - (0 + 0) + 0 = n - 1 by omega] at R0
  obtain ⟨gp, op, mp, cp, up0, rfl, hmp, h0p, hq0, q0⟩ := (HP.out.below HB2.out).get HQ0.out
  obtain ⟨_, _, _, _, up1, e9, -, -, hq1, q1⟩ := (HP.out.below HB2.out).get HQ1.out
  injection e9 with e9 em ec
  injection e9 with e9
  injection e9 with eg eo
  subst eg eo em ec
  obtain ⟨A2, n2, c2, rfl⟩ := q0.form
  obtain ⟨A1, n1, c1, rfl⟩ := q1.form
  have Q0 := Lib.hid q0; have Q1 := Lib.hid q1
  have hmpI : (0 : Int) < (mp : Int) := by omega
  have hmpI1 : (1 : Int) < (mp : Int) := by omega
  have hmpN : 0 < mp := by omega
  have hmpN1 : 1 < mp := by omega
  obtain ⟨vt, hsl, ht⟩ := R7.out.tail c7 (by rw [vL_len]; omega)
  rw [vL_tail] at ht
  obtain ⟨gt, ot, mt, ct, rfl, hmt⟩ := ht.form
  have HT := Lib.hid ht
  have hone : (1 : Int) ≤ (mx : Int) := by omega
  have HMP := Lib.hid hmp
  clear ht q0 q1 hmp hmt h0p
  go_wp2_with fail
  refine region_facts (by kernel_rfl) [kcst (.slice (some ⟨gx, ox, none⟩) mx cx), kcst (.pointer (some ⟨gx, ox, none⟩)), kcst (.slice A0 n0 c0), kcst (.int .i64 (n : Int)), kcst (.slice (some ⟨gp, op, none⟩) mp cp), kcst (.pointer (some ⟨gp, op + 1, none⟩)), kcst (.slice A1 n1 c1), kT (repT n p1), kT (falseT), kT (numT0), kcst (.slice (some ⟨gp, op, none⟩) mp cp), kcst (.pointer (some ⟨gp, op, none⟩)), kcst (.slice A2 n2 c2), kcst (.slice (some ⟨gx, ox, none⟩) mx cx), kcst (.slice (some ⟨gt, ot, none⟩) mt ct), kT (appsL p0 (vL n 1 0)), kTs [repT n p1, falseT, numT0, appsL p0 (vL n 1 0)], kT (appsL (.v (n - 1)) [repT n p1, falseT, numT0, appsL p0 (vL n 1 0)]), kT (appsL (.v (n - 1)) [repT n p1, falseT, numT0, appsL p0 (vL n 1 0)])] [58, 59, 60, 61, 62, 63, 64, 65, 66, 67, 68, 69, 70, 71, 72, 73, 74, 75, 6] (by kernel_rfl) ?_ ?_
  · refine ⟨?_, ?_, ?_, ?_, ?_, ?_, ?_, ?_, ?_, ?_, ?_, ?_, ?_, ?_, ?_, ?_, ?_, ?_, ?_, trivial⟩
    · intro a W hB hin haft K hK
      have h0 : a.tmps[7]?.getD undef = .slice (some ⟨gx, ox, none⟩) mx cx := kev (hin 7 (by decide))
      clear haft hin
      unfold Oper.wp
      go_simp
      exact hK _ _ rfl (Below.refl _ _)
    · intro a W hB hin haft K hK
      have h58 : a.tmps[58]?.getD undef = .slice (some ⟨gx, ox, none⟩) mx cx := kev (haft ⟨0, .data⟩ (by simp) rfl 58 rfl)
      clear haft hin
      unfold Oper.wp
      go_simp
      exact hK _ _ rfl (Below.refl _ _)
    · intro a W hB hin haft K hK
      have h59 : a.tmps[59]?.getD undef = .pointer (some ⟨gx, ox, none⟩) := kev (haft ⟨1, .data⟩ (by simp) rfl 59 rfl)
      have k9 := cell_step (by exact hc0) hB
      rw [Nat.add_zero] at k9
      clear haft hin
      unfold Oper.wp
      go_simp
      exact hK _ _ rfl (Below.refl _ _)
    · intro a W hB hin haft K hK
      have h0 : a.tmps[1]?.getD undef = .int .i64 (n : Int) := kev (hin 1 (by decide))
      clear haft hin
      unfold Oper.wp
      go_simp
      exact hK _ _ rfl (Below.refl _ _)
    · intro a W hB hin haft K hK
      have h0 : a.tmps[2]?.getD undef = .slice (some ⟨gp, op, none⟩) mp cp := kev (hin 2 (by decide))
      clear haft hin
      unfold Oper.wp
      go_simp
      exact hK _ _ rfl (Below.refl _ _)
    · intro a W hB hin haft K hK
      have h62 : a.tmps[62]?.getD undef = .slice (some ⟨gp, op, none⟩) mp cp := kev (haft ⟨4, .data⟩ (by simp) rfl 62 rfl)
      clear haft hin
      unfold Oper.wp
      go_simp
      exact hK _ _ rfl (Below.refl _ _)
    · intro a W hB hin haft K hK
      have h63 : a.tmps[63]?.getD undef = .pointer (some ⟨gp, op + 1, none⟩) := kev (haft ⟨5, .data⟩ (by simp) rfl 63 rfl)
      have k9 := cell_step (by exact hq1) hB
      clear haft hin
      unfold Oper.wp
      go_simp
      exact hK _ _ rfl (Below.refl _ _)
    · intro a W hB hin haft K hK
      have h61 : a.tmps[61]?.getD undef = .int .i64 (n : Int) := kev (haft ⟨3, .data⟩ (by simp) rfl 61 rfl)
      have h64 : a.tmps[64]?.getD undef = .slice A1 n1 c1 := kev (haft ⟨6, .data⟩ (by simp) rfl 64 rfl)
      clear haft hin
      unfold Oper.wp
      go_simp
      refine (repeatStepT n _ p1 _ (Q1.out.below hB) hn1 hn HL1.out).mono ?_
      rintro e2 w' ⟨⟨u, rfl, hr⟩, hb⟩
      exact hK _ _ hr hb
    · intro a W hB hin haft K hK
      clear haft hin
      unfold Oper.wp
      go_simp
      refine (lamOfT ⟨#[94, 94, 48]⟩ txFalse rfl txFalse_ok _).mono ?_
      rintro e2 w' ⟨⟨u, rfl, hr⟩, hb⟩
      exact hK _ _ hr hb
    · intro a W hB hin haft K hK
      clear haft hin
      unfold Oper.wp
      go_simp
      refine (numeralZ _).mono ?_
      rintro e2 w' ⟨⟨u, rfl, hr⟩, hb⟩
      exact hK _ _ hr hb
    · intro a W hB hin haft K hK
      have h0 : a.tmps[2]?.getD undef = .slice (some ⟨gp, op, none⟩) mp cp := kev (hin 2 (by decide))
      clear haft hin
      unfold Oper.wp
      go_simp
      exact hK _ _ rfl (Below.refl _ _)
    · intro a W hB hin haft K hK
      have h68 : a.tmps[68]?.getD undef = .slice (some ⟨gp, op, none⟩) mp cp := kev (haft ⟨10, .data⟩ (by simp) rfl 68 rfl)
      clear haft hin
      unfold Oper.wp
      go_simp
      exact hK _ _ rfl (Below.refl _ _)
    · intro a W hB hin haft K hK
      have h69 : a.tmps[69]?.getD undef = .pointer (some ⟨gp, op, none⟩) := kev (haft ⟨11, .data⟩ (by simp) rfl 69 rfl)
      have k9 := cell_step (by exact hq0) hB
      rw [Nat.add_zero] at k9
      clear haft hin
      unfold Oper.wp
      go_simp
      exact hK _ _ rfl (Below.refl _ _)
    · intro a W hB hin haft K hK
      have h0 : a.tmps[7]?.getD undef = .slice (some ⟨gx, ox, none⟩) mx cx := kev (hin 7 (by decide))
      clear haft hin
      unfold Oper.wp
      go_simp
      exact hK _ _ rfl (Below.refl _ _)
    · intro a W hB hin haft K hK
      have h71 : a.tmps[71]?.getD undef = .slice (some ⟨gx, ox, none⟩) mx cx := kev (haft ⟨13, .data⟩ (by simp) rfl 71 rfl)
      have hsl9 := hsl
      clear haft hin
      unfold Oper.wp
      go_simp
      exact hK _ _ rfl (Below.refl _ _)
    · intro a W hB hin haft K hK
      have h70 : a.tmps[70]?.getD undef = .slice A2 n2 c2 := kev (haft ⟨12, .data⟩ (by simp) rfl 70 rfl)
      have h72 : a.tmps[72]?.getD undef = .slice (some ⟨gt, ot, none⟩) mt ct := kev (haft ⟨14, .data⟩ (by simp) rfl 72 rfl)
      clear haft hin
      unfold Oper.wp
      go_simp
      refine (applyT _ _ p0 _ _ (Q0.out.below hB) (HT.out.below hB) (by have := HAL.out; omega)).mono ?_
      rintro e2 w' ⟨⟨u, rfl, hr⟩, hb⟩
      exact hK _ _ hr hb
    · intro a W hB hin haft K hK
      have s0 : RdT W (a.eval (.tmp 65)) (repT n p1) := haft ⟨7, .data⟩ (by simp) rfl 65 rfl
      obtain ⟨A0_, n0_, c0_, x0_⟩ := s0.form
      rw [x0_] at s0
      have h65 := kev x0_
      clear x0_
      have s1 : RdT W (a.eval (.tmp 66)) (falseT) := haft ⟨8, .data⟩ (by simp) rfl 66 rfl
      obtain ⟨A1_, n1_, c1_, x1_⟩ := s1.form
      rw [x1_] at s1
      have h66 := kev x1_
      clear x1_
      have s2 : RdT W (a.eval (.tmp 67)) (numT0) := haft ⟨9, .data⟩ (by simp) rfl 67 rfl
      obtain ⟨A2_, n2_, c2_, x2_⟩ := s2.form
      rw [x2_] at s2
      have h67 := kev x2_
      clear x2_
      have s3 : RdT W (a.eval (.tmp 73)) (appsL p0 (vL n 1 0)) := haft ⟨15, .data⟩ (by simp) rfl 73 rfl
      obtain ⟨A3_, n3_, c3_, x3_⟩ := s3.form
      rw [x3_] at s3
      have h73 := kev x3_
      clear x3_
      clear haft hin
      unfold Oper.wp
      go_simp
      exact hK _ _ (RdTs.lit (vs := [.slice A0_ n0_ c0_, .slice A1_ n1_ c1_, .slice A2_ n2_ c2_, .slice A3_ n3_ c3_]) (ts := [repT n p1, falseT, numT0, appsL p0 (vL n 1 0)]) ⟨s0, (by have := HRL.out; omega), s1, (by have := false_len; omega), s2, (by simp [numT0, LTm.flat]), s3, (by have := HAL.out; omega), trivial⟩ _) (laid_below _ _)
    · intro a W hB hin haft K hK
      have h60 : a.tmps[60]?.getD undef = .slice A0 n0 c0 := kev (haft ⟨2, .data⟩ (by simp) rfl 60 rfl)
      have s1 : RdTs W (a.eval (.tmp 74)) ([repT n p1, falseT, numT0, appsL p0 (vL n 1 0)]) := haft ⟨16, .data⟩ (by simp) rfl 74 rfl
      obtain ⟨g1_, o1_, m1_, c1_, x1_, hl1_⟩ := s1.form
      rw [x1_] at s1
      have h74 := kev x1_
      clear x1_ hl1_
      clear haft hin
      unfold Oper.wp
      go_simp
      refine (applyT _ _ (.v (n - 1)) _ _ (R0.out.below hB) s1 (by have := HLEN.out; omega)).mono ?_
      rintro e2 w' ⟨⟨u, rfl, hr⟩, hb⟩
      exact hK _ _ hr hb
    · intro a W hB hin haft K hK
      have s0 : RdT W (a.eval (.tmp 75)) (appsL (.v (n - 1)) [repT n p1, falseT, numT0, appsL p0 (vL n 1 0)]) := haft ⟨17, .data⟩ (by simp) rfl 75 rfl
      obtain ⟨A0_, n0_, c0_, x0_⟩ := s0.form
      rw [x0_] at s0
      have h75 := kev x0_
      clear x0_
      clear haft hin
      unfold Oper.wp
      go_simp
      exact hK _ _ s0 (Below.refl _ _)
  · intro a W hB hdf hsz hin hf
    have s0 : RdT W (a.eval (.tmp 6)) (appsL (.v (n - 1)) [repT n p1, falseT, numT0, appsL p0 (vL n 1 0)]) := hf 18 6 rfl
    obtain ⟨A9, n9, c9, hx⟩ := s0.form
    rw [hx] at s0
    have h6 := kev hx
    have S0 := Lib.hid s0
    clear hin hf hx s0
    go_wp2
    refine bodyPost_ret (v := .slice A9 n9 c9) (by simp [results, Tryz.results61, go_sem, h6]) hdf ?_
    exact ⟨⟨_, rfl, S0.out⟩, below_step HB2.out hB⟩
end Go.Proofs.YtkiaclajjlidoaaGreatDoor

/- The body of the lambda term of a recursive function, by the program, kind 5. -/
namespace Go.Proofs.YtkiaclajjlidoaaGreatDoor
open Go.RowKit
set_option linter.all false

set_option maxRecDepth 100000 in
set_option maxHeartbeats 4000000 in
theorem lamBody_5 (b c : Int) (n : Nat) (v : Value) (ps : List LTm) (w : World) (hp : RdTs w v ps) (hcp : capOk v) (hn : n ≤ 4) (hpl : ps.length ≤ 5) (hp4 : ∀ p ∈ ps, p.flat.length ≤ 400) (hp1 : 1 ≤ ps.length) :
    Calls Tryz.prog 61 #[.agg #[.int .i64 5, .int .i64 b, .int .i64 c], .int .i64 n, v] w fun e w' => (∃ v, e = .returned v ∧ RdT w' v (bodyT 5 n c.toNat ps)) ∧ Below w.heap.size w w' := by
  have HLEN : Hid ((bodyT 5 n c.toNat ps).flat.length ≤ 3000) := bodyT_len hn hpl hp4
  have HP := Lib.hid hp
  have HP4 := Lib.hid hp4
  obtain ⟨w1, HW1, B1, x1⟩ := al1 w (.cells #[.int .i64 5, .int .i64 b, .int .i64 c] 60)
  have X1 := Lib.hid x1
  have HB1 := Lib.hid B1
  rw [bodyT_5] at HLEN ⊢
  obtain ⟨p0, hp0⟩ : ∃ p0, ps[0]? = some p0 := ⟨_, List.getElem?_eq_getElem (by omega)⟩
  rw [getD_of hp0] at HLEN ⊢
  have HQ0 := Lib.hid hp0
  have HL0 : Hid (p0.flat.length ≤ 400) := hp4 p0 (List.mem_of_getElem? hp0)
  have HLT : Hid ((leastT n p0).flat.length ≤ 490) := leastT_len hn HL0.out
  clear hp0
  clear hp4 x1 B1
  go_enter Tryz.func61, Tryz.ntmps61
  go_wp2_with fail
  rw [← HW1.out]
  refine (varsT n 0 0 (by omega) (by omega) (by omega) _).mono ?_
  rintro e w2 ⟨⟨v7, rfl, r7, c7⟩, b2⟩
  have x2 := (b2.block _ (heap_lt X1.out)).trans X1.out
  have d0 : w2.cell? ⟨w.heap.size, 0, none⟩ = some (.int .i64 5) := by rw [cell_of_heap x2]; rfl
  have d1 : w2.cell? ⟨w.heap.size, 1, none⟩ = some (.int .i64 b) := by rw [cell_of_heap x2]; rfl
  have d2 : w2.cell? ⟨w.heap.size, 2, none⟩ = some (.int .i64 c) := by rw [cell_of_heap x2]; rfl
  have HB2 := Lib.hid (below_step HB1.out b2)
  have R7 := Lib.hid r7
  clear b2 x2 r7
  obtain ⟨gp, op, mp, cp, up0, rfl, hmp, h0p, hq0, q0⟩ := (HP.out.below HB2.out).get HQ0.out
  rw [Nat.add_zero] at hq0
  have Q0 := Lib.hid q0
  have hmpI : (0 : Int) < (mp : Int) := by omega
  clear q0 hmp h0p
  go_wp2_with fail
  refine (leastLoopT n _ p0 _ Q0.out hn HL0.out).mono ?_
  rintro e w3 ⟨⟨v3, rfl, r3⟩, b3⟩
  obtain ⟨A3, n3, c3, rfl⟩ := r3.form
  have R3_ := Lib.hid r3
  have HB3 := Lib.hid (below_step HB2.out b3)
  clear r3 b3
  go_wp2_with fail
  refine (numeralZ _).mono ?_
  rintro e w4 ⟨⟨v4, rfl, r4⟩, b4⟩
  obtain ⟨A4, n4, c4, rfl⟩ := r4.form
  have r34 := R3_.out.below b4
  obtain ⟨w5, HW5, b5, r5, _⟩ := alL w4 [.slice A3 n3 c3, .slice A4 n4 c4] [leastT n p0, numT0] ⟨r34, by have := HLT.out; omega, r4, by simp [numT0, LTm.flat], trivial⟩
  have R5 := Lib.hid r5
  have R35 := Lib.hid (r34.below b5)
  have HB5 := Lib.hid (below_step HB3.out (below_step b4 b5))
  clear r4 r5 r34 b4 b5
  go_wp2_with fail
  rw [← HW5.out]
  refine (applyT _ _ _ _ _ R35.out R5.out (by have := HLEN.out; omega)).mono ?_
  rintro e w6 ⟨⟨v6, rfl, r6⟩, b6⟩
  have R6 := Lib.hid r6
  clear r6
  go_wp2_with fail
  go_ret
  exact ⟨⟨_, rfl, R6.out⟩, below_step HB5.out b6⟩
end Go.Proofs.YtkiaclajjlidoaaGreatDoor

/- Contracts of the laws' helpers on []Loop: copy, compare, size, mark, look at the marks. For slices of at most 1048576 elements. -/
namespace Go.Proofs.YtkiaclajjlidoaaGreatDoor
open Go.RowKit
set_option linter.all false

end Go.Proofs.YtkiaclajjlidoaaGreatDoor

/- slices.Grow of the nil slice and slices.Concat, elements impl.Loop. -/
namespace Go.Proofs.YtkiaclajjlidoaaGreatDoor
open Go.RowKit
set_option linter.all false

/-- Slices in the cells of another one. -/
def SrcsLoop (w : World) (vs : List Value) (ns : List Nat) (xss : List (List Value)) : Prop :=
  vs.length = xss.length ∧ vs.length = ns.length ∧ ∀ (j : Nat) (v : Value) (n : Nat) (xs : List Value), vs[j]? = some v → ns[j]? = some n → xss[j]? = some xs → Src 3 w v n xs ∧ ∀ u ∈ xs, u.oneCell' = true
theorem SrcsLoop.below {w w' : World} {vs : List Value} {ns : List Nat} {xss : List (List Value)} (h : SrcsLoop w vs ns xss) (hb : Below w.heap.size w w') : SrcsLoop w' vs ns xss :=
  ⟨h.1, h.2.1, fun j v n xs h1 h2 h3 => ⟨(h.2.2 j v n xs h1 h2 h3).1.below hb, (h.2.2 j v n xs h1 h2 h3).2⟩⟩

theorem sum_take_leLoop (ns : List Nat) (k : Nat) : (ns.take k).sum ≤ ns.sum := by
  induction ns generalizing k with
  | nil => simp
  | cons n ns ih =>
    cases k with
    | zero => simp
    | succ k => simp; exact ih k
theorem sum_take_succLoop (ns : List Nat) (k n : Nat) (h : ns[k]? = some n) : (ns.take (k + 1)).sum = (ns.take k).sum + n := by
  rw [List.take_add_one, h]; simp
end Go.Proofs.YtkiaclajjlidoaaGreatDoor

/- Contracts of the laws' helpers on []Func: copy, compare, size, mark, look at the marks. For slices of at most 1048576 elements. -/
namespace Go.Proofs.YtkiaclajjlidoaaGreatDoor
open Go.RowKit
set_option linter.all false

theorem infoFunc : (Tryz.prog.info? 60).map (fun i => (i.zero, i.size, i.bytes)) = some (some (.agg #[.int .i64 0, .int .i64 0, .int .i64 0]), 3, 24) := by kernel_rfl

theorem toFunc_any (x : R3) (w : World) : Calls Tryz.prog 34 #[.agg #[.int .i64 x.a, .int .i64 x.b, .int .i64 x.c]] w fun e w' => e = .returned (.agg #[.int .i64 x.a, .int .i64 x.b, .int .i64 x.c]) ∧ Below w.heap.size w w' := by
  obtain ⟨a, b, c⟩ := x
  go_enter Tryz.func34, Tryz.ntmps34
  go_wp2
  refine bodyPost_ret (v := .agg #[.int .i64 a, .int .i64 b, .int .i64 c]) (by simp [results, Tryz.results34, go_sem]) rfl ⟨rfl, ?_⟩
  repeat (first | exact Below.refl _ _ | refine Below.setCell ?_ (by simp; try omega) _ | refine Below.alloc ?_ (by simp; try omega) _)

theorem eqFunc_any (x y : R3) (w : World) : Calls Tryz.prog 37 #[.agg #[.int .i64 x.a, .int .i64 x.b, .int .i64 x.c], .agg #[.int .i64 y.a, .int .i64 y.b, .int .i64 y.c]] w fun e w' => e = .returned (.bool (decide (x = y))) ∧ Below w.heap.size w w' := by
  obtain ⟨a, b, c⟩ := x
  obtain ⟨a', b', c'⟩ := y
  have h0 : Below w.heap.size w ((w.alloc (.cells #[.int .i64 a, .int .i64 b, .int .i64 c] 60)).alloc (.cells #[.int .i64 a', .int .i64 b', .int .i64 c'] 60)) := ((Below.refl _ _).alloc (Nat.le_refl _) _).alloc (by simp) _
  by_cases h1 : a = a'
  rotate_left
  · have e3 : (a != a') = true := by simpa using h1
    go_enter Tryz.func37, Tryz.ntmps37
    go_wp2
    go_ret
    exact ⟨ret_bool (by simp [h1]), h0⟩
  subst h1
  by_cases h2 : b = b'
  rotate_left
  · have e3 : (b != b') = true := by simpa using h2
    go_enter Tryz.func37, Tryz.ntmps37
    go_wp2
    go_ret
    exact ⟨ret_bool (by simp [h2]), h0⟩
  subst h2
  by_cases h3 : c = c'
  rotate_left
  · have e3 : (c != c') = true := by simpa using h3
    go_enter Tryz.func37, Tryz.ntmps37
    go_wp2
    go_ret
    exact ⟨ret_bool (by simp [h3]), h0⟩
  subst h3
  go_enter Tryz.func37, Tryz.ntmps37
  go_wp2
  go_ret
  exact ⟨ret_bool (by simp), h0⟩

theorem eqFunc_is (x y : R3) (v : Bool) (h : decide (x = y) = v) (w : World) : Calls Tryz.prog 37 #[.agg #[.int .i64 x.a, .int .i64 x.b, .int .i64 x.c], .agg #[.int .i64 y.a, .int .i64 y.b, .int .i64 y.c]] w fun e w' => e = .returned (.bool v) ∧ Below w.heap.size w w' := by
  subst h; exact eqFunc_any x y w

set_option maxHeartbeats 400000 in
theorem toFuncS_any (A : Option Addr) (n c : Nat) (xs : List R3) (w : World) (ha : Args 3 w A n (rows R3.vs xs)) (hn : n ≤ 1048576) :
    Calls Tryz.prog 16 #[.slice A n c] w fun e w' => e = .returned (.slice (some ⟨w.heap.size, 0, none⟩) n n) ∧
      w'.ownsRow w.heap.size 60 3 (.slice (some ⟨w.heap.size, 0, none⟩) n n) n (rows R3.vs xs) ∧ Below w.heap.size w w' := by
  have HL : Hid (xs.length = n) := by have := ha.1; rw [rows_len R3.vs_len] at this; unfold Hid; omega
  have hmk := fun W => run_make_rows (P := Tryz.prog) 37 60 _ 3 24 Tryz.underlying37 infoFunc .i64 .i64 n (by omega) (by omega) W
  simp only [Value.cells] at hmk
  obtain ⟨f0, hrow0⟩ := rowIs_mades w #[.int .i64 0, .int .i64 0, .int .i64 0] (n * 3) 60
  have hB0 : Below w.heap.size w (w.alloc (.cells (madeCells #[.int .i64 0, .int .i64 0, .int .i64 0] (n * 3)) 60)) := (Below.refl _ _).alloc (Nat.le_refl _) _
  go_enter Tryz.func16, Tryz.ntmps16
  go_wp2
  clear hmk
  go_loopw [4] (fun i wr => ∃ k : Nat, k ≤ n ∧ i = .int .i64 k ∧ RowUp wr w.heap.size 60 (n * 3) (rows R3.vs xs) (k * 3) ∧ Below w.heap.size w wr) (fun i _ => n - (intOf i).toNat)
  case atStart => exact ⟨0, Nat.zero_le _, rfl, by simpa using RowUp.zero hrow0 _, hB0⟩
  case round =>
    obtain ⟨k, hk, rfl, hrow, hB⟩ := hrel
    clear hrow0 hB0
    by_cases hlt : k < n
    · obtain ⟨b, off, rfl, hs⟩ := ha.sl hlt
      obtain ⟨x, HX⟩ := hget HL hlt
      obtain ⟨h0, h1, h2⟩ := (hs.below' hB).rec3 HX.out
      have hgl := hrow.lt
      go_wp2_with fail
      refine (toFunc_any x _).mono ?_
      rintro e w1 ⟨rfl, hb⟩
      have hr1 := hrow.below hb hgl
      obtain ⟨u0, hc0⟩ := hr1.cell (i := k * 3) (by omega)
      have fz0 := hr1.frozen (k * 3)
      obtain ⟨u1, hc1⟩ := hr1.cell (i := k * 3 + 1) (by omega)
      have fz1 := hr1.frozen (k * 3 + 1)
      obtain ⟨u2, hc2⟩ := hr1.cell (i := k * 3 + 2) (by omega)
      have fz2 := hr1.frozen (k * 3 + 2)
      have HR := Lib.hid (hr1.set3 HX.out)
      have HB := Lib.hid (below_set3 (k := k) (x := x) (below_step hB hb))
      clear hrow hB ha hs hb hr1 h0 h1 h2
      go_wp2_with fail
      go_roundw
      case rel => exact ⟨k + 1, by omega, by go_num, HR.out, HB.out⟩
      case measure => simp [intOf]; omega
    · go_wp2
      go_ret
      obtain rfl : k = n := by omega
      exact ⟨rfl, hrow.own (Nat.le_refl _) (by unfold maxLen; omega) ha.1, hB⟩

set_option maxRecDepth 100000 in
set_option maxHeartbeats 400000 in
theorem eqFuncS_any (A B : Option Addr) (n m c d : Nat) (xs ys : List R3) (w : World) (ha : Args 3 w A n (rows R3.vs xs)) (hb : Args 3 w B m (rows R3.vs ys)) (hn : n ≤ 4194304) (hm : m ≤ 4194304) :
    Calls Tryz.prog 18 #[.slice A n c, .slice B m d] w fun e w' => e = .returned (.bool (decide (xs = ys))) ∧ Below w.heap.size w w' := by
  have HA : Hid (xs.length = n) := by have := ha.1; rw [rows_len R3.vs_len] at this; unfold Hid; omega
  have HB : Hid (ys.length = m) := by have := hb.1; rw [rows_len R3.vs_len] at this; unfold Hid; omega
  by_cases hnm : n = m
  · subst hnm
    go_enter Tryz.func18, Tryz.ntmps18
    go_wp2
    go_loopw [5] (fun i wr => ∃ k : Nat, k ≤ n ∧ i = .int .i64 k ∧ Below w.heap.size w wr ∧ Hid (xs.take k = ys.take k)) (fun i _ => n - (intOf i).toNat)
    case atStart => exact ⟨0, Nat.zero_le _, rfl, Below.refl _ _, rfl⟩
    case round =>
      obtain ⟨k, hk, rfl, hB, HR⟩ := hrel
      by_cases hlt : k < n
      · obtain ⟨b1, o1, rfl, hs1⟩ := ha.sl hlt
        obtain ⟨b2, o2, rfl, hs2⟩ := hb.sl hlt
        obtain ⟨x, HX⟩ := hget HA hlt
        obtain ⟨y, HY⟩ := hget HB hlt
        obtain ⟨p0, p1, p2⟩ := (hs1.below' hB).rec3 HX.out
        obtain ⟨q0, q1, q2⟩ := (hs2.below' hB).rec3 HY.out
        clear hs1 hs2 ha hb
        by_cases e : x = y
        · have E := Lib.hid (decide_eq_true e)
          have E2 := Lib.hid e
          clear e
          go_wp2
          go_still_tail 8, (by kernel_rfl)
          change wpList _ _ _ _ _ wr.drew
          have hB2 := hB.drew
          clear p0 q0 p1 q1 p2 q2 hB
          generalize wr.drew = w2 at hB2 ⊢
          go_wp2_with fail
          refine (eqFunc_is x y true E.out _).mono ?_
          rintro e w3 ⟨rfl, hb3⟩
          go_wp2
          go_roundw
          case rel => exact ⟨k + 1, by omega, by go_num, below_step hB2 hb3, take_succ_eq HR.out HX.out HY.out E2.out⟩
          case measure => simp [intOf]; omega
        · have E := Lib.hid (decide_eq_false e)
          have HE := Lib.hid e
          clear e
          go_wp2
          go_still_tail 8, (by kernel_rfl)
          change wpList _ _ _ _ _ wr.drew
          have hB2 := hB.drew
          clear p0 q0 p1 q1 p2 q2 hB
          generalize wr.drew = w2 at hB2 ⊢
          go_wp2_with fail
          refine (eqFunc_is x y false E.out _).mono ?_
          rintro e w3 ⟨rfl, hb3⟩
          go_wp2
          go_ret
          exact ⟨ret_bool (by simp [ne_of_at HX.out HY.out HE.out]), below_step hB2 hb3⟩
      · go_wp2
        go_ret
        refine ⟨ret_bool ?_, hB⟩
        have h1 := HR.out
        have h2 := HA.out
        have h3 := HB.out
        rw [List.take_of_length_le (by omega), List.take_of_length_le (by omega)] at h1
        simp [h1]
  · have hne : ((n : Int) != (m : Int)) = true := by simp; omega
    go_enter Tryz.func18, Tryz.ntmps18
    go_wp2
    go_ret
    refine ⟨ret_bool ?_, Below.refl _ _⟩
    have h2 := HA.out
    have h3 := HB.out
    symm
    apply decide_eq_false
    rintro rfl
    omega

theorem szFuncS_any (A : Option Addr) (n c : Nat) (left : Int) (w : World) (h0 : 0 ≤ left) (h1 : left ≤ 1048576) (hn : n ≤ 9223372036854775807) :
    Calls Tryz.prog 14 #[.slice A n c, .int .i64 left] w fun e w' => e = .returned (.int .i64 (if (n : Int) ≤ left then left - n else -1)) ∧ w = w' := by
  by_cases h : (n : Int) ≤ left
  · have h' : ¬ left - (n : Int) < 0 := by omega
    go_enter Tryz.func14, Tryz.ntmps14
    go_wp2
    go_ret
    exact ⟨ret_int (by first | rfl | rw [if_pos h]), rfl⟩
  · have h' : left - (n : Int) < 0 := by omega
    go_enter Tryz.func14, Tryz.ntmps14
    go_wp2
    go_ret
    exact ⟨ret_int (by first | rfl | rw [if_neg h]), rfl⟩

theorem szFuncS_yes (A : Option Addr) (n c : Nat) (left : Int) (w : World) (h0 : (n : Int) ≤ left) (h1 : left ≤ 1048576) :
    Calls Tryz.prog 14 #[.slice A n c, .int .i64 left] w fun e w' => e = .returned (.int .i64 (left - n)) ∧ w = w' := by
  have h := szFuncS_any A n c left w (by omega) h1 (by omega)
  rw [if_pos h0] at h; exact h

theorem szFuncS_no (A : Option Addr) (n c : Nat) (left : Int) (w : World) (h0 : 0 ≤ left) (h : left < (n : Int)) (h1 : left ≤ 1048576) (hn : n ≤ 9223372036854775807) :
    Calls Tryz.prog 14 #[.slice A n c, .int .i64 left] w fun e w' => e = .returned (.int .i64 (-1)) ∧ w = w' := by
  have h := szFuncS_any A n c left w h0 h1 hn
  rw [if_neg (by omega)] at h; exact h

theorem szFuncS_is (A : Option Addr) (n c left r : Nat) (w : World) (h : r + n = left) (h1 : left ≤ 1048576) :
    Calls Tryz.prog 14 #[.slice A n c, .int .i64 left] w fun e w' => e = .returned (.int .i64 r) ∧ w = w' := by
  have h2 := szFuncS_yes A n c left w (by omega) (by omega)
  rw [show (left : Int) - n = r by omega] at h2; exact h2

theorem szFuncS_not (A : Option Addr) (n c left : Nat) (w : World) (h : left < n) (h1 : left ≤ 1048576) (hn : n ≤ 9223372036854775807) :
    Calls Tryz.prog 14 #[.slice A n c, .int .i64 left] w fun e w' => e = .returned (.int .i64 (-1)) ∧ w = w' :=
  szFuncS_no A n c left w (by omega) (by omega) (by omega) hn

set_option maxHeartbeats 800000 in
theorem markFuncS_any (base : Nat) (v : Value) (n : Nat) (k0 : Int) (xs : List Value) (w : World) (ho : w.ownsRow base 60 3 v n xs) (hk0 : 0 ≤ k0) (hk1 : k0 ≤ 1099511627776) (hn : n ≤ 4194304) :
    Calls Tryz.prog 19 #[v, .int .i64 k0] w fun e w' => e = .returned (.int .i64 (k0 + (n * 3 : Nat))) ∧ w'.ownsRow base 60 3 v n (marks (.int .i64) k0 (n * 3)) ∧ w.grownBy w' v.ownBlock := by
  have HL : Hid (xs.length = n * 3) := ho.1
  rcases ho.2 with ⟨rfl, rfl⟩ | ⟨g, cap, cur, rfl, hbg, hh, hnc, hcm, hcs, htk⟩
  · go_enter Tryz.func19, Tryz.ntmps19
    go_wp2
    refine wp_loop_rounds 1 ?_
    rw [rounds_succ]
    go_wp2
    go_ret
    exact ⟨by simp, by simpa [marks] using World.ownsRow_nil _ _ _ _, World.grownBy.refl _ _⟩
  · clear hh hcs htk
    go_enter Tryz.func19, Tryz.ntmps19
    go_wp2
    go_loopw [1, 5] (fun kk i wr => ∃ k : Nat, k ≤ n ∧ i = .int .i64 k ∧ kk = .int .i64 (k0 + (k * 3 : Nat)) ∧ wr.ownsRow base 60 3 (.slice (some ⟨g, 0, none⟩) n cap) n (marks (.int .i64) k0 (k * 3) ++ xs.drop (k * 3)) ∧ w.grownBy wr (some g)) (fun _ i _ => n - (intOf i).toNat)
    case atStart => exact ⟨0, Nat.zero_le _, rfl, by simp, by simpa [marks] using ho, World.grownBy.refl _ _⟩
    case round =>
      obtain ⟨k, hk, rfl, rfl, hown, hgr⟩ := hrel
      clear ho
      by_cases hlt : k < n
      · obtain ⟨u0, c0⟩ := own_some hown (j := k * 3) (by omega)
        obtain ⟨u1, c1⟩ := own_some hown (j := k * 3 + 1) (by omega)
        obtain ⟨u2, c2⟩ := own_some hown (j := k * 3 + 2) (by omega)
        have z0 := hown.frozenAt (k * 3)
        have z1 := hown.frozenAt (k * 3 + 1)
        have z2 := hown.frozenAt (k * 3 + 2)
        have HS := Lib.hid (own_mark3 hown hgr HL.out hlt)
        have hm0 : ((k * 3 : Nat) : Int) = (k : Int) * 3 := by omega
        clear hown
        go_wp2
        go_roundw
        case rel => exact ⟨k + 1, by omega, by go_num, by go_num, by exact HS.out.1, by exact HS.out.2⟩
        case measure => simp [intOf]; omega
      · go_wp2
        go_ret
        obtain rfl : k = n := by omega
        refine ⟨rfl, ?_, hgr⟩
        rw [List.drop_of_length_le (by have := HL.out; omega), List.append_nil] at hown
        exact hown

end Go.Proofs.YtkiaclajjlidoaaGreatDoor

/- One node of a recursive function: validNode and the reference's l11Many, l11Node. -/
namespace Go.Proofs.YtkiaclajjlidoaaGreatDoor
open Go.RowKit
set_option linter.all false

/-- Three cells that hold a record. -/
def At3 (w : World) (b o : Nat) (x : R3) : Prop := w.cell? ⟨b, o, none⟩ = some (.int .i64 x.a) ∧ w.cell? ⟨b, o + 1, none⟩ = some (.int .i64 x.b) ∧ w.cell? ⟨b, o + 2, none⟩ = some (.int .i64 x.c)
theorem At3.of {w : World} {b off : Nat} {xs : List R3} (h : Sl w b off (rows R3.vs xs)) {k : Nat} {x : R3} (hx : xs[k]? = some x) : At3 w b (off + k * 3) x := h.rec3 hx

set_option maxRecDepth 100000 in
theorem validNode0 (b c : Int) (v : Bool) (h : fOkN ⟨0, b, c⟩ = v) (w : World) : Calls Tryz.prog 95 #[.agg #[.int .i64 0, .int .i64 b, .int .i64 c]] w fun e w' => e = .returned (.bool v) ∧ Below w.heap.size w w' := by
  have h0 : Below w.heap.size w (w.alloc (.cells #[.int .i64 0, .int .i64 b, .int .i64 c] 60)) := laid_below _ _
  rw [fOkN_0 rfl] at h
  simp only at h
  rcases Bool.eq_false_or_eq_true (inB b 0 4) with h1 | h1
  rotate_left
  · have H0 := Lib.hid h1
    have HV : Hid (false = v) := by unfold Hid; rw [← h, h1]; first | rfl | simp
    clear h h1
    go_enter Tryz.func95, Tryz.ntmps95
    go_wp2_with fail
    refine (within_is _ _ _ false H0.out _).mono ?_
    rintro e w1 ⟨rfl, rfl⟩
    go_wp2
    go_ret
    exact ⟨ret_bool HV.out, h0⟩
  have H0 := Lib.hid h1
  rw [h1] at h
  clear h1
  by_cases g1 : c = 0
  rotate_left
  · have e1 : (c == 0) = false := by simpa using g1
    have HV : Hid (false = v) := by unfold Hid; rw [← h]; simp [g1]
    clear h g1
    go_enter Tryz.func95, Tryz.ntmps95
    go_wp2_with fail
    refine (within_is _ _ _ true H0.out _).mono ?_
    rintro e w1 ⟨rfl, rfl⟩
    go_wp2
    go_ret
    exact ⟨ret_bool HV.out, h0⟩
  subst g1
  have H1 : Hid (True) := trivial
  have HV : Hid (true = v) := by unfold Hid; rw [← h]; first | rfl | simp [H0.out, H1.out] | simp
  clear h
  go_enter Tryz.func95, Tryz.ntmps95
  go_wp2_with fail
  refine (within_is _ _ _ true H0.out _).mono ?_
  rintro e w1 ⟨rfl, rfl⟩
  go_wp2
  go_ret
  exact ⟨ret_bool HV.out, h0⟩

set_option maxRecDepth 100000 in
theorem validNode1 (b c : Int) (v : Bool) (h : fOkN ⟨1, b, c⟩ = v) (w : World) : Calls Tryz.prog 95 #[.agg #[.int .i64 1, .int .i64 b, .int .i64 c]] w fun e w' => e = .returned (.bool v) ∧ Below w.heap.size w w' := by
  have h0 : Below w.heap.size w (w.alloc (.cells #[.int .i64 1, .int .i64 b, .int .i64 c] 60)) := laid_below _ _
  rw [fOkN_1 rfl] at h
  simp only at h
  by_cases g0 : b = 1
  rotate_left
  · have e0 : (b == 1) = false := by simpa using g0
    have HV : Hid (false = v) := by unfold Hid; rw [← h]; simp [g0]
    clear h g0
    go_enter Tryz.func95, Tryz.ntmps95
    go_wp2
    go_ret
    exact ⟨ret_bool HV.out, h0⟩
  subst g0
  have H0 : Hid (True) := trivial
  by_cases g1 : c = 0
  rotate_left
  · have e1 : (c == 0) = false := by simpa using g1
    have HV : Hid (false = v) := by unfold Hid; rw [← h]; simp [g1]
    clear h g1
    go_enter Tryz.func95, Tryz.ntmps95
    go_wp2
    go_ret
    exact ⟨ret_bool HV.out, h0⟩
  subst g1
  have H1 : Hid (True) := trivial
  have HV : Hid (true = v) := by unfold Hid; rw [← h]; first | rfl | simp [H0.out, H1.out] | simp
  clear h
  go_enter Tryz.func95, Tryz.ntmps95
  go_wp2
  go_ret
  exact ⟨ret_bool HV.out, h0⟩

set_option maxRecDepth 100000 in
theorem validNode2 (b c : Int) (v : Bool) (h : fOkN ⟨2, b, c⟩ = v) (w : World) : Calls Tryz.prog 95 #[.agg #[.int .i64 2, .int .i64 b, .int .i64 c]] w fun e w' => e = .returned (.bool v) ∧ Below w.heap.size w w' := by
  have h0 : Below w.heap.size w (w.alloc (.cells #[.int .i64 2, .int .i64 b, .int .i64 c] 60)) := laid_below _ _
  rw [fOkN_2 rfl] at h
  simp only at h
  rcases Bool.eq_false_or_eq_true (inB b 1 4) with h1 | h1
  rotate_left
  · have H0 := Lib.hid h1
    have HV : Hid (false = v) := by unfold Hid; rw [← h, h1]; first | rfl | simp
    clear h h1
    go_enter Tryz.func95, Tryz.ntmps95
    go_wp2_with fail
    refine (within_is _ _ _ false H0.out _).mono ?_
    rintro e w1 ⟨rfl, rfl⟩
    go_wp2
    go_ret
    exact ⟨ret_bool HV.out, h0⟩
  have H0 := Lib.hid h1
  rw [h1] at h
  clear h1
  have hb1 : 1 ≤ b := ((inB_iff _ _ _).1 H0.out).1
  have hb4 : b ≤ 4 := ((inB_iff _ _ _).1 H0.out).2
  rcases Bool.eq_false_or_eq_true (inB c 0 (b - 1)) with h2 | h2
  rotate_left
  · have H1 := Lib.hid h2
    have HV : Hid (false = v) := by unfold Hid; rw [← h, h2]; first | rfl | simp
    clear h h2
    go_enter Tryz.func95, Tryz.ntmps95
    go_wp2_with fail
    refine (within_is _ _ _ true H0.out _).mono ?_
    rintro e w1 ⟨rfl, rfl⟩
    go_wp2_with fail
    refine (within_is _ _ _ false H1.out _).mono ?_
    rintro e w2 ⟨rfl, rfl⟩
    go_wp2
    go_ret
    exact ⟨ret_bool HV.out, h0⟩
  have H1 := Lib.hid h2
  rw [h2] at h
  clear h2
  have HV : Hid (true = v) := by unfold Hid; rw [← h]; first | rfl | simp [H0.out, H1.out] | simp
  clear h
  go_enter Tryz.func95, Tryz.ntmps95
  go_wp2_with fail
  refine (within_is _ _ _ true H0.out _).mono ?_
  rintro e w1 ⟨rfl, rfl⟩
  go_wp2_with fail
  refine (within_is _ _ _ true H1.out _).mono ?_
  rintro e w2 ⟨rfl, rfl⟩
  go_wp2
  go_ret
  exact ⟨ret_bool HV.out, h0⟩

set_option maxRecDepth 100000 in
theorem validNode3 (b c : Int) (v : Bool) (h : fOkN ⟨3, b, c⟩ = v) (w : World) : Calls Tryz.prog 95 #[.agg #[.int .i64 3, .int .i64 b, .int .i64 c]] w fun e w' => e = .returned (.bool v) ∧ Below w.heap.size w w' := by
  have h0 : Below w.heap.size w (w.alloc (.cells #[.int .i64 3, .int .i64 b, .int .i64 c] 60)) := laid_below _ _
  rw [fOkN_3 rfl] at h
  simp only at h
  rcases Bool.eq_false_or_eq_true (inB b 0 4) with h1 | h1
  rotate_left
  · have H0 := Lib.hid h1
    have HV : Hid (false = v) := by unfold Hid; rw [← h, h1]; first | rfl | simp
    clear h h1
    go_enter Tryz.func95, Tryz.ntmps95
    go_wp2_with fail
    refine (within_is _ _ _ false H0.out _).mono ?_
    rintro e w1 ⟨rfl, rfl⟩
    go_wp2
    go_ret
    exact ⟨ret_bool HV.out, h0⟩
  have H0 := Lib.hid h1
  rw [h1] at h
  clear h1
  rcases Bool.eq_false_or_eq_true (inB c 1 4) with h2 | h2
  rotate_left
  · have H1 := Lib.hid h2
    have HV : Hid (false = v) := by unfold Hid; rw [← h, h2]; first | rfl | simp
    clear h h2
    go_enter Tryz.func95, Tryz.ntmps95
    go_wp2_with fail
    refine (within_is _ _ _ true H0.out _).mono ?_
    rintro e w1 ⟨rfl, rfl⟩
    go_wp2_with fail
    refine (within_is _ _ _ false H1.out _).mono ?_
    rintro e w2 ⟨rfl, rfl⟩
    go_wp2
    go_ret
    exact ⟨ret_bool HV.out, h0⟩
  have H1 := Lib.hid h2
  rw [h2] at h
  clear h2
  have HV : Hid (true = v) := by unfold Hid; rw [← h]; first | rfl | simp [H0.out, H1.out] | simp
  clear h
  go_enter Tryz.func95, Tryz.ntmps95
  go_wp2_with fail
  refine (within_is _ _ _ true H0.out _).mono ?_
  rintro e w1 ⟨rfl, rfl⟩
  go_wp2_with fail
  refine (within_is _ _ _ true H1.out _).mono ?_
  rintro e w2 ⟨rfl, rfl⟩
  go_wp2
  go_ret
  exact ⟨ret_bool HV.out, h0⟩

set_option maxRecDepth 100000 in
theorem validNode4 (b c : Int) (v : Bool) (h : fOkN ⟨4, b, c⟩ = v) (w : World) : Calls Tryz.prog 95 #[.agg #[.int .i64 4, .int .i64 b, .int .i64 c]] w fun e w' => e = .returned (.bool v) ∧ Below w.heap.size w w' := by
  have h0 : Below w.heap.size w (w.alloc (.cells #[.int .i64 4, .int .i64 b, .int .i64 c] 60)) := laid_below _ _
  rw [fOkN_4 rfl] at h
  simp only at h
  rcases Bool.eq_false_or_eq_true (inB b 1 3) with h1 | h1
  rotate_left
  · have H0 := Lib.hid h1
    have HV : Hid (false = v) := by unfold Hid; rw [← h, h1]; first | rfl | simp
    clear h h1
    go_enter Tryz.func95, Tryz.ntmps95
    go_wp2_with fail
    refine (within_is _ _ _ false H0.out _).mono ?_
    rintro e w1 ⟨rfl, rfl⟩
    go_wp2
    go_ret
    exact ⟨ret_bool HV.out, h0⟩
  have H0 := Lib.hid h1
  rw [h1] at h
  clear h1
  by_cases g1 : c = 0
  rotate_left
  · have e1 : (c == 0) = false := by simpa using g1
    have HV : Hid (false = v) := by unfold Hid; rw [← h]; simp [g1]
    clear h g1
    go_enter Tryz.func95, Tryz.ntmps95
    go_wp2_with fail
    refine (within_is _ _ _ true H0.out _).mono ?_
    rintro e w1 ⟨rfl, rfl⟩
    go_wp2
    go_ret
    exact ⟨ret_bool HV.out, h0⟩
  subst g1
  have H1 : Hid (True) := trivial
  have HV : Hid (true = v) := by unfold Hid; rw [← h]; first | rfl | simp [H0.out, H1.out] | simp
  clear h
  go_enter Tryz.func95, Tryz.ntmps95
  go_wp2_with fail
  refine (within_is _ _ _ true H0.out _).mono ?_
  rintro e w1 ⟨rfl, rfl⟩
  go_wp2
  go_ret
  exact ⟨ret_bool HV.out, h0⟩

set_option maxRecDepth 100000 in
theorem validNode5 (b c : Int) (v : Bool) (h : fOkN ⟨5, b, c⟩ = v) (w : World) : Calls Tryz.prog 95 #[.agg #[.int .i64 5, .int .i64 b, .int .i64 c]] w fun e w' => e = .returned (.bool v) ∧ Below w.heap.size w w' := by
  have h0 : Below w.heap.size w (w.alloc (.cells #[.int .i64 5, .int .i64 b, .int .i64 c] 60)) := laid_below _ _
  rw [fOkN_5 rfl] at h
  simp only at h
  rcases Bool.eq_false_or_eq_true (inB b 0 3) with h1 | h1
  rotate_left
  · have H0 := Lib.hid h1
    have HV : Hid (false = v) := by unfold Hid; rw [← h, h1]; first | rfl | simp
    clear h h1
    go_enter Tryz.func95, Tryz.ntmps95
    go_wp2_with fail
    refine (within_is _ _ _ false H0.out _).mono ?_
    rintro e w1 ⟨rfl, rfl⟩
    go_wp2
    go_ret
    exact ⟨ret_bool HV.out, h0⟩
  have H0 := Lib.hid h1
  rw [h1] at h
  clear h1
  by_cases g1 : c = 0
  rotate_left
  · have e1 : (c == 0) = false := by simpa using g1
    have HV : Hid (false = v) := by unfold Hid; rw [← h]; simp [g1]
    clear h g1
    go_enter Tryz.func95, Tryz.ntmps95
    go_wp2_with fail
    refine (within_is _ _ _ true H0.out _).mono ?_
    rintro e w1 ⟨rfl, rfl⟩
    go_wp2
    go_ret
    exact ⟨ret_bool HV.out, h0⟩
  subst g1
  have H1 : Hid (True) := trivial
  have HV : Hid (true = v) := by unfold Hid; rw [← h]; first | rfl | simp [H0.out, H1.out] | simp
  clear h
  go_enter Tryz.func95, Tryz.ntmps95
  go_wp2_with fail
  refine (within_is _ _ _ true H0.out _).mono ?_
  rintro e w1 ⟨rfl, rfl⟩
  go_wp2
  go_ret
  exact ⟨ret_bool HV.out, h0⟩

set_option maxRecDepth 100000 in
theorem validNode6 (a b c : Int) (v : Bool) (h : fOkN ⟨a, b, c⟩ = v) (w : World) (a0 : a ≠ 0) (a1 : a ≠ 1) (a2 : a ≠ 2) (a3 : a ≠ 3) (a4 : a ≠ 4) (a5 : a ≠ 5) : Calls Tryz.prog 95 #[.agg #[.int .i64 a, .int .i64 b, .int .i64 c]] w fun e w' => e = .returned (.bool v) ∧ Below w.heap.size w w' := by
  have h0 : Below w.heap.size w (w.alloc (.cells #[.int .i64 a, .int .i64 b, .int .i64 c] 60)) := laid_below _ _
  have HV : Hid (false = v) := by unfold Hid; rw [← h, fOkN_6 a0 a1 a2 a3 a4 a5]
  have e0 : (a == 0) = false := by simpa using a0
  have e1 : (a == 1) = false := by simpa using a1
  have e2 : (a == 2) = false := by simpa using a2
  have e3 : (a == 3) = false := by simpa using a3
  have e4 : (a == 4) = false := by simpa using a4
  have e5 : (a == 5) = false := by simpa using a5
  clear h a0 a1 a2 a3 a4 a5
  go_enter Tryz.func95, Tryz.ntmps95
  go_wp2
  go_ret
  exact ⟨ret_bool HV.out, h0⟩

theorem validNode_is (x : R3) (v : Bool) (h : fOkN x = v) (w : World) : Calls Tryz.prog 95 #[.agg #[.int .i64 x.a, .int .i64 x.b, .int .i64 x.c]] w fun e w' => e = .returned (.bool v) ∧ Below w.heap.size w w' := by
  obtain ⟨a, b, c⟩ := x
  by_cases a0 : a = 0
  · subst a0; exact validNode0 b c v h w
  by_cases a1 : a = 1
  · subst a1; exact validNode1 b c v h w
  by_cases a2 : a = 2
  · subst a2; exact validNode2 b c v h w
  by_cases a3 : a = 3
  · subst a3; exact validNode3 b c v h w
  by_cases a4 : a = 4
  · subst a4; exact validNode4 b c v h w
  by_cases a5 : a = 5
  · subst a5; exact validNode5 b c v h w
  exact validNode6 a b c v h w a0 a1 a2 a3 a4 a5

set_option maxRecDepth 100000 in
theorem l11Node0 (b c : Int) (p o : Nat) (v : Bool) (h : fOkN ⟨0, b, c⟩ = v) (w : World) (hp : At3 w p o ⟨0, b, c⟩) : Calls Tryz.prog 76 #[.pointer (some ⟨p, o, none⟩)] w fun e w' => e = .returned (.bool v) ∧ Below w.heap.size w w' := by
  obtain ⟨p0, p1, p2⟩ := hp
  simp only at p0 p1 p2
  rw [fOkN_0 rfl] at h
  simp only at h
  rcases Bool.eq_false_or_eq_true (inB b 0 4) with h1 | h1
  rotate_left
  · have H0 := Lib.hid h1
    have HV : Hid (false = v) := by unfold Hid; rw [← h, h1]; first | rfl | simp
    clear h h1
    go_enter Tryz.func76, Tryz.ntmps76
    go_wp2_with fail
    refine (l00In_is _ _ _ false H0.out _).mono ?_
    rintro e w1 ⟨rfl, rfl⟩
    go_wp2
    go_ret
    exact ⟨ret_bool HV.out, Below.refl _ _⟩
  have H0 := Lib.hid h1
  rw [h1] at h
  clear h1
  by_cases g1 : c = 0
  rotate_left
  · have e1 : (c == 0) = false := by simpa using g1
    have HV : Hid (false = v) := by unfold Hid; rw [← h]; simp [g1]
    clear h g1
    go_enter Tryz.func76, Tryz.ntmps76
    go_wp2_with fail
    refine (l00In_is _ _ _ true H0.out _).mono ?_
    rintro e w1 ⟨rfl, rfl⟩
    go_wp2
    go_ret
    exact ⟨ret_bool HV.out, Below.refl _ _⟩
  subst g1
  have H1 : Hid (True) := trivial
  have HV : Hid (true = v) := by unfold Hid; rw [← h]; first | rfl | simp [H0.out, H1.out] | simp
  clear h
  go_enter Tryz.func76, Tryz.ntmps76
  go_wp2_with fail
  refine (l00In_is _ _ _ true H0.out _).mono ?_
  rintro e w1 ⟨rfl, rfl⟩
  go_wp2
  go_ret
  exact ⟨ret_bool HV.out, Below.refl _ _⟩

set_option maxRecDepth 100000 in
theorem l11Node1 (b c : Int) (p o : Nat) (v : Bool) (h : fOkN ⟨1, b, c⟩ = v) (w : World) (hp : At3 w p o ⟨1, b, c⟩) : Calls Tryz.prog 76 #[.pointer (some ⟨p, o, none⟩)] w fun e w' => e = .returned (.bool v) ∧ Below w.heap.size w w' := by
  obtain ⟨p0, p1, p2⟩ := hp
  simp only at p0 p1 p2
  rw [fOkN_1 rfl] at h
  simp only at h
  by_cases g0 : b = 1
  rotate_left
  · have e0 : (b == 1) = false := by simpa using g0
    have HV : Hid (false = v) := by unfold Hid; rw [← h]; simp [g0]
    clear h g0
    go_enter Tryz.func76, Tryz.ntmps76
    go_wp2
    go_ret
    exact ⟨ret_bool HV.out, Below.refl _ _⟩
  subst g0
  have H0 : Hid (True) := trivial
  by_cases g1 : c = 0
  rotate_left
  · have e1 : (c == 0) = false := by simpa using g1
    have HV : Hid (false = v) := by unfold Hid; rw [← h]; simp [g1]
    clear h g1
    go_enter Tryz.func76, Tryz.ntmps76
    go_wp2
    go_ret
    exact ⟨ret_bool HV.out, Below.refl _ _⟩
  subst g1
  have H1 : Hid (True) := trivial
  have HV : Hid (true = v) := by unfold Hid; rw [← h]; first | rfl | simp [H0.out, H1.out] | simp
  clear h
  go_enter Tryz.func76, Tryz.ntmps76
  go_wp2
  go_ret
  exact ⟨ret_bool HV.out, Below.refl _ _⟩

set_option maxRecDepth 100000 in
theorem l11Node2 (b c : Int) (p o : Nat) (v : Bool) (h : fOkN ⟨2, b, c⟩ = v) (w : World) (hp : At3 w p o ⟨2, b, c⟩) : Calls Tryz.prog 76 #[.pointer (some ⟨p, o, none⟩)] w fun e w' => e = .returned (.bool v) ∧ Below w.heap.size w w' := by
  obtain ⟨p0, p1, p2⟩ := hp
  simp only at p0 p1 p2
  rw [fOkN_2 rfl] at h
  simp only at h
  rcases Bool.eq_false_or_eq_true (inB b 1 4) with h1 | h1
  rotate_left
  · have H0 := Lib.hid h1
    have HV : Hid (false = v) := by unfold Hid; rw [← h, h1]; first | rfl | simp
    clear h h1
    go_enter Tryz.func76, Tryz.ntmps76
    go_wp2
    go_quiet ((go_at_call 38; exact quiet_eq (l00In_is _ _ _ _ (by first | exact H0.out) _)))
    go_wp2
    go_ret
    exact ⟨ret_bool HV.out, quiet_below rfl⟩
  have H0 := Lib.hid h1
  rw [h1] at h
  clear h1
  have hb1 : 1 ≤ b := ((inB_iff _ _ _).1 H0.out).1
  have hb4 : b ≤ 4 := ((inB_iff _ _ _).1 H0.out).2
  rcases Bool.eq_false_or_eq_true (inB c 0 (b - 1)) with h2 | h2
  rotate_left
  · have H1 := Lib.hid h2
    have HV : Hid (false = v) := by unfold Hid; rw [← h, h2]; first | rfl | simp
    clear h h2
    have w1 : IntKind.i64.wrap (b - 1) = b - 1 := IntWalk.i64_in _ (by omega)
    go_enter Tryz.func76, Tryz.ntmps76
    go_wp2
    go_quiet ((go_at_call 38; exact quiet_eq (l00In_is _ _ _ _ (by first | exact H0.out | exact H1.out) _)))
    go_wp2
    go_ret
    exact ⟨ret_bool HV.out, quiet_below rfl⟩
  have H1 := Lib.hid h2
  rw [h2] at h
  clear h2
  have HV : Hid (true = v) := by unfold Hid; rw [← h]; first | rfl | simp [H0.out, H1.out] | simp
  clear h
  have w1 : IntKind.i64.wrap (b - 1) = b - 1 := IntWalk.i64_in _ (by omega)
  go_enter Tryz.func76, Tryz.ntmps76
  go_wp2
  go_quiet ((go_at_call 38; exact quiet_eq (l00In_is _ _ _ _ (by first | exact H0.out | exact H1.out) _)))
  go_wp2
  go_ret
  exact ⟨ret_bool HV.out, quiet_below rfl⟩

set_option maxRecDepth 100000 in
theorem l11Node3 (b c : Int) (p o : Nat) (v : Bool) (h : fOkN ⟨3, b, c⟩ = v) (w : World) (hp : At3 w p o ⟨3, b, c⟩) : Calls Tryz.prog 76 #[.pointer (some ⟨p, o, none⟩)] w fun e w' => e = .returned (.bool v) ∧ Below w.heap.size w w' := by
  obtain ⟨p0, p1, p2⟩ := hp
  simp only at p0 p1 p2
  rw [fOkN_3 rfl] at h
  simp only at h
  rcases Bool.eq_false_or_eq_true (inB b 0 4) with h1 | h1
  rotate_left
  · have H0 := Lib.hid h1
    have HV : Hid (false = v) := by unfold Hid; rw [← h, h1]; first | rfl | simp
    clear h h1
    go_enter Tryz.func76, Tryz.ntmps76
    go_wp2_with fail
    refine (l00In_is _ _ _ false H0.out _).mono ?_
    rintro e w1 ⟨rfl, rfl⟩
    go_wp2
    go_ret
    exact ⟨ret_bool HV.out, Below.refl _ _⟩
  have H0 := Lib.hid h1
  rw [h1] at h
  clear h1
  rcases Bool.eq_false_or_eq_true (inB c 1 4) with h2 | h2
  rotate_left
  · have H1 := Lib.hid h2
    have HV : Hid (false = v) := by unfold Hid; rw [← h, h2]; first | rfl | simp
    clear h h2
    go_enter Tryz.func76, Tryz.ntmps76
    go_wp2_with fail
    refine (l00In_is _ _ _ true H0.out _).mono ?_
    rintro e w1 ⟨rfl, rfl⟩
    go_wp2_with fail
    refine (l00In_is _ _ _ false H1.out _).mono ?_
    rintro e w2 ⟨rfl, rfl⟩
    go_wp2
    go_ret
    exact ⟨ret_bool HV.out, Below.refl _ _⟩
  have H1 := Lib.hid h2
  rw [h2] at h
  clear h2
  have HV : Hid (true = v) := by unfold Hid; rw [← h]; first | rfl | simp [H0.out, H1.out] | simp
  clear h
  go_enter Tryz.func76, Tryz.ntmps76
  go_wp2_with fail
  refine (l00In_is _ _ _ true H0.out _).mono ?_
  rintro e w1 ⟨rfl, rfl⟩
  go_wp2_with fail
  refine (l00In_is _ _ _ true H1.out _).mono ?_
  rintro e w2 ⟨rfl, rfl⟩
  go_wp2
  go_ret
  exact ⟨ret_bool HV.out, Below.refl _ _⟩

set_option maxRecDepth 100000 in
theorem l11Node4 (b c : Int) (p o : Nat) (v : Bool) (h : fOkN ⟨4, b, c⟩ = v) (w : World) (hp : At3 w p o ⟨4, b, c⟩) : Calls Tryz.prog 76 #[.pointer (some ⟨p, o, none⟩)] w fun e w' => e = .returned (.bool v) ∧ Below w.heap.size w w' := by
  obtain ⟨p0, p1, p2⟩ := hp
  simp only at p0 p1 p2
  rw [fOkN_4 rfl] at h
  simp only at h
  rcases Bool.eq_false_or_eq_true (inB b 1 3) with h1 | h1
  rotate_left
  · have H0 := Lib.hid h1
    have HV : Hid (false = v) := by unfold Hid; rw [← h, h1]; first | rfl | simp
    clear h h1
    go_enter Tryz.func76, Tryz.ntmps76
    go_wp2_with fail
    refine (l00In_is _ _ _ false H0.out _).mono ?_
    rintro e w1 ⟨rfl, rfl⟩
    go_wp2
    go_ret
    exact ⟨ret_bool HV.out, Below.refl _ _⟩
  have H0 := Lib.hid h1
  rw [h1] at h
  clear h1
  by_cases g1 : c = 0
  rotate_left
  · have e1 : (c == 0) = false := by simpa using g1
    have HV : Hid (false = v) := by unfold Hid; rw [← h]; simp [g1]
    clear h g1
    go_enter Tryz.func76, Tryz.ntmps76
    go_wp2_with fail
    refine (l00In_is _ _ _ true H0.out _).mono ?_
    rintro e w1 ⟨rfl, rfl⟩
    go_wp2
    go_ret
    exact ⟨ret_bool HV.out, Below.refl _ _⟩
  subst g1
  have H1 : Hid (True) := trivial
  have HV : Hid (true = v) := by unfold Hid; rw [← h]; first | rfl | simp [H0.out, H1.out] | simp
  clear h
  go_enter Tryz.func76, Tryz.ntmps76
  go_wp2_with fail
  refine (l00In_is _ _ _ true H0.out _).mono ?_
  rintro e w1 ⟨rfl, rfl⟩
  go_wp2
  go_ret
  exact ⟨ret_bool HV.out, Below.refl _ _⟩

set_option maxRecDepth 100000 in
theorem l11Node5 (b c : Int) (p o : Nat) (v : Bool) (h : fOkN ⟨5, b, c⟩ = v) (w : World) (hp : At3 w p o ⟨5, b, c⟩) : Calls Tryz.prog 76 #[.pointer (some ⟨p, o, none⟩)] w fun e w' => e = .returned (.bool v) ∧ Below w.heap.size w w' := by
  obtain ⟨p0, p1, p2⟩ := hp
  simp only at p0 p1 p2
  rw [fOkN_5 rfl] at h
  simp only at h
  rcases Bool.eq_false_or_eq_true (inB b 0 3) with h1 | h1
  rotate_left
  · have H0 := Lib.hid h1
    have HV : Hid (false = v) := by unfold Hid; rw [← h, h1]; first | rfl | simp
    clear h h1
    go_enter Tryz.func76, Tryz.ntmps76
    go_wp2_with fail
    refine (l00In_is _ _ _ false H0.out _).mono ?_
    rintro e w1 ⟨rfl, rfl⟩
    go_wp2
    go_ret
    exact ⟨ret_bool HV.out, Below.refl _ _⟩
  have H0 := Lib.hid h1
  rw [h1] at h
  clear h1
  by_cases g1 : c = 0
  rotate_left
  · have e1 : (c == 0) = false := by simpa using g1
    have HV : Hid (false = v) := by unfold Hid; rw [← h]; simp [g1]
    clear h g1
    go_enter Tryz.func76, Tryz.ntmps76
    go_wp2_with fail
    refine (l00In_is _ _ _ true H0.out _).mono ?_
    rintro e w1 ⟨rfl, rfl⟩
    go_wp2
    go_ret
    exact ⟨ret_bool HV.out, Below.refl _ _⟩
  subst g1
  have H1 : Hid (True) := trivial
  have HV : Hid (true = v) := by unfold Hid; rw [← h]; first | rfl | simp [H0.out, H1.out] | simp
  clear h
  go_enter Tryz.func76, Tryz.ntmps76
  go_wp2_with fail
  refine (l00In_is _ _ _ true H0.out _).mono ?_
  rintro e w1 ⟨rfl, rfl⟩
  go_wp2
  go_ret
  exact ⟨ret_bool HV.out, Below.refl _ _⟩

set_option maxRecDepth 100000 in
theorem l11Node6 (a b c : Int) (p o : Nat) (v : Bool) (h : fOkN ⟨a, b, c⟩ = v) (w : World) (hp : At3 w p o ⟨a, b, c⟩) (a0 : a ≠ 0) (a1 : a ≠ 1) (a2 : a ≠ 2) (a3 : a ≠ 3) (a4 : a ≠ 4) (a5 : a ≠ 5) : Calls Tryz.prog 76 #[.pointer (some ⟨p, o, none⟩)] w fun e w' => e = .returned (.bool v) ∧ Below w.heap.size w w' := by
  obtain ⟨p0, p1, p2⟩ := hp
  simp only at p0 p1 p2
  have HV : Hid (false = v) := by unfold Hid; rw [← h, fOkN_6 a0 a1 a2 a3 a4 a5]
  have e0 : (a == 0) = false := by simpa using a0
  have e1 : (a == 1) = false := by simpa using a1
  have e2 : (a == 2) = false := by simpa using a2
  have e3 : (a == 3) = false := by simpa using a3
  have e4 : (a == 4) = false := by simpa using a4
  have e5 : (a == 5) = false := by simpa using a5
  clear h a0 a1 a2 a3 a4 a5
  go_enter Tryz.func76, Tryz.ntmps76
  go_wp2
  go_ret
  exact ⟨ret_bool HV.out, Below.refl _ _⟩

theorem l11Node_is (p o : Nat) (x : R3) (v : Bool) (h : fOkN x = v) (w : World) (hp : At3 w p o x) : Calls Tryz.prog 76 #[.pointer (some ⟨p, o, none⟩)] w fun e w' => e = .returned (.bool v) ∧ Below w.heap.size w w' := by
  obtain ⟨a, b, c⟩ := x
  by_cases a0 : a = 0
  · subst a0; exact l11Node0 b c p o v h w hp
  by_cases a1 : a = 1
  · subst a1; exact l11Node1 b c p o v h w hp
  by_cases a2 : a = 2
  · subst a2; exact l11Node2 b c p o v h w hp
  by_cases a3 : a = 3
  · subst a3; exact l11Node3 b c p o v h w hp
  by_cases a4 : a = 4
  · subst a4; exact l11Node4 b c p o v h w hp
  by_cases a5 : a = 5
  · subst a5; exact l11Node5 b c p o v h w hp
  exact l11Node6 a b c p o v h w hp a0 a1 a2 a3 a4 a5

set_option maxRecDepth 100000 in
theorem l11Many_any (p o : Nat) (x : R3) (hok : fOkN x = true) (w : World) (hp : At3 w p o x) : Calls Tryz.prog 49 #[.pointer (some ⟨p, o, none⟩)] w fun e w' => e = .returned (.int .i64 (fMany x : Nat)) ∧ w = w' := by
  have hx := (fOkN_iff x).1 hok
  obtain ⟨a, b, c⟩ := x
  obtain ⟨p0, p1, p2⟩ := hp
  simp only at *
  by_cases a3 : a = 3
  · subst a3
    have hc0 : 0 ≤ c := by omega
    have hc1 : c ≤ 4 := by omega
    have HE : Hid ((fMany ⟨3, b, c⟩ : Int) = c + 1) := by unfold Hid; rw [fMany_3 rfl]; simp only; omega
    clear hx hok
    go_enter Tryz.func49, Tryz.ntmps49
    go_wp2
    go_ret
    exact ⟨ret_int HE.out.symm, rfl⟩
  by_cases a4 : a = 4
  · subst a4
    clear hx hok a3
    go_enter Tryz.func49, Tryz.ntmps49
    go_wp2
    go_ret
    exact ⟨ret_int (by rw [fMany_4 rfl]; rfl), rfl⟩
  by_cases a5 : a = 5
  · subst a5
    clear hx hok a3 a4
    go_enter Tryz.func49, Tryz.ntmps49
    go_wp2
    go_ret
    exact ⟨ret_int (by rw [fMany_5 rfl]; rfl), rfl⟩
  have HE : Hid (fMany ⟨a, b, c⟩ = 0) := fMany_0 a3 a4 a5
  have e3 : (a == 3) = false := by simpa using a3
  have e4 : (a == 4) = false := by simpa using a4
  have e5 : (a == 5) = false := by simpa using a5
  clear hx hok a3 a4 a5
  go_enter Tryz.func49, Tryz.ntmps49
  go_wp2
  go_ret
  exact ⟨ret_int (by rw [HE.out]; rfl), rfl⟩
end Go.Proofs.YtkiaclajjlidoaaGreatDoor

/- Recursive functions, the reference's side: l11End, l11Parts. -/
namespace Go.Proofs.YtkiaclajjlidoaaGreatDoor
open Go.RowKit
set_option linter.all false

/-- Where m functions begin, one behind the other. -/
def poss : Nat → Nat → List R3 → List Nat
  | 0, _, _ => []
  | m + 1, at', l => at' :: poss m (at' + (tPosAt fMany 1 0 l).toNat) (l.drop (tPosAt fMany 1 0 l).toNat)
theorem poss_len : ∀ (m k : Nat) (l : List R3), (poss m k l).length = m
  | 0, _, _ => rfl
  | m + 1, _, _ => by rw [poss, List.length_cons, poss_len]
theorem rts_drop (m : Nat) (l : List R3) : ∀ s q : Nat, tPosAt fMany s 0 l = (q : Int) → rts m s l = rts m 0 (l.drop q) := by
  induction l with
  | nil => intro s q _; rw [List.drop_nil, rts_nil, rts_nil]
  | cons x l ih =>
    intro s q h
    cases s with
    | zero => rw [tPosAt_zero] at h; have : q = 0 := by omega
              subst this; rfl
    | succ s =>
      rw [tPosAt_succ] at h
      rcases tPosAt_shift fMany l (s + fMany x) 1 0 with ⟨h1, _⟩ | ⟨q', h1, h2⟩
      · rw [Nat.zero_add, h1] at h; omega
      · rw [Nat.zero_add, h1] at h
        have : q = q' + 1 := by omega
        subst this
        rw [rts_skip, List.drop_succ_cons]
        exact ih _ q' (by rw [h2]; congr 1; omega)
def arAt (xs : List R3) (p : Nat) : Int := match xs[p]? with | some x => x.b | none => 0
theorem rts_poss (xs : List R3) (b : Nat) : ∀ (m k : Nat), fit fMany (m + b) (xs.drop k) = true → rts m 0 (xs.drop k) = (poss m k (xs.drop k)).map (arAt xs) ∧ ∀ p ∈ poss m k (xs.drop k), p < xs.length := by
  intro m
  induction m with
  | zero => intro k _; rw [rts_0]; exact ⟨rfl, by simp [poss]⟩
  | succ m ih =>
    intro k hf
    obtain ⟨q, h1, h2, h3, h4, h5⟩ := fit_split fMany (xs.drop k) 1 (m + b) 0 (by rw [← hf]; congr 1; omega)
    rw [Nat.zero_add] at h2
    have hk : k < xs.length := by have := h5 (by omega); rw [List.length_drop] at h1; omega
    have hx : xs[k]? = some xs[k] := List.getElem?_eq_getElem hk
    have hd : xs.drop k = xs[k] :: xs.drop (k + 1) := drop_at hx
    have hq : (tPosAt fMany 1 0 (xs.drop k)).toNat = q := by rw [h2]; simp
    rw [List.drop_drop] at h4
    obtain ⟨i1, i2⟩ := ih (k + q) h4
    rw [poss, hq, List.drop_drop]
    refine ⟨?_, ?_⟩
    · rw [List.map_cons, ← i1]
      have e1 : arAt xs k = xs[k].b := by unfold arAt; rw [hx]
      rw [e1, hd, rts_take]
      congr 1
      have h2' := h2
      rw [hd, show (1 : Nat) = 0 + 1 from rfl, tPosAt_succ, Nat.zero_add] at h2'
      obtain ⟨q', rfl⟩ : ∃ q', q = q' + 1 := ⟨q - 1, by have := h5 (by omega); omega⟩
      rcases tPosAt_shift fMany (xs.drop (k + 1)) (fMany xs[k]) (0 + 1) 0 with ⟨h6, _⟩ | ⟨q2, h6, h7⟩
      · rw [h6] at h2'; omega
      · rw [h6] at h2'
        have : q2 = q' := by omega
        subst this
        rw [rts_drop m _ _ q2 (by rw [h7]; congr 1; omega), List.drop_drop]
        congr 2
        omega
    · intro p hp
      rcases List.mem_cons.1 hp with rfl | hp
      · exact hk
      · exact i2 p hp

/-- What l11End gives. -/
def EndOk (xs : List R3) (k0 : Nat) (en : Int) (ok : Bool) : Prop :=
  (ok = true ∧ ∃ q : Nat, en = ((k0 + q : Nat) : Int) ∧ tPosAt fMany 1 k0 (xs.drop k0) = ((k0 + q : Nat) : Int) ∧ ((xs.drop k0).take q).all fOkN = true) ∨
  (ok = false ∧ ∀ q : Nat, tPosAt fMany 1 k0 (xs.drop k0) = ((k0 + q : Nat) : Int) → ((xs.drop k0).take q).all fOkN = false)
def EndPost (xs : List R3) (k0 : Nat) (w : World) (e : Ending) (w' : World) : Prop := (∃ (en : Int) (ok : Bool), e = .returned (.tuple #[.int .i64 en, .bool ok]) ∧ EndOk xs k0 en ok) ∧ Below w.heap.size w w'
theorem tPosAt_ge {l : List R3} {op k p : Nat} (h : tPosAt fMany op k l = (p : Int)) : k ≤ p := by
  rcases tPosAt_shift fMany l op k 0 with ⟨h1, _⟩ | ⟨q, h1, _⟩
  · rw [h1] at h; omega
  · rw [h1] at h; omega
theorem all_false {xs : List R3} {k0 k q : Nat} {x : R3} (hx : xs[k]? = some x) (h0 : k0 ≤ k) (hq : k + 1 ≤ k0 + q) (hb : fOkN x = false) : ((xs.drop k0).take q).all fOkN = false := by
  rw [Bool.eq_false_iff]
  intro hh
  have := List.all_eq_true.1 hh x (List.mem_of_getElem? (i := k - k0) (by rw [List.getElem?_take, if_pos (by omega), List.getElem?_drop, show k0 + (k - k0) = k by omega]; exact hx))
  rw [hb] at this; cases this
theorem all_next {xs : List R3} {k0 k : Nat} {x : R3} (hx : xs[k]? = some x) (h0 : k0 ≤ k) (h : ((xs.drop k0).take (k - k0)).all fOkN = true) (hb : fOkN x = true) : ((xs.drop k0).take (k + 1 - k0)).all fOkN = true := by
  rw [show k + 1 - k0 = (k - k0) + 1 by omega, List.take_add_one, List.getElem?_drop, show k0 + (k - k0) = k by omega, hx, List.all_append, h]
  simp [hb]

set_option maxRecDepth 100000 in
set_option maxHeartbeats 1000000 in
theorem l11End_any (A : Option Addr) (n c k0 : Nat) (kk : Int) (hkk : kk = (k0 : Int)) (xs : List R3) (w : World) (ha : Args 3 w A n (rows R3.vs xs)) (hn : n ≤ 1048576) (hk0 : k0 ≤ n) :
    Calls Tryz.prog 50 #[.slice A n c, .int .i64 kk] w (EndPost xs k0 w) := by
  subst hkk
  have HL : Hid (xs.length = n) := by have := ha.1; rw [rows_len R3.vs_len] at this; unfold Hid; omega
  go_enter Tryz.func50, Tryz.ntmps50
  go_wp2
  go_loopw [1, 6] (fun i o wr => ∃ k op : Nat, k0 ≤ k ∧ k ≤ n ∧ op ≤ 5 * k + 1 ∧ i = .int .i64 k ∧ o = .int .i64 op ∧ Below w.heap.size w wr ∧ Hid (tPosAt fMany 1 k0 (xs.drop k0) = tPosAt fMany op k (xs.drop k)) ∧ Hid (((xs.drop k0).take (k - k0)).all fOkN = true)) (fun i _ _ => n - (intOf i).toNat)
  case atStart => exact ⟨k0, 1, Nat.le_refl _, hk0, by omega, rfl, rfl, Below.refl _ _, rfl, by simp [Hid]⟩
  case round =>
    obtain ⟨k, op, hk, hkn, hop, rfl, rfl, hB, HT, HA⟩ := hrel
    by_cases ho : op = 0
    · subst ho
      go_wp2
      go_ret2
      refine ⟨⟨_, _, rfl, .inl ⟨rfl, k - k0, ?_, ?_, HA.out⟩⟩, hB⟩
      · rw [Nat.add_sub_cancel' hk]
      · rw [Nat.add_sub_cancel' hk, HT.out, tPosAt_zero]
    · have ho1 : (0 : Int) < (op : Int) := by omega
      obtain ⟨op, rfl⟩ : ∃ q, op = q + 1 := ⟨op - 1, by omega⟩
      by_cases hlt : k < n
      · obtain ⟨b, off, rfl, hs⟩ := ha.sl hlt
        obtain ⟨x, HX⟩ := hget HL hlt
        have HAT := Lib.hid (At3.of (hs.below' hB) HX.out)
        have hkn' : ((k : Int) == (n : Int)) = false := by simp; omega
        have hk0' : (0 : Int) ≤ (k : Int) := by omega
        have hkl' : (k : Int) < (n : Int) := by omega
        have HT2 : Hid (tPosAt fMany 1 k0 (xs.drop k0) = tPosAt fMany (op + fMany x) (k + 1) (xs.drop (k + 1))) := by unfold Hid; rw [HT.out, drop_at HX.out, tPosAt_succ]
        clear ho
        rcases Bool.eq_false_or_eq_true (fOkN x) with hok | hok
        · have HA2 := Lib.hid (all_next HX.out hk HA.out hok)
          have hm := fMany_le hok
          have HOK := Lib.hid hok
          clear hok
          go_wp2_with fail
          refine (l11Node_is _ _ x true HOK.out _ HAT.out).mono ?_
          rintro e w1 ⟨rfl, b1⟩
          have B1 := below_step hB b1
          have HAT1 := Lib.hid (At3.of (hs.below' B1) HX.out)
          go_wp2_with fail
          refine (l11Many_any _ _ x HOK.out _ HAT1.out).mono ?_
          rintro e w2 ⟨rfl, rfl⟩
          go_wp2
          go_roundw
          case rel => exact ⟨k + 1, op + fMany x, by omega, by omega, by omega, by go_num, by congr 1; omega, B1, HT2, HA2⟩
          case measure => simp [intOf]; omega
        · have HOK := Lib.hid hok
          have HN : Hid (∀ q : Nat, tPosAt fMany 1 k0 (xs.drop k0) = ((k0 + q : Nat) : Int) → ((xs.drop k0).take q).all fOkN = false) := fun q hq => all_false HX.out hk (by rw [HT2.out] at hq; exact tPosAt_ge hq) HOK.out
          clear hok
          go_wp2_with fail
          refine (l11Node_is _ _ x false HOK.out _ HAT.out).mono ?_
          rintro e w1 ⟨rfl, b1⟩
          have B1 := below_step hB b1
          go_wp2
          go_ret2
          exact ⟨⟨_, _, rfl, .inr ⟨rfl, HN.out⟩⟩, B1⟩
      · have hkn' : ((k : Int) == (n : Int)) = true := by simp; omega
        have HN : Hid (∀ q : Nat, tPosAt fMany 1 k0 (xs.drop k0) = ((k0 + q : Nat) : Int) → ((xs.drop k0).take q).all fOkN = false) := fun q hq => by
          rw [HT.out, List.drop_of_length_le (by have := HL.out; omega), tPosAt_none] at hq; omega
        go_wp2
        go_ret2
        exact ⟨⟨_, _, rfl, .inr ⟨rfl, HN.out⟩⟩, hB⟩

theorem infoIntK : (Tryz.prog.info? 3).map (fun i => (i.zero, i.size, i.bytes)) = some (some (Value.int .i64 0), 1, 8) := by kernel_rfl

set_option maxRecDepth 100000 in
set_option maxHeartbeats 1000000 in
theorem l11Parts_any (A : Option Addr) (n c k b : Nat) (kk : Int) (hkk : kk = (k : Int)) (xs : List R3) (x : R3) (hx : xs[k]? = some x) (hok : xs.all fOkN = true) (hfit : fit fMany (fMany x + b) (xs.drop (k + 1)) = true) (w : World) (ha : Args 3 w A n (rows R3.vs xs)) (hn : n ≤ 1048576) :
    Calls Tryz.prog 94 #[.slice A n c, .int .i64 kk] w fun e w' => ∃ v, e = .returned v ∧ w'.ownsRow w.heap.size 3 1 v (fMany x) ((poss (fMany x) (k + 1) (xs.drop (k + 1))).map fun p : Nat => Value.int .i64 p) ∧ Below w.heap.size w w' := by
  subst hkk
  have HL : Hid (xs.length = n) := by have := ha.1; rw [rows_len R3.vs_len] at this; unfold Hid; omega
  have HX := Lib.hid hx
  have hlt : k < n := by have := (List.getElem?_eq_some_iff.1 hx).1; have := HL.out; omega
  have HOKS := Lib.hid hok
  have hokx : fOkN x = true := List.all_eq_true.1 hok x (List.mem_of_getElem? hx)
  have hm := fMany_le hokx
  have HOK := Lib.hid hokx
  obtain ⟨m, hmm⟩ : ∃ m, m = fMany x := ⟨_, rfl⟩
  rw [← hmm] at hm hfit ⊢
  have HM := Lib.hid hmm
  have HF := Lib.hid hfit
  have own0 := own_empty w 3 1
  have B0 := laid_below w (.cells #[] 3)
  have HAT : Hid (∀ W, Below w.heap.size w W → ∃ bb off, A = some ⟨bb, off, none⟩ ∧ At3 W bb (off + k * 3) x) := fun W hW => by
    obtain ⟨bb, off, e, hs⟩ := ha.sl hlt
    exact ⟨bb, off, e, At3.of (hs.below' hW) HX.out⟩
  obtain ⟨bb, off, rfl, hat⟩ := HAT.out _ B0
  have HAT0 := Lib.hid hat
  have hk0' : (0 : Int) ≤ (k : Int) := by omega
  have hkl' : (k : Int) < (n : Int) := by omega
  clear hx hok hokx hmm hfit hat
  go_enter Tryz.func94, Tryz.ntmps94
  go_wp2_with fail
  refine (l11Many_any _ _ x HOK.out _ HAT0.out).mono ?_
  rintro e w1 ⟨rfl, rfl⟩
  rw [← HM.out]
  go_wp2
  go_loopw [5, 6, 7] (fun o p i wr => ∃ (j q : Nat) (A1 : Option Addr) (c1 : Nat) (ps : List Nat), j ≤ m ∧ q ≤ n ∧ i = .int .i64 ((m : Int) - j) ∧ p = .int .i64 q ∧ o = .slice A1 j c1 ∧ wr.ownsRow w.heap.size 3 1 (.slice A1 j c1) j (ps.map fun p : Nat => Value.int .i64 p) ∧ Below w.heap.size w wr ∧ Hid (poss m (k + 1) (xs.drop (k + 1)) = ps ++ poss (m - j) q (xs.drop q)) ∧ Hid (fit fMany (m - j + b) (xs.drop q) = true)) (fun _ _ i _ => (intOf i).toNat)
  case atStart => exact ⟨0, k + 1, _, _, [], Nat.zero_le _, by omega, by simp, by go_num, rfl, own0, B0, by simp [Hid], HF⟩
  case round =>
    obtain ⟨j, q, A1, c1, ps, hj, hq, rfl, rfl, rfl, own, hB, HP, HF2⟩ := hrel
    clear own0 B0 HAT0
    by_cases hjm : j < m
    · have hgt : (0 : Int) < (m : Int) - (j : Int) := by omega
      obtain ⟨z, h1, h2, h3, h4, h5⟩ := fit_split fMany (xs.drop q) 1 (m - (j + 1) + b) q (by have := HF2.out; rw [← this]; congr 1; omega)
      rw [List.length_drop] at h1
      rw [List.drop_drop] at h4
      have HZ := Lib.hid h2
      have HPP : Hid (poss m (k + 1) (xs.drop (k + 1)) = (ps ++ [q]) ++ poss (m - (j + 1)) (q + z) (xs.drop (q + z))) := by
        have hz0 : (tPosAt fMany 1 0 (xs.drop q)).toNat = z := by rw [tPosAt_from h2 0]; simp
        unfold Hid
        rw [HP.out, show m - j = (m - (j + 1)) + 1 by omega, poss, hz0, List.drop_drop, List.append_assoc]
        rfl
      have H4 := Lib.hid h4
      have hqz : q + z ≤ n := by have := HL.out; omega
      clear h1 h2 h3 h4 h5
      go_wp2_with (at_builtin; refine wpList_app rfl _ _ _ rfl Tryz.underlying121 infoIntK rfl (by omega) w wr own hB rfl 1 #[.int .i64 (q : Int)] rfl (laid_below _ _) (heap_alloc_new _ _) rfl (by simp [Value.oneCell']) (by omega) (by unfold maxLen; omega) (by omega) ?_; intro g cap w2 own2 B2; clear own hB)
      refine (l11End_any _ n c q _ rfl xs _ (ha.below B2) hn hq).mono ?_
      rintro e w3 ⟨⟨en, ok, rfl, hen⟩, b3⟩
      have B3 := below_step B2 b3
      have own3 := own_below' own2 b3
      clear own2 b3
      rcases hen with ⟨rfl, z2, rfl, hz2, -⟩ | ⟨rfl, hno⟩
      rotate_left
      · exfalso
        have h6 := hno z HZ.out
        rw [Bool.eq_false_iff] at h6
        exact h6 (List.all_eq_true.2 fun y hy => List.all_eq_true.1 HOKS.out y (List.mem_of_mem_drop (List.mem_of_mem_take hy)))
      · obtain rfl : z2 = z := by have := HZ.out; rw [hz2] at this; omega
        clear hz2
        go_wp2
        go_roundw
        case rel => exact ⟨j + 1, q + z2, _, _, ps ++ [q], by omega, hqz, by congr 1; omega, rfl, rfl, by rw [List.map_append]; exact own3, B3, HPP, H4⟩
        case measure => simp [intOf]; omega
    · obtain rfl : j = m := by omega
      have HE : Hid (poss j (k + 1) (xs.drop (k + 1)) = ps) := by unfold Hid; rw [HP.out, Nat.sub_self, poss, List.append_nil]
      go_wp2
      go_ret
      rw [HE.out]
      exact ⟨_, rfl, own, hB⟩
end Go.Proofs.YtkiaclajjlidoaaGreatDoor
