/- Reading the text of a lambda term, by the reference: l12Read, at texts whose numbers are single digits. -/
import Derived.Test.YtkiaclajjlidoaaGreatDoorLamTx
import Derived.Test.YtkiaclajjlidoaaGreatDoorHelpLam
import Derived.Test.YtkiaclajjlidoaaGreatDoorSGrid
import Derived.Test.YtkiaclajjlidoaaGreatDoorCopy
import Derived.Test.YtkiaclajjlidoaaGreatDoorAppAt
namespace Go.Proofs.YtkiaclajjlidoaaGreatDoor
open Go.RowKit
set_option linter.all false

theorem l01Digit_is (b : Int) (v : Bool) (h : (decide (48 ≤ b) && decide (b ≤ 57)) = v) (w : World) :
    Calls Tryz.prog 39 #[.int .u8 b] w fun e w' => e = .returned (.bool v) ∧ w = w' := by
  by_cases h1 : 48 ≤ b
  · by_cases h2 : b ≤ 57
    · have HV : Hid (true = v) := by unfold Hid; rw [← h]; simp [h1, h2]
      clear h
      go_enter Tryz.func39, Tryz.ntmps39
      go_wp2
      go_ret
      exact ⟨ret_bool HV.out, rfl⟩
    · have HV : Hid (false = v) := by unfold Hid; rw [← h]; simp [h1, h2]
      clear h
      go_enter Tryz.func39, Tryz.ntmps39
      go_wp2
      go_ret
      exact ⟨ret_bool HV.out, rfl⟩
  · have HV : Hid (false = v) := by unfold Hid; rw [← h]; simp [h1]
    clear h
    go_enter Tryz.func39, Tryz.ntmps39
    go_wp2
    go_ret
    exact ⟨ret_bool HV.out, rfl⟩
theorem digB_int (b : UInt8) : (decide ((48 : Int) ≤ (b.toNat : Int)) && decide ((b.toNat : Int) ≤ 57)) = digB b := by
  unfold digB
  rw [Bool.eq_iff_iff]; simp only [Bool.and_eq_true, decide_eq_true_eq]; omega
theorem str_at {s : ByteArray} {l : List UInt8} (h : s.data.toList = l) {k : Nat} {b : UInt8} {r : List UInt8} (hd : l.drop k = b :: r) : ∃ hk : k < s.size, s[k] = b := by
  subst h
  have hk : k < s.data.toList.length := by
    have := congrArg List.length hd
    rw [List.length_drop, List.length_cons] at this; omega
  refine ⟨by simpa using hk, ?_⟩
  rw [List.drop_eq_getElem_cons hk] at hd
  injection hd with h1 _
theorem drop_next {l : List UInt8} {k : Nat} {b : UInt8} {r : List UInt8} (hd : l.drop k = b :: r) : l.drop (k + 1) = r := by
  rw [← List.drop_drop, hd]; rfl
/-- The digit at a place, alone. -/
theorem l12Digits_one (s : ByteArray) (l : List UInt8) (hs : s.data.toList = l) (k d : Nat) (r : List UInt8) (hk : l.drop k = UInt8.ofNat (48 + d) :: r) (hd : d < 10) (hr : digB (r.headD 0) = false) (hl : l.length ≤ 100000) (w : World) :
    Calls Tryz.prog 40 #[.string s, .int .i64 k] w fun e w' => e = .returned (.int .i64 ((k : Int) + 1)) ∧ Below w.heap.size w w' := by
  obtain ⟨hks, hk0⟩ := str_at hs hk
  have hsz : s.size = l.length := by rw [← hs]; simp
  have HB0 : Hid ((s[k].toNat : Int) = 48 + d) := by unfold Hid; rw [hk0, dig_toNat hd]; omega
  have HNX : Hid (∀ h : k + 1 < s.size, digB (s[k + 1]'h) = false) := by
    intro h
    cases r with
    | nil =>
      have := congrArg List.length (drop_next hk)
      rw [List.length_drop] at this
      simp at this; omega
    | cons c r =>
      obtain ⟨h', e⟩ := str_at hs (drop_next hk)
      rw [e]; simpa using hr
  have HD := Lib.hid hd
  clear hk hk0 hr hs
  go_enter Tryz.func40, Tryz.ntmps40
  have hksI : (k : Int) < (s.size : Int) := by omega
  have hkn : k ≤ 100000 := by omega
  go_wp2_with fail
  go_loopw [1] (fun i wr => ∃ j : Nat, j ≤ 1 ∧ i = .int .i64 ((k + j : Nat) : Int) ∧ Hid (Below w.heap.size w wr)) (fun i _ => (k + 1 - (intOf i).toNat : Nat))
  case atStart => exact ⟨0, by omega, rfl, Below.refl _ _⟩
  case round =>
    obtain ⟨j, hj, rfl, HB⟩ := hrel
    rcases Nat.lt_or_ge j 1 with h0 | h0
    · obtain rfl : j = 0 := by omega
      have HDG := Lib.hid (l01Digit_is (s[k].toNat : Int) true (by rw [HB0.out]; simp; have := HD.out; omega))
      rw [Nat.add_zero]
      have hw1 : IntKind.i64.wrap ((k : Int) + 1) = (k : Int) + 1 := IntWalk.i64_in _ (by omega)
      go_wp2_with fail
      refine (HDG.out _).mono ?_
      rintro e w1 ⟨rfl, rfl⟩
      go_wp2_with fail
      go_roundw
      case rel => exact ⟨1, by omega, by go_num, HB⟩
      case measure => first | (simp [intOf]; done) | (simp [intOf]; omega)
    · obtain rfl : j = 1 := by omega
      obtain ⟨q, hq⟩ : ∃ q, k + 1 = q := ⟨_, rfl⟩
      have HR : Hid ((q : Int) = (k : Int) + 1) := by unfold Hid; omega
      rw [hq]
      rw [hq] at HNX
      by_cases hlt : q < s.size
      · have hltI : (q : Int) < (s.size : Int) := by omega
        have HDG := Lib.hid (l01Digit_is (s[q].toNat : Int) false (by rw [digB_int]; exact HNX.out hlt))
        clear hq
        go_wp2_with fail
        refine (HDG.out _).mono ?_
        rintro e w1 ⟨rfl, rfl⟩
        go_wp2_with fail
        go_ret
        exact ⟨ret_int HR.out, HB.out⟩
      · have hltI : ¬ (q : Int) < (s.size : Int) := by omega
        clear hq
        go_wp2_with fail
        go_ret
        exact ⟨ret_int HR.out, HB.out⟩

theorem l01Number_one (s : ByteArray) (d : Nat) (hd : d < 10) (hs : s.data.toList = [UInt8.ofNat (48 + d)]) (w : World) :
    Calls Tryz.prog 41 #[.string s] w fun e w' => e = .returned (.tuple #[.int .i64 d, .bool true]) ∧ Below w.heap.size w w' := by
  have hsz : s.size = 1 := by have := congrArg List.length hs; simpa using this
  obtain ⟨h0, hk0⟩ := str_at hs (k := 0) (b := UInt8.ofNat (48 + d)) (r := []) rfl
  have hb : (s[0].toNat : Int) = 48 + (d : Int) := by rw [hk0, dig_toNat hd]; omega
  have hb1 : (s[0].toNat : Int) ≠ 45 := by omega
  have hsI : (s.size : Int) = 1 := by omega
  have HDG := Lib.hid (l01Digit_is (s[0].toNat : Int) true (by rw [hb]; simp; omega))
  have hu : IntKind.u8.wrap ((s[0].toNat : Int) - 48) = (d : Int) := by
    rw [hb]
    simp only [IntKind.wrap, IntKind.bits, IntKind.signed]
    first | omega | (simp; omega)
  have hi0 : IntKind.i64.wrap (d : Int) = (d : Int) := IntWalk.i64_in _ (by omega)
  clear hs hk0
  have hbe : ((s[0].toNat : Int) == 45) = false := by rw [beq_eq_false_iff_ne]; exact hb1
  have hl0 : (0 : Int) < (s.size : Int) := by omega
  rw [hsI] at hl0
  obtain ⟨v48, h48⟩ : ∃ v, ((s[0].toNat : Int) == 48) = v := ⟨_, rfl⟩
  clear hb hb1
  cases v48
  all_goals
    go_enter Tryz.func41, Tryz.ntmps41
    go_wp2_with fail
    go_loopw [5, 6] (fun m i wr => ∃ j : Nat, j ≤ 1 ∧ i = .int .i64 (j : Int) ∧ m = .int .i64 (if j = 0 then 0 else (d : Int)) ∧ wr = w) (fun _ i _ => 1 - (intOf i).toNat)
    case atStart => exact ⟨0, by omega, rfl, rfl, rfl⟩
    case round =>
      obtain ⟨j, hj, rfl, rfl, rfl⟩ := hrel
      rcases Nat.lt_or_ge j 1 with hj0 | hj0
      · obtain rfl : j = 0 := by omega
        rw [if_pos rfl]
        rw [show ((0 : Nat) : Int) = 0 from rfl]
        go_wp2_with fail
        refine (HDG.out _).mono ?_
        rintro e w1 ⟨rfl, rfl⟩
        go_wp2_with fail
        go_roundw
        case rel => refine ⟨1, by omega, ?_, ?_, ?_⟩ <;> first | rfl | trivial | simp
        case measure => simp [intOf]
      · obtain rfl : j = 1 := by omega
        rw [if_neg (by decide)]
        rw [show ((1 : Nat) : Int) = 1 from rfl]
        go_wp2_with fail
        go_ret2
        exact ⟨rfl, Below.refl _ _⟩

def LamSt (w : World) (l : List UInt8) (k : Nat) (V : Value) (ts : List R2) (W : World) : Prop :=
  W.ownsRow w.heap.size 45 2 V ts.length (rows R2.vs ts) ∧ Below w.heap.size w W ∧ rdT l = ts ++ rdT (l.drop k) ∧ okT (l.drop k) = true
theorem LamSt.put {w : World} {l : List UInt8} {k : Nat} {V V2 : Value} {ts : List R2} {W W1 W2 : World} {x : R2} (h : LamSt w l k V ts W) (hb : Below W.heap.size W W1) (hx : rdT (l.drop k) = x :: rdT (l.drop (k + 1))) (ho : okT (l.drop (k + 1)) = true)
    (own : W2.ownsRow w.heap.size 45 2 V2 (ts.length + 1) (rows R2.vs ts ++ x.vs)) (hg : W1.grownBy W2 V.ownBlock) : LamSt w l (k + 1) V2 (ts ++ [x]) W2 := by
  refine ⟨?_, grown_below (below_step h.2.1 hb) (own_below' h.1 hb) (Nat.le_refl _) hg, by rw [h.2.2.1, hx]; simp, ho⟩
  rw [List.length_append, rows_app, rows_one]; exact own
theorem LamSt.skip {w : World} {l : List UInt8} {k : Nat} {V : Value} {ts : List R2} {W : World} (h : LamSt w l k V ts W) (hx : rdT (l.drop k) = rdT (l.drop (k + 1))) (ho : okT (l.drop (k + 1)) = true) : LamSt w l (k + 1) V ts W :=
  ⟨h.1, h.2.1, by rw [h.2.2.1, hx], ho⟩
theorem LamSt.below {w : World} {l : List UInt8} {k : Nat} {V : Value} {ts : List R2} {W W' : World} (h : LamSt w l k V ts W) (hb : Below W.heap.size W W') : LamSt w l k V ts W' :=
  ⟨own_below' h.1 hb, below_step h.2.1 hb, h.2.2⟩

set_option maxRecDepth 100000 in
set_option maxHeartbeats 4000000 in
theorem l12Read_any (s : ByteArray) (l : List UInt8) (hs : s.data.toList = l) (hok : okT l = true) (hl : l.length ≤ 300) (w : World) :
    Calls Tryz.prog 21 #[.string s] w fun e w' => ∃ v, e = .returned v ∧ w'.ownsRow w.heap.size 45 2 v (rdT l).length (rows R2.vs (rdT l)) ∧ Below w.heap.size w w' := by
  have hsz : s.size = l.length := by rw [← hs]; simp
  obtain ⟨n, hn⟩ : ∃ n, s.size = n := ⟨_, rfl⟩
  have hn3 : n ≤ 300 := by omega
  have HS := Lib.hid hs
  have HN : Hid (l.length = n) := by unfold Hid; omega
  obtain ⟨wa, HWa, Ba, xa⟩ := al1 w (.cells #[] 45)
  have HM0 : Hid (LamSt w l 0 (.slice (some ⟨w.heap.size, 0, none⟩) 0 0) [] wa) := by
    refine ⟨?_, Ba, by simp, by simpa using hok⟩
    have := own_of_block (n := 0) (cap := 0) (s := 2) (xs := []) (base := w.heap.size) xa (Nat.le_refl _) rfl (Nat.le_refl _) (Nat.zero_le _)
    rw [List.take_nil] at this
    exact this
  clear hs hok hl hsz xa Ba
  go_enter Tryz.func21, Tryz.ntmps21
  go_wp2_with fail
  rw [← HWa.out]
  go_loopw [3, 4] (fun o i wr => ∃ (k : Nat) (V : Value) (ts : List R2), V = o ∧ i = .int .i64 (k : Int) ∧ k ≤ n ∧ Hid (LamSt w l k V ts wr)) (fun _ i _ => n - (intOf i).toNat)
  case atStart => exact ⟨0, _, [], rfl, rfl, by omega, HM0⟩
  case round =>
    obtain ⟨k, V, ts, rfl, rfl, hk, HM⟩ := hrel
    clear HM0
    have HTL : Hid (ts.length ≤ 300) := by
      have h1 := congrArg List.length HM.out.2.2.1
      rw [List.length_append] at h1
      have := rdT_len l
      have := HN.out
      unfold Hid; omega
    obtain ⟨lt, hlt⟩ : ∃ m, ts.length = m := ⟨_, rfl⟩
    have HLT := Lib.hid hlt
    have hl3 : lt ≤ 300 := by rw [← hlt]; exact HTL.out
    have hl4 : (lt : Int) ≤ 400 := by omega
    have own := HM.out.1
    rw [hlt] at own
    obtain ⟨AV, cV, hAV⟩ := own_form own
    subst hAV
    clear hlt HTL
    by_cases hkn : k < n
    · have hks : k < s.size := by omega
      have hkI : (k : Int) < (s.size : Int) := by omega
      have hw1 : IntKind.i64.wrap ((k : Int) + 1) = (k : Int) + 1 := IntWalk.i64_in _ (by omega)
      obtain ⟨b, r, hbr⟩ : ∃ b r, l.drop k = b :: r := by
        cases hd : l.drop k with
        | nil => have := congrArg List.length hd; rw [List.length_drop, HN.out] at this; simp at this; omega
        | cons b r => exact ⟨b, r, rfl⟩
      obtain ⟨hor, hcase⟩ := okT_cases (by rw [← hbr]; exact HM.out.2.2.2)
      have hnx := drop_next hbr
      have hor' : okT (l.drop (k + 1)) = true := by rw [hnx]; exact hor
      obtain ⟨_, hb⟩ := str_at HS.out hbr
      have HNX : Hid (l.drop (k + 1) = r) := hnx
      have HBR := Lib.hid hbr
      have HOR := Lib.hid hor'
      clear hbr hor hnx hor'
      rcases hcase with h | h | h | h | ⟨d, hd, h, hdr⟩
      · have HX : Hid (rdT (l.drop k) = (⟨2, 0⟩ : R2) :: rdT (l.drop (k + 1))) := by unfold Hid; rw [HBR.out, HNX.out, h]; exact rdT_app _
        have hz1 : ((s[k].toNat : Int) == 94) = false := by rw [hb, h]; rfl
        have hz2 : ((s[k].toNat : Int) == 40) = true := by rw [hb, h]; rfl
        obtain ⟨w1, HW1, b1, x1⟩ := al1 wr (.cells #[.int .i64 2, .int .i64 0] 45)
        have HB1 := Lib.hid b1
        have own1 := own_below' own b1
        have hbz := (below_step HM.out.2.1 b1).size
        have src1 : Src 2 w1 (.slice (some ⟨wr.heap.size, 0, none⟩) 1 1) 1 [.int .i64 2, .int .i64 0] := Src.of_own (own_of_block (n := 1) (cap := 1) (s := 2) (xs := [.int .i64 2, .int .i64 0]) (base := 0) x1 (by omega) rfl (by omega) (by unfold maxLen; omega))
        clear b1 x1 own h hb
        go_wp2_with (at_builtin; rw [← HW1.out]; refine wpList_appx rfl _ _ _ rfl Tryz.underlying24 infoLam rfl (by omega) w.heap.size own1 hbz rfl src1 rfl (by simp [Value.oneCell']) (by unfold maxLen; omega) (by omega) ?_; intro V2 w2 own2 hg2 hnil2)
        have HM2 : Hid (LamSt w l (k + 1) V2 (ts ++ [⟨2, 0⟩]) w2) := HM.out.put HB1.out HX.out HOR.out (by rw [HLT.out]; exact own2) hg2
        clear own1 own2 hg2 hnil2 src1
        go_roundw
        case rel => exact ⟨k + 1, _, _, rfl, by go_num, by omega, HM2⟩
        case measure => simp [intOf]; omega
      · have HX : Hid (rdT (l.drop k) = rdT (l.drop (k + 1))) := by unfold Hid; rw [HBR.out, HNX.out, h]; exact rdT_blank _
        have hz1 : ((s[k].toNat : Int) == 94) = false := by rw [hb, h]; rfl
        have hz2 : ((s[k].toNat : Int) == 40) = false := by rw [hb, h]; rfl
        have HDG := Lib.hid (l01Digit_is (s[k].toNat : Int) false (by rw [hb, h]; rfl))
        have HM2 := Lib.hid (HM.out.skip HX.out HOR.out)
        clear own h hb
        go_wp2_with fail
        refine (HDG.out _).mono ?_
        rintro e w1 ⟨rfl, rfl⟩
        go_wp2_with fail
        go_roundw
        case rel => exact ⟨k + 1, _, _, rfl, by go_num, by omega, HM2⟩
        case measure => simp [intOf]; omega
      · have HX : Hid (rdT (l.drop k) = rdT (l.drop (k + 1))) := by unfold Hid; rw [HBR.out, HNX.out, h]; exact rdT_close _
        have hz1 : ((s[k].toNat : Int) == 94) = false := by rw [hb, h]; rfl
        have hz2 : ((s[k].toNat : Int) == 40) = false := by rw [hb, h]; rfl
        have HDG := Lib.hid (l01Digit_is (s[k].toNat : Int) false (by rw [hb, h]; rfl))
        have HM2 := Lib.hid (HM.out.skip HX.out HOR.out)
        clear own h hb
        go_wp2_with fail
        refine (HDG.out _).mono ?_
        rintro e w1 ⟨rfl, rfl⟩
        go_wp2_with fail
        go_roundw
        case rel => exact ⟨k + 1, _, _, rfl, by go_num, by omega, HM2⟩
        case measure => simp [intOf]; omega
      · have HX : Hid (rdT (l.drop k) = (⟨1, 0⟩ : R2) :: rdT (l.drop (k + 1))) := by unfold Hid; rw [HBR.out, HNX.out, h]; exact rdT_abs _
        have hz1 : ((s[k].toNat : Int) == 94) = true := by rw [hb, h]; rfl
        obtain ⟨w1, HW1, b1, x1⟩ := al1 wr (.cells #[.int .i64 1, .int .i64 0] 45)
        have HB1 := Lib.hid b1
        have own1 := own_below' own b1
        have hbz := (below_step HM.out.2.1 b1).size
        have src1 : Src 2 w1 (.slice (some ⟨wr.heap.size, 0, none⟩) 1 1) 1 [.int .i64 1, .int .i64 0] := Src.of_own (own_of_block (n := 1) (cap := 1) (s := 2) (xs := [.int .i64 1, .int .i64 0]) (base := 0) x1 (by omega) rfl (by omega) (by unfold maxLen; omega))
        clear b1 x1 own h hb
        go_wp2_with (at_builtin; rw [← HW1.out]; refine wpList_appx rfl _ _ _ rfl Tryz.underlying24 infoLam rfl (by omega) w.heap.size own1 hbz rfl src1 rfl (by simp [Value.oneCell']) (by unfold maxLen; omega) (by omega) ?_; intro V2 w2 own2 hg2 hnil2)
        have HM2 : Hid (LamSt w l (k + 1) V2 (ts ++ [⟨1, 0⟩]) w2) := HM.out.put HB1.out HX.out HOR.out (by rw [HLT.out]; exact own2) hg2
        clear own1 own2 hg2 hnil2 src1
        go_roundw
        case rel => exact ⟨k + 1, _, _, rfl, by go_num, by omega, HM2⟩
        case measure => simp [intOf]; omega
      · have HX : Hid (rdT (l.drop k) = (⟨0, (d : Int)⟩ : R2) :: rdT (l.drop (k + 1))) := by unfold Hid; rw [HBR.out, HNX.out, h]; exact rdT_dig hd r
        have hbI : (s[k].toNat : Int) = 48 + (d : Int) := by rw [hb, h, dig_toNat hd]; omega
        have hz1 : ((s[k].toNat : Int) == 94) = false := by rw [beq_eq_false_iff_ne]; omega
        have hz2 : ((s[k].toNat : Int) == 40) = false := by rw [beq_eq_false_iff_ne]; omega
        have HDG := Lib.hid (l01Digit_is (s[k].toNat : Int) true (by rw [hbI]; simp; omega))
        have HD12 := Lib.hid (l12Digits_one s l HS.out k d r (by rw [HBR.out, h]) hd hdr (by have := HN.out; omega))
        have hex : (s.extract k (k + 1)).data.toList = [UInt8.ofNat (48 + d)] := by
          have e1 : s = ⟨l.toArray⟩ := by rw [← HS.out]
          rw [e1, ByteArray.extract_mk, HBR.out, h]; simp
        obtain ⟨s1, hs1⟩ : ∃ s1, s.extract k (k + 1) = s1 := ⟨_, rfl⟩
        rw [hs1] at hex
        have HNB := Lib.hid (l01Number_one s1 d hd hex)
        have hslc : ∀ W, (Instr.slice 9 (.string s) (some (.int .i64 (k : Int))) (some (.int .i64 ((k : Int) + 1))) none).run Tryz.prog W = .ok (.string s1) W := by
          intro W
          rw [run_slice_string W _ s .i64 .i64 _ _ Tryz.underlying9 (by omega) (by omega) (by omega), ← hs1]
          congr 3
        obtain ⟨w1, HW1, b1, x1⟩ : ∃ w1 : World, True ∧ True ∧ True := ⟨wr, trivial, trivial, trivial⟩
        clear HW1 b1 x1 hs1 hex hbI
        have HM1 := HM
        clear own h hb
        go_wp2_with fail
        refine (HDG.out _).mono ?_
        rintro e w2 ⟨rfl, rfl⟩
        go_wp2_with fail
        refine (HD12.out _).mono ?_
        rintro e w2 ⟨rfl, hb2⟩
        go_wp2_with fail
        refine (HNB.out _).mono ?_
        rintro e w3 ⟨rfl, hb3⟩
        have HM3 := Lib.hid (HM.out.below (below_step hb2 hb3))
        obtain ⟨w4, HW4, b4, x4⟩ := al1 w3 (.cells #[.int .i64 0, .int .i64 (d : Int)] 45)
        have HB4 := Lib.hid b4
        have own3 := HM3.out.1
        rw [HLT.out] at own3
        have own4 := own_below' own3 b4
        have hbz := (below_step HM3.out.2.1 b4).size
        have src4 : Src 2 w4 (.slice (some ⟨w3.heap.size, 0, none⟩) 1 1) 1 [.int .i64 0, .int .i64 (d : Int)] := Src.of_own (own_of_block (n := 1) (cap := 1) (s := 2) (xs := [.int .i64 0, .int .i64 (d : Int)]) (base := 0) x4 (by omega) rfl (by omega) (by unfold maxLen; omega))
        clear b4 x4 own3 hb2 hb3
        go_wp2_with (at_builtin; rw [← HW4.out]; refine wpList_appx rfl _ _ _ rfl Tryz.underlying24 infoLam rfl (by omega) w.heap.size own4 hbz rfl src4 rfl (by simp [Value.oneCell']) (by unfold maxLen; omega) (by omega) ?_; intro V5 w5 own5 hg5 hnil5)
        have HM5 : Hid (LamSt w l (k + 1) V5 (ts ++ [⟨0, (d : Int)⟩]) w5) := HM3.out.put HB4.out HX.out HOR.out (by rw [HLT.out]; exact own5) hg5
        clear own4 own5 hg5 hnil5 src4
        go_roundw
        case rel => exact ⟨k + 1, _, _, rfl, by go_num, by omega, HM5⟩
        case measure => simp [intOf]; omega
    · obtain rfl : k = n := by omega
      have hkI : ¬ (k : Int) < (s.size : Int) := by omega
      have HE : Hid (ts = rdT l) := by
        have h1 := HM.out.2.2.1
        rw [List.drop_of_length_le (by have := HN.out; omega)] at h1
        unfold Hid; rw [h1]; simp [rdT]
      have HB := Lib.hid HM.out.2.1
      have HO := Lib.hid own
      clear own
      go_wp2_with fail
      go_ret
      exact ⟨_, rfl, by rw [← HE.out, HLT.out]; exact HO.out, HB.out⟩
end Go.Proofs.YtkiaclajjlidoaaGreatDoor
