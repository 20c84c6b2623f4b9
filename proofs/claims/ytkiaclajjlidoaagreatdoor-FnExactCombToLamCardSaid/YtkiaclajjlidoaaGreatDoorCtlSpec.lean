/- CombToLam: what it gives; the reference's. -/
import Derived.Test.YtkiaclajjlidoaaGreatDoorStdPlain
import Derived.Test.YtkiaclajjlidoaaGreatDoorLamRead
import Derived.Test.YtkiaclajjlidoaaGreatDoorCombs
namespace Go.Proofs.YtkiaclajjlidoaaGreatDoor
open Go.RowKit
set_option linter.all false

theorem validC_le {xs : List R2} (h : validC xs = true) : 1 ≤ xs.length ∧ xs.length ≤ 400 := by
  unfold validC at h
  have := (inB_iff _ _ _).1 (Bool.and_eq_true _ _ ▸ h).1
  omega
theorem flatStep {α β : Type} (f : α → List β) {xs : List α} {k : Nat} {x : α} (h : xs[k]? = some x) : (xs.take (k + 1)).flatMap f = (xs.take k).flatMap f ++ f x := by
  rw [List.take_add_one, h]; simp
theorem flatLen {α β : Type} (f : α → List β) (m : Nat) (h : ∀ x, (f x).length ≤ m) (xs : List α) : (xs.flatMap f).length ≤ m * xs.length := by
  induction xs with
  | nil => simp
  | cons x l ih => rw [List.flatMap_cons, List.length_append, List.length_cons, Nat.mul_succ]; have := h x; omega

def txS : List UInt8 := [94, 94, 94, 40, 40, 50, 32, 48, 41, 32, 40, 49, 32, 48, 41, 41]
def txK : List UInt8 := [94, 94, 49]
def txI : List UInt8 := [94, 48]
set_option maxRecDepth 100000 in
theorem txS_ok : txOkB txS = true := by decide
theorem txK_ok : txOkB txK = true := by decide
theorem txI_ok : txOkB txI = true := by decide
/-- The terms of the combinators, by kind. -/
def ctlT (a : Int) : List R2 := if a = 0 then [⟨2, 0⟩] else if a = 1 then (tmOf txS).flat else if a = 2 then (tmOf txK).flat else (tmOf txI).flat
/-- What an element becomes. -/
def ctlE (x : R2) : List R2 := if x.a = 4 then [⟨0, x.b⟩] else ctlT x.a
def fitL (ys : List R2) : List R2 × Int := if validT ys = true then (ys, 0) else ([], 5)
/-- What CombToLam gives. -/
def combLam (xs : List R2) : List R2 × Int := if validC xs = true then fitL (xs.flatMap ctlE) else ([], 1)
theorem fitL_len (ys : List R2) : (fitL ys).1.length ≤ 400 := by
  unfold fitL
  split
  · rename_i h
    unfold validT at h
    rw [Bool.and_eq_true] at h
    have := (inB_iff _ _ _).1 h.1
    show ys.length ≤ 400
    omega
  · simp
theorem fitL_yes {ys : List R2} (h : validT ys = true) : fitL ys = (ys, 0) := by unfold fitL; rw [if_pos h]
theorem fitL_no {ys : List R2} (h : validT ys = false) : fitL ys = ([], 5) := by unfold fitL; rw [if_neg (by rw [h]; decide)]
theorem bndCombToLam0 (xs : List R2) (h : xs.length ≤ 1048576) : (combLam xs).1.length ≤ 1048576 := by
  unfold combLam
  split
  · have := fitL_len (xs.flatMap ctlE); omega
  · simp
theorem tm_len {l : List UInt8} (h : txOkB l = true) : (tmOf l).flat.length ≤ 60 := by
  have h1 := TxOk.of h
  have h2 := (tmOf l).text_len.2
  rw [h1.text] at h2
  have := h1.len
  omega
theorem ctlT_len (a : Int) : (ctlT a).length ≤ 60 := by
  unfold ctlT
  split
  · simp
  split
  · exact tm_len txS_ok
  split
  · exact tm_len txK_ok
  · exact tm_len txI_ok
theorem ctlE_len (x : R2) : (ctlE x).length ≤ 60 := by
  unfold ctlE
  split
  · simp
  · exact ctlT_len _
theorem validC_kind {xs : List R2} (h : validC xs = true) {x : R2} (hx : x ∈ xs) : x.a = 0 ∨ x.a = 1 ∨ x.a = 2 ∨ x.a = 3 ∨ x.a = 4 := by
  unfold validC at h
  simp only [Bool.and_eq_true] at h
  have h1 := List.all_eq_true.1 h.2.1 x hx
  unfold kOk at h1
  simp only [Bool.and_eq_true] at h1
  have := (inB_iff _ _ _).1 h1.1.1
  omega
theorem one_rows_Lam' (t : List R2) : ∀ u ∈ rows R2.vs t, u.oneCell' = true := by
  intro u hu
  unfold rows at hu
  obtain ⟨x, _, hx⟩ := List.mem_flatMap.1 hu
  simp [R2.vs] at hx
  rcases hx with rfl | rfl <;> rfl

theorem l12Fit_any (B n c : Nat) (A : Option Addr) (xs : List R2) (w : World) (hown : w.ownsRow B 45 2 (.slice A n c) n (rows R2.vs xs)) (hn : n ≤ 1048576) :
    Calls Tryz.prog 22 #[.slice A n c] w fun e w' => ∃ v, e = .returned (.tuple #[v, .int .i64 (fitL xs).2]) ∧ w'.ownsRow B 45 2 v (fitL xs).1.length (rows R2.vs (fitL xs).1) ∧ Below w.heap.size w w' := by
  have HL : Hid (xs.length = n) := by have := hown.1; rw [rows_len R2.vs_len] at this; unfold Hid; omega
  have HA := Lib.hid ((Src.of_own hown).args)
  have HO := Lib.hid hown
  clear hown
  rcases Bool.eq_false_or_eq_true (validT xs) with h | h
  · have HF := Lib.hid (fitL_yes h)
    have HV := Lib.hid (l12Is_is A n c xs true h w HA.out hn)
    clear h
    go_enter Tryz.func22, Tryz.ntmps22
    go_wp2_with fail
    refine HV.out.mono ?_
    rintro e w1 ⟨rfl, rfl⟩
    go_wp2_with fail
    go_ret2
    rw [HF.out]
    exact ⟨_, rfl, by show World.ownsRow _ _ _ _ _ xs.length _; rw [HL.out]; exact HO.out, Below.refl _ _⟩
  · have HF := Lib.hid (fitL_no h)
    have HV := Lib.hid (l12Is_is A n c xs false h w HA.out hn)
    clear h
    go_enter Tryz.func22, Tryz.ntmps22
    go_wp2_with fail
    refine HV.out.mono ?_
    rintro e w1 ⟨rfl, rfl⟩
    go_wp2_with fail
    go_ret2
    rw [HF.out]
    exact ⟨_, rfl, World.ownsRow_nil _ _ _ _, Below.refl _ _⟩
theorem checkedLam_any (B n c : Nat) (A : Option Addr) (xs : List R2) (w : World) (hown : w.ownsRow B 45 2 (.slice A n c) n (rows R2.vs xs)) (hn : n ≤ 1048576) :
    Calls Tryz.prog 26 #[.slice A n c] w fun e w' => ∃ v, e = .returned (.tuple #[v, .int .i64 (fitL xs).2]) ∧ w'.ownsRow B 45 2 v (fitL xs).1.length (rows R2.vs (fitL xs).1) ∧ Below w.heap.size w w' := by
  have HL : Hid (xs.length = n) := by have := hown.1; rw [rows_len R2.vs_len] at this; unfold Hid; omega
  have HA := Lib.hid ((Src.of_own hown).args)
  have HO := Lib.hid hown
  clear hown
  rcases Bool.eq_false_or_eq_true (validT xs) with h | h
  · have HF := Lib.hid (fitL_yes h)
    have HV := Lib.hid (validLam_is A n c xs true h w HA.out hn)
    clear h
    go_enter Tryz.func26, Tryz.ntmps26
    go_wp2_with fail
    refine HV.out.mono ?_
    rintro e w1 ⟨rfl, hb⟩
    go_wp2_with fail
    go_ret2
    rw [HF.out]
    exact ⟨_, rfl, by show World.ownsRow _ _ _ _ _ xs.length _; rw [HL.out]; exact own_below' HO.out hb, hb⟩
  · have HF := Lib.hid (fitL_no h)
    have HV := Lib.hid (validLam_is A n c xs false h w HA.out hn)
    clear h
    go_enter Tryz.func26, Tryz.ntmps26
    go_wp2_with fail
    refine HV.out.mono ?_
    rintro e w1 ⟨rfl, hb⟩
    go_wp2_with fail
    go_ret2
    rw [HF.out]
    exact ⟨_, rfl, World.ownsRow_nil _ _ _ _, hb⟩

def CtSt (w : World) (xs : List R2) (k : Nat) (V : Value) (W : World) : Prop :=
  W.ownsRow w.heap.size 45 2 V ((xs.take k).flatMap ctlE).length (rows R2.vs ((xs.take k).flatMap ctlE)) ∧ Below w.heap.size w W
theorem CtSt.put {w : World} {xs : List R2} {k m : Nat} {V V2 : Value} {W W1 W2 : World} {x : R2} (h : CtSt w xs k V W) (hb : Below W.heap.size W W1) (hx : xs[k]? = some x) {ys : List R2} (he : ctlE x = ys) (hm : ((xs.take k).flatMap ctlE).length = m)
    {q : Nat} (hq : ys.length = q) (own : W2.ownsRow w.heap.size 45 2 V2 (m + q) (rows R2.vs ((xs.take k).flatMap ctlE) ++ rows R2.vs ys)) (hg : W1.grownBy W2 V.ownBlock) : CtSt w xs (k + 1) V2 W2 := by
  subst he
  refine ⟨?_, grown_below (below_step h.2 hb) (own_below' h.1 hb) (Nat.le_refl _) hg⟩
  rw [flatStep ctlE hx, List.length_append, rows_app, hm, hq]; exact own

set_option maxRecDepth 100000 in
set_option maxHeartbeats 4000000 in
theorem specCombToLam_any (b off n c : Nat) (xs : List R2) (w : World) (hs : Sl w b off (rows R2.vs xs)) (hl : xs.length = n) (hn : n ≤ 1048576) (hc : n ≤ c) (hf : ∀ x ∈ xs, x.wf) :
    Calls Tryz.prog 6 #[.slice (some ⟨b, off, none⟩) n c] w fun e w' => ∃ v, e = .returned (.tuple #[v, .int .i64 (combLam xs).2]) ∧ w'.ownsRow w.heap.size 45 2 v (combLam xs).1.length (rows R2.vs (combLam xs).1) ∧ Below w.heap.size w w' := by
  have HA := Lib.hid (Args.of_sl hs (n := n) (by rw [rows_len R2.vs_len, hl]))
  have HL := Lib.hid hl
  rcases Bool.eq_false_or_eq_true (validC xs) with hv | hv
  rotate_left
  · have HF : Hid (combLam xs = ([], 1)) := by unfold Hid combLam; rw [if_neg (by rw [hv]; decide)]
    have HV := Lib.hid hv
    clear hv hl hf hs
    go_enter Tryz.func6, Tryz.ntmps6
    go_wp2_with fail
    refine (l12Comb_is _ n c xs false HV.out _ HA.out hn).mono ?_
    rintro e w1 ⟨rfl, rfl⟩
    go_wp2_with fail
    go_ret2
    rw [HF.out]
    exact ⟨_, rfl, World.ownsRow_nil _ _ _ _, Below.refl _ _⟩
  have HF : Hid (combLam xs = fitL (xs.flatMap ctlE)) := by unfold Hid combLam; rw [if_pos hv]
  have hn4 : n ≤ 400 := by have := validC_le hv; omega
  have HV := Lib.hid hv
  have HS := Lib.hid hs
  clear hv hl hf hs
  go_enter Tryz.func6, Tryz.ntmps6
  go_wp2_with fail
  refine (l12Comb_is _ n c xs true HV.out _ HA.out hn).mono ?_
  rintro e w1 ⟨rfl, rfl⟩
  obtain ⟨w2, HW2, b2, x2⟩ := al1 w (.cells #[] 45)
  have HM0 : Hid (CtSt w xs 0 (.slice (some ⟨w.heap.size, 0, none⟩) 0 0) w2) := by
    refine ⟨?_, b2⟩
    have := own_of_block (n := 0) (cap := 0) (s := 2) (xs := []) (base := w.heap.size) x2 (Nat.le_refl _) rfl (Nat.le_refl _) (Nat.zero_le _)
    rw [List.take_nil] at this
    exact this
  clear x2 b2
  go_wp2_with fail
  rw [← HW2.out]
  go_loopw [4, 5] (fun o i wr => ∃ (k : Nat) (V : Value), V = o ∧ i = .int .i64 (k : Int) ∧ k ≤ n ∧ Hid (CtSt w xs k V wr)) (fun _ i _ => n - (intOf i).toNat)
  case atStart => exact ⟨0, _, rfl, rfl, by omega, HM0⟩
  case round =>
    obtain ⟨k, V, rfl, rfl, hk, HM⟩ := hrel
    clear HM0
    obtain ⟨m, hm⟩ : ∃ m, ((xs.take k).flatMap ctlE).length = m := ⟨_, rfl⟩
    have HMM := Lib.hid hm
    have hm3 : m ≤ 24000 := by
      have := flatLen ctlE 60 ctlE_len (xs.take k)
      rw [List.length_take] at this
      omega
    have own := HM.out.1
    rw [hm] at own
    obtain ⟨AV, cV, hAV⟩ := own_form own
    subst hAV
    clear hm
    by_cases hkn : k < n
    · have hkI : (k : Int) < (n : Int) := by omega
      obtain ⟨x, HX⟩ := hget HL hkn
      have hkind := validC_kind HV.out (List.mem_of_getElem? HX.out)
      obtain ⟨p0, p1⟩ := (HS.out.below' HM.out.2).rec2 HX.out
      obtain ⟨xa, xb⟩ := x
      have hw1 : IntKind.i64.wrap ((k : Int) + 1) = (k : Int) + 1 := IntWalk.i64_in _ (by omega)
      have hB := HM.out.2
      dsimp only at hkind p0 p1
      rcases hkind with rfl | rfl | rfl | rfl | rfl
      · have HE : Hid (ctlE ⟨0, xb⟩ = [⟨2, 0⟩]) := by unfold Hid ctlE; rw [if_neg (by simp)]; rfl
        obtain ⟨w3, HW3, b3, x3⟩ := al1 wr (.cells #[.int .i64 2, .int .i64 0] 45)
        have HB3 := Lib.hid b3
        have own3 := own_below' own b3
        have hbz := (below_step hB b3).size
        have src3 : Src 2 w3 (.slice (some ⟨wr.heap.size, 0, none⟩) 1 1) 1 (rows R2.vs [⟨2, 0⟩]) := Src.of_own (own_of_block (n := 1) (cap := 1) (s := 2) (xs := [.int .i64 2, .int .i64 0]) (base := 0) x3 (by omega) rfl (by omega) (by unfold maxLen; omega))
        clear b3 x3 own hB
        go_wp2_with (at_builtin; rw [← HW3.out]; refine wpList_appx rfl _ _ _ rfl Tryz.underlying24 infoLam rfl (by omega) w.heap.size own3 hbz rfl src3 rfl (one_rows_Lam' _) (by unfold maxLen; omega) (by omega) ?_; intro V5 w5 own5 hg5 hnil5)
        have HM5 : Hid (CtSt w xs (k + 1) V5 w5) := HM.out.put HB3.out HX.out HE.out HMM.out rfl own5 hg5
        clear own3 own5 hg5 hnil5 src3
        go_roundw
        case rel => exact ⟨k + 1, _, rfl, by go_num, by omega, HM5⟩
        case measure => first | (simp [intOf]; done) | (simp [intOf]; omega)
      · have HE : Hid (ctlE ⟨1, xb⟩ = (tmOf txS).flat) := by unfold Hid ctlE; rw [if_neg (by simp)]; rfl
        obtain ⟨q, hq⟩ : ∃ q, (tmOf txS).flat.length = q := ⟨_, rfl⟩
        have hq6 : q ≤ 60 := by rw [← hq]; exact tm_len txS_ok
        have HRD := Lib.hid (l12Read_text ⟨#[94, 94, 94, 40, 40, 50, 32, 48, 41, 32, 40, 49, 32, 48, 41, 41]⟩ txS (tmOf txS) rfl (TxOk.of txS_ok))
        rw [hq] at HRD
        have HQ := Lib.hid hq
        have HOWN := Lib.hid own
        clear own hB hq
        go_wp2_with fail
        refine (HRD.out _).mono ?_
        rintro e w3 ⟨v3, rfl, ow3, b3⟩
        have HB3 := Lib.hid b3
        have own3 := own_below' HOWN.out b3
        have src3 := Src.of_own ow3
        have hbz := (below_step HM.out.2 b3).size
        obtain ⟨A3, c3, rfl⟩ := own_form ow3
        clear b3 ow3
        go_wp2_with (at_builtin; refine wpList_appx rfl _ _ _ rfl Tryz.underlying24 infoLam rfl (by omega) w.heap.size own3 hbz rfl src3 rfl (one_rows_Lam' _) (by unfold maxLen; omega) (by omega) ?_; intro V5 w5 own5 hg5 hnil5)
        have HM5 : Hid (CtSt w xs (k + 1) V5 w5) := HM.out.put HB3.out HX.out HE.out HMM.out HQ.out own5 hg5
        clear own3 own5 hg5 hnil5 src3
        go_roundw
        case rel => exact ⟨k + 1, _, rfl, by go_num, by omega, HM5⟩
        case measure => first | (simp [intOf]; done) | (simp [intOf]; omega)
      · have HE : Hid (ctlE ⟨2, xb⟩ = (tmOf txK).flat) := by unfold Hid ctlE; rw [if_neg (by simp)]; rfl
        obtain ⟨q, hq⟩ : ∃ q, (tmOf txK).flat.length = q := ⟨_, rfl⟩
        have hq6 : q ≤ 60 := by rw [← hq]; exact tm_len txK_ok
        have HRD := Lib.hid (l12Read_text ⟨#[94, 94, 49]⟩ txK (tmOf txK) rfl (TxOk.of txK_ok))
        rw [hq] at HRD
        have HQ := Lib.hid hq
        have HOWN := Lib.hid own
        clear own hB hq
        go_wp2_with fail
        refine (HRD.out _).mono ?_
        rintro e w3 ⟨v3, rfl, ow3, b3⟩
        have HB3 := Lib.hid b3
        have own3 := own_below' HOWN.out b3
        have src3 := Src.of_own ow3
        have hbz := (below_step HM.out.2 b3).size
        obtain ⟨A3, c3, rfl⟩ := own_form ow3
        clear b3 ow3
        go_wp2_with (at_builtin; refine wpList_appx rfl _ _ _ rfl Tryz.underlying24 infoLam rfl (by omega) w.heap.size own3 hbz rfl src3 rfl (one_rows_Lam' _) (by unfold maxLen; omega) (by omega) ?_; intro V5 w5 own5 hg5 hnil5)
        have HM5 : Hid (CtSt w xs (k + 1) V5 w5) := HM.out.put HB3.out HX.out HE.out HMM.out HQ.out own5 hg5
        clear own3 own5 hg5 hnil5 src3
        go_roundw
        case rel => exact ⟨k + 1, _, rfl, by go_num, by omega, HM5⟩
        case measure => first | (simp [intOf]; done) | (simp [intOf]; omega)
      · have HE : Hid (ctlE ⟨3, xb⟩ = (tmOf txI).flat) := by unfold Hid ctlE; rw [if_neg (by simp)]; rfl
        obtain ⟨q, hq⟩ : ∃ q, (tmOf txI).flat.length = q := ⟨_, rfl⟩
        have hq6 : q ≤ 60 := by rw [← hq]; exact tm_len txI_ok
        have HRD := Lib.hid (l12Read_text ⟨#[94, 48]⟩ txI (tmOf txI) rfl (TxOk.of txI_ok))
        rw [hq] at HRD
        have HQ := Lib.hid hq
        have HOWN := Lib.hid own
        clear own hB hq
        go_wp2_with fail
        refine (HRD.out _).mono ?_
        rintro e w3 ⟨v3, rfl, ow3, b3⟩
        have HB3 := Lib.hid b3
        have own3 := own_below' HOWN.out b3
        have src3 := Src.of_own ow3
        have hbz := (below_step HM.out.2 b3).size
        obtain ⟨A3, c3, rfl⟩ := own_form ow3
        clear b3 ow3
        go_wp2_with (at_builtin; refine wpList_appx rfl _ _ _ rfl Tryz.underlying24 infoLam rfl (by omega) w.heap.size own3 hbz rfl src3 rfl (one_rows_Lam' _) (by unfold maxLen; omega) (by omega) ?_; intro V5 w5 own5 hg5 hnil5)
        have HM5 : Hid (CtSt w xs (k + 1) V5 w5) := HM.out.put HB3.out HX.out HE.out HMM.out HQ.out own5 hg5
        clear own3 own5 hg5 hnil5 src3
        go_roundw
        case rel => exact ⟨k + 1, _, rfl, by go_num, by omega, HM5⟩
        case measure => first | (simp [intOf]; done) | (simp [intOf]; omega)
      · have HE : Hid (ctlE ⟨4, xb⟩ = [⟨0, xb⟩]) := by unfold Hid ctlE; rw [if_pos rfl]
        obtain ⟨w3, HW3, b3, x3⟩ := al1 wr (.cells #[.int .i64 0, .int .i64 xb] 45)
        have HB3 := Lib.hid b3
        have own3 := own_below' own b3
        have hbz := (below_step hB b3).size
        have src3 : Src 2 w3 (.slice (some ⟨wr.heap.size, 0, none⟩) 1 1) 1 (rows R2.vs [⟨0, xb⟩]) := Src.of_own (own_of_block (n := 1) (cap := 1) (s := 2) (xs := [.int .i64 0, .int .i64 xb]) (base := 0) x3 (by omega) rfl (by omega) (by unfold maxLen; omega))
        clear b3 x3 own hB
        go_wp2_with (at_builtin; rw [← HW3.out]; refine wpList_appx rfl _ _ _ rfl Tryz.underlying24 infoLam rfl (by omega) w.heap.size own3 hbz rfl src3 rfl (one_rows_Lam' _) (by unfold maxLen; omega) (by omega) ?_; intro V5 w5 own5 hg5 hnil5)
        have HM5 : Hid (CtSt w xs (k + 1) V5 w5) := HM.out.put HB3.out HX.out HE.out HMM.out rfl own5 hg5
        clear own3 own5 hg5 hnil5 src3
        go_roundw
        case rel => exact ⟨k + 1, _, rfl, by go_num, by omega, HM5⟩
        case measure => first | (simp [intOf]; done) | (simp [intOf]; omega)
    · obtain rfl : k = n := by omega
      have hkI : ¬ (k : Int) < (k : Int) := by omega
      have HE : Hid (xs.take k = xs) := List.take_of_length_le (Nat.le_of_eq HL.out)
      have HB := Lib.hid HM.out.2
      have HO : Hid (wr.ownsRow w.heap.size 45 2 (.slice AV m cV) m (rows R2.vs (xs.flatMap ctlE))) := by rw [HE.out] at own; exact own
      clear own
      go_wp2_with fail
      refine (l12Fit_any w.heap.size m cV AV _ wr HO.out (by omega)).mono ?_
      rintro e w3 ⟨v, rfl, own3, b3⟩
      have HO3 := Lib.hid own3
      clear own3
      go_wp2_with fail
      go_ret2
      rw [HF.out]
      exact ⟨_, rfl, HO3.out, below_step HB.out b3⟩
end Go.Proofs.YtkiaclajjlidoaaGreatDoor
