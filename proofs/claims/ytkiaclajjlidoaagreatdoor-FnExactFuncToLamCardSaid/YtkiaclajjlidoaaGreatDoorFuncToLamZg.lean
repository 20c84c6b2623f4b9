/- The law FnExactFuncToLam returns true for every input, and each argument reads afterwards as before: the proof, part 7. No conditions. -/
import Derived.Test.YtkiaclajjlidoaaGreatDoorFuncToLamZf
import Derived.Deep.RegionHeld3
/- FuncToLam of the program. -/
namespace Go.Proofs.YtkiaclajjlidoaaGreatDoor
open Go.RowKit
set_option linter.all false

theorem lamBody_any (x : R3) (v : Value) (ps : List LTm) (w : World) (hp : RdTs w v ps) (hcp : capOk v) (hok : fOkN x = true) (hl : ps.length = fMany x) (hp4 : ∀ p ∈ ps, p.flat.length ≤ 400) :
    Calls Tryz.prog 61 #[.agg #[.int .i64 x.a, .int .i64 x.b, .int .i64 x.c], .int .i64 x.b, v] w fun e w' => (∃ v, e = .returned v ∧ RdT w' v (bodyT x.a x.b.toNat x.c.toNat ps)) ∧ Below w.heap.size w w' := by
  have h := (fOkN_iff x).1 hok
  have hm := fMany_le hok
  have hpl : ps.length ≤ 5 := by omega
  obtain ⟨a, b, c⟩ := x
  dsimp only at h ⊢
  have hb : 0 ≤ b ∧ b ≤ 4 := by omega
  obtain ⟨n, rfl⟩ : ∃ n : Nat, b = n := ⟨b.toNat, by omega⟩
  rw [Int.toNat_natCast]
  rcases h with ⟨rfl, h⟩ | ⟨rfl, h⟩ | ⟨rfl, h⟩ | ⟨rfl, h⟩ | ⟨rfl, h⟩ | ⟨rfl, h⟩
  · exact lamBody_0 _ c n v ps w hp hcp (by omega) hpl hp4
  · exact lamBody_1 _ c n v ps w hp hcp (by omega) hpl hp4 (by omega)
  · exact lamBody_2 _ c n v ps w hp hcp (by omega) hpl hp4 (by omega) (by omega) (by omega)
  · exact lamBody_3 _ c n v ps w hp hcp (by omega) hpl hp4 (by rw [hl, fMany_3 rfl]; show 1 ≤ (c + 1).toNat; omega)
  · exact lamBody_4 _ c n v ps w hp hcp (by omega) hpl hp4 (by omega) (by rw [hl, fMany_4 rfl]; omega)
  · exact lamBody_5 _ c n v ps w hp hcp (by omega) hpl hp4 (by rw [hl, fMany_5 rfl]; omega)

theorem cut_sub : ∀ (m : Nat) (l p : List R3), p ∈ cut m l → ∀ y ∈ p, y ∈ l
  | 0, _, _, h, _, _ => by cases h
  | m + 1, l, p, h, y, hy => by
    rw [cut] at h
    rcases List.mem_cons.1 h with rfl | h
    · exact List.mem_of_mem_take hy
    · exact List.mem_of_mem_drop (cut_sub m _ p h y hy)
theorem sl_back {w w1 : World} {b o : Nat} {xs : List Value} (h : Sl w1 b o xs) (hb : Below w.heap.size w w1) (hlt : b < w.heap.size) : Sl w b o xs :=
  ⟨hlt, fun j u hu => (hb.cell (p := ⟨b, o + j, none⟩) hlt).symm.trans (h.2 j u hu)⟩
def FlPost (N : Nat) (T : List R3) (W : World) : Ending → World → Prop := fun e w' =>
  ∃ A c n ys, e = .returned (.slice A n c) ∧ ys.length = n ∧ w'.ownsRow W.heap.size 45 2 (.slice A n c) n (rows R2.vs ys) ∧ Below W.heap.size W w' ∧ n ≤ 4000 ∧ (fitF N T = true → ys = (fT N T).flat) ∧ (fitF N T = false → 400 < n)
def terms (N : Nat) (x : R3) (l : List R3) : List LTm := (cut (fMany x) l).map (fT N)
theorem okF_bad {N : Nat} {x : R3} {l p : List R3} {j : Nat} (hp : (cut (fMany x) l)[j]? = some p) (h : okF N p = false) : fitF (N + 1) (x :: l) = false := by
  rw [fitF_succ]
  cases h2 : (cut (fMany x) l).all (okF N) with
  | false => rfl
  | true => rw [List.all_eq_true.1 h2 p (List.mem_of_getElem? hp)] at h; cases h

set_option maxRecDepth 100000 in
set_option maxHeartbeats 4000000 in
theorem funcToLam_any (b : Nat) : ∀ (N off n c : Nat) (T : List R3) (a : Int) (w : World), T.length = n → n ≤ N → n ≤ 60 → n ≤ c → fRun [a] T = some [] → Sl w b off (rows R3.vs T) →
    Calls Tryz.prog 36 #[.slice (some ⟨b, off, none⟩) n c] w (FlPost N T w) := by
  intro N
  induction N with
  | zero =>
    intro off n c T a w hl hn _ _ hr _
    have : T = [] := List.length_eq_zero_iff.1 (by omega)
    subst this
    rw [fRun_none] at hr; cases hr
  | succ N ih =>
    intro off n c T a w hl hn hn60 hc hr hs
    have IH := Lib.hid ih; clear ih
    cases T with
    | nil => rw [fRun_none] at hr; cases hr
    | cons x l =>
      obtain ⟨hok, _, hrun⟩ := parts_of hr
      have HPA := Lib.hid (fun W (hW : Sl W b off (rows R3.vs (x :: l))) => partsAt_any b off n c (x :: l) x l rfl hl hn60 hc hok hrun W hW)
      have hM5 := fMany_le hok
      have hfl := fFols_len hok
      have hxb := (fOkN_iff x).1 hok
      obtain ⟨M, hMM⟩ : ∃ M, fMany x = M := ⟨_, rfl⟩
      have HMM := Lib.hid hMM
      have HTL : Hid ((terms N x l).length = M) := by unfold Hid terms; rw [List.length_map, cut_len, hMM]
      have hll : l.length + 1 = n := by rw [← hl]; rfl
      have HPT : Hid (∀ j, j < M → ∃ p, (cut (fMany x) l)[j]? = some p ∧ (terms N x l)[j]? = some (fT N p) ∧ ∀ W o k, Sl W b o (rows R3.vs p) → p.length ≤ k → Calls Tryz.prog 36 #[.slice (some ⟨b, o, none⟩) p.length k] W (FlPost N p W)) := by
        intro j hj
        obtain ⟨a', ha'⟩ : ∃ a', (fFols x)[j]? = some a' := ⟨_, List.getElem?_eq_getElem (by omega)⟩
        obtain ⟨p, h1, h2, h3, h4⟩ := part_at hok hrun ha'
        refine ⟨p, h1, by unfold terms; rw [List.getElem?_map, h1]; rfl, fun W o k hS hk => IH.out o p.length k p a' W rfl (by omega) (by omega) hk h3 hS⟩
      have hx0 : (x :: l)[0]? = some x := rfl
      obtain ⟨p0, p1, p2⟩ := hs.rec3 hx0
      rw [Nat.zero_mul, Nat.add_zero] at p0 p1 p2
      obtain ⟨ar, har⟩ : ∃ ar : Nat, x.b = ar := ⟨x.b.toNat, by omega⟩
      have har4 : ar ≤ 4 := by omega
      have HM0 := Lib.hid (GRow.start w _ rfl)
      have B0 := laid_below w (.cells #[] 24)
      have HSL := Lib.hid hs
      have HOK := Lib.hid hok
      have HAR := Lib.hid har
      have hn0 : (0 : Int) < (n : Int) := by omega
      have HS0 := Lib.hid (hs.below' B0)
      have P0 := Lib.hid p0; have P1 := Lib.hid p1; have P2 := Lib.hid p2
      rw [hMM] at HPA hM5
      clear hl hr hs hok hrun hfl hxb hMM hll hx0 p0 p1 p2 har B0 IH
      go_enter Tryz.func36, Tryz.ntmps36
      go_wp2_with fail
      refine (HPA.out _ HS0.out).mono ?_
      rintro e w1 ⟨vP, us, rfl, ownP, hPV, b1⟩
      have HM1 := Lib.hid (HM0.out.below b1)
      obtain ⟨AP, cP, rfl⟩ := own_form ownP
      have HOP := Lib.hid (own_base ownP (by simp : w.heap.size ≤ (w.alloc (.cells #[] 24)).heap.size))
      have HPV : Hid (∀ (j : Nat) (p : List R3), (cut (fMany x) l)[j]? = some p → ∃ o k : Nat, us[j]? = some (Value.slice (some ⟨b, o, none⟩) p.length k) ∧ p.length ≤ k ∧ Sl w b o (rows R3.vs p)) := by
        intro j p hp
        rw [HMM.out] at hp
        obtain ⟨o, k, h1, h2, h3⟩ := hPV.2 j p hp
        exact ⟨o, k, h1, h2, sl_back h3 (laid_below _ _) HSL.out.1⟩
      clear HM0 hPV b1 ownP
      go_wp2_with fail
      go_loopw [3, 12] (fun o i wr => ∃ (j g c : Nat), i = .int .i64 (j : Int) ∧ o = .slice (some ⟨g, 0, none⟩) j c ∧ j ≤ M ∧ Hid (GRow w g j c ((terms N x l).take j) wr) ∧ Hid (wr.ownsRow w.heap.size 37 1 (.slice AP M cP) M us) ∧ Hid (∀ i p, i < j → (cut (fMany x) l)[i]? = some p → okF N p = true)) (fun _ i _ => M - (intOf i).toNat)
      case atStart => exact ⟨0, _, _, rfl, rfl, by omega, HM1, HOP, by unfold Hid; intro i p h; omega⟩
      case round =>
        obtain ⟨j, g, c9, rfl, rfl, hj, HG, HO, HOKS⟩ := hrel
        clear HM1 HOP
        by_cases hjM : j < M
        · have hjI : (j : Int) < (M : Int) := by omega
          obtain ⟨p, hcj, htj, hcall⟩ := HPT.out j hjM
          obtain ⟨o, k, huj, hk, hsp⟩ := HPV.out j p hcj
          obtain ⟨gP, rfl, _, _⟩ := own_addr0 HO.out (by omega)
          have k9 := (sl_of_own HO.out).at huj
          rw [Nat.zero_add] at k9
          have HCALL := Lib.hid (hcall wr o k (hsp.below' HG.out.frame) hk)
          obtain ⟨pn, hpn⟩ : ∃ pn, p.length = pn := ⟨_, rfl⟩
          rw [hpn] at HCALL k9
          have HCJ := Lib.hid hcj
          have HTJ := Lib.hid (take_snocL htj)
          have hw4 : IntKind.i64.wrap ((j : Int) + 1) = (j : Int) + 1 := IntWalk.i64_in _ (by omega)
          clear hcj htj hcall huj hk hsp hpn
          go_wp2_with fail
          refine HCALL.out.mono ?_
          rintro e w2 ⟨A2, c2, m2, ys, rfl, hys, own2, b2, hm4, hfit, hbad⟩
          have HFIT := Lib.hid hfit; have HBAD := Lib.hid hbad; have HYS := Lib.hid hys
          clear hfit hbad hys HCALL
          by_cases h4 : m2 ≤ 400
          · have h4I : (m2 : Int) ≤ 400 := by omega
            have h4G : ¬ (400 : Int) < (m2 : Int) := by omega
            have hft : fitF N p = true := by
              cases hf : fitF N p with
              | true => rfl
              | false => have := HBAD.out hf; omega
            have hye := HFIT.out hft
            subst hye
            have HOKP : Hid (okF N p = true) := by unfold Hid okF; rw [hft, decide_eq_true (by have := HYS.out; omega)]; rfl
            obtain ⟨w3, HW3, b3, y3⟩ := al1 w2 (.cells #[.slice A2 m2 c2] 24)
            have HG3 := Lib.hid (HG.out.below (below_step b2 b3))
            obtain ⟨vs, hv1, hv2⟩ := HG3.out.els
            have hu : w3.ownsRow w.heap.size 45 2 (.slice A2 m2 c2) (fT N p).flat.length (rows R2.vs (fT N p).flat) := by
              rw [HYS.out]; exact own_base (own_below' own2 b3) HG.out.frame.size
            have src3 : Src 1 w3 (.slice (some ⟨w2.heap.size, 0, none⟩) 1 1) 1 [.slice A2 m2 c2] := Src.of_own (own_of_block (n := 1) (cap := 1) (s := 1) (xs := [.slice A2 m2 c2]) (base := 0) y3 (by omega) rfl (by omega) (by unfold maxLen; omega))
            have HV1 := Lib.hid hv1; have HV2 := Lib.hid hv2; have HU := Lib.hid hu
            have hbz := HG3.out.frame.size
            have HO3 := Lib.hid (own_below' HO.out (below_step b2 b3))
            clear y3 hu hv2 own2 hft b2 b3 k9
            go_wp2_with (at_builtin; rw [← HW3.out]; refine wpList_appx rfl _ _ _ rfl Tryz.underlying73 infoLamE rfl (by omega) w.heap.size hv1 hbz rfl src3 rfl (by simp [Value.oneCell']) (by unfold maxLen; omega) (by omega) ?_; intro V6 w6 own6 hg6 hnil6; obtain ⟨A6, c6, rfl⟩ := own_form own6; obtain ⟨g6, rfl, _, _⟩ := own_addr0 own6 (by omega))
            have HG6 : Hid (GRow w g6 (j + 1) c6 ((terms N x l).take (j + 1)) w6) := by
              unfold Hid; rw [HTJ.out]
              exact HG3.out.put HV1.out HV2.out HG3.out.frame HU.out (by have := HYS.out; omega) own6 hg6
            have HO6 := Lib.hid (HO3.out.kept hg6 (own_apart_ty HO3.out HV1.out (by decide)))
            have HOKS2 : Hid (∀ i q, i < j + 1 → (cut (fMany x) l)[i]? = some q → okF N q = true) := by
              intro i q hi hq
              rcases Nat.lt_or_ge i j with h | h
              · exact HOKS.out i q h hq
              · obtain rfl : i = j := by omega
                rw [HCJ.out] at hq; injection hq with hq; rw [← hq]; exact HOKP.out
            clear own6 hg6 hnil6 src3 hv1
            go_roundw
            case rel => exact ⟨j + 1, g6, c6, by go_num, rfl, by omega, HG6, HO6, HOKS2⟩
            case measure => first | (simp [intOf]; done) | (simp [intOf]; omega)
          · have h4G : (400 : Int) < (m2 : Int) := by omega
            have HBF : Hid (fitF (N + 1) (x :: l) = false) := by
              refine okF_bad HCJ.out ?_
              unfold okF
              cases hf : fitF N p with
              | false => rfl
              | true =>
                have := HFIT.out hf
                subst this
                rw [decide_eq_false (by have := HYS.out; omega)]; rfl
            have HOW := Lib.hid (own_base own2 HG.out.frame.size)
            have HBW := Lib.hid (below_step HG.out.frame b2)
            clear own2 b2 k9
            go_wp2_with fail
            go_ret
            exact ⟨A2, c2, m2, ys, rfl, HYS.out, HOW.out, HBW.out, hm4, ⟨fun h => absurd (HBF.out.symm.trans h) (by decide), fun _ => by omega⟩⟩
        · obtain rfl : j = M := by omega
          have hjI : ¬ (j : Int) < (j : Int) := by omega
          have HTK : Hid ((terms N x l).take j = terms N x l) := List.take_of_length_le (Nat.le_of_eq HTL.out)
          have HRV : Hid (RdTs wr (.slice (some ⟨g, 0, none⟩) j c9) (terms N x l)) := by have := HG.out.rd; rw [HTK.out] at this; exact this
          have hcp : capOk (.slice (some ⟨g, 0, none⟩) j c9) := HG.out.cap
          have HALL : Hid (fitF (N + 1) (x :: l) = true) := by
            unfold Hid
            rw [fitF_succ, List.all_eq_true]
            intro p hp
            obtain ⟨i, hi⟩ := List.getElem?_of_mem hp
            exact HOKS.out i p (by have := (List.getElem?_eq_some_iff.1 hi).1; rw [cut_len, HMM.out] at this; exact this) hi
          have hp4 : ∀ t ∈ terms N x l, t.flat.length ≤ 400 := by
            intro t ht
            obtain ⟨p, hp, rfl⟩ := List.mem_map.1 ht
            have h1 := HALL.out
            rw [fitF_succ] at h1
            have h2 := List.all_eq_true.1 h1 p hp
            unfold okF at h2
            simp only [Bool.and_eq_true, decide_eq_true_eq] at h2
            exact h2.2
          have hbl : (bodyT x.a x.b.toNat x.c.toNat (terms N x l)).flat.length ≤ 3000 := bodyT_len (by have := HAR.out; omega) (by have := HTL.out; omega) hp4
          obtain ⟨bd, hbd⟩ : ∃ bd, bodyT x.a x.b.toNat x.c.toNat (terms N x l) = bd := ⟨_, rfl⟩
          have HLB := Lib.hid (lamBody_any x _ (terms N x l) wr HRV.out hcp HOK.out (by rw [HTL.out, HMM.out]) hp4)
          have HFT : Hid (fT (N + 1) (x :: l) = absL ar bd) := by
            unfold Hid
            rw [fT_succ, ← hbd, HAR.out, Int.toNat_natCast]; rfl
          rw [hbd] at hbl HLB
          rw [HAR.out] at HLB P1
          have q0 := cell_step (by exact P0.out) HG.out.frame
          have q1 := cell_step (by exact P1.out) HG.out.frame
          have q2 := cell_step (by exact P2.out) HG.out.frame
          have HB := Lib.hid HG.out.frame
          have HBL := Lib.hid hbl
          clear hp4 hbl hbd hcp
          go_wp2_with fail
          refine HLB.out.mono ?_
          rintro e w4 ⟨⟨v4, rfl, r4⟩, b4⟩
          have R4_ := Lib.hid r4
          have HB4 := Lib.hid (below_step HB.out b4)
          clear r4 b4 HLB
          go_wp2_with fail
          refine (abstractOwn ar _ bd _ R4_.out (by omega) (by have := HBL.out; omega)).mono ?_
          rintro e w5 ⟨⟨v5, rfl, o5⟩, b5⟩
          obtain ⟨A5, c5, rfl⟩ := own_form o5
          have HO5 := Lib.hid (own_base o5 HB4.out.size)
          clear o5
          go_wp2_with fail
          go_ret
          refine ⟨A5, c5, _, (absL ar bd).flat, rfl, rfl, HO5.out, below_step HB4.out b5, ?_, ⟨fun _ => by rw [HFT.out], fun h => absurd (HALL.out.symm.trans h) (by decide)⟩⟩
          rw [absL_len]
          have := HBL.out
          omega

theorem fT_idx : ∀ (N : Nat) (T : List R3), (∀ x ∈ T, fOkN x = true) → (fT N T).idx = true := by
  intro N
  induction N with
  | zero => intro T _; rfl
  | succ N ih =>
    intro T hT
    cases T with
    | nil => rfl
    | cons x l =>
      rw [fT_succ]
      have hx := (fOkN_iff x).1 (hT x (by simp))
      refine absL_idx _ _ (bodyT_idx (by omega) ?_)
      intro t ht
      obtain ⟨p, hp, rfl⟩ := List.mem_map.1 ht
      refine ih p fun y hy => hT y (List.mem_cons_of_mem _ ?_)
      exact cut_sub _ _ _ hp y hy

theorem validT_long {ys : List R2} (h : 400 < ys.length) : validT ys = false := by
  unfold validT
  rw [show inB ys.length 1 400 = false from (inB_false _ _ _).2 (by omega)]; rfl
theorem validF_parts {T : List R3} (h : validF T = true) : 1 ≤ T.length ∧ T.length ≤ 60 ∧ fRun [-1] T = some [] ∧ ∀ x ∈ T, fOkN x = true := by
  have h2 := (validF_iff T).1 h
  unfold validF at h
  rw [Bool.and_eq_true] at h
  have h1 := (inB_iff _ _ _).1 h.1
  exact ⟨by omega, by omega, of_decide_eq_true h.2, fun x hx => List.all_eq_true.1 h2.2.2.1 x hx⟩
theorem fit_of {T : List R3} {ys : List R2} (hv : validF T = true) (h1 : fitF 61 T = true → ys = (fT 61 T).flat) (h2 : fitF 61 T = false → 400 < ys.length) : funcLam T = fitL ys := by
  obtain ⟨_, _, _, h4⟩ := validF_parts hv
  unfold funcLam
  rw [if_pos hv]
  cases hf : fitF 61 T with
  | false =>
    rw [fitL_no (validT_long (h2 hf)), if_neg]
    unfold okF; rw [hf]; simp
  | true =>
    have := h1 hf
    subst this
    by_cases hl : (fT 61 T).flat.length ≤ 400
    · rw [fitL_yes (LTm.flat_validI _ (fT_idx 61 T h4) hl), if_pos]
      unfold okF; rw [hf, decide_eq_true hl]; rfl
    · rw [fitL_no (validT_long (by omega)), if_neg]
      unfold okF; rw [hf, decide_eq_false hl]; decide

set_option maxRecDepth 100000 in
theorem implFuncToLam_any (b off n c : Nat) (T : List R3) (w : World) (hs : Sl w b off (rows R3.vs T)) (hl : T.length = n) (hn : n ≤ 1048576) (hc : n ≤ c) (hf : ∀ x ∈ T, x.wf) :
    Calls Tryz.prog 17 #[.slice (some ⟨b, off, none⟩) n c] w fun e w' => ∃ v, e = .returned (.tuple #[v, .int .i64 (funcLam T).2]) ∧ w'.ownsRow w.heap.size 45 2 v (funcLam T).1.length (rows R2.vs (funcLam T).1) ∧ Below w.heap.size w w' := by
  have HS := Lib.hid hs
  have HL := Lib.hid hl
  rcases Bool.eq_false_or_eq_true (validF T) with hv | hv
  rotate_left
  · have HF : Hid (funcLam T = ([], 1)) := by unfold Hid funcLam; rw [if_neg (by rw [hv]; decide)]
    have HV := Lib.hid (validFunc_is (some ⟨b, off, none⟩) n c T false hv w (Args.of_sl hs (by rw [rows_len R3.vs_len, hl])) hn)
    clear hv hl hf hs
    go_enter Tryz.func17, Tryz.ntmps17
    go_wp2_with fail
    refine HV.out.mono ?_
    rintro e w1 ⟨rfl, hb⟩
    go_wp2_with fail
    go_ret2
    rw [HF.out]
    exact ⟨_, rfl, World.ownsRow_nil _ _ _ _, hb⟩
  · have HV := Lib.hid (validFunc_is (some ⟨b, off, none⟩) n c T true hv w (Args.of_sl hs (by rw [rows_len R3.vs_len, hl])) hn)
    have HVF := Lib.hid hv
    obtain ⟨h1, h2, h3, _⟩ := validF_parts hv
    have HFL := Lib.hid (fun W (hW : Below w.heap.size w W) => funcToLam_any b 61 off n c T (-1) W hl (by omega) (by omega) hc h3 (hs.below' hW))
    clear hv hl hf hs h1 h2 h3
    go_enter Tryz.func17, Tryz.ntmps17
    go_wp2_with fail
    refine HV.out.mono ?_
    rintro e w1 ⟨rfl, b1⟩
    have HB1 := Lib.hid b1
    clear b1
    go_wp2_with fail
    refine (HFL.out _ HB1.out).mono ?_
    rintro e w2 ⟨A2, c2, m2, ys, rfl, hys, own2, b2, hm4, hfit, hbad⟩
    have HF : Hid (funcLam T = fitL ys) := fit_of HVF.out hfit (fun h => by rw [hys]; exact hbad h)
    have HO2 := Lib.hid (own_base own2 HB1.out.size)
    have HB2 := Lib.hid (below_step HB1.out b2)
    clear hys own2 b2 hfit hbad
    go_wp2_with fail
    refine (checkedLam_any w.heap.size m2 c2 A2 ys w2 HO2.out (by omega)).mono ?_
    rintro e w3 ⟨v, rfl, own3, b3⟩
    have HO3 := Lib.hid own3
    clear own3
    go_wp2_with fail
    go_ret2
    rw [HF.out]
    exact ⟨_, rfl, HO3.out, below_step HB2.out b3⟩
end Go.Proofs.YtkiaclajjlidoaaGreatDoor

/- Lambda terms of recursive functions, by the reference: l18Var, l18Vars, l18Abs, l18Next, l12Apply, l12Numeral at 0. -/
namespace Go.Proofs.YtkiaclajjlidoaaGreatDoor
open Go.RowKit
set_option linter.all false

theorem sVarT (k : Nat) (w : World) : Calls Tryz.prog 54 #[.int .i64 k] w fun e w' => e = .returned (.slice (some ⟨w.heap.size, 0, none⟩) 1 1) ∧ w' = w.alloc (.cells #[.int .i64 0, .int .i64 (k : Int)] 45) := by
  go_enter Tryz.func54, Tryz.ntmps54
  go_wp2_with fail
  go_ret
  exact ⟨rfl, rfl⟩
/-- A variable: with its block. -/
theorem sVar (k : Nat) (kk : Int) (hk : kk = (k : Int)) (w : World) : Calls Tryz.prog 54 #[.int .i64 kk] w fun e w' => (∃ A c, e = .returned (.slice A 1 c) ∧ RdT w' (.slice A 1 c) (.v k)) ∧ Below w.heap.size w w' := by
  subst hk
  refine (sVarT k w).mono ?_
  rintro e w' ⟨rfl, rfl⟩
  exact ⟨⟨_, _, rfl, rdT_var w k⟩, laid_below _ _⟩
theorem sNext (w : World) : Calls Tryz.prog 53 #[] w fun e w' => (∃ A n c, e = .returned (.slice A n c) ∧ RdT w' (.slice A n c) nextT) ∧ Below w.heap.size w w' := by
  have HR := Lib.hid (l12Read_text ⟨#[94, 94, 94, 40, 49, 32, 40, 40, 50, 32, 49, 41, 32, 48, 41, 41]⟩ txNext nextT rfl (TxOk.of txNext_ok))
  go_enter Tryz.func53, Tryz.ntmps53
  go_wp2_with fail
  refine (HR.out _).mono ?_
  rintro e w1 ⟨v, rfl, own, hb⟩
  have hr := RdT.of_own own
  obtain ⟨A, n, c, rfl⟩ := hr.form
  have HR1 := Lib.hid hr
  clear own hr
  go_wp2_with fail
  go_ret
  exact ⟨⟨_, _, _, rfl, HR1.out⟩, hb⟩

set_option maxRecDepth 100000 in
set_option maxHeartbeats 2000000 in
theorem sVars (n k wi : Nat) (hn : n ≤ 10) (hk : k ≤ n) (hw : wi ≤ 10) (w : World) :
    Calls Tryz.prog 55 #[.int .i64 k, .int .i64 n, .int .i64 wi] w fun e w' => (∃ v, e = .returned v ∧ RdTs w' v (vL n k wi) ∧ capOk v) ∧ Below w.heap.size w w' := by
  obtain ⟨d, hd⟩ : ∃ d, n - k = d := ⟨_, rfl⟩
  have HM0 := Lib.hid (GRow.start w _ rfl)
  have HVL : Hid (vL n k wi = (vL n k wi).take d) := by unfold Hid; rw [List.take_of_length_le (by rw [vL_len]; omega)]
  go_enter Tryz.func55, Tryz.ntmps55
  go_wp2_with fail
  go_loopw [7, 8] (fun o i wr => ∃ (j g c : Nat), i = .int .i64 ((k + j : Nat) : Int) ∧ o = .slice (some ⟨g, 0, none⟩) j c ∧ j ≤ d ∧ Hid (GRow w g j c ((vL n k wi).take j) wr)) (fun _ i _ => n - (intOf i).toNat)
  case atStart => exact ⟨0, _, _, rfl, rfl, by omega, HM0⟩
  case round =>
    obtain ⟨j, g, c, rfl, rfl, hj, HG⟩ := hrel
    clear HM0
    by_cases hjd : j < d
    · obtain ⟨q, hq⟩ : ∃ q, k + j = q := ⟨_, rfl⟩
      rw [hq]
      have hqn : (q : Int) < (n : Int) := by omega
      obtain ⟨z, hz⟩ : ∃ z, n - 1 - q + wi = z := ⟨_, rfl⟩
      have hw1 : IntKind.i64.wrap ((n : Int) - 1) = (n : Int) - 1 := IntWalk.i64_in _ (by omega)
      have hw2 : IntKind.i64.wrap ((n : Int) - 1 - (q : Int)) = (n : Int) - 1 - (q : Int) := IntWalk.i64_in _ (by omega)
      have hw3 : IntKind.i64.wrap ((n : Int) - 1 - (q : Int) + (wi : Int)) = (z : Int) := by rw [IntWalk.i64_in _ (by omega)]; omega
      have hw4 : IntKind.i64.wrap ((q : Int) + 1) = (q : Int) + 1 := IntWalk.i64_in _ (by omega)
      have HQ : Hid (k + (j + 1) = q + 1) := by unfold Hid; omega
      have HTK : Hid ((vL n k wi).take (j + 1) = (vL n k wi).take j ++ [.v z]) := by unfold Hid; rw [take_snocL (vL_at (by omega)), hq, hz]
      have HLV := Lib.hid (sVarT z)
      have HNQ : Hid (q < n) := by unfold Hid; omega
      clear hq hz
      go_wp2_with fail
      refine (HLV.out _).mono ?_
      rintro e w2 ⟨rfl, hw2⟩
      obtain ⟨w4, HW4, b4, x4, y4⟩ := al2 wr (.cells #[.int .i64 0, .int .i64 (z : Int)] 45) (.cells #[.slice (some ⟨wr.heap.size, 0, none⟩) 1 1] 24)
      rw [← hw2] at HW4
      have HG4 := Lib.hid (HG.out.below b4)
      obtain ⟨vs, hv1, hv2⟩ := HG4.out.els
      have hu : w4.ownsRow w.heap.size 45 2 (.slice (some ⟨wr.heap.size, 0, none⟩) 1 1) (LTm.v z).flat.length (rows R2.vs (LTm.v z).flat) :=
        own_of_block (n := 1) (cap := 1) (s := 2) (xs := [.int .i64 0, .int .i64 (z : Int)]) x4 (by have := HG.out.frame.size; omega) rfl (Nat.le_refl _) (by unfold maxLen; omega)
      have hs2 : w2.heap.size = wr.heap.size + 1 := by rw [hw2]; simp
      have src4 : Src 1 w4 (.slice (some ⟨w2.heap.size, 0, none⟩) 1 1) 1 [.slice (some ⟨wr.heap.size, 0, none⟩) 1 1] := Src.of_own (own_of_block (n := 1) (cap := 1) (s := 1) (xs := [.slice (some ⟨wr.heap.size, 0, none⟩) 1 1]) (base := 0) (by rw [hs2]; exact y4) (by omega) rfl (by omega) (by unfold maxLen; omega))
      have HV1 := Lib.hid hv1; have HV2 := Lib.hid hv2; have HU := Lib.hid hu
      have hbz := HG4.out.frame.size
      have hd10 : d ≤ 10 := by omega
      clear x4 y4 b4 hu hv2 hw2 hs2
      go_wp2_with (at_builtin; rw [← HW4.out]; refine wpList_appx rfl _ _ _ rfl Tryz.underlying73 infoLamE rfl (by omega) w.heap.size hv1 hbz rfl src4 rfl (by simp [Value.oneCell']) (by unfold maxLen; omega) (by omega) ?_; intro V5 w5 own5 hg5 hnil5; obtain ⟨A5, c5, rfl⟩ := own_form own5; obtain ⟨g5, rfl, _, _⟩ := own_addr0 own5 (by omega))
      have HG5 : Hid (GRow w g5 (j + 1) c5 ((vL n k wi).take (j + 1)) w5) := by
        unfold Hid; rw [HTK.out]
        exact HG4.out.put HV1.out HV2.out HG4.out.frame HU.out (by simp [LTm.flat]) own5 hg5
      clear own5 hg5 hnil5 src4 hv1
      go_roundw
      case rel => exact ⟨j + 1, g5, c5, by rw [HQ.out]; go_num, rfl, by omega, HG5⟩
      case measure => have := HNQ.out; simp [intOf]; omega
    · obtain rfl : j = d := by omega
      have hqn : ¬ ((k + j : Nat) : Int) < (n : Int) := by omega
      obtain ⟨q, hq⟩ : ∃ q, k + j = q := ⟨_, rfl⟩
      rw [hq] at hqn ⊢
      clear hq
      go_wp2_with fail
      go_ret
      exact ⟨⟨_, rfl, by rw [HVL.out]; exact HG.out.rd, HG.out.cap⟩, HG.out.frame⟩

theorem rep_put {α : Type} (x : α) (m : Nat) : List.replicate (m + 1) x = List.replicate m x ++ [x] := List.replicate_succ'
set_option maxRecDepth 100000 in
set_option maxHeartbeats 2000000 in
/-- l18Abs: a row of the call's own. -/
theorem sAbsOwn (k : Nat) (kk : Int) (hkk : kk = (k : Int)) (x : Value) (t : LTm) (w : World) (hx : RdT w x t) (hk : k ≤ 10) (hM : t.flat.length ≤ 100000) :
    Calls Tryz.prog 56 #[.int .i64 kk, x] w fun e w' => (∃ A n c, e = .returned (.slice A n c) ∧ n = (absL k t).flat.length ∧ w'.ownsRow w.heap.size 45 2 (.slice A n c) n (rows R2.vs (absL k t).flat)) ∧ Below w.heap.size w w' := by
  subst hkk
  obtain ⟨A, n, c, rfl, hn, ht⟩ := hx
  have HO := Lib.hid (one_rows_Lam' t.flat)
  have HR : Hid (rows R2.vs (List.replicate k ⟨1, 0⟩) ++ rows R2.vs t.flat = rows R2.vs (absL k t).flat) := by unfold Hid; rw [absL_flat, rows_app]
  have HN : Hid (k + n = (absL k t).flat.length) := by unfold Hid; rw [absL_len, hn]
  have hn2 : n ≤ 100000 := by omega
  have HT := Lib.hid ht
  obtain ⟨wa, HWa, Ba, xa⟩ := al1 w (.cells #[] 45)
  have HO0 : Hid (wa.ownsRow w.heap.size 45 2 (.slice (some ⟨w.heap.size, 0, none⟩) 0 0) 0 (rows R2.vs (List.replicate 0 ⟨1, 0⟩))) := by
    have := own_of_block (n := 0) (cap := 0) (s := 2) (xs := []) (base := w.heap.size) xa (Nat.le_refl _) rfl (Nat.le_refl _) (Nat.zero_le _)
    rw [List.take_nil] at this
    exact this
  have HB0 := Lib.hid Ba
  clear hn hM ht xa Ba
  go_enter Tryz.func56, Tryz.ntmps56
  go_wp2_with fail
  rw [← HWa.out]
  go_loopw [5, 0] (fun o i wr => ∃ (j r : Nat) (V : Value), V = o ∧ i = .int .i64 (r : Int) ∧ Hid (j + r = k) ∧ Hid (wr.ownsRow w.heap.size 45 2 V j (rows R2.vs (List.replicate j ⟨1, 0⟩))) ∧ Hid (Below w.heap.size w wr)) (fun _ i _ => (intOf i).toNat)
  case atStart => exact ⟨0, k, _, rfl, rfl, by unfold Hid; omega, HO0, HB0⟩
  case round =>
    obtain ⟨j, r, V, rfl, rfl, HJ, HOJ, HBJ⟩ := hrel
    clear HO0
    have hj10 : j ≤ 10 := by have := HJ.out; omega
    have own := HOJ.out
    obtain ⟨AV, cV, hAV⟩ := own_form own
    subst hAV
    cases r with
    | succ r =>
      have hr0 : (0 : Int) < ((r + 1 : Nat) : Int) := by omega
      have hw1 : IntKind.i64.wrap (((r + 1 : Nat) : Int) - 1) = (r : Int) := by rw [IntWalk.i64_in _ (by have := HJ.out; omega)]; omega
      obtain ⟨w2, HW2, b2, x2⟩ := al1 wr (.cells #[.int .i64 1, .int .i64 0] 45)
      have own2 := own_below' own b2
      have HB2 := Lib.hid (below_step HBJ.out b2)
      have hbz := HB2.out.size
      have src2 : Src 2 w2 (.slice (some ⟨wr.heap.size, 0, none⟩) 1 1) 1 [.int .i64 1, .int .i64 0] := Src.of_own (own_of_block (n := 1) (cap := 1) (s := 2) (xs := [.int .i64 1, .int .i64 0]) (base := 0) x2 (by omega) rfl (by omega) (by unfold maxLen; omega))
      obtain ⟨ri, hri⟩ : ∃ ri : Int, ((r + 1 : Nat) : Int) = ri := ⟨_, rfl⟩
      rw [hri] at hr0 hw1 ⊢
      have HRI := Lib.hid hri
      clear own b2 x2 hri
      go_wp2_with (at_builtin; rw [← HW2.out]; refine wpList_appx rfl _ _ _ rfl Tryz.underlying24 infoLam rfl (by omega) w.heap.size own2 hbz rfl src2 rfl (by simp [Value.oneCell']) (by unfold maxLen; omega) (by omega) ?_; intro V3 w3 own3 hg3 hnil3)
      have HO3 : Hid (w3.ownsRow w.heap.size 45 2 V3 (j + 1) (rows R2.vs (List.replicate (j + 1) ⟨1, 0⟩))) := by
        unfold Hid; rw [rep_put, rows_app, rows_one]; exact own3
      have HB3 := Lib.hid (grown_below HB2.out own2 (Nat.le_refl _) hg3)
      clear own2 own3 hg3 hnil3 src2
      go_roundw
      case rel => exact ⟨j + 1, r, _, rfl, rfl, by have := HJ.out; unfold Hid; omega, HO3, HB3⟩
      case measure => have := HRI.out; simp [intOf]; omega
    | zero =>
      obtain rfl : j = k := by have := HJ.out; omega
      have hr0 : ¬ (0 : Int) < ((0 : Nat) : Int) := by omega
      rw [show ((0 : Nat) : Int) = 0 from rfl] at *
      have src := HT.out.below HBJ.out
      have hbz := HBJ.out.size
      go_wp2_with (at_builtin; refine wpList_appx rfl _ _ _ rfl Tryz.underlying24 infoLam rfl (by omega) w.heap.size own hbz rfl src rfl HO.out (by unfold maxLen; omega) (by omega) ?_; intro V3 w3 own3 hg3 hnil3; rw [HR.out] at own3; have B3 := grown_below HBJ.out own (Nat.le_refl _) hg3; obtain ⟨A3, c3, rfl⟩ := own_form own3; clear hnil3 own hg3 src)
      go_ret
      exact ⟨⟨_, _, _, rfl, HN.out, own3⟩, B3⟩
theorem sAbs (k : Nat) (kk : Int) (hkk : kk = (k : Int)) (x : Value) (t : LTm) (w : World) (hx : RdT w x t) (hk : k ≤ 10) (hM : t.flat.length ≤ 100000) :
    Calls Tryz.prog 56 #[.int .i64 kk, x] w fun e w' => (∃ A n c, e = .returned (.slice A n c) ∧ RdT w' (.slice A n c) (absL k t)) ∧ Below w.heap.size w w' :=
  (sAbsOwn k kk hkk x t w hx hk hM).mono fun _ _ ⟨⟨A, n, c, h1, h2, h3⟩, h4⟩ => ⟨⟨A, n, c, h1, RdT.of_own' h3 h2⟩, h4⟩

theorem sNumZ (w : World) : Calls Tryz.prog 51 #[.int .i64 0] w fun e w' => (∃ A n c, e = .returned (.slice A n c) ∧ RdT w' (.slice A n c) numT0) ∧ Below w.heap.size w w' := by
  obtain ⟨w1, HW1, b1, x1⟩ := al1 w (.cells #[.int .i64 1, .int .i64 0, .int .i64 1, .int .i64 0] 45)
  obtain ⟨w2, HW2, b2, x2⟩ := al1 w1 (.cells #[.int .i64 0, .int .i64 0] 45)
  have own1 : w1.ownsRow w.heap.size 45 2 (.slice (some ⟨w.heap.size, 0, none⟩) 2 2) 2 [.int .i64 1, .int .i64 0, .int .i64 1, .int .i64 0] := own_of_block (n := 2) (cap := 2) (s := 2) (xs := [.int .i64 1, .int .i64 0, .int .i64 1, .int .i64 0]) x1 (Nat.le_refl _) rfl (Nat.le_refl _) (by unfold maxLen; omega)
  have own2 := own_below' own1 b2
  have src2 : Src 2 w2 (.slice (some ⟨w1.heap.size, 0, none⟩) 1 1) 1 [.int .i64 0, .int .i64 0] := Src.of_own (own_of_block (n := 1) (cap := 1) (s := 2) (xs := [.int .i64 0, .int .i64 0]) (base := 0) x2 (by omega) rfl (by omega) (by unfold maxLen; omega))
  have HB2 := Lib.hid (below_step b1 b2)
  have hbz := HB2.out.size
  clear x1 x2 b1 b2 own1
  go_enter Tryz.func51, Tryz.ntmps51
  go_wp2_with fail
  rw [← HW1.out]
  go_loopw [3, 0] (fun o i wr => i = .int .i64 0 ∧ o = .slice (some ⟨w.heap.size, 0, none⟩) 2 2 ∧ wr = w1) (fun _ _ _ => 0)
  case atStart => exact ⟨rfl, rfl, rfl⟩
  case round =>
    obtain ⟨rfl, rfl, rfl⟩ := hrel
    go_wp2_with (at_builtin; rw [← HW2.out]; refine wpList_appx rfl _ _ _ rfl Tryz.underlying24 infoLam rfl (by omega) w.heap.size own2 hbz rfl src2 rfl (by simp [Value.oneCell']) (by unfold maxLen; omega) (by omega) ?_; intro V3 w3 own3 hg3 hnil3; have B3 := grown_below HB2.out own2 (Nat.le_refl _) hg3; obtain ⟨A3, c3, rfl⟩ := own_form own3; clear hnil3 own2 hg3 src2)
    go_ret
    exact ⟨⟨_, _, _, rfl, RdT.of_own' (t := numT0) own3 rfl⟩, B3⟩
end Go.Proofs.YtkiaclajjlidoaaGreatDoor

/- l12Apply of the reference. -/
namespace Go.Proofs.YtkiaclajjlidoaaGreatDoor
open Go.RowKit
set_option linter.all false

theorem flatten_take {ts : List LTm} {j : Nat} {t : LTm} (h : ts[j]? = some t) : (flats (ts.take (j + 1))).flatten = (flats (ts.take j)).flatten ++ t.flat := by
  rw [take_snocL h, flats, List.map_append, List.flatten_append]; simp [flats]
theorem flatten_take_le (ts : List LTm) (j : Nat) : (flats (ts.take j)).flatten.length ≤ (flats ts).flatten.length := by
  have h : (flats ts).flatten = (flats (ts.take j)).flatten ++ (flats (ts.drop j)).flatten := by
    rw [← List.flatten_append, flats, flats, flats, ← List.map_append, List.take_append_drop]
  rw [h, List.length_append]; omega
def headL (t : LTm) (m : Nat) : List R2 := List.replicate m ⟨2, 0⟩ ++ t.flat
set_option maxRecDepth 100000 in
set_option maxHeartbeats 4000000 in
/-- l12Apply: a row of the call's own. -/
theorem sApplyOwn (x y : Value) (t : LTm) (ts : List LTm) (w : World) (hx : RdT w x t) (hy : RdTs w y ts) (hM : (appsL t ts).flat.length ≤ 100000) :
    Calls Tryz.prog 52 #[x, y] w fun e w' => (∃ A n c, e = .returned (.slice A n c) ∧ n = (appsL t ts).flat.length ∧ w'.ownsRow w.heap.size 45 2 (.slice A n c) n (rows R2.vs (appsL t ts).flat)) ∧ Below w.heap.size w w' := by
  obtain ⟨b1, b2, b3⟩ := flatten_le hM
  obtain ⟨A, n, c, rfl, hn, ht⟩ := hx
  have HY := Lib.hid hy
  obtain ⟨g, o, m, cm, vs, rfl, hm, hsl, hrw⟩ := hy
  have HO := Lib.hid (one_rows_Lam' t.flat)
  have HT := Lib.hid ht
  have HM := Lib.hid hm
  have HN := Lib.hid hn
  have hm9 : m ≤ 100000 := by omega
  have hn9 : n ≤ 100000 := by omega
  have HAL : Hid ((appsL t ts).flat = headL t m ++ (flats (ts.take m)).flatten) := by unfold Hid headL; rw [appsL_flat, hm, List.take_length]
  have HLN : Hid ((appsL t ts).flat.length = m + n + (flats ts).flatten.length) := by unfold Hid; rw [appsL_len, hm, hn]
  have HFL : Hid ((flats ts).flatten.length ≤ 100000) := b3
  obtain ⟨wa, HWa, Ba, xa⟩ := al1 w (.cells #[] 45)
  have HO0 : Hid (wa.ownsRow w.heap.size 45 2 (.slice (some ⟨w.heap.size, 0, none⟩) 0 0) 0 (rows R2.vs (List.replicate 0 ⟨2, 0⟩))) := by
    have := own_of_block (n := 0) (cap := 0) (s := 2) (xs := []) (base := w.heap.size) xa (Nat.le_refl _) rfl (Nat.le_refl _) (Nat.zero_le _)
    rw [List.take_nil] at this
    exact this
  have HB0 := Lib.hid Ba
  clear hn hM ht xa Ba hm hsl hrw b1 b2 b3
  go_enter Tryz.func52, Tryz.ntmps52
  go_wp2_with fail
  rw [← HWa.out]
  go_loopw [5, 6] (fun q i wr => ∃ (j : Nat) (V : Value), V = q ∧ i = .int .i64 (j : Int) ∧ j ≤ m ∧ Hid (wr.ownsRow w.heap.size 45 2 V j (rows R2.vs (List.replicate j ⟨2, 0⟩))) ∧ Hid (Below w.heap.size w wr)) (fun _ i _ => m - (intOf i).toNat)
  case atStart => exact ⟨0, _, rfl, rfl, by omega, HO0, HB0⟩
  case round =>
    obtain ⟨j, V, rfl, rfl, hj, HOJ, HBJ⟩ := hrel
    clear HO0
    have own := HOJ.out
    obtain ⟨AV, cV, hAV⟩ := own_form own
    subst hAV
    have hbz := HBJ.out.size
    by_cases hjm : j < m
    · have hjI : (j : Int) < (m : Int) := by omega
      have hw1 : IntKind.i64.wrap ((j : Int) + 1) = (j : Int) + 1 := IntWalk.i64_in _ (by omega)
      obtain ⟨w2, HW2, b2, x2⟩ := al1 wr (.cells #[.int .i64 2, .int .i64 0] 45)
      have own2 := own_below' own b2
      have HB2 := Lib.hid (below_step HBJ.out b2)
      have hbz2 := HB2.out.size
      have src2 : Src 2 w2 (.slice (some ⟨wr.heap.size, 0, none⟩) 1 1) 1 [.int .i64 2, .int .i64 0] := Src.of_own (own_of_block (n := 1) (cap := 1) (s := 2) (xs := [.int .i64 2, .int .i64 0]) (base := 0) x2 (by omega) rfl (by omega) (by unfold maxLen; omega))
      clear own b2 x2
      go_wp2_with (at_builtin; rw [← HW2.out]; refine wpList_appx rfl _ _ _ rfl Tryz.underlying24 infoLam rfl (by omega) w.heap.size own2 hbz2 rfl src2 rfl (by simp [Value.oneCell']) (by unfold maxLen; omega) (by omega) ?_; intro V3 w3 own3 hg3 hnil3)
      have HO3 : Hid (w3.ownsRow w.heap.size 45 2 V3 (j + 1) (rows R2.vs (List.replicate (j + 1) ⟨2, 0⟩))) := by
        unfold Hid; rw [rep_put, rows_app, rows_one]; exact own3
      have HB3 := Lib.hid (grown_below HB2.out own2 (Nat.le_refl _) hg3)
      clear own2 own3 hg3 hnil3 src2
      go_roundw
      case rel => exact ⟨j + 1, _, rfl, by go_num, by omega, HO3, HB3⟩
      case measure => first | (simp [intOf]; done) | (simp [intOf]; omega)
    · obtain rfl : j = m := by omega
      have hjI : ¬ (j : Int) < (j : Int) := by omega
      have src := HT.out.below HBJ.out
      go_wp2_with (at_builtin; refine wpList_appx rfl _ _ _ rfl Tryz.underlying24 infoLam rfl (by omega) w.heap.size own hbz rfl src rfl HO.out (by unfold maxLen; omega) (by omega) ?_; intro V3 w3 own3 hg3 hnil3; rw [← rows_app] at own3; have HB3 := Lib.hid (grown_below HBJ.out own (Nat.le_refl _) hg3); have HO3 : Hid (w3.ownsRow w.heap.size 45 2 V3 (j + n) (rows R2.vs (headL t j))) := own3; clear hnil3 own own3 hg3 src)
      go_loopw [5, 7] (fun q i wr => ∃ (k l : Nat) (V : Value), V = q ∧ i = .int .i64 (k : Int) ∧ k ≤ j ∧ Hid (l = j + n + (flats (ts.take k)).flatten.length) ∧ Hid (wr.ownsRow w.heap.size 45 2 V l (rows R2.vs (headL t j ++ (flats (ts.take k)).flatten))) ∧ Hid (Below w.heap.size w wr)) (fun _ i _ => j - (intOf i).toNat)
      case atStart => exact ⟨0, _, _, rfl, rfl, by omega, by unfold Hid; simp [flats]; rfl, by simpa [flats] using HO3, HB3⟩
      case round =>
        obtain ⟨k, l, V, rfl, rfl, hk, HL, HOK, HBK⟩ := hrel
        clear HO3 HB3
        have hl9 : l ≤ 300000 := by have := HL.out; have := flatten_take_le ts k; have := HFL.out; omega
        have own := HOK.out
        obtain ⟨AV, cV, hAV⟩ := own_form own
        subst hAV
        have hbz := HBK.out.size
        by_cases hkj : k < j
        · have hkI : (k : Int) < (j : Int) := by omega
          have hw1 : IntKind.i64.wrap ((k : Int) + 1) = (k : Int) + 1 := IntWalk.i64_in _ (by omega)
          obtain ⟨u, hu⟩ : ∃ u, ts[k]? = some u := ⟨_, List.getElem?_eq_getElem (by have := HM.out; omega)⟩
          obtain ⟨_, _, _, _, uv, e9, -, -, hcu, ru⟩ := (HY.out.below HBK.out).get hu
          injection e9 with e9 em ec
          injection e9 with e9
          injection e9 with eg eo
          subst eg eo em ec
          obtain ⟨Au, nu, cu, rfl, hnu, su⟩ := ru
          have hnu9 : nu ≤ 100000 := by
            have h1 := flatten_take hu
            have h2 := congrArg List.length h1
            rw [List.length_append] at h2
            have := flatten_take_le ts (k + 1)
            have := HFL.out
            omega
          have HOU := Lib.hid (one_rows_Lam' u.flat)
          have HFT := Lib.hid (flatten_take hu)
          have HNU := Lib.hid hnu
          clear hu hnu
          go_wp2_with (at_builtin; refine wpList_appx rfl _ _ _ rfl Tryz.underlying24 infoLam rfl (by omega) w.heap.size own hbz rfl su rfl HOU.out (by unfold maxLen; omega) (by omega) ?_; intro V4 w4 own4 hg4 hnil4; rw [← rows_app, List.append_assoc, ← HFT.out] at own4; have HB4 := Lib.hid (grown_below HBK.out own (Nat.le_refl _) hg4); have HO4 := Lib.hid own4; clear hnil4 own own4 hg4 su)
          go_roundw
          case rel => exact ⟨k + 1, l + nu, _, rfl, by go_num, by omega, by unfold Hid; rw [HFT.out, List.length_append, HL.out, HNU.out]; omega, HO4, HB4⟩
          case measure => first | (simp [intOf]; done) | (simp [intOf]; omega)
        · obtain rfl : k = j := by omega
          have hkI : ¬ (k : Int) < (k : Int) := by omega
          have HLF : Hid (l = (appsL t ts).flat.length) := by
            unfold Hid
            rw [HLN.out, HL.out, HM.out, List.take_length]
          have HOF : Hid (wr.ownsRow w.heap.size 45 2 (.slice AV l cV) l (rows R2.vs (appsL t ts).flat)) := by
            unfold Hid; rw [HAL.out]; exact own
          clear own
          go_wp2_with fail
          go_ret
          exact ⟨⟨_, _, _, rfl, HLF.out, HOF.out⟩, HBK.out⟩
theorem sApply (x y : Value) (t : LTm) (ts : List LTm) (w : World) (hx : RdT w x t) (hy : RdTs w y ts) (hM : (appsL t ts).flat.length ≤ 100000) :
    Calls Tryz.prog 52 #[x, y] w fun e w' => (∃ A n c, e = .returned (.slice A n c) ∧ RdT w' (.slice A n c) (appsL t ts)) ∧ Below w.heap.size w w' :=
  (sApplyOwn x y t ts w hx hy hM).mono fun _ _ ⟨⟨A, n, c, h1, h2, h3⟩, h4⟩ => ⟨⟨A, n, c, h1, RdT.of_own' h3 h2⟩, h4⟩
end Go.Proofs.YtkiaclajjlidoaaGreatDoor

/- The reference's l18Term: the ends of parts, and what it gives. -/
namespace Go.Proofs.YtkiaclajjlidoaaGreatDoor
open Go.RowKit
set_option linter.all false

theorem RdTs.at {w : World} {g o m c : Nat} {ts : List LTm} (h : RdTs w (.slice (some ⟨g, o, none⟩) m c) ts) {i : Nat} {t : LTm} (ht : ts[i]? = some t) : ∃ A n k, w.cell? ⟨g, o + i, none⟩ = some (.slice A n k) ∧ RdT w (.slice A n k) t ∧ i < m := by
  obtain ⟨_, _, _, _, u, e9, hm, hi, hc, hr⟩ := h.get ht
  injection e9 with e9 em ec
  injection e9 with e9
  injection e9 with eg eo
  subst eg eo em ec
  obtain ⟨A, n, k, rfl⟩ := hr.form
  exact ⟨A, n, k, hc, hr, hi⟩
theorem step_litvars {ops : Array Oper} {o : Oper} {a : Act} {w : World} {K : Act → World → Prop} {Q : Exit → Act → World → Prop} {E : Prop} (hgd : o.guard = none) (s x : Operand) (ho : o.op = .call { callee := .builtin .append, args := #[s, x], argTypes := #[73, 73] })
    {g k : Nat} {xs : List Value} {ts1 ts2 : List LTm} {y : Value} (hs : a.eval s = .slice (some ⟨g, 0, none⟩) k k) (hk : xs.length = k) (h1 : 1 ≤ k) (hk9 : k ≤ 100) (hg : Sl w g 0 xs) (hr : RdL w xs ts1) (hx : a.eval x = y) (hy : RdTs w y ts2) (hb : ts2.length ≤ 100)
    (h : ∀ v w', RdTs w' v (ts1 ++ ts2) → Below w.heap.size w w' → K (a.put o.dst v) w') : if Region.wanted o (yielded ops a.tmps) = true then Oper.wp Tryz.prog o a w K Q else E := by
  have hw : Region.wanted o (yielded ops a.tmps) = true := by simp [Region.wanted, hgd]
  rw [if_pos hw]
  exact op_litvars s x ho hs hk h1 hk9 hg hr hx hy hb h
theorem lEnd_exact (A : Option Addr) (n c k : Nat) (kk : Int) (hkk : kk = (k : Int)) (T : List R3) (hl : T.length = n) (hn : n ≤ 60) (hk : k ≤ n) (hok : ∀ x ∈ T, fOkN x = true) (a : Int) (st : List Int) (r : List R3) (hr : fRun (a :: st) (T.drop k) = some r) (q : Nat) (hq : q = endL (T.drop k)) (w : World) (ha : Args 3 w A n (rows R3.vs T)) :
    Calls Tryz.prog 50 #[.slice A n c, .int .i64 kk] w fun e w' => e = .returned (.tuple #[.int .i64 ((k + q : Nat) : Int), .bool true]) ∧ Below w.heap.size w w' := by
  obtain ⟨h1, h2, h3, _⟩ := fRun_one hr
  have h4 : tPosAt fMany 1 k (T.drop k) = ((k + q : Nat) : Int) := by
    rcases tPosAt_shift fMany (T.drop k) 1 k 0 with ⟨_, e2⟩ | ⟨q2, e1, e2⟩
    · rw [h3] at e2; omega
    · rw [h3] at e2
      rw [e1, hq]
      have : q2 = endL (T.drop k) := by omega
      rw [this]
  refine (l11End_any A n c k kk hkk T w ha (by omega) hk).mono ?_
  rintro e w' ⟨⟨en, ok, rfl, hE⟩, hb⟩
  refine ⟨?_, hb⟩
  unfold EndOk at hE
  rcases hE with ⟨rfl, q', h5, h6, _⟩ | ⟨_, h6⟩
  · rw [h4] at h6
    rw [h5, ← h6]
  · have := h6 q h4
    rw [List.all_eq_true.2 (fun x hx => hok x (List.mem_of_mem_drop (List.mem_of_mem_take hx)))] at this
    cases this
def StPost (N : Nat) (T : List R3) (W : World) (b : Bool) : Ending → World → Prop := fun e w' =>
  ∃ A n c, e = .returned (.tuple #[.slice A n c, .bool b]) ∧ (b = true → n = (fT N T).flat.length ∧ w'.ownsRow W.heap.size 45 2 (.slice A n c) n (rows R2.vs (fT N T).flat)) ∧ Below W.heap.size W w'
theorem okF_eq {N : Nat} {T : List R3} (h : fitF N T = true) (hok : ∀ x ∈ T, fOkN x = true) : validT (fT N T).flat = okF N T := by
  unfold okF
  rw [h, Bool.true_and]
  by_cases hl : (fT N T).flat.length ≤ 400
  · rw [LTm.flat_validI _ (fT_idx N T hok) hl, decide_eq_true hl]
  · rw [validT_long (by omega), decide_eq_false hl]
theorem okF_no {N : Nat} {T : List R3} (h : fitF N T = false) : okF N T = false := by unfold okF; rw [h]; rfl
theorem sFalse (w : World) : Calls Tryz.prog 21 #[.string ⟨#[94, 94, 48]⟩] w fun e w' => (∃ A n c, e = .returned (.slice A n c) ∧ RdT w' (.slice A n c) falseT) ∧ Below w.heap.size w w' := by
  refine (l12Read_text ⟨#[94, 94, 48]⟩ txFalse falseT rfl (TxOk.of txFalse_ok) w).mono ?_
  rintro e w' ⟨v, rfl, own, hb⟩
  have hr := RdT.of_own own
  obtain ⟨A, n, c, rfl⟩ := hr.form
  exact ⟨⟨_, _, _, rfl, hr⟩, hb⟩
/-- The end: the abstractions, and whether it is valid. -/
def TailOk (w : World) (ar : Nat) (bd : LTm) (W : World) (v : Value) : Prop := RdT W v bd ∧ Below w.heap.size w W
end Go.Proofs.YtkiaclajjlidoaaGreatDoor
