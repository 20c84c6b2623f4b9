/- Loop programs of recursive functions, the reference's side: all kinds, LoopOfFunc. -/
import Derived.Test.YtfmfpknigafnoaaLpSpec3
import Derived.Test.YtfmfpknigafnoaaLpSpec4
import Derived.Test.YtfmfpknigafnoaaLpModel
namespace Go.Proofs.Ytfmfpknigafnoaa
open Go.RowKit
set_option linter.all false

theorem l17Func_any (b off n c : Nat) (T : List R3) (hT : FAll T n) : ∀ N : Nat, LpIH b off n c T N := by
  intro N
  induction N with
  | zero =>
    intro k m kk A na ca xs out v w hkk hm hkm hs hsr hca hna hr
    obtain rfl : m = 0 := by omega
    rw [part3, List.take_zero, fRun_none] at hr; cases hr
  | succ N ih =>
    intro k m kk A na ca xs out v w hkk hm hkm hs hsr hca hna hr hv0 hv
    subst hkk
    cases m with
    | zero => rw [part3, List.take_zero, fRun_none] at hr; cases hr
    | succ m =>
      have hlt : k < T.length := by rw [hT.len]; omega
      obtain ⟨x, hx⟩ : ∃ x, T[k]? = some x := ⟨_, List.getElem?_eq_getElem hlt⟩
      rw [part3_cons hx] at hr ⊢
      obtain ⟨hok, hb, hrun⟩ := parts_of hr
      have hb' : x.b = (xs.length : Int) := by omega
      have hc := (fOkN_iff x).1 hok
      have h6 : (x.a = 0 ∨ x.a = 1 ∨ x.a = 2) ∨ x.a = 3 ∨ x.a = 4 ∨ x.a = 5 := by omega
      rcases h6 with h0 | h0 | h0 | h0
      · exact l17Simple_any b off n c T hT N k m x hx A na ca xs out v w hs hsr.arg hb' hok h0 _
      · exact l17Comp_any b off n c T hT N k m ih (by omega) hkm x hx A na ca xs out v w hs hsr hca hna hb' hok _ rfl hrun hv0 (by omega) h0
      · exact l17Rep_any b off n c T hT N k m ih (by omega) hkm x hx A na ca xs out v w hs hsr hca hna hb' hok _ rfl hrun hv0 (by omega) h0
      · exact l17Min_any b off n c T hT N k m ih (by omega) hkm x hx A na ca xs out v w hs hsr hca hna hb' hok _ rfl hrun hv0 (by omega) h0

set_option maxRecDepth 100000 in
set_option maxHeartbeats 1000000 in
theorem l05First_any (n : Nat) (hn : n ≤ 10) (w : World) :
    Calls Try.prog 135 #[.int .i64 n] w fun e w' => ∃ v, e = .returned v ∧ w'.ownsRow w.heap.size 2 1 v n ((vars 0 n).map (Value.int .i64)) ∧ Below w.heap.size w w' := by
  go_enter Try.func135, Try.ntmps135
  go_wp2_with fail
  go_loopw [3, 4] (fun v i wr => ∃ k : Nat, k ≤ n ∧ i = .int .i64 k ∧ wr.ownsRow w.heap.size 2 1 v k ((vars 0 k).map (.int .i64)) ∧ Below w.heap.size w wr) (fun _ i _ => n - (intOf i).toNat)
  case atStart => exact ⟨0, Nat.zero_le _, rfl, World.ownsRow_made _ #[] 0 (by simp) (by simp [maxLen]) rfl, (Below.refl _ _).alloc (Nat.le_refl _) _⟩
  case round =>
    obtain ⟨k, hk, rfl, hown, hB⟩ := hrel
    by_cases hlt : k < n
    · have HVS : Hid ((vars 0 k).map (Value.int .i64) ++ [.int .i64 (k : Int)] = (vars 0 (k + 1)).map (Value.int .i64)) := by unfold Hid; rw [vars_succ, List.map_append]; simp
      go_wp2_with (at_builtin; refine wpList_app rfl _ _ _ rfl Try.underlying176 infoInt64S rfl (by omega) w wr hown hB rfl 1 #[.int .i64 (k : Int)] rfl (laid_below _ _) (heap_alloc_new _ _) rfl (by simp [Value.oneCell']) (by omega) (by unfold maxLen; omega) (by omega) ?_; intro g cap w1 hown1 hB1)
      go_roundw
      case rel => exact ⟨k + 1, by omega, by go_num, by rw [← HVS.out]; exact hown1, hB1⟩
      case measure => simp [intOf]; omega
    · obtain rfl : k = n := by omega
      go_wp2
      go_ret
      exact ⟨_, rfl, hown, hB⟩

set_option maxRecDepth 100000 in
set_option maxHeartbeats 1000000 in
theorem l17OfFunc_any (b off n c : Nat) (f : List R3) (hf : validF f = true) (vb : Bool) (hvb : validL (lpOf f) = vb) (w : World) (hs : Sl w b off (rows R3.vs f)) (hl : f.length = n) :
    Calls Try.prog 90 #[.slice (some ⟨b, off, none⟩) n c] w fun e w' => ∃ v, e = .returned (.tuple #[v, .bool vb]) ∧ w'.ownsRow w.heap.size 128 3 v (lpOf f).length (rows R3.vs (lpOf f)) ∧ Below w.heap.size w w' := by
  obtain ⟨x, l, hfx, h60, hb, h4, hr, hok, hfit⟩ := validF_head hf
  obtain ⟨hp1, hp2⟩ := lpOf_len hf
  have hx : f[0]? = some x := by rw [hfx]; rfl
  have hT : FAll f n := ⟨hl, by omega, hok, hfit⟩
  have hn1 : (0 : Int) < (n : Int) := by have := (List.getElem?_eq_some_iff.1 hx).1; omega
  obtain ⟨ar, har⟩ : ∃ ar, ar = ar0 f := ⟨_, rfl⟩
  have HLP : Hid (lpF n f (vars 0 ar) ar ((ar : Int) + 1) = lpOf f) := by unfold Hid lpOf; rw [har, hl]
  rw [← har] at hb h4 hr
  have HIH : Hid (∀ W A1 c1, Below w.heap.size w W → Src 1 W (.slice A1 ar c1) ar ((vars 0 ar).map (Value.int .i64)) → ar ≤ c1 → Calls Try.prog 134 #[.slice (some ⟨b, off, none⟩) n c, .int .i64 0, .slice A1 ar c1, .int .i64 (ar : Int), .int .i64 ((ar : Int) + 1)] W (LpOk W (lpOf f))) := by
    intro W A1 c1 hW hA hc
    have := l17Func_any b off n c f hT n 0 n 0 A1 ar c1 (vars 0 ar) ar ((ar : Int) + 1) W rfl (Nat.le_refl _) (by omega) (hs.below' hW) hA hc (by omega) (by rw [vars_len, part3, List.drop_zero, List.take_of_length_le (by omega)]; exact hr) (by omega) (by omega)
    rw [part3, List.drop_zero, List.take_of_length_le (by omega), HLP.out] at this
    exact this
  obtain ⟨p0, p1, p2⟩ := hs.rec3 hx
  rw [Nat.zero_mul, Nat.add_zero] at p0 p1 p2
  rw [hb] at p1
  obtain ⟨L, hL⟩ : ∃ L, L = lpOf f := ⟨_, rfl⟩
  rw [← hL] at HIH hp1 hp2 hvb ⊢
  obtain ⟨a0, ha0⟩ : ∃ a0, a0 = L.length := ⟨_, rfl⟩
  rw [← ha0] at hp1 hp2
  have HA0 := Lib.hid ha0
  have HVB := Lib.hid hvb
  clear hfx hb hr hok hfit hx hT HLP hL ha0 har hvb p0 p2 hl hf h60
  go_enter Try.func90, Try.ntmps90
  go_wp2_with fail
  refine (l05First_any ar (by omega) _).mono ?_
  rintro e w1 ⟨v1, rfl, own1, b1⟩
  obtain ⟨A1, c1, rfl⟩ := own_form own1
  go_wp2_with fail
  refine (HIH.out _ A1 c1 b1 (Src.of_own own1) (own_capL own1 _ _ rfl)).mono ?_
  rintro e w2 ⟨⟨v2, rfl, own2⟩, b2⟩
  have B2 := below_step b1 b2
  rw [← HA0.out] at own2
  obtain ⟨A2, c2, rfl⟩ := own_form own2
  obtain ⟨g2, rfl, _, _⟩ := own_addr0 own2 hp2
  have hA2 : Args 3 w2 (some ⟨g2, 0, none⟩) a0 (rows R3.vs L) := args_of_own own2
  have b1' := b1.size
  clear own1 b1 p1
  go_wp2_with fail
  refine (l17Is_is g2 0 a0 c2 L vb HVB.out _ hA2 (by omega)).mono ?_
  rintro e w3 ⟨rfl, b3⟩
  have own3 := own_below' own2 b3
  go_wp2
  go_ret2
  rw [← HA0.out]
  exact ⟨_, rfl, own_base own3 b1', below_step B2 b3⟩

set_option maxRecDepth 100000 in
set_option maxHeartbeats 1000000 in
theorem specLoopOfFunc_any (b off n c : Nat) (xs : List R3) (w : World) (hs : Sl w b off (rows R3.vs xs)) (hl : xs.length = n) (hn : n ≤ 1048576) (hc : n ≤ c) (hf : ∀ x ∈ xs, x.wf) :
    Calls Try.prog 38 #[.slice (some ⟨b, off, none⟩) n c] w fun e w' => ∃ v, e = .returned (.tuple #[v, .int .i64 (loopF xs).2]) ∧
      w'.ownsRow w.heap.size 128 3 v (loopF xs).1.length (rows R3.vs (loopF xs).1) ∧ Below w.heap.size w w' := by
  have HL := Lib.hid hl
  have HA := Lib.hid (Args.of_sl (n := n) (s := 3) hs (by rw [rows_len R3.vs_len, hl]))
  clear hf
  rcases Bool.eq_false_or_eq_true (validF xs) with hv | hv
  rotate_left
  · have HM := Lib.hid (loopF_1 hv)
    have HV := Lib.hid hv
    clear hv hl
    go_enter Try.func38, Try.ntmps38
    go_wp2_with fail
    refine (l11Is_is _ n c xs false HV.out _ HA.out hn).mono ?_
    rintro e w1 ⟨rfl, b1⟩
    go_wp2
    go_ret2
    rw [HM.out]
    exact ⟨_, rfl, World.ownsRow_nil _ _ _ _, b1⟩
  rcases Bool.eq_false_or_eq_true (validL (lpOf xs)) with hk | hk
  rotate_left
  · have HM := Lib.hid (loopF_5 hv hk)
    have HV := Lib.hid hv; have HK := Lib.hid hk
    clear hv hl hk
    go_enter Try.func38, Try.ntmps38
    go_wp2_with fail
    refine (l11Is_is _ n c xs true HV.out _ HA.out hn).mono ?_
    rintro e w1 ⟨rfl, b1⟩
    go_wp2_with fail
    refine (l17OfFunc_any b off n c xs HV.out false HK.out _ (hs.below' b1) HL.out).mono ?_
    rintro e w2 ⟨v2, rfl, own2, b2⟩
    go_wp2
    go_ret2
    rw [HM.out]
    exact ⟨_, rfl, World.ownsRow_nil _ _ _ _, below_step b1 b2⟩
  · have HM := Lib.hid (loopF_0 hv hk)
    have HV := Lib.hid hv; have HK := Lib.hid hk
    clear hv hl hk
    go_enter Try.func38, Try.ntmps38
    go_wp2_with fail
    refine (l11Is_is _ n c xs true HV.out _ HA.out hn).mono ?_
    rintro e w1 ⟨rfl, b1⟩
    go_wp2_with fail
    refine (l17OfFunc_any b off n c xs HV.out true HK.out _ (hs.below' b1) HL.out).mono ?_
    rintro e w2 ⟨v2, rfl, own2, b2⟩
    go_wp2
    go_ret2
    rw [HM.out]
    exact ⟨_, rfl, own_base own2 b1.size, below_step b1 b2⟩
end Go.Proofs.Ytfmfpknigafnoaa
