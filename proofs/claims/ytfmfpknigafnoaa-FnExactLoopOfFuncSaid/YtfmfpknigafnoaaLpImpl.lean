/- Loop programs of recursive functions, the program's side: all kinds, LoopOfFunc. -/
import Derived.Test.YtfmfpknigafnoaaLpImpl3
import Derived.Test.YtfmfpknigafnoaaLpImpl4
import Derived.Test.YtfmfpknigafnoaaLpImpl5
namespace Go.Proofs.Ytfmfpknigafnoaa
open Go.RowKit
set_option linter.all false

theorem loopsOf_any : ∀ N : Nat, LpIHi N := by
  intro N
  induction N with
  | zero =>
    intro b off n c T A na ca xs out v w hl hn h60 hc hs hsr hca hna hr
    obtain rfl : T = [] := List.eq_nil_of_length_eq_zero (by omega)
    rw [fRun_none] at hr; cases hr
  | succ N ih =>
    intro b off n c T A na ca xs out v w hl hn h60 hc hs hsr hca hna hr hv0 hv
    cases T with
    | nil => rw [fRun_none] at hr; cases hr
    | cons x l =>
      obtain ⟨hok, hb, hrun⟩ := parts_of hr
      have hb' : x.b = (xs.length : Int) := by omega
      have hcs := (fOkN_iff x).1 hok
      have h6 : x.a = 0 ∨ x.a = 1 ∨ x.a = 2 ∨ x.a = 3 ∨ x.a = 4 ∨ x.a = 5 := by omega
      rcases h6 with h0 | h0 | h0 | h0 | h0 | h0
      · exact loops0_any N ih b off n c (x :: l) x l rfl hl hn h60 hc A na ca xs out v w hs hsr hca hna hb' hok hrun hv0 hv h0
      · exact loops1_any N ih b off n c (x :: l) x l rfl hl hn h60 hc A na ca xs out v w hs hsr hca hna hb' hok hrun hv0 hv h0
      · exact loops2_any N ih b off n c (x :: l) x l rfl hl hn h60 hc A na ca xs out v w hs hsr hca hna hb' hok hrun hv0 hv h0
      · exact loops3_any N ih b off n c (x :: l) x l rfl hl hn h60 hc A na ca xs out v w hs hsr hca hna hb' hok hrun hv0 hv h0
      · exact loops4_any N ih b off n c (x :: l) x l rfl hl hn h60 hc A na ca xs out v w hs hsr hca hna hb' hok hrun hv0 hv h0
      · exact loops5_any N ih b off n c (x :: l) x l rfl hl hn h60 hc A na ca xs out v w hs hsr hca hna hb' hok hrun hv0 hv h0

set_option maxRecDepth 100000 in
set_option maxHeartbeats 1000000 in
theorem loopOfFunc_any (b off n c : Nat) (f : List R3) (hf : validF f = true) (vb : Bool) (hvb : validL (lpOf f) = vb) (w : World) (hs : Sl w b off (rows R3.vs f)) (hl : f.length = n) (hc : n ≤ c) (M : List R3 × Int) (hM : loopF f = M) :
    Calls Try.prog 92 #[.slice (some ⟨b, off, none⟩) n c] w fun e w' => ∃ v, e = .returned (.tuple #[v, .int .i64 M.2]) ∧ (∃ A n c, v = .slice A n c) ∧ w'.ownsRow w.heap.size 128 3 v M.1.length (rows R3.vs M.1) ∧ Below w.heap.size w w' := by
  obtain ⟨x, l, hfx, h60, hb, h4, hr, hok, hfit⟩ := validF_head hf
  obtain ⟨hp1, hp2⟩ := lpOf_len hf
  have hx : f[0]? = some x := by rw [hfx]; rfl
  have hn1 : (0 : Int) < (n : Int) := by have := (List.getElem?_eq_some_iff.1 hx).1; omega
  obtain ⟨ar, har⟩ : ∃ ar, ar = ar0 f := ⟨_, rfl⟩
  have HLP : Hid (lpF n f (vars 0 ar) ar ((ar : Int) + 1) = lpOf f) := by unfold Hid lpOf; rw [har, hl]
  rw [← har] at hb h4 hr
  have HIH : Hid (∀ W A1 c1, Below w.heap.size w W → Src 1 W (.slice A1 ar c1) ar ((vars 0 ar).map (Value.int .i64)) → ar ≤ c1 → Calls Try.prog 139 #[.slice (some ⟨b, off, none⟩) n c, .slice A1 ar c1, .int .i64 (ar : Int), .int .i64 ((ar : Int) + 1)] W (LpOk W (lpOf f))) := by
    intro W A1 c1 hW hA hc1
    have := loopsOf_any n b off n c f A1 ar c1 (vars 0 ar) ar ((ar : Int) + 1) W hl (Nat.le_refl _) (by omega) hc (hs.below' hW) hA hc1 (by omega) (by rw [vars_len]; exact hr) (by omega) (by omega)
    rw [HLP.out] at this
    exact this
  obtain ⟨p0, p1, p2⟩ := hs.rec3 hx
  rw [Nat.zero_mul, Nat.add_zero] at p0 p1 p2
  rw [hb] at p1
  have HMT : Hid (vb = true → M = (lpOf f, 0)) := fun h => by rw [← hM]; exact loopF_0 hf (by rw [hvb, h])
  have HMF : Hid (vb = false → M = ([], 5)) := fun h => by rw [← hM]; exact loopF_5 hf (by rw [hvb, h])
  obtain ⟨L, hL⟩ : ∃ L, L = lpOf f := ⟨_, rfl⟩
  rw [← hL] at HIH hp1 hp2 hvb HMT
  obtain ⟨a0, ha0⟩ : ∃ a0, a0 = L.length := ⟨_, rfl⟩
  rw [← ha0] at hp1 hp2
  have HA0 := Lib.hid ha0
  have HVB := Lib.hid hvb
  clear hfx hb hr hok hfit hx HLP hL ha0 har hvb p0 p2 hl hf h60 hM
  go_enter Try.func92, Try.ntmps92
  go_wp2_with fail
  go_loopw [5, 14] (fun v i wr => ∃ k : Nat, k ≤ ar ∧ i = .int .i64 k ∧ wr.ownsRow w.heap.size 2 1 v k ((vars 0 k).map (.int .i64)) ∧ Below w.heap.size w wr) (fun _ i _ => ar - (intOf i).toNat)
  case atStart => exact ⟨0, Nat.zero_le _, rfl, World.ownsRow_made _ #[] 0 (by simp) (by simp [maxLen]) rfl, (Below.refl _ _).alloc (Nat.le_refl _) _⟩
  case round =>
    obtain ⟨k, hk, rfl, hown, hB⟩ := hrel
    by_cases hlt : k < ar
    · have HVS : Hid ((vars 0 k).map (Value.int .i64) ++ [.int .i64 (k : Int)] = (vars 0 (k + 1)).map (Value.int .i64)) := by unfold Hid; rw [vars_succ, List.map_append]; simp
      go_wp2_with (at_builtin; refine wpList_app rfl _ _ _ rfl Try.underlying176 infoInt64S rfl (by omega) w wr hown hB rfl 1 #[.int .i64 (k : Int)] rfl (laid_below _ _) (heap_alloc_new _ _) rfl (by simp [Value.oneCell']) (by omega) (by unfold maxLen; omega) (by omega) ?_; intro g cap w1 hown1 hB1)
      go_roundw
      case rel => exact ⟨k + 1, by omega, by go_num, by rw [← HVS.out]; exact hown1, hB1⟩
      case measure => simp [intOf]; omega
    · obtain rfl : k = ar := by omega
      obtain ⟨A1, c1, rfl⟩ := own_form hown
      go_wp2_with fail
      refine (HIH.out _ A1 c1 hB (Src.of_own hown) (own_capL hown _ _ rfl)).mono ?_
      rintro e w2 ⟨⟨v2, rfl, own2⟩, b2⟩
      have B2 := below_step hB b2
      rw [← HA0.out] at own2
      obtain ⟨A2, c2, rfl⟩ := own_form own2
      have hc2 := own_capL own2 _ _ rfl
      obtain ⟨g2, rfl, _, _⟩ := own_addr0 own2 hp2
      have hA2 : Args 3 w2 (some ⟨g2, 0, none⟩) a0 (rows R3.vs L) := args_of_own own2
      have hbs := hB.size
      clear hown p1
      go_wp2_with fail
      refine (implValidLoop_is g2 0 a0 c2 L vb HVB.out _ hA2 (by omega) hc2).mono ?_
      rintro e w3 ⟨rfl, b3⟩
      have own3 := own_below' own2 b3
      cases vb with
      | true =>
        go_wp2
        go_ret2
        rw [HMT.out (by trivial)]
        have := own_base own3 hbs
        rw [HA0.out] at this
        refine ⟨_, rfl, ⟨_, _, _, rfl⟩, ?_, below_step B2 b3⟩
        rw [HA0.out]
        exact this
      | false =>
        go_wp2
        go_ret2
        rw [HMF.out (by trivial)]
        exact ⟨_, rfl, ⟨_, _, _, rfl⟩, World.ownsRow_nil _ _ _ _, below_step B2 b3⟩

set_option maxRecDepth 100000 in
set_option maxHeartbeats 1000000 in
theorem implLoopOfFunc_any (b off n c : Nat) (xs : List R3) (w : World) (hs : Sl w b off (rows R3.vs xs)) (hl : xs.length = n) (hn : n ≤ 1048576) (hc : n ≤ c) (hf : ∀ x ∈ xs, x.wf) :
    Calls Try.prog 39 #[.slice (some ⟨b, off, none⟩) n c] w fun e w' => ∃ v, e = .returned (.tuple #[v, .int .i64 (loopF xs).2]) ∧
      w'.ownsRow w.heap.size 128 3 v (loopF xs).1.length (rows R3.vs (loopF xs).1) ∧ Below w.heap.size w w' := by
  have HL := Lib.hid hl
  have HA := Lib.hid (Args.of_sl (n := n) (s := 3) hs (by rw [rows_len R3.vs_len, hl]))
  clear hf
  rcases Bool.eq_false_or_eq_true (validF xs) with hv | hv
  rotate_left
  · have HM := Lib.hid (loopF_1 hv)
    have HV := Lib.hid hv
    clear hv hl
    go_enter Try.func39, Try.ntmps39
    go_wp2_with fail
    refine (validFunc_is _ n c xs false HV.out _ HA.out hn).mono ?_
    rintro e w1 ⟨rfl, b1⟩
    go_wp2
    go_ret2
    rw [HM.out]
    exact ⟨_, rfl, World.ownsRow_nil _ _ _ _, b1⟩
  · have HV := Lib.hid hv
    obtain ⟨M, hM⟩ : ∃ M, loopF xs = M := ⟨_, rfl⟩
    have HM := Lib.hid hM
    rw [hM]
    clear hv hl hM
    go_enter Try.func39, Try.ntmps39
    go_wp2_with fail
    refine (validFunc_is _ n c xs true HV.out _ HA.out hn).mono ?_
    rintro e w1 ⟨rfl, b1⟩
    go_wp2_with fail
    refine (loopOfFunc_any b off n c xs HV.out _ rfl _ (hs.below' b1) HL.out hc M HM.out).mono ?_
    rintro e w2 ⟨v2, rfl, ⟨A2, n2, c2, rfl⟩, own2, b2⟩
    go_wp2
    go_ret2
    exact ⟨_, rfl, own_base own2 b1.size, below_step b1 b2⟩
end Go.Proofs.Ytfmfpknigafnoaa
