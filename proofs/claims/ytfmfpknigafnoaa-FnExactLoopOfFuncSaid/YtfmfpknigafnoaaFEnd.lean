/- Recursive functions, the program's side: funcEnd, isFunc, ValidFunc. -/
import Derived.Test.YtfmfpknigafnoaaFols
namespace Go.Proofs.Ytfmfpknigafnoaa
open Go.RowKit
set_option linter.all false

/-- Where the function at place k ends. -/
def FEnd (xs : List R3) (n k : Nat) (a z : Int) : Prop := (z = -1 ∧ fRun [a] (xs.drop k) = none) ∨ ∃ q : Nat, z = ((k + q : Nat) : Int) ∧ 0 < q ∧ k + q ≤ n ∧ fRun [a] (xs.drop k) = some (xs.drop (k + q))
def FEndOk (xs : List R3) (n k : Nat) (a : Int) (w : World) (e : Ending) (w' : World) : Prop := (∃ z : Int, e = .returned (.int .i64 z) ∧ FEnd xs n k a z) ∧ Below w.heap.size w w'
theorem fRun_step {xs : List R3} {n en q : Nat} {f : Int} {fs : List Int} {T : Option (List R3)} (hT : T = fRun (f :: fs) (xs.drop en)) (h : fRun [f] (xs.drop en) = some (xs.drop (en + q))) : T = fRun fs (xs.drop (en + q)) := by
  rw [hT, show f :: fs = [f] ++ fs from rfl, fRun_app, h]; rfl
theorem fRun_fail {xs : List R3} {en : Nat} {f : Int} {fs : List Int} {T : Option (List R3)} (hT : T = fRun (f :: fs) (xs.drop en)) (h : fRun [f] (xs.drop en) = none) : T = none := by
  rw [hT, show f :: fs = [f] ++ fs from rfl, fRun_app, h]; rfl
theorem FEnd.no {xs : List R3} {n k : Nat} {a : Int} (h : fRun [a] (xs.drop k) = none) : FEnd xs n k a (-1) := .inl ⟨rfl, h⟩
theorem fFols_le {x : R3} (h : fOkN x = true) : ∀ a ∈ fFols x, a ≤ 5 := by
  have := (fOkN_iff x).1 h
  intro a ha
  unfold fFols at ha
  split at ha
  · rcases List.mem_cons.1 ha with rfl | ha
    · omega
    · have := List.eq_of_mem_replicate ha; omega
  · split at ha
    · simp at ha; omega
    · split at ha
      · simp at ha; omega
      · simp at ha

set_option maxRecDepth 100000 in
set_option maxHeartbeats 1000000 in
theorem funcEnd_any (A : Option Addr) (n c : Nat) (xs : List R3) (hl : xs.length = n) (hn : n ≤ 1048576) (N : Nat) : ∀ (k : Nat) (kk a : Int) (w : World), kk = (k : Int) → n - k < N → k ≤ n → -1 ≤ a → a ≤ 5 → Args 3 w A n (rows R3.vs xs) →
    Calls Try.prog 174 #[.slice A n c, .int .i64 kk, .int .i64 a] w (FEndOk xs n k a w) := by
  have HL := Lib.hid hl; clear hl
  induction N with
  | zero => intro k kk a w _ hN; omega
  | succ N ih =>
  intro k kk a w hkk hN hk ha0 ha5 hA
  subst hkk
  have IH := Lib.hid ih; clear ih
  have hk0 : (0 : Int) ≤ (k : Int) := by omega
  by_cases hlt : k < n
  rotate_left
  · have hge : (n : Int) ≤ (k : Int) := by omega
    have HF : Hid (fRun [a] (xs.drop k) = none) := by unfold Hid; rw [List.drop_of_length_le (by have := HL.out; omega), fRun_none]
    go_enter Try.func174, Try.ntmps174
    go_wp2
    go_ret
    exact ⟨⟨_, rfl, FEnd.no HF.out⟩, Below.refl _ _⟩
  obtain ⟨b, off, rfl, hs⟩ := hA.sl hlt
  obtain ⟨x, HX⟩ := hget HL hlt
  obtain ⟨p0, p1, p2⟩ := hs.rec3 HX.out
  have HD : Hid (xs.drop k = x :: xs.drop (k + 1)) := drop_at HX.out
  have hlt' : (k : Int) < (n : Int) := by omega
  by_cases hbad : 0 ≤ a ∧ x.b ≠ a
  · have e1 : (x.b != a) = true := by simpa using hbad.2
    have ha : 0 ≤ a := hbad.1
    have HF : Hid (fRun [a] (xs.drop k) = none) := by unfold Hid; rw [HD.out, fRun_bad (fun h => by rcases h.1 with h1 | h1; omega; exact hbad.2 h1)]
    clear hbad
    go_enter Try.func174, Try.ntmps174
    go_wp2
    go_ret
    exact ⟨⟨_, rfl, FEnd.no HF.out⟩, Below.refl _ _⟩
  have hgood : a < 0 ∨ x.b = a := by
    by_cases h1 : a < 0
    · exact .inl h1
    · refine .inr ?_
      by_cases h2 : x.b = a
      · exact h2
      · exact absurd ⟨by omega, h2⟩ hbad
  clear hbad
  rcases Bool.eq_false_or_eq_true (fOkN x) with hok | hok
  rotate_left
  · have HF : Hid (fRun [a] (xs.drop k) = none) := by unfold Hid; rw [HD.out, fRun_bad (fun h => by rw [hok] at h; simp at h)]
    have HOK := Lib.hid hok
    clear hok
    rcases hgood with h1 | h1
    · go_enter Try.func174, Try.ntmps174
      go_wp2_with fail
      refine (validNode_is x false HOK.out _).mono ?_
      rintro e w1 ⟨rfl, b1⟩
      go_wp2
      go_ret
      exact ⟨⟨_, rfl, FEnd.no HF.out⟩, b1⟩
    · have e1 : (x.b != a) = false := by simpa using h1
      clear h1
      by_cases h2 : a < 0
      all_goals
        go_enter Try.func174, Try.ntmps174
        go_wp2_with fail
        refine (validNode_is x false HOK.out _).mono ?_
        rintro e w1 ⟨rfl, b1⟩
        go_wp2
        go_ret
        exact ⟨⟨_, rfl, FEnd.no HF.out⟩, b1⟩
  have HOK := Lib.hid hok
  have HR0 : Hid (fRun [a] (xs.drop k) = fRun (fFols x) (xs.drop (k + 1))) := by unfold Hid; rw [HD.out, fRun_cons ⟨hgood, hok⟩, List.append_nil]
  have hm5 := fMany_le hok
  have HP := Lib.hid (fFols_pos hok)
  have HLE := Lib.hid (fFols_le hok)
  have HFL := Lib.hid (fFols_len hok)
  obtain ⟨m, hm⟩ : ∃ m, m = fMany x := ⟨_, rfl⟩
  rw [← hm] at hm5 HFL
  have HM := Lib.hid hm
  clear hok hm
  have hway : a < 0 ∨ (0 ≤ a ∧ (x.b != a) = false) := by
    rcases hgood with h1 | h1
    · exact .inl h1
    · by_cases h2 : a < 0
      · exact .inl h2
      · exact .inr ⟨by omega, by simpa using h1⟩
  clear hgood
  rcases hway with h1 | ⟨h1, h2⟩
  all_goals
    go_enter Try.func174, Try.ntmps174
    go_wp2_with fail
    refine (validNode_is x true HOK.out _).mono ?_
    rintro e w1 ⟨rfl, b1⟩
    obtain ⟨r0, r1, r2⟩ := (hs.below' b1).rec3 HX.out
    go_wp2_with fail
    refine (followers_any x HOK.out _).mono ?_
    rintro e w2 ⟨⟨A2, c2, rfl, hA2⟩, b2⟩
    rw [← HM.out] at hA2 ⊢
    have B2 := below_step b1 b2
    have ha2 := arg_args hA2
    clear r0 r1 r2 b1 b2 hA2 p0 p1 p2
    go_wp2
    go_loopw [7, 47] (fun z i wr => ∃ j en : Nat, j ≤ m ∧ i = .int .i64 j ∧ z = .int .i64 en ∧ k + 1 ≤ en ∧ en ≤ n ∧ Below w2.heap.size w2 wr ∧ Hid (fRun [a] (xs.drop k) = fRun ((fFols x).drop j) (xs.drop en))) (fun _ i _ => m - (intOf i).toNat)
    case atStart => exact ⟨0, k + 1, Nat.zero_le _, rfl, by go_num, Nat.le_refl _, by omega, Below.refl _ _, HR0.out⟩
    case round =>
      obtain ⟨j, en, hj, rfl, rfl, hen1, hen2, hB, HR⟩ := hrel
      by_cases hjm : j < m
      · obtain ⟨f, HFJ⟩ := hget HFL hjm
        obtain ⟨g, off2, rfl, hsf⟩ := (ha2.below hB).sl hjm
        have hcell := hsf.at (j := j) (u := .int .i64 f) (by rw [List.getElem?_map, HFJ.out]; rfl)
        have HRJ : Hid (fRun [a] (xs.drop k) = fRun (f :: (fFols x).drop (j + 1)) (xs.drop en)) := by unfold Hid; rw [HR.out, drop_at HFJ.out]
        have hf0 := HP.out f (List.mem_of_getElem? HFJ.out)
        have hf5 := HLE.out f (List.mem_of_getElem? HFJ.out)
        have HAW := Lib.hid (hA.below (below_step B2 hB))
        go_wp2_with fail
        refine (IH.out en en f _ rfl (by omega) hen2 (by omega) hf5 HAW.out).mono ?_
        rintro e w3 ⟨⟨z, rfl, hz⟩, b3⟩
        have B3 := below_step hB b3
        clear hcell b3
        rcases hz with ⟨rfl, hno⟩ | ⟨q, rfl, hq, hqn, hyes⟩
        · have HN := Lib.hid (fRun_fail HRJ.out hno)
          clear hno
          go_wp2
          go_ret
          exact ⟨⟨_, rfl, FEnd.no HN.out⟩, below_step B2 B3⟩
        · have HY := Lib.hid (fRun_step (n := n) HRJ.out hyes)
          clear hyes
          have hnn : ¬ (((en + q : Nat) : Int) < 0) := by omega
          go_wp2
          go_roundw
          case rel => exact ⟨j + 1, en + q, by omega, by go_num, rfl, by omega, hqn, B3, HY⟩
          case measure => simp [intOf]; omega
      · have HE : Hid (fRun [a] (xs.drop k) = some (xs.drop en)) := by unfold Hid; rw [HR.out, List.drop_of_length_le (by have := HFL.out; omega), fRun_nil]
        go_wp2
        go_ret
        refine ⟨⟨_, rfl, .inr ⟨en - k, ?_, by omega, by omega, ?_⟩⟩, below_step B2 hB⟩
        · rw [Nat.add_sub_cancel' (by omega : k ≤ en)]
        · rw [Nat.add_sub_cancel' (by omega : k ≤ en)]; exact HE.out

theorem FEnd.at0 {xs : List R3} {n : Nat} {z : Int} (hl : xs.length = n) (h : FEnd xs n 0 (-1) z) : decide (z = (n : Int)) = decide (fRun [-1] xs = some []) := by
  rcases h with ⟨rfl, h⟩ | ⟨q, rfl, h1, h2, h⟩
  · rw [List.drop_zero] at h; rw [h]; simp <;> omega
  · rw [List.drop_zero, Nat.zero_add] at h
    rw [h, Nat.zero_add]
    have : xs.drop q = [] ↔ n ≤ q := by rw [List.drop_eq_nil_iff, hl]
    rw [decide_eq_decide]
    constructor
    · intro e; rw [Option.some.injEq, this]; omega
    · intro e; rw [Option.some.injEq, this] at e; omega

theorem isFunc_is (A : Option Addr) (n c : Nat) (xs : List R3) (v : Bool) (hv : decide (fRun [-1] xs = some []) = v) (w : World) (ha : Args 3 w A n (rows R3.vs xs)) (hn : n ≤ 1048576) :
    Calls Try.prog 138 #[.slice A n c] w fun e w' => e = .returned (.bool v) ∧ Below w.heap.size w w' := by
  have HL : Hid (xs.length = n) := by have := ha.1; rw [rows_len R3.vs_len] at this; unfold Hid; omega
  have HV := Lib.hid hv; clear hv
  have HFE := Lib.hid (funcEnd_any A n c xs HL.out hn (n + 1) 0 0 (-1) w rfl (by omega) (Nat.zero_le _) (by omega) (by omega) ha)
  go_enter Try.func138, Try.ntmps138
  go_wp2_with fail
  refine HFE.out.mono ?_
  rintro e w1 ⟨⟨z, rfl, hz⟩, b1⟩
  have e1 : (z == (n : Int)) = v := by rw [← HV.out, ← FEnd.at0 HL.out hz]; rfl
  clear hz
  go_wp2
  go_ret
  exact ⟨rfl, b1⟩

theorem validFunc_is (A : Option Addr) (n c : Nat) (xs : List R3) (v : Bool) (hv : validF xs = v) (w : World) (ha : Args 3 w A n (rows R3.vs xs)) (hn : n ≤ 1048576) :
    Calls Try.prog 91 #[.slice A n c] w fun e w' => e = .returned (.bool v) ∧ Below w.heap.size w w' := by
  have HL : Hid (xs.length = n) := by have := ha.1; rw [rows_len R3.vs_len] at this; unfold Hid; omega
  rcases Bool.eq_false_or_eq_true (inB n 1 60) with h | h
  rotate_left
  · have HV : Hid (v = false) := by unfold Hid; rw [← hv, validF, HL.out, h]; rfl
    have H1 := Lib.hid h; clear h hv
    go_enter Try.func91, Try.ntmps91
    go_wp2_with fail
    refine (sizeOf_Func_any _ _ _ _).mono ?_
    rintro e w1 ⟨rfl, rfl⟩
    go_wp2_with fail
    refine (within_is _ _ _ false H1.out _).mono ?_
    rintro e w1 ⟨rfl, rfl⟩
    go_wp2
    go_ret
    exact ⟨ret_bool HV.out.symm, Below.refl _ _⟩
  have HV : Hid (decide (fRun [-1] xs = some []) = v) := by unfold Hid; rw [← hv, validF, HL.out, h]; rfl
  have H1 := Lib.hid h; clear h hv
  go_enter Try.func91, Try.ntmps91
  go_wp2_with fail
  refine (sizeOf_Func_any _ _ _ _).mono ?_
  rintro e w1 ⟨rfl, rfl⟩
  go_wp2_with fail
  refine (within_is _ _ _ true H1.out _).mono ?_
  rintro e w1 ⟨rfl, rfl⟩
  go_wp2_with fail
  refine (isFunc_is A n c xs v HV.out _ ha hn).mono ?_
  rintro e w1 ⟨rfl, b1⟩
  go_wp2
  go_ret
  exact ⟨rfl, b1⟩
end Go.Proofs.Ytfmfpknigafnoaa
