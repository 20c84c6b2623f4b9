/- Recursive functions, the reference's side: l11Whole, l11Is. -/
import Derived.Test.YtfmfpknigafnoaaFSpec2
namespace Go.Proofs.Ytfmfpknigafnoaa
open Go.RowKit
set_option linter.all false

theorem fit_suffix {α : Type} {fol : α → Nat} : ∀ {l : List α} {op k : Nat}, fit fol op l = true → k ≤ l.length → ∃ op', fit fol op' (l.drop k) = true
  | l, op, 0, h, _ => ⟨op, by simpa using h⟩
  | [], op, k + 1, h, hk => by simp at hk
  | x :: l, 0, k + 1, h, _ => by rw [fit_0c] at h; cases h
  | x :: l, op + 1, k + 1, h, hk => by rw [fit_sc] at h; rw [List.drop_succ_cons]; exact fit_suffix h (by simpa using hk)
theorem fit_next {α : Type} {fol : α → Nat} {l : List α} {op k : Nat} {x : α} (h : fit fol op l = true) (hx : l[k]? = some x) : ∃ b, fit fol (fol x + b) (l.drop (k + 1)) = true := by
  obtain ⟨op', h1⟩ := fit_suffix h (Nat.le_of_lt (List.getElem?_eq_some_iff.1 hx).1)
  rw [drop_at hx] at h1
  cases op' with
  | zero => rw [fit_0c] at h1; cases h1
  | succ op' => rw [fit_sc] at h1; exact ⟨op', by rw [Nat.add_comm]; exact h1⟩
theorem end_flat {xs : List R3} {n : Nat} (hl : xs.length = n) (h1 : fit fMany 1 xs = true) (h2 : xs.all fOkN = true) {en : Int} {ok : Bool} (h : EndOk xs 0 en ok) : ok = true ∧ en = n := by
  have hp : tPosAt fMany 1 0 xs = (n : Int) := by have := fit_iff fMany xs 1 0; rw [h1, decide_eq_true_iff] at this; rw [this, hl, Nat.zero_add]
  unfold EndOk at h
  rw [List.drop_zero] at h
  rcases h with ⟨rfl, q, rfl, hq, _⟩ | ⟨rfl, hno⟩
  · exact ⟨rfl, by rw [hp] at hq; exact hq.symm⟩
  · have := hno n (by rw [hp, Nat.zero_add])
    rw [List.take_of_length_le (by rw [hl]; exact Nat.le_refl _), h2] at this; cases this
theorem end_not {xs : List R3} {n : Nat} (hl : xs.length = n) (h0 : ¬ (fit fMany 1 xs = true ∧ xs.all fOkN = true)) {en : Int} (h : EndOk xs 0 en true) : en ≠ n := by
  rintro rfl
  unfold EndOk at h
  rw [List.drop_zero] at h
  rcases h with ⟨_, q, e, hq, ha⟩ | ⟨h, _⟩
  · rw [Nat.zero_add] at e hq
    have : q = n := by omega
    subst this
    refine h0 ⟨?_, ?_⟩
    · rw [← fit_iff fMany xs 1 0, decide_eq_true_iff, hq, hl, Nat.zero_add]
    · rw [List.take_of_length_le (by rw [hl]; exact Nat.le_refl _)] at ha; exact ha
  · cases h

set_option maxRecDepth 100000 in
set_option maxHeartbeats 1000000 in
theorem l11Whole_is (A : Option Addr) (n c : Nat) (xs : List R3) (v : Bool) (hv : validF xs = v) (w : World) (ha : Args 3 w A n (rows R3.vs xs)) (hn : n ≤ 60) :
    Calls Try.prog 133 #[.slice A n c] w fun e w' => e = .returned (.bool v) ∧ Below w.heap.size w w' := by
  have HL : Hid (xs.length = n) := by have := ha.1; rw [rows_len R3.vs_len] at this; unfold Hid; omega
  by_cases hn0 : n = 0
  · have HV : Hid (false = v) := by
      unfold Hid; rw [← hv]; symm; rw [Bool.eq_false_iff]; intro h
      have := (validF_iff xs).1 h
      have := fit_ne fMany xs 0 this.2.1
      have := HL.out
      omega
    have e0 : ((n : Int) == 0) = true := by simp [hn0]
    clear hv hn0
    go_enter Try.func133, Try.ntmps133
    go_wp2
    go_ret
    exact ⟨ret_bool HV.out, Below.refl _ _⟩
  have e0 : ((n : Int) == 0) = false := by simp; omega
  have HE := Lib.hid (l11End_any A n c 0 0 rfl xs w ha (by omega) (Nat.zero_le _))
  by_cases hflat : fit fMany 1 xs = true ∧ xs.all fOkN = true
  rotate_left
  · have HV : Hid (false = v) := by
      unfold Hid; rw [← hv]; symm; rw [Bool.eq_false_iff]; intro h
      have := (validF_iff xs).1 h
      exact hflat ⟨this.2.1, this.2.2.1⟩
    have HFL := Lib.hid hflat
    clear hv hflat hn0
    go_enter Try.func133, Try.ntmps133
    go_wp2_with fail
    refine HE.out.mono ?_
    rintro e w1 ⟨⟨en, ok, rfl, hen⟩, b1⟩
    cases ok with
    | false =>
      clear hen
      go_wp2
      go_ret
      exact ⟨ret_bool HV.out, b1⟩
    | true =>
      have e1 : (en != (n : Int)) = true := by simpa using end_not HL.out HFL.out hen
      clear hen
      go_wp2
      go_ret
      exact ⟨ret_bool HV.out, b1⟩
  have HFIT := Lib.hid hflat.1
  have HOK := Lib.hid hflat.2
  have HVI := Lib.hid (validF_iff xs)
  have HV := Lib.hid hv
  clear hv hflat
  go_enter Try.func133, Try.ntmps133
  go_wp2_with fail
  refine HE.out.mono ?_
  rintro e w1 ⟨⟨en, ok, rfl, hen⟩, b1⟩
  obtain ⟨rfl, rfl⟩ := end_flat HL.out HFIT.out HOK.out hen
  have e1 : ((n : Int) != (n : Int)) = false := by simp
  clear hen
  go_wp2
  go_loopw [5] (fun i wr => ∃ k : Nat, k ≤ n ∧ i = .int .i64 k ∧ Below w.heap.size w wr ∧ Hid (∀ j, j < k → fFit xs j = true)) (fun i _ => n - (intOf i).toNat)
  case atStart => exact ⟨0, Nat.zero_le _, rfl, b1, by intro j hj; omega⟩
  case round =>
    obtain ⟨k, hk, rfl, hB, HA⟩ := hrel
    by_cases hlt : k < n
    · obtain ⟨b, off, rfl, hs⟩ := ha.sl hlt
      obtain ⟨x, HX⟩ := hget HL hlt
      obtain ⟨bb, hbb⟩ := fit_next HFIT.out HX.out
      have HBB := Lib.hid hbb
      clear hbb
      rcases Bool.eq_false_or_eq_true (fFit xs k) with hf | hf
      · have HA2 : Hid (∀ j, j < k + 1 → fFit xs j = true) := by
          intro j hj
          by_cases ej : j = k
          · subst ej; exact hf
          · exact HA.out j (by omega)
        have HF := Lib.hid hf
        clear hf
        go_wp2_with fail
        refine (l11Fits_is b off n c k xs x HX.out true HF.out HOK.out bb HBB.out _ (hs.below' hB) HL.out (by omega)).mono ?_
        rintro e w2 ⟨rfl, b2⟩
        go_wp2
        go_roundw
        case rel => exact ⟨k + 1, by omega, by go_num, below_step hB b2, HA2⟩
        case measure => simp [intOf]; omega
      · have HVF : Hid (false = v) := by
          unfold Hid; rw [← HV.out]; symm; rw [Bool.eq_false_iff]; intro h
          have := (HVI.out.1 h).2.2.2 k (by have := HL.out; omega)
          rw [hf] at this; cases this
        have HF := Lib.hid hf
        clear hf
        go_wp2_with fail
        refine (l11Fits_is b off n c k xs x HX.out false HF.out HOK.out bb HBB.out _ (hs.below' hB) HL.out (by omega)).mono ?_
        rintro e w2 ⟨rfl, b2⟩
        go_wp2
        go_ret
        exact ⟨ret_bool HVF.out, below_step hB b2⟩
    · have HVT : Hid (true = v) := by
        unfold Hid; rw [← HV.out]; symm
        have := HL.out
        exact HVI.out.2 ⟨by omega, HFIT.out, HOK.out, fun j hj => HA.out j (by omega)⟩
      go_wp2
      go_ret
      exact ⟨ret_bool HVT.out, hB⟩

theorem l11Is_is (A : Option Addr) (n c : Nat) (xs : List R3) (v : Bool) (hv : validF xs = v) (w : World) (ha : Args 3 w A n (rows R3.vs xs)) (hn : n ≤ 1048576) :
    Calls Try.prog 89 #[.slice A n c] w fun e w' => e = .returned (.bool v) ∧ Below w.heap.size w w' := by
  have HL : Hid (xs.length = n) := by have := ha.1; rw [rows_len R3.vs_len] at this; unfold Hid; omega
  by_cases h60 : n ≤ 60
  rotate_left
  · have HV : Hid (false = v) := by
      unfold Hid; rw [← hv]; symm; rw [Bool.eq_false_iff]; intro h
      have := (validF_iff xs).1 h
      have := HL.out
      omega
    clear hv
    go_enter Try.func89, Try.ntmps89
    go_wp2
    go_ret
    exact ⟨ret_bool HV.out, Below.refl _ _⟩
  have HV := Lib.hid hv
  clear hv
  go_enter Try.func89, Try.ntmps89
  go_wp2_with fail
  refine (l11Whole_is A n c xs v HV.out _ ha h60).mono ?_
  rintro e w1 ⟨rfl, b1⟩
  go_wp2
  go_ret
  exact ⟨rfl, b1⟩
end Go.Proofs.Ytfmfpknigafnoaa
