/- The variables of a combinator term: combVariables, CombVariables and the reference's l18Names, CombVariables. -/
import Derived.Test.YtfmfpknigafnoaaCombs
import Derived.Test.YtfmfpknigafnoaaPut
namespace Go.Proofs.Ytfmfpknigafnoaa
open Go.RowKit
set_option linter.all false

/-- The variables, in order. -/
def varsC : List R2 → List Int
  | [] => []
  | x :: l => (if x.a = 4 then [x.b] else []) ++ varsC l
theorem varsC_app (xs ys : List R2) : varsC (xs ++ ys) = varsC xs ++ varsC ys := by
  induction xs with
  | nil => rfl
  | cons x l ih => simp [varsC, ih]
theorem varsC_len (xs : List R2) : (varsC xs).length ≤ xs.length := by
  induction xs with
  | nil => simp [varsC]
  | cons x l ih => rw [varsC]; split <;> simp <;> omega
theorem varsC_step {xs : List R2} {k : Nat} {x : R2} (h : xs[k]? = some x) : varsC (xs.take (k + 1)) = varsC (xs.take k) ++ (if x.a = 4 then [x.b] else []) := by
  rw [List.take_add_one, h, varsC_app]; simp [varsC]
theorem validC_len {xs : List R2} (h : validC xs = true) : 1 ≤ xs.length ∧ xs.length ≤ 400 := by
  unfold validC at h
  have := (inB_iff _ _ _).1 (Bool.and_eq_true _ _ ▸ h).1
  omega

set_option maxRecDepth 100000 in
set_option maxHeartbeats 2000000 in
theorem l18Names_any (A : Option Addr) (n c : Nat) (xs : List R2) (w : World) (ha : Args 2 w A n (rows R2.vs xs)) (hn : n ≤ 1048575) :
    Calls Try.prog 182 #[.slice A n c] w fun e w' => ∃ v, e = .returned v ∧ w'.ownsRow w.heap.size 2 1 v (sortU (varsC xs)).length ((sortU (varsC xs)).map (Value.int .i64)) ∧ Below w.heap.size w w' := by
  have HL : Hid (xs.length = n) := by have := ha.1; rw [rows_len R2.vs_len] at this; unfold Hid; omega
  have hown0 : (w.alloc (.cells #[] 2)).ownsRow w.heap.size 2 1 (.slice (some ⟨w.heap.size, 0, none⟩) 0 0) 0 [] := own_empty w 2 1
  have hb0 := laid_below w (.cells #[] 2)
  go_enter Try.func182, Try.ntmps182
  go_wp2
  go_loopw [3, 4] (fun v i wr => ∃ (k m : Nat) (acc : List Int), k ≤ n ∧ m ≤ k ∧ i = .int .i64 k ∧ Below w.heap.size w wr ∧ wr.ownsRow w.heap.size 2 1 v m (acc.map (Value.int .i64)) ∧ Hid (acc.length = m) ∧ Hid (acc = puts [] (varsC (xs.take k)))) (fun _ i _ => n - (intOf i).toNat)
  case atStart => exact ⟨0, 0, [], Nat.zero_le _, by omega, rfl, hb0, hown0, rfl, rfl⟩
  case round =>
    obtain ⟨k, m, acc, hk, hm, rfl, hB, hown, HN, HE⟩ := hrel
    clear hb0 hown0
    obtain ⟨Av, cv, rfl⟩ := own_form hown
    by_cases hlt : k < n
    · obtain ⟨b, off, rfl, hs⟩ := ha.sl hlt
      obtain ⟨x, HX⟩ := hget HL hlt
      obtain ⟨p0, p1⟩ := (hs.below' hB).rec2 HX.out
      have hst := varsC_step HX.out
      by_cases h4 : x.a = 4
      · have e4 : (x.a == 4) = true := by simpa using h4
        rw [if_pos h4] at hst
        have HS : Hid (put x.b acc = puts [] (varsC (xs.take (k + 1)))) := by unfold Hid; rw [hst, puts_app, ← HE.out]; rfl
        have hln := put_len x.b acc
        rw [HN.out] at hln
        clear h4 hst
        go_wp2_with fail
        refine (l00Put_any x.b _ m cv acc _ (arg_of_own hown) (by omega)).mono ?_
        rintro e w2 ⟨v2, rfl, hown2, hb2⟩
        have hB2 := below_step hB hb2
        have hown2' := own_base hown2 hB.size
        clear p0 p1 hown hown2 hb2
        go_wp2
        go_roundw
        case rel => exact ⟨k + 1, _, put x.b acc, by omega, by omega, by go_num, hB2, hown2', rfl, HS⟩
        case measure => simp [intOf]; omega
      · have e4 : (x.a == 4) = false := by simpa using h4
        rw [if_neg h4, List.append_nil] at hst
        have HS : Hid (acc = puts [] (varsC (xs.take (k + 1)))) := by unfold Hid; rw [hst, ← HE.out]
        clear h4 hst
        go_wp2
        go_roundw
        case rel => exact ⟨k + 1, m, acc, by omega, by omega, by go_num, hB, hown, HN, HS⟩
        case measure => simp [intOf]; omega
    · have HE2 : Hid (sortU (varsC xs) = acc) := by have := HE.out; unfold Hid; rw [this, List.take_of_length_le (by have := HL.out; omega), puts_eq]
      go_wp2
      go_ret
      exact ⟨_, rfl, by rw [HE2.out, HN.out]; exact hown, hB⟩

def combVars (xs : List R2) : List Int × Int := if validC xs then (sortU (varsC xs), 0) else ([], 1)
theorem bndCombVariables0 (xs : List R2) (h : xs.length ≤ 1048576) : (combVars xs).1.length ≤ 1048576 := by
  unfold combVars
  split
  · have h1 := sortU_len (varsC xs)
    have h2 := varsC_len xs
    show (sortU (varsC xs)).length ≤ _
    omega
  · simp
