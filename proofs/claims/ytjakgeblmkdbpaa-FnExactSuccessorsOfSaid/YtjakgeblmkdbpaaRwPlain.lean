/- Rewriting rules and Markov rules in plain words: when they are valid, what a step answers. Plain definitions and lemmas, no conditions. -/
import Derived.Test.YtjakgeblmkdbpaaReplaceFirst
import Derived.Test.YtjakgeblmkdbpaaHelpRewrite
import Derived.Test.YtjakgeblmkdbpaaHelpMarkovRule
namespace Go.Proofs.Ytjakgeblmkdbpaa
open Go.RowKit
set_option linter.all false

def okRw (r : DRewrite) : Bool := isWordB r.f0 && (isWordB r.f1 && !decide (r.f0.length = 0))
def validRws (xs : List DRewrite) : Bool := inB (xs.length : Int) 1 60 && xs.all okRw
/-- A step with a rule at a place. -/
def stepRw (r : DRewrite) (w : List Int) (k : Nat) : List Int × Int := if startsB w k r.f0 then fitL (putL w k r.f0.length r.f1) else ([], 3)
theorem stepRw_no {r : DRewrite} {w : List Int} {k : Nat} (h : startsB w k r.f0 = false) : stepRw r w k = ([], 3) := by unfold stepRw; rw [h]; rfl
theorem stepRw_yes {r : DRewrite} {w : List Int} {k : Nat} (h : startsB w k r.f0 = true) : stepRw r w k = fitL (putL w k r.f0.length r.f1) := by unfold stepRw; rw [h]; rfl
def applyIn (xs : List DRewrite) (w : List Int) (rule at' : Int) : Bool := inB rule 0 ((xs.length : Int) - 1) && inB at' 0 w.length
def applyAt (xs : List DRewrite) (w : List Int) (rule at' : Int) : List Int × Int :=
  if applyIn xs w rule at' then
    match xs[rule.toNat]? with
    | some r => stepRw r w at'.toNat
    | none => ([], 2)
  else ([], 2)
theorem applyAt_out {xs : List DRewrite} {w : List Int} {rule at' : Int} (h : applyIn xs w rule at' = false) : applyAt xs w rule at' = ([], 2) := by unfold applyAt; rw [h]; rfl
theorem applyAt_in {xs : List DRewrite} {w : List Int} {i k : Nat} {r : DRewrite} (hr : xs[i]? = some r) (hk : k ≤ w.length) : applyAt xs w i k = stepRw r w k := by
  have hi := (List.getElem?_eq_some_iff.1 hr).1
  have h : applyIn xs w i k = true := by unfold applyIn; rw [Bool.and_eq_true, inB_iff, inB_iff]; omega
  unfold applyAt; rw [h, if_pos rfl, Int.toNat_natCast, hr, Int.toNat_natCast]
def applyRewrite (xs : List DRewrite) (w : List Int) (rule at' : Int) : List Int × Int :=
  if validRws xs && isWordB w then applyAt xs w rule at' else ([], 1)
theorem stepRw_len (r : DRewrite) (w : List Int) (k : Nat) : (stepRw r w k).1.length ≤ 400 := by
  unfold stepRw fitL; split
  · split
    · assumption
    · simp
  · simp
theorem applyAt_len (xs : List DRewrite) (w : List Int) (rule at' : Int) : (applyAt xs w rule at').1.length ≤ 400 := by
  unfold applyAt; split
  · split
    · exact stepRw_len _ _ _
    · simp
  · simp
theorem bndApplyRewrite0 (xs : List DRewrite) (w : List Int) (rule at' : Int) (h0 : xs.length ≤ 1048576) (h1 : sumRewrite xs ≤ 1048576) (h2 : w.length ≤ 1048576) : (applyRewrite xs w rule at').1.length ≤ 1048576 := by
  unfold applyRewrite; split
  · have := applyAt_len xs w rule at'; omega
  · simp
theorem okRw_at {xs : List DRewrite} (h : validRws xs = true) {r : DRewrite} (hr : r ∈ xs) : okRw r = true := by
  unfold validRws at h; rw [Bool.and_eq_true] at h; exact List.all_eq_true.1 h.2 r hr
theorem okRw_parts {r : DRewrite} (h : okRw r = true) : isWordB r.f0 = true ∧ isWordB r.f1 = true ∧ r.f0.length ≠ 0 := by
  unfold okRw at h; simp only [Bool.and_eq_true, Bool.not_eq_true', decide_eq_false_iff_not] at h; exact ⟨h.1, h.2.1, h.2.2⟩
theorem validRws_len {xs : List DRewrite} (h : validRws xs = true) : 1 ≤ xs.length ∧ xs.length ≤ 60 := by
  unfold validRws at h; rw [Bool.and_eq_true, inB_iff] at h; omega
theorem word_put {w y : List Int} {k m : Nat} (hw : isWordB w = true) (hy : isWordB y = true) (hl : (putL w k m y).length ≤ 400) : isWordB (putL w k m y) = true := by
  unfold isWordB at *
  rw [Bool.and_eq_true] at *
  refine ⟨by simpa using hl, ?_⟩
  rw [List.all_eq_true]
  have h1 := List.all_eq_true.1 hw.2
  have h2 := List.all_eq_true.1 hy.2
  intro x hx
  unfold putL at hx
  rcases List.mem_append.1 hx with hx | hx
  · rcases List.mem_append.1 hx with hx | hx
    · exact h1 x (List.mem_of_mem_take hx)
    · exact h2 x hx
  · exact h1 x (List.mem_of_mem_drop hx)
theorem stepRw_word {r : DRewrite} {w : List Int} {k : Nat} (hw : isWordB w = true) (hy : isWordB r.f1 = true) (h0 : (stepRw r w k).2 = 0) : isWordB (stepRw r w k).1 = true := by
  unfold stepRw at *
  split at h0
  · rename_i hs
    rw [if_pos hs]
    unfold fitL at *
    split at h0
    · rename_i hl
      rw [if_pos hl]
      exact word_put hw hy hl
    · cases h0
  · cases h0
theorem applyAt_word {xs : List DRewrite} {w : List Int} {rule at' : Int} (hv : validRws xs = true) (hw : isWordB w = true) (h0 : (applyAt xs w rule at').2 = 0) : isWordB (applyAt xs w rule at').1 = true := by
  unfold applyAt at *
  split at h0
  · rename_i hin
    rw [if_pos hin]
    cases hx : xs[rule.toNat]? with
    | none => rw [hx] at h0; cases h0
    | some r =>
      rw [hx] at h0
      exact stepRw_word hw (okRw_parts (okRw_at hv (List.mem_of_getElem? hx))).2.1 h0
  · cases h0

/-- The steps of a derivation. -/
def deriveGo (xs : List DRewrite) : List (List Int) → List Int → List Int × Int
  | [], w => (w, 0)
  | s :: l, w =>
    if s.length = 2 then
      if (applyAt xs w (s.getD 0 0) (s.getD 1 0)).2 = 0 then deriveGo xs l (applyAt xs w (s.getD 0 0) (s.getD 1 0)).1 else ([], 7)
    else ([], 7)
def checkDer (xs : List DRewrite) (w : List Int) (steps : List (List Int)) : List Int × Int :=
  if validRws xs && isWordB w then
    if steps.length ≤ 100 then deriveGo xs steps w else ([], 2)
  else ([], 1)
theorem deriveGo_len {xs : List DRewrite} {steps : List (List Int)} : ∀ {w : List Int}, w.length ≤ 400 → (deriveGo xs steps w).1.length ≤ 400 := by
  induction steps with
  | nil => intro w h; exact h
  | cons s l ih =>
    intro w h
    unfold deriveGo
    split
    · split
      · exact ih (applyAt_len _ _ _ _)
      · simp
    · simp
theorem bndCheckDerivation0 (xs : List DRewrite) (w : List Int) (steps : List (List Int)) (h0 : xs.length ≤ 1048576) (h1 : sumRewrite xs ≤ 1048576) (h2 : w.length ≤ 1048576) (h3 : steps.length ≤ 1048576) (h4 : sumLen steps ≤ 1048576) : (checkDer xs w steps).1.length ≤ 1048576 := by
  unfold checkDer; split
  · rename_i hv
    rw [Bool.and_eq_true] at hv
    split
    · have := deriveGo_len (xs := xs) (steps := steps) (isWord_len hv.2); omega
    · simp
  · simp

def okMk (r : DMarkovRule) : Bool := isWordB r.f0 && isWordB r.f1
def validMks (xs : List DMarkovRule) : Bool := inB (xs.length : Int) 1 60 && xs.all okMk
/-- Where a rule occurs first. -/
def findMk (r : DMarkovRule) (w : List Int) : Int := firstI (occL w r.f0)
theorem findMk_yes {r : DMarkovRule} {w : List Int} {k : Nat} (hk : k ≤ w.length) (h : startsB w k r.f0 = true) (hj : ∀ j, j < k → startsB w j r.f0 = false) : findMk r w = k := by
  unfold findMk firstI occL; rw [occ_head_some (by omega) h hj]
theorem findMk_no {r : DMarkovRule} {w : List Int} (hj : ∀ j, j < w.length + 1 → startsB w j r.f0 = false) : findMk r w = -1 := by
  unfold findMk firstI occL; rw [occ_head_none hj]
theorem findMk_cases (r : DMarkovRule) (w : List Int) : findMk r w = -1 ∨ ∃ k : Nat, findMk r w = k ∧ k ≤ w.length ∧ startsB w k r.f0 = true := by
  unfold findMk firstI
  cases h : (occL w r.f0).head? with
  | none => exact .inl rfl
  | some k =>
    refine .inr ⟨k, rfl, ?_⟩
    have hm : k ∈ occL w r.f0 := List.mem_of_mem_head? (by rw [h]; rfl)
    unfold occL occTo at hm
    rw [List.mem_filter, List.mem_range] at hm
    exact ⟨by omega, by simpa using hm.2⟩
/-- The first rule from number k on that occurs, and where; the number -1 where there is none. -/
def ruleMk (w : List Int) : Nat → List DMarkovRule → Int × Nat
  | _, [] => (-1, 0)
  | k, r :: l => if 0 ≤ findMk r w then ((k : Int), (findMk r w).toNat) else ruleMk w (k + 1) l
theorem ruleMk_found {w : List Int} {xs : List DMarkovRule} : ∀ {k i : Nat} {r : DMarkovRule} {a : Nat}, (∀ (j : Nat) r', j < i → xs[j]? = some r' → findMk r' w = -1) → xs[i]? = some r → findMk r w = a → ruleMk w k xs = (((k + i : Nat) : Int), a) := by
  induction xs with
  | nil => intro k i r a _ h; simp at h
  | cons x l ih =>
    intro k i r a hj hi ha
    unfold ruleMk
    cases i with
    | zero =>
      simp only [List.getElem?_cons_zero, Option.some.injEq] at hi
      subst hi
      rw [ha, if_pos (by omega), Nat.add_zero, Int.toNat_natCast]
    | succ i =>
      have h0 := hj 0 x (by omega) rfl
      rw [h0, if_neg (by omega)]
      rw [ih (k := k + 1) (i := i) (fun j r' hj' hr' => hj (j + 1) r' (by omega) (by simpa using hr')) (by simpa using hi) ha]
      rw [show k + 1 + i = k + (i + 1) by omega]
theorem ruleMk_none {w : List Int} {xs : List DMarkovRule} : ∀ {k : Nat}, (∀ (j : Nat) r', xs[j]? = some r' → findMk r' w = -1) → ruleMk w k xs = (-1, 0) := by
  induction xs with
  | nil => intro k _; rfl
  | cons x l ih =>
    intro k hj
    unfold ruleMk
    rw [hj 0 x rfl, if_neg (by omega)]
    exact ih fun j r' hr' => hj (j + 1) r' (by simpa using hr')
theorem ruleMk_casesK (w : List Int) (xs : List DMarkovRule) : ∀ k : Nat, (ruleMk w k xs = (-1, 0) ∧ ∀ (j : Nat) r', xs[j]? = some r' → findMk r' w = -1) ∨ ∃ (i a : Nat) (r : DMarkovRule), xs[i]? = some r ∧ findMk r w = a ∧ ruleMk w k xs = (((k + i : Nat) : Int), a) ∧ (∀ (j : Nat) r', j < i → xs[j]? = some r' → findMk r' w = -1) := by
  induction xs with
  | nil => intro k; exact .inl ⟨rfl, by intro j r' h; simp at h⟩
  | cons x l ih =>
    intro k
    unfold ruleMk
    rcases findMk_cases x w with h | ⟨a, ha, _⟩
    · rw [h, if_neg (by omega)]
      rcases ih (k + 1) with ⟨h1, h2⟩ | ⟨i, a, r, hr, ha, hk, hl⟩
      · refine .inl ⟨h1, fun j r' hj => ?_⟩
        cases j with
        | zero => simp only [List.getElem?_cons_zero, Option.some.injEq] at hj; subst hj; exact h
        | succ j => exact h2 j r' (by simpa using hj)
      · refine .inr ⟨i + 1, a, r, by simpa using hr, ha, ?_, fun j r' hj hr' => ?_⟩
        · rw [hk, show k + 1 + i = k + (i + 1) by omega]
        · cases j with
          | zero => simp only [List.getElem?_cons_zero, Option.some.injEq] at hr'; subst hr'; exact h
          | succ j => exact hl j r' (by omega) (by simpa using hr')
    · rw [ha, if_pos (by omega), Int.toNat_natCast]
      exact .inr ⟨0, a, x, rfl, ha, by rw [Nat.add_zero], by intro j r' hj; omega⟩
theorem ruleMk_cases (w : List Int) (xs : List DMarkovRule) : (ruleMk w 0 xs = (-1, 0) ∧ ∀ (j : Nat) r', xs[j]? = some r' → findMk r' w = -1) ∨ ∃ (i a : Nat) (r : DMarkovRule), xs[i]? = some r ∧ findMk r w = a ∧ ruleMk w 0 xs = ((i : Int), a) ∧ (∀ (j : Nat) r', j < i → xs[j]? = some r' → findMk r' w = -1) := by
  have := ruleMk_casesK w xs 0
  simp only [Nat.zero_add] at this
  exact this
/-- A step: the word, the rule, a code. -/
def stepMk (xs : List DMarkovRule) (w : List Int) : List Int × Int × Int :=
  match xs[(ruleMk w 0 xs).1.toNat]? with
  | some r =>
    if (ruleMk w 0 xs).1 < 0 then ([], 0, 6)
    else if (putL w (ruleMk w 0 xs).2 r.f0.length r.f1).length ≤ 400 then (putL w (ruleMk w 0 xs).2 r.f0.length r.f1, (ruleMk w 0 xs).1, 0) else ([], 0, 5)
  | none => ([], 0, 6)
theorem stepMk_none {xs : List DMarkovRule} {w : List Int} {a : Nat} (h : ruleMk w 0 xs = (-1, a)) : stepMk xs w = ([], 0, 6) := by
  unfold stepMk
  rw [h]
  split
  · rw [if_pos (by omega)]
  · rfl
theorem stepMk_fits {xs : List DMarkovRule} {w : List Int} {i a : Nat} {r : DMarkovRule} (hr : xs[i]? = some r) (h : ruleMk w 0 xs = ((i : Int), a)) (hl : (putL w a r.f0.length r.f1).length ≤ 400) : stepMk xs w = (putL w a r.f0.length r.f1, (i : Int), 0) := by
  unfold stepMk
  rw [h]
  simp only [Int.toNat_natCast, hr]
  rw [if_neg (by omega), if_pos hl]
theorem stepMk_full {xs : List DMarkovRule} {w : List Int} {i a : Nat} {r : DMarkovRule} (hr : xs[i]? = some r) (h : ruleMk w 0 xs = ((i : Int), a)) (hl : 400 < (putL w a r.f0.length r.f1).length) : stepMk xs w = ([], 0, 5) := by
  unfold stepMk
  rw [h]
  simp only [Int.toNat_natCast, hr]
  rw [if_neg (by omega), if_neg (by omega)]
theorem stepMk_len (xs : List DMarkovRule) (w : List Int) : (stepMk xs w).1.length ≤ 400 := by
  unfold stepMk
  split
  · split
    · simp
    · split
      · assumption
      · simp
  · simp
def stepMarkov (xs : List DMarkovRule) (w : List Int) : List Int × Int × Int :=
  if validMks xs && isWordB w then stepMk xs w else ([], 0, 1)
theorem bndStepMarkov0 (xs : List DMarkovRule) (w : List Int) (h0 : xs.length ≤ 1048576) (h1 : sumMarkovRule xs ≤ 1048576) (h2 : w.length ≤ 1048576) : (stepMarkov xs w).1.length ≤ 1048576 := by
  unfold stepMarkov; split
  · have := stepMk_len xs w; omega
  · simp
theorem okMk_at {xs : List DMarkovRule} (h : validMks xs = true) {r : DMarkovRule} (hr : r ∈ xs) : okMk r = true := by
  unfold validMks at h; rw [Bool.and_eq_true] at h; exact List.all_eq_true.1 h.2 r hr
theorem okMk_parts {r : DMarkovRule} (h : okMk r = true) : isWordB r.f0 = true ∧ isWordB r.f1 = true := by
  unfold okMk at h; simpa using h
theorem validMks_len {xs : List DMarkovRule} (h : validMks xs = true) : 1 ≤ xs.length ∧ xs.length ≤ 60 := by
  unfold validMks at h; rw [Bool.and_eq_true, inB_iff] at h; omega
/-- A run: the word, the number of steps, whether it halts, a code. f steps may still be made, n have been made. -/
def runMk (xs : List DMarkovRule) : Nat → Nat → List Int → List Int × Int × Bool × Int
  | f, n, w =>
    match xs[(ruleMk w 0 xs).1.toNat]? with
    | none => (w, (n : Int), true, 0)
    | some r =>
      if (ruleMk w 0 xs).1 < 0 then (w, (n : Int), true, 0)
      else match f with
        | 0 => (w, (n : Int), false, 0)
        | f + 1 =>
          if (putL w (ruleMk w 0 xs).2 r.f0.length r.f1).length ≤ 400 then
            if r.f2 then (putL w (ruleMk w 0 xs).2 r.f0.length r.f1, ((n + 1 : Nat) : Int), true, 0)
            else runMk xs f (n + 1) (putL w (ruleMk w 0 xs).2 r.f0.length r.f1)
          else ([], 0, false, 5)
theorem runMk_none {xs : List DMarkovRule} {w : List Int} {f n a : Nat} (h : ruleMk w 0 xs = (-1, a)) : runMk xs f n w = (w, (n : Int), true, 0) := by
  unfold runMk
  rw [h]
  split
  · rfl
  · rw [if_pos (by omega)]
theorem runMk_stop {xs : List DMarkovRule} {w : List Int} {n i a : Nat} {r : DMarkovRule} (hr : xs[i]? = some r) (h : ruleMk w 0 xs = ((i : Int), a)) : runMk xs 0 n w = (w, (n : Int), false, 0) := by
  unfold runMk
  rw [h]
  simp only [Int.toNat_natCast, hr]
  rw [if_neg (by omega)]
theorem runMk_full {xs : List DMarkovRule} {w : List Int} {f n i a : Nat} {r : DMarkovRule} (hr : xs[i]? = some r) (h : ruleMk w 0 xs = ((i : Int), a)) (hl : 400 < (putL w a r.f0.length r.f1).length) : runMk xs (f + 1) n w = ([], 0, false, 5) := by
  unfold runMk
  rw [h]
  simp only [Int.toNat_natCast, hr]
  rw [if_neg (by omega), if_neg (by omega)]
theorem runMk_last {xs : List DMarkovRule} {w : List Int} {f n i a : Nat} {r : DMarkovRule} (hr : xs[i]? = some r) (h : ruleMk w 0 xs = ((i : Int), a)) (hl : (putL w a r.f0.length r.f1).length ≤ 400) (h2 : r.f2 = true) : runMk xs (f + 1) n w = (putL w a r.f0.length r.f1, ((n + 1 : Nat) : Int), true, 0) := by
  unfold runMk
  rw [h]
  simp only [Int.toNat_natCast, hr]
  rw [if_neg (by omega), if_pos hl, if_pos h2]
theorem runMk_next {xs : List DMarkovRule} {w : List Int} {f n i a : Nat} {r : DMarkovRule} (hr : xs[i]? = some r) (h : ruleMk w 0 xs = ((i : Int), a)) (hl : (putL w a r.f0.length r.f1).length ≤ 400) (h2 : r.f2 = false) : runMk xs (f + 1) n w = runMk xs f (n + 1) (putL w a r.f0.length r.f1) := by
  conv => lhs; unfold runMk
  rw [h]
  simp only [Int.toNat_natCast, hr]
  rw [if_neg (by omega), if_pos hl, if_neg (by rw [h2]; simp)]
theorem runMk_len {xs : List DMarkovRule} : ∀ {f n : Nat} {w : List Int}, w.length ≤ 400 → (runMk xs f n w).1.length ≤ 400 := by
  intro f
  induction f with
  | zero =>
    intro n w hw
    rcases ruleMk_cases w xs with ⟨h, _⟩ | ⟨i, a, r, hr, _, h, _⟩
    · rw [runMk_none h]; exact hw
    · rw [runMk_stop hr h]; exact hw
  | succ f ih =>
    intro n w hw
    rcases ruleMk_cases w xs with ⟨h, _⟩ | ⟨i, a, r, hr, _, h, _⟩
    · rw [runMk_none h]; exact hw
    · by_cases hl : (putL w a r.f0.length r.f1).length ≤ 400
      · cases h2 : r.f2
        · rw [runMk_next hr h hl h2]; exact ih hl
        · rw [runMk_last hr h hl h2]; exact hl
      · rw [runMk_full hr h (by omega)]; simp
def runMarkov (xs : List DMarkovRule) (w : List Int) (budget : Int) : List Int × Int × Bool × Int :=
  if validMks xs && isWordB w then
    if inB budget 1 20000 then runMk xs budget.toNat 0 w else ([], 0, false, 2)
  else ([], 0, false, 1)
theorem bndRunMarkov0 (xs : List DMarkovRule) (w : List Int) (budget : Int) (h0 : xs.length ≤ 1048576) (h1 : sumMarkovRule xs ≤ 1048576) (h2 : w.length ≤ 1048576) : (runMarkov xs w budget).1.length ≤ 1048576 := by
  unfold runMarkov; split
  · rename_i hv
    rw [Bool.and_eq_true] at hv
    split
    · have := runMk_len (xs := xs) (f := budget.toNat) (n := 0) (isWord_len hv.2); omega
    · simp
  · simp
end Go.Proofs.Ytjakgeblmkdbpaa
