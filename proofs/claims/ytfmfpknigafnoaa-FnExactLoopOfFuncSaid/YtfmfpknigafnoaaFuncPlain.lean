/- Recursive functions in prefix form: which are valid, told in two ways. Plain lemmas. -/
import Derived.Test.YtfmfpknigafnoaaAbsPlain
namespace Go.Proofs.Ytfmfpknigafnoaa
set_option linter.all false

def fOkN (x : R3) : Bool :=
  (decide (x.a = 0) && (inB x.b 0 4 && decide (x.c = 0))) ||
  (decide (x.a = 1) && (decide (x.b = 1) && decide (x.c = 0))) ||
  (decide (x.a = 2) && (inB x.b 1 4 && inB x.c 0 (x.b - 1))) ||
  (decide (x.a = 3) && (inB x.b 0 4 && inB x.c 1 4)) ||
  (decide (x.a = 4) && (inB x.b 1 3 && decide (x.c = 0))) ||
  (decide (x.a = 5) && (inB x.b 0 3 && decide (x.c = 0)))
theorem fOkN_iff (x : R3) : fOkN x = true ↔ (x.a = 0 ∧ 0 ≤ x.b ∧ x.b ≤ 4 ∧ x.c = 0) ∨ (x.a = 1 ∧ x.b = 1 ∧ x.c = 0) ∨ (x.a = 2 ∧ 1 ≤ x.b ∧ x.b ≤ 4 ∧ 0 ≤ x.c ∧ x.c ≤ x.b - 1) ∨ (x.a = 3 ∧ 0 ≤ x.b ∧ x.b ≤ 4 ∧ 1 ≤ x.c ∧ x.c ≤ 4) ∨ (x.a = 4 ∧ 1 ≤ x.b ∧ x.b ≤ 3 ∧ x.c = 0) ∨ (x.a = 5 ∧ 0 ≤ x.b ∧ x.b ≤ 3 ∧ x.c = 0) := by
  unfold fOkN
  simp only [Bool.or_eq_true, Bool.and_eq_true, decide_eq_true_eq, inB_iff, or_assoc, and_assoc]
theorem fOkN_0 {x : R3} (h : x.a = 0) : fOkN x = (inB x.b 0 4 && decide (x.c = 0)) := by simp [fOkN, h]
theorem fOkN_1 {x : R3} (h : x.a = 1) : fOkN x = (decide (x.b = 1) && decide (x.c = 0)) := by simp [fOkN, h]
theorem fOkN_2 {x : R3} (h : x.a = 2) : fOkN x = (inB x.b 1 4 && inB x.c 0 (x.b - 1)) := by simp [fOkN, h]
theorem fOkN_3 {x : R3} (h : x.a = 3) : fOkN x = (inB x.b 0 4 && inB x.c 1 4) := by simp [fOkN, h]
theorem fOkN_4 {x : R3} (h : x.a = 4) : fOkN x = (inB x.b 1 3 && decide (x.c = 0)) := by simp [fOkN, h]
theorem fOkN_5 {x : R3} (h : x.a = 5) : fOkN x = (inB x.b 0 3 && decide (x.c = 0)) := by simp [fOkN, h]
theorem fOkN_6 {x : R3} (h0 : x.a ≠ 0) (h1 : x.a ≠ 1) (h2 : x.a ≠ 2) (h3 : x.a ≠ 3) (h4 : x.a ≠ 4) (h5 : x.a ≠ 5) : fOkN x = false := by simp [fOkN, h0, h1, h2, h3, h4, h5]
/-- How many functions follow a node. -/
def fMany (x : R3) : Nat := if x.a = 3 then (x.c + 1).toNat else if x.a = 4 then 2 else if x.a = 5 then 1 else 0
/-- Their arities. -/
def fFols (x : R3) : List Int := if x.a = 3 then x.c :: List.replicate x.c.toNat x.b else if x.a = 4 then [x.b - 1, x.b + 1] else if x.a = 5 then [x.b + 1] else []
theorem fMany_3 {x : R3} (h : x.a = 3) : fMany x = (x.c + 1).toNat := by simp [fMany, h]
theorem fMany_4 {x : R3} (h : x.a = 4) : fMany x = 2 := by simp [fMany, h]
theorem fMany_5 {x : R3} (h : x.a = 5) : fMany x = 1 := by simp [fMany, h]
theorem fMany_0 {x : R3} (h3 : x.a ≠ 3) (h4 : x.a ≠ 4) (h5 : x.a ≠ 5) : fMany x = 0 := by simp [fMany, h3, h4, h5]
theorem fFols_3 {x : R3} (h : x.a = 3) : fFols x = x.c :: List.replicate x.c.toNat x.b := by simp [fFols, h]
theorem fFols_4 {x : R3} (h : x.a = 4) : fFols x = [x.b - 1, x.b + 1] := by simp [fFols, h]
theorem fFols_5 {x : R3} (h : x.a = 5) : fFols x = [x.b + 1] := by simp [fFols, h]
theorem fFols_0 {x : R3} (h3 : x.a ≠ 3) (h4 : x.a ≠ 4) (h5 : x.a ≠ 5) : fFols x = [] := by simp [fFols, h3, h4, h5]
theorem fMany_le {x : R3} (h : fOkN x = true) : fMany x ≤ 5 := by
  have := (fOkN_iff x).1 h
  unfold fMany
  split
  · omega
  · split
    · omega
    · split <;> omega
theorem fFols_len {x : R3} (h : fOkN x = true) : (fFols x).length = fMany x := by
  have := (fOkN_iff x).1 h
  unfold fFols fMany
  split
  · simp; omega
  · split
    · rfl
    · split <;> rfl
theorem fFols_pos {x : R3} (h : fOkN x = true) : ∀ a ∈ fFols x, 0 ≤ a := by
  have := (fOkN_iff x).1 h
  intro a ha
  unfold fFols at ha
  split at ha
  · rcases List.mem_cons.1 ha with rfl | ha
    · omega
    · have := List.eq_of_mem_replicate ha; omega
  · split at ha
    · simp at ha; omega
    · split at ha
      · simp at ha; omega
      · simp at ha

/-- Functions of demanded arities (-1: any), one behind the other: what is left. -/
def fRun : List Int → List R3 → Option (List R3)
  | [], l => some l
  | _ :: _, [] => none
  | a :: st, x :: l => if (a < 0 ∨ x.b = a) ∧ fOkN x = true then fRun (fFols x ++ st) l else none
  termination_by _ l => l.length
theorem fRun_nil (l : List R3) : fRun [] l = some l := by rw [fRun]
theorem fRun_none (a : Int) (st : List Int) : fRun (a :: st) [] = none := by rw [fRun]
theorem fRun_cons {a : Int} {x : R3} (h : (a < 0 ∨ x.b = a) ∧ fOkN x = true) (st : List Int) (l : List R3) : fRun (a :: st) (x :: l) = fRun (fFols x ++ st) l := by rw [fRun, if_pos h]
theorem fRun_bad {a : Int} {x : R3} (h : ¬ ((a < 0 ∨ x.b = a) ∧ fOkN x = true)) (st : List Int) (l : List R3) : fRun (a :: st) (x :: l) = none := by rw [fRun, if_neg h]
theorem fRun_app (l : List R3) : ∀ s t : List Int, fRun (s ++ t) l = (fRun s l).bind (fRun t) := by
  induction l with
  | nil =>
    intro s t
    cases s with
    | nil => rw [List.nil_append, fRun_nil]; rfl
    | cons a s => rw [List.cons_append, fRun_none, fRun_none]; rfl
  | cons x l ih =>
    intro s t
    cases s with
    | nil => rw [List.nil_append, fRun_nil]; rfl
    | cons a s =>
      by_cases h : (a < 0 ∨ x.b = a) ∧ fOkN x = true
      · rw [List.cons_append, fRun_cons h, fRun_cons h, ← List.append_assoc, ih]
      · rw [List.cons_append, fRun_bad h, fRun_bad h]; rfl
theorem fRun_suffix (l : List R3) : ∀ (s : List Int) (r : List R3), fRun s l = some r → ∃ q, r = l.drop q ∧ q ≤ l.length ∧ (s ≠ [] → 0 < q) := by
  induction l with
  | nil =>
    intro s r h
    cases s with
    | nil => rw [fRun_nil] at h; injection h with h; exact ⟨0, by simp [← h], by simp, by simp⟩
    | cons a s => rw [fRun_none] at h; cases h
  | cons x l ih =>
    intro s r h
    cases s with
    | nil => rw [fRun_nil] at h; injection h with h; exact ⟨0, by simp [← h], by simp, by simp⟩
    | cons a s =>
      by_cases hh : (a < 0 ∨ x.b = a) ∧ fOkN x = true
      · rw [fRun_cons hh] at h
        obtain ⟨q, h1, h2, _⟩ := ih _ _ h
        exact ⟨q + 1, by simpa using h1, by simp; omega, by omega⟩
      · rw [fRun_bad hh] at h; cases h
/-- The place behind, or -1. -/
def fPos (k : Nat) (a : Int) (l : List R3) : Int := match fRun [a] l with | none => -1 | some r => ((k + (l.length - r.length) : Nat) : Int)
theorem fPos_none {k : Nat} {a : Int} {l : List R3} (h : fRun [a] l = none) : fPos k a l = -1 := by unfold fPos; rw [h]
theorem fPos_some {k : Nat} {a : Int} {l r : List R3} (h : fRun [a] l = some r) : fPos k a l = ((k + (l.length - r.length) : Nat) : Int) := by unfold fPos; rw [h]

/-- The arities of m functions, behind s others. -/
def rts : Nat → Nat → List R3 → List Int
  | _, _, [] => []
  | m, s + 1, x :: l => rts m (s + fMany x) l
  | m + 1, 0, x :: l => x.b :: rts m (fMany x) l
  | 0, 0, _ :: _ => []
  termination_by _ _ l => l.length
theorem rts_nil (m s : Nat) : rts m s [] = [] := by rw [rts]
theorem rts_skip (m s : Nat) (x : R3) (l : List R3) : rts m (s + 1) (x :: l) = rts m (s + fMany x) l := by rw [rts]
theorem rts_take (m : Nat) (x : R3) (l : List R3) : rts (m + 1) 0 (x :: l) = x.b :: rts m (fMany x) l := by rw [rts]
theorem rts_zero (x : R3) (l : List R3) : rts 0 0 (x :: l) = [] := by rw [rts]
theorem rts_0 (l : List R3) : ∀ s, rts 0 s l = [] := by
  induction l with
  | nil => intro s; rw [rts_nil]
  | cons x l ih => intro s; cases s with
    | zero => rw [rts_zero]
    | succ s => rw [rts_skip, ih]
theorem rts_app (b : Nat) (l : List R3) : ∀ a s : Nat, rts (a + b) s l = rts a s l ++ rts b (s + a) l := by
  induction l with
  | nil => intro a s; rw [rts_nil, rts_nil, rts_nil]; rfl
  | cons x l ih =>
    intro a s
    cases s with
    | succ s =>
      rw [rts_skip, ih, rts_skip, show s + 1 + a = (s + a) + 1 by omega, rts_skip, show s + fMany x + a = s + a + fMany x by omega]
    | zero =>
      cases a with
      | zero => rw [Nat.zero_add, rts_zero, Nat.add_zero]; rfl
      | succ a =>
        rw [show a + 1 + b = (a + b) + 1 by omega, rts_take, rts_take, ih, Nat.zero_add, rts_skip, Nat.add_comm (fMany x) a]
        rfl
theorem rts_len (l : List R3) : ∀ a s b : Nat, fit fMany (s + a + b) l = true → (rts a s l).length = a := by
  induction l with
  | nil =>
    intro a s b h
    obtain rfl : a = 0 := by
      cases a with
      | zero => rfl
      | succ a => rw [show s + (a + 1) + b = (s + a + b) + 1 by omega, fit_s0] at h; cases h
    rw [rts_nil]; rfl
  | cons x l ih =>
    intro a s b h
    cases s with
    | succ s =>
      rw [show s + 1 + a + b = (s + a + b) + 1 by omega, fit_sc] at h
      rw [rts_skip]
      exact ih a (s + fMany x) b (by rw [← h]; congr 1; omega)
    | zero =>
      cases a with
      | zero => rw [rts_zero]; rfl
      | succ a =>
        rw [show 0 + (a + 1) + b = (a + b) + 1 by omega, fit_sc] at h
        rw [rts_take, List.length_cons, ih a (fMany x) b (by rw [← h]; congr 1; omega)]
/-- Demanded arities meet arities. -/
def mt : List Int → List Int → Prop
  | [], [] => True
  | a :: s, b :: t => (a < 0 ∨ b = a) ∧ mt s t
  | _, _ => False
theorem mt_app : ∀ (s t s' t' : List Int), s.length = s'.length → (mt (s ++ t) (s' ++ t') ↔ mt s s' ∧ mt t t')
  | [], t, [], t', _ => by simp [mt]
  | a :: s, t, b :: s', t', h => by
    simp only [List.cons_append, mt]
    rw [mt_app s t s' t' (by simpa using h), and_assoc]
theorem mt_eq : ∀ (s t : List Int), (∀ a ∈ s, 0 ≤ a) → (mt s t ↔ t = s)
  | [], [], _ => by simp [mt]
  | [], _ :: _, _ => by simp [mt]
  | _ :: _, [], _ => by simp [mt]
  | a :: s, b :: t, h => by
    have h0 := h a (List.mem_cons_self ..)
    simp only [mt, List.cons.injEq]
    rw [mt_eq s t fun x hx => h x (List.mem_cons_of_mem _ hx)]
    constructor
    · rintro ⟨h1, h2⟩; exact ⟨by omega, h2⟩
    · rintro ⟨h1, h2⟩; exact ⟨.inr h1, h2⟩
/-- Each node has what it demands. -/
def fLoc : List R3 → Prop
  | [] => True
  | x :: l => rts (fMany x) 0 l = fFols x ∧ fLoc l
theorem fRun_iff (l : List R3) : ∀ st : List Int, fRun st l = some [] ↔ (fit fMany st.length l = true ∧ l.all fOkN = true ∧ mt st (rts st.length 0 l) ∧ fLoc l) := by
  induction l with
  | nil =>
    intro st
    cases st with
    | nil => rw [fRun_nil]; simp [fit_00, rts_nil, mt, fLoc]
    | cons a st => rw [fRun_none]; simp [fit_s0]
  | cons x l ih =>
    intro st
    cases st with
    | nil => rw [fRun_nil]; simp [fit_0c]
    | cons a st =>
      by_cases hok : fOkN x = true
      · have hl := fFols_len hok
        rw [List.length_cons, fit_sc, rts_take, List.all_cons, hok, Bool.true_and]
        simp only [mt, fLoc]
        by_cases ha : a < 0 ∨ x.b = a
        · rw [fRun_cons ⟨ha, hok⟩, ih, List.length_append, hl, Nat.add_comm st.length (fMany x)]
          constructor
          · rintro ⟨h1, h2, h3, h4⟩
            have hlen := rts_len l (fMany x) 0 st.length (by rw [Nat.zero_add]; exact h1)
            rw [rts_app, Nat.zero_add, mt_app _ _ _ _ (by rw [hl, hlen]), mt_eq _ _ (fFols_pos hok)] at h3
            exact ⟨h1, h2, ⟨ha, h3.2⟩, h3.1, h4⟩
          · rintro ⟨h1, h2, ⟨_, h3⟩, h5, h4⟩
            have hlen := rts_len l (fMany x) 0 st.length (by rw [Nat.zero_add]; exact h1)
            refine ⟨h1, h2, ?_, h4⟩
            rw [rts_app, Nat.zero_add, mt_app _ _ _ _ (by rw [hl, hlen]), mt_eq _ _ (fFols_pos hok)]
            exact ⟨h5, h3⟩
        · rw [fRun_bad (fun h => ha h.1)]
          constructor
          · intro h; cases h
          · rintro ⟨_, _, ⟨h, _⟩, _⟩; exact absurd h ha
      · rw [fRun_bad (fun h => hok h.2), List.all_cons]
        simp [hok]
/-- The nodes that are one function. -/
def validF (xs : List R3) : Bool := inB xs.length 1 60 && decide (fRun [-1] xs = some [])
theorem fLoc_iff (l : List R3) : fLoc l ↔ ∀ (k : Nat) (x : R3), l[k]? = some x → rts (fMany x) 0 (l.drop (k + 1)) = fFols x := by
  induction l with
  | nil => simp [fLoc]
  | cons y l ih =>
    rw [fLoc, ih]
    constructor
    · rintro ⟨h1, h2⟩ k x hx
      cases k with
      | zero => simp at hx; subst hx; simpa using h1
      | succ k => simpa using h2 k x (by simpa using hx)
    · intro h
      exact ⟨by simpa using h 0 y (by simp), fun k x hx => by simpa using h (k + 1) x (by simpa using hx)⟩
/-- The local rule at a node. -/
def fFit (l : List R3) (k : Nat) : Bool := match l[k]? with | some x => decide (rts (fMany x) 0 (l.drop (k + 1)) = fFols x) | none => true
theorem fit_ne0 {α : Type} {fol : α → Nat} {l : List α} (h : fit fol 1 l = true) : l ≠ [] := by
  rintro rfl; rw [show (1 : Nat) = 0 + 1 from rfl, fit_s0] at h; cases h
theorem rts_one {l : List R3} (h : l ≠ []) : ∃ b, rts 1 0 l = [b] := by
  cases l with
  | nil => exact absurd rfl h
  | cons x l => exact ⟨x.b, by rw [show (1 : Nat) = 0 + 1 from rfl, rts_take, rts_0]⟩
theorem validF_iff (xs : List R3) : validF xs = true ↔ xs.length ≤ 60 ∧ fit fMany 1 xs = true ∧ xs.all fOkN = true ∧ ∀ k, k < xs.length → fFit xs k = true := by
  have h2 : (∀ k, k < xs.length → fFit xs k = true) ↔ fLoc xs := by
    rw [fLoc_iff]
    constructor
    · intro h k x hx
      have := h k (List.getElem?_eq_some_iff.1 hx).1
      unfold fFit at this
      rw [hx] at this
      simpa using this
    · intro h k hk
      unfold fFit
      rw [List.getElem?_eq_getElem hk]
      simpa using h k _ (List.getElem?_eq_getElem hk)
  rw [h2]
  unfold validF
  rw [Bool.and_eq_true, inB_iff, decide_eq_true_eq, fRun_iff]
  constructor
  · rintro ⟨h1, h3, h4, h5, h6⟩
    exact ⟨by omega, h3, h4, h6⟩
  · rintro ⟨h1, h3, h4, h6⟩
    have h0 := fit_ne fMany xs 0 h3
    obtain ⟨b, hb⟩ := rts_one (fit_ne0 h3)
    refine ⟨by omega, h3, h4, ?_, h6⟩
    show mt [-1] (rts 1 0 xs)
    rw [hb]
    simp [mt]
end Go.Proofs.Ytfmfpknigafnoaa
