/- Machines and configurations: plain lemmas. -/
import Derived.Test.YtjakgeblmkdbpaaNums
import Derived.Test.YtjakgeblmkdbpaaRec
import Derived.Test.YtjakgeblmkdbpaaWords
namespace Go.Proofs.Ytjakgeblmkdbpaa
open Go.RowKit
set_option linter.all false

def noR (r : R3) : Bool := decide (r.a = 0) && decide (r.b = 0) && decide (r.c = -1)
/-- An element of the rules of a machine. -/
def ruleB (S Q : Int) (r : R3) : Bool := noR r || (inB r.a 0 (S - 1) && (decide (r.b = 1) || decide (r.b = -1)) && inB r.c 0 (Q - 1))
def validMach (S Q : Int) (rs : List R3) : Bool := inB S 2 6 && (inB Q 1 1000 && (decide ((rs.length : Int) = S * Q) && rs.all (ruleB S Q)))

/-- How many cells are left without the blanks at the end. -/
def trimN (x : List Int) : Nat → Nat
  | 0 => 0
  | n + 1 => if x.getD n 0 = 0 then trimN x n else n + 1
def trimL (x : List Int) : List Int := x.take (trimN x x.length)
theorem trimN_le (x : List Int) : ∀ n, trimN x n ≤ n := by
  intro n
  induction n with
  | zero => exact Nat.le_refl _
  | succ n ih => rw [trimN]; split <;> omega
theorem trimN_zero {x : List Int} {n : Nat} (h : x.getD n 0 = 0) : trimN x (n + 1) = trimN x n := by rw [trimN, if_pos h]
theorem trimN_stop {x : List Int} {n : Nat} (h : x.getD n 0 ≠ 0) : trimN x (n + 1) = n + 1 := by rw [trimN, if_neg h]
theorem trimL_len (x : List Int) : (trimL x).length = trimN x x.length := by rw [trimL, List.length_take, Nat.min_eq_left (trimN_le x x.length)]
theorem trimL_len_le (x : List Int) : (trimL x).length ≤ x.length := by rw [trimL_len]; exact trimN_le x x.length
theorem trimN_last {x : List Int} : ∀ {n : Nat}, trimN x n = 0 ∨ x.getD (trimN x n - 1) 0 ≠ 0 := by
  intro n
  induction n with
  | zero => exact .inl rfl
  | succ n ih =>
    rw [trimN]
    split
    · exact ih
    · rename_i h; exact .inr (by simpa using h)
theorem trimL_last (x : List Int) : (trimL x).length = 0 ∨ (trimL x).getD ((trimL x).length - 1) 0 ≠ 0 := by
  rw [trimL_len]
  rcases trimN_last (x := x) (n := x.length) with h | h
  · exact .inl h
  · by_cases h0 : trimN x x.length = 0
    · exact .inl h0
    · refine .inr ?_
      have hlt : trimN x x.length - 1 < trimN x x.length := by omega
      have e : (trimL x).getD (trimN x x.length - 1) 0 = x.getD (trimN x x.length - 1) 0 := by
        rw [trimL, List.getD_eq_getElem?_getD, List.getD_eq_getElem?_getD, List.getElem?_take, if_pos hlt]
      rw [e]; exact h
theorem trimL_mem {x : List Int} {a : Int} (h : a ∈ trimL x) : a ∈ x := List.mem_of_mem_take h
/-- What may stand on a side of the head. -/
def cellsB (S : Int) (x : List Int) : Bool := x.all (inB · 0 (S - 1)) && (decide (x.length ≤ 200) && (decide (x.length = 0) || decide (x.getD (x.length - 1) 0 ≠ 0)))
theorem cellsB_trim {S : Int} {x : List Int} (h : ∀ a ∈ x, 0 ≤ a ∧ a ≤ S - 1) : cellsB S (trimL x) = decide ((trimL x).length ≤ 200) := by
  have h1 : (trimL x).all (inB · 0 (S - 1)) = true := by
    rw [List.all_eq_true]; intro a ha; rw [inB_iff]; exact h a (trimL_mem ha)
  have h2 : (decide ((trimL x).length = 0) || decide ((trimL x).getD ((trimL x).length - 1) 0 ≠ 0)) = true := by
    rcases trimL_last x with h | h
    · rw [decide_eq_true h]; rfl
    · rw [decide_eq_true h, Bool.or_true]
  unfold cellsB
  rw [h1, h2, Bool.true_and, Bool.and_true]

/-- The first letter that is no symbol, with what is before it and behind it. -/
def splitS (S : Int) : List Int → Option (List Int × Int × List Int)
  | [] => none
  | x :: xs => if S ≤ x then some ([], x, xs) else match splitS S xs with
    | none => none
    | some (l, a, r) => some (x :: l, a, r)
theorem splitS_none {S : Int} : ∀ {xs : List Int}, splitS S xs = none → ∀ x ∈ xs, x < S := by
  intro xs
  induction xs with
  | nil => intro _ x hx; cases hx
  | cons y ys ih =>
    intro h x hx
    rw [splitS] at h
    split at h
    · cases h
    · rename_i hy
      cases e : splitS S ys with
      | none =>
        rcases List.mem_cons.1 hx with rfl | hx
        · omega
        · exact ih e x hx
      | some t => rw [e] at h; cases h
theorem splitS_some {S : Int} : ∀ {xs l r : List Int} {a : Int}, splitS S xs = some (l, a, r) → xs = l ++ a :: r ∧ S ≤ a ∧ ∀ x ∈ l, x < S := by
  intro xs
  induction xs with
  | nil => intro l r a h; cases h
  | cons y ys ih =>
    intro l r a h
    rw [splitS] at h
    split at h
    · rename_i hy
      injection h with h; injection h with h1 h2; injection h2 with h2 h3; subst h1; subst h2; subst h3
      exact ⟨rfl, hy, by simp⟩
    · rename_i hy
      cases e : splitS S ys with
      | none => rw [e] at h; cases h
      | some t =>
        obtain ⟨l', a', r'⟩ := t
        rw [e] at h
        injection h with h; injection h with h1 h2; injection h2 with h2 h3; subst h1; subst h2; subst h3
        obtain ⟨k1, k2, k3⟩ := ih e
        refine ⟨by rw [k1]; rfl, k2, fun x hx => ?_⟩
        rcases List.mem_cons.1 hx with rfl | hx
        · omega
        · exact k3 x hx
def cellsOf (w : List Int) : List Int := (w.drop 1).take (w.length - 2)
def frontB (B : Int) (w : List Int) : Bool := decide (3 ≤ w.length) && (decide (w.getD 0 0 = B) && decide (w.getD (w.length - 1) 0 = B))
/-- What a word shows: the state and the cells on both sides. -/
def showW (S B : Int) (w : List Int) : Option (Int × List Int × List Int) :=
  if frontB B w then (match splitS S (cellsOf w) with
    | none => none
    | some (l, a, r) => if decide (a < B) && r.all (inB · 0 (S - 1)) then some (a - S, l, r) else none) else none
structure DConfig where
  f0 : Int
  f1 : List Int
  f2 : List Int
def trimC (q : Int) (l r : List Int) : DConfig := ⟨q, trimL l.reverse, trimL r⟩
def roomC (l r : List Int) : Bool := decide ((trimL l.reverse).length ≤ 200) && decide ((trimL r).length ≤ 200)
def cfgW (S B : Int) (w : List Int) : DConfig × Int := match showW S B w with
  | none => (⟨0, [], []⟩, 3)
  | some (q, l, r) => if roomC l r then (trimC q l r, 0) else (⟨0, [], []⟩, 3)
def configOfWord (S Q : Int) (rs : List R3) (w : List Int) : DConfig × Int :=
  if validMach S Q rs && isWordB w then (if S + Q ≤ 9 then cfgW S (S + Q) w else (⟨0, [], []⟩, 5)) else (⟨0, [], []⟩, 1)
theorem cfgW_none {S B : Int} {w : List Int} (h : showW S B w = none) : cfgW S B w = (⟨0, [], []⟩, 3) := by rw [cfgW, h]
theorem cfgW_some {S B : Int} {w : List Int} {q : Int} {l r : List Int} (h : showW S B w = some (q, l, r)) : cfgW S B w = if roomC l r then (trimC q l r, 0) else (⟨0, [], []⟩, 3) := by rw [cfgW, h]
theorem showW_front {S B : Int} {w : List Int} (h : frontB B w = false) : showW S B w = none := by rw [showW, h]; rfl
theorem showW_blank {S B : Int} {w : List Int} (h : splitS S (cellsOf w) = none) : showW S B w = none := by rw [showW, h]; split <;> rfl
theorem showW_split {S B : Int} {w : List Int} {l r : List Int} {a : Int} (h0 : frontB B w = true) (h : splitS S (cellsOf w) = some (l, a, r)) : showW S B w = if decide (a < B) && r.all (inB · 0 (S - 1)) then some (a - S, l, r) else none := by rw [showW, if_pos h0, h]
theorem frontB_len {B : Int} {w : List Int} (h : frontB B w = true) : 3 ≤ w.length ∧ w.getD 0 0 = B ∧ w.getD (w.length - 1) 0 = B := by
  unfold frontB at h
  rw [Bool.and_eq_true, Bool.and_eq_true] at h
  exact ⟨of_decide_eq_true h.1, of_decide_eq_true h.2.1, of_decide_eq_true h.2.2⟩
theorem cellsOf_len {w : List Int} (h : 2 ≤ w.length) : (cellsOf w).length = w.length - 2 := by rw [cellsOf, List.length_take, List.length_drop]; omega
theorem cellsOf_at {w : List Int} {k : Nat} (h : k < w.length - 2) : (cellsOf w)[k]? = w[k + 1]? := by
  rw [cellsOf, List.getElem?_take, if_pos h, List.getElem?_drop, Nat.add_comm]
end Go.Proofs.Ytjakgeblmkdbpaa
