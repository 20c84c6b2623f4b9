/- Abstraction of combinator terms: what it gives. Plain lemmas. -/
import Derived.Test.YtkiaclajjlidoaaGreatDoorAbsPlain
import Derived.Test.YtkiaclajjlidoaaGreatDoorCombVars
namespace Go.Proofs.YtkiaclajjlidoaaGreatDoor
set_option linter.all false

instance : DecidableEq R2 := fun x y => decidable_of_iff (x.a = y.a ∧ x.b = y.b) ⟨fun ⟨h1, h2⟩ => by cases x; cases y; simp_all, fun h => by subst h; exact ⟨rfl, rfl⟩⟩
def isV (k : Int) (x : R2) : Bool := decide (x.a = 4) && decide (x.b = k)
def hasV (k : Int) (c : List R2) : Bool := c.any (isV k)
/-- Where the second part of an application begins. -/
def midC (c : List R2) : Nat := max 1 (tPos kFol 1 (c.drop 1)).toNat
def oneV (k : Int) : List R2 → Bool
  | [x] => isV k x
  | _ => false
def absC (k : Int) (short : Bool) (c : List R2) : List R2 :=
  if oneV k c then [⟨3, 0⟩]
  else if h : hasV k c = false then ⟨0, 0⟩ :: ⟨2, 0⟩ :: c
  else if short && oneV k (c.drop (midC c)) && !hasV k ((c.drop 1).take (midC c - 1)) then (c.drop 1).take (midC c - 1)
  else ⟨0, 0⟩ :: ⟨0, 0⟩ :: ⟨1, 0⟩ :: (absC k short ((c.drop 1).take (midC c - 1)) ++ absC k short (c.drop (midC c)))
  termination_by c.length
  decreasing_by
    all_goals
      have hc : 0 < c.length := by
        cases c with
        | nil => simp [hasV] at h
        | cons x l => simp
      have hm : 1 ≤ midC c := by unfold midC; omega
      simp_wf
      omega
theorem abs_one {k : Int} {short : Bool} {c : List R2} (h : oneV k c = true) : absC k short c = [⟨3, 0⟩] := by rw [absC, if_pos h]
theorem abs_not {k : Int} {short : Bool} {c : List R2} (h1 : oneV k c = false) (h : hasV k c = false) : absC k short c = ⟨0, 0⟩ :: ⟨2, 0⟩ :: c := by
  rw [absC, if_neg (by simp [h1]), dif_pos h]
theorem abs_eta {k : Int} {short : Bool} {c d e : List R2} (h1 : oneV k c = false) (h : hasV k c = true) (hd : (c.drop 1).take (midC c - 1) = d) (he : c.drop (midC c) = e) (h3 : (short && oneV k e && !hasV k d) = true) : absC k short c = d := by
  rw [absC, if_neg (by simp [h1]), dif_neg (by simp [h]), hd, he, if_pos h3]
theorem abs_app {k : Int} {short : Bool} {c d e : List R2} (h1 : oneV k c = false) (h : hasV k c = true) (hd : (c.drop 1).take (midC c - 1) = d) (he : c.drop (midC c) = e) (h3 : (short && oneV k e && !hasV k d) = false) : absC k short c = ⟨0, 0⟩ :: ⟨0, 0⟩ :: ⟨1, 0⟩ :: (absC k short d ++ absC k short e) := by
  rw [absC, if_neg (by simp [h1]), dif_neg (by simp [h]), hd, he, if_neg (by simp [h3])]
/-- A term in which a variable occurs, and which is not it, is an application of two terms. -/
theorem abs_parts {k : Int} {c : List R2} (hf : fit kFol 1 c = true) (h1 : oneV k c = false) (h : hasV k c = true) :
    ∃ q, 1 ≤ q ∧ q + 1 < c.length ∧ midC c = q + 1 ∧ tPos kFol 1 (c.drop 1) = ((q + 1 : Nat) : Int) ∧ fit kFol 1 ((c.drop 1).take q) = true ∧ fit kFol 1 (c.drop (q + 1)) = true := by
  cases c with
  | nil => simp [hasV] at h
  | cons x l =>
    rw [show (1 : Nat) = 0 + 1 from rfl, fit_sc, Nat.zero_add] at hf
    unfold kFol at hf
    by_cases ha : x.a = 0
    · rw [if_pos ha] at hf
      obtain ⟨q, g1, g2, g3, g4, g5⟩ := fit_split kFol l 1 1 1 hf
      have hne := fit_ne kFol _ 0 g4
      rw [List.length_drop] at hne
      have ht : tPos kFol 1 l = ((q + 1 : Nat) : Int) := by unfold tPos; rw [g2]; congr 1; omega
      refine ⟨q, g5 (by omega), by simp; omega, ?_, ht, g3, g4⟩
      show max 1 (tPos kFol 1 l).toNat = _
      rw [ht]; simp
    · rw [if_neg ha] at hf
      cases l with
      | nil =>
        simp only [oneV] at h1
        simp [hasV, h1] at h
      | cons y l => rw [fit_0c] at hf; cases hf
theorem absC_len (k : Int) (short : Bool) (N : Nat) : ∀ c : List R2, c.length ≤ N → fit kFol 1 c = true → (absC k short c).length ≤ 4 * c.length := by
  induction N with
  | zero => intro c h hf; have := fit_ne kFol c 0 hf; omega
  | succ N ih =>
    intro c h hf
    have hc := fit_ne kFol c 0 hf
    cases h1 : oneV k c with
    | true => rw [abs_one h1]; simp; omega
    | false =>
      cases h2 : hasV k c with
      | false => rw [abs_not h1 h2]; simp; omega
      | true =>
        obtain ⟨q, q1, q2, q3, q4, q5, q6⟩ := abs_parts hf h1 h2
        have hd : (c.drop 1).take (midC c - 1) = (c.drop 1).take q := by rw [q3]; rfl
        have he : c.drop (midC c) = c.drop (q + 1) := by rw [q3]
        have ld : ((c.drop 1).take q).length = q := by rw [List.length_take, List.length_drop]; omega
        have le : (c.drop (q + 1)).length = c.length - (q + 1) := List.length_drop
        cases h3 : (short && oneV k (c.drop (q + 1)) && !hasV k ((c.drop 1).take q)) with
        | true => rw [abs_eta h1 h2 hd he h3, ld]; omega
        | false =>
          rw [abs_app h1 h2 hd he h3]
          have i1 := ih _ (by omega) q5
          have i2 := ih _ (by omega) q6
          rw [ld] at i1
          rw [le] at i2
          simp only [List.length_cons, List.length_append]
          omega
theorem absC_ne (k : Int) (short : Bool) (c : List R2) (hf : fit kFol 1 c = true) : 1 ≤ (absC k short c).length := by
  have hc := fit_ne kFol c 0 hf
  cases h1 : oneV k c with
  | true => rw [abs_one h1]; simp
  | false =>
    cases h2 : hasV k c with
    | false => rw [abs_not h1 h2]; simp
    | true =>
      obtain ⟨q, q1, q2, q3, q4, q5, q6⟩ := abs_parts hf h1 h2
      have hd : (c.drop 1).take (midC c - 1) = (c.drop 1).take q := by rw [q3]; rfl
      have he : c.drop (midC c) = c.drop (q + 1) := by rw [q3]
      cases h3 : (short && oneV k (c.drop (q + 1)) && !hasV k ((c.drop 1).take q)) with
      | true => rw [abs_eta h1 h2 hd he h3, List.length_take, List.length_drop]; omega
      | false => rw [abs_app h1 h2 hd he h3]; simp
theorem mem_varsC (k : Int) (c : List R2) : k ∈ varsC c ↔ hasV k c = true := by
  induction c with
  | nil => simp [varsC, hasV]
  | cons x l ih =>
    unfold hasV at ih ⊢
    rw [varsC, List.mem_append, ih, List.any_cons, Bool.or_eq_true]
    unfold isV
    by_cases h : x.a = 4
    · rw [if_pos h, List.mem_singleton, decide_eq_true h, Bool.true_and, decide_eq_true_eq, eq_comm (a := k)]
    · simp [h]
theorem has_names (k : Int) (c : List R2) : decide (k ∈ sortU (varsC c)) = hasV k c := by
  rw [Bool.eq_iff_iff, decide_eq_true_eq, (sortU_asc (varsC c)).2 k, mem_varsC]
end Go.Proofs.YtkiaclajjlidoaaGreatDoor
