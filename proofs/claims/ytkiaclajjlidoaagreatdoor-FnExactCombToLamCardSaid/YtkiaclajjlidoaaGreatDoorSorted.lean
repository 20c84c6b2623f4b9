/- Sorted lists of numbers: what l00Put builds is what Sort and Compact leave; a sorted list rises just where no number occurs twice. Plain lemmas. -/
import Derived.Test.YtkiaclajjlidoaaGreatDoorBase
import Derived.Lib.SlicesCompact
namespace Go.Proofs.YtkiaclajjlidoaaGreatDoor
set_option linter.all false

def Asc (l : List Int) : Prop := l.Pairwise (· < ·)
def put (n : Int) : List Int → List Int
  | [] => [n]
  | y :: l => if n ≤ y then (if n < y then n :: y :: l else y :: l) else y :: put n l
theorem mem_put (n x : Int) (l : List Int) : x ∈ put n l ↔ x = n ∨ x ∈ l := by
  induction l with
  | nil => simp [put]
  | cons y l ih =>
    rw [put]
    by_cases h1 : n ≤ y
    · rw [if_pos h1]
      by_cases h2 : n < y
      · rw [if_pos h2]; simp
      · rw [if_neg h2]
        obtain rfl : n = y := by omega
        simp
    · rw [if_neg h1]
      simp only [List.mem_cons, ih]
      constructor
      · rintro (h | h | h)
        · exact .inr (.inl h)
        · exact .inl h
        · exact .inr (.inr h)
      · rintro (h | h | h)
        · exact .inr (.inl h)
        · exact .inl h
        · exact .inr (.inr h)
theorem put_len (n : Int) (l : List Int) : (put n l).length ≤ l.length + 1 := by
  induction l with
  | nil => simp [put]
  | cons y l ih =>
    rw [put]
    split
    · split <;> simp
    · simp; omega
theorem asc_put (n : Int) (l : List Int) (h : Asc l) : Asc (put n l) := by
  induction l with
  | nil => simp [put, Asc]
  | cons y l ih =>
    unfold Asc at h ⊢
    rw [List.pairwise_cons] at h
    rw [put]
    by_cases h1 : n ≤ y
    · rw [if_pos h1]
      by_cases h2 : n < y
      · rw [if_pos h2, List.pairwise_cons, List.pairwise_cons]
        refine ⟨fun a ha => ?_, h⟩
        rcases List.mem_cons.1 ha with rfl | ha
        · exact h2
        · have := h.1 a ha; omega
      · rw [if_neg h2, List.pairwise_cons]; exact h
    · rw [if_neg h1, List.pairwise_cons]
      refine ⟨fun a ha => ?_, ih h.2⟩
      rcases (mem_put _ _ _).1 ha with rfl | ha
      · omega
      · exact h.1 a ha
theorem asc_ext : ∀ (l1 l2 : List Int), Asc l1 → Asc l2 → (∀ x, x ∈ l1 ↔ x ∈ l2) → l1 = l2 := by
  intro l1
  induction l1 with
  | nil =>
    intro l2 _ _ h
    cases l2 with
    | nil => rfl
    | cons b l2 => exact absurd ((h b).2 (by simp)) (by simp)
  | cons a l1 ih =>
    intro l2 h1 h2 h
    cases l2 with
    | nil => exact absurd ((h a).1 (by simp)) (by simp)
    | cons b l2 =>
      unfold Asc at h1 h2
      rw [List.pairwise_cons] at h1 h2
      have e : a = b := by
        rcases List.mem_cons.1 ((h a).1 (by simp)) with e | e
        · exact e
        rcases List.mem_cons.1 ((h b).2 (by simp)) with e2 | e2
        · exact e2.symm
        have := h2.1 a e; have := h1.1 b e2; omega
      subst e
      rw [ih l2 h1.2 h2.2 fun x => ?_]
      constructor
      · intro hx
        rcases List.mem_cons.1 ((h x).1 (by simp [hx])) with e | e
        · subst e; have := h1.1 x hx; omega
        · exact e
      · intro hx
        rcases List.mem_cons.1 ((h x).2 (by simp [hx])) with e | e
        · subst e; have := h2.1 x hx; omega
        · exact e

def srt (xs : List Int) : List Int := xs.mergeSort fun x y => decide (x ≤ y)
theorem srt_perm (xs : List Int) : (srt xs).Perm xs := List.mergeSort_perm _ _
theorem srt_len (xs : List Int) : (srt xs).length = xs.length := (srt_perm xs).length_eq
theorem srt_le (xs : List Int) : (srt xs).Pairwise (· ≤ ·) := by
  have h := List.pairwise_mergeSort (le := fun x y : Int => decide (x ≤ y)) (by intro a b c; simp; omega) (by intro a b; simp; omega) xs
  exact h.imp (by intro a b; simp)
def sortU (xs : List Int) : List Int := Lib.compact (srt xs)

theorem compact_le (d : Array Int) (h : ∀ i j, i ≤ j → j < d.size → d[i]! ≤ d[j]!) : ∀ m, m ≤ d.size → Asc (Lib.compactUpTo d m) ∧ (∀ x, x ∈ Lib.compactUpTo d m ↔ ∃ j, j < m ∧ d[j]! = x) ∧ (∀ x ∈ Lib.compactUpTo d m, x ≤ d[m - 1]!) := by
  intro m
  induction m with
  | zero => intro _; exact ⟨by simp [Lib.compactUpTo, Asc], by simp [Lib.compactUpTo], by simp [Lib.compactUpTo]⟩
  | succ m ih =>
    intro hm
    obtain ⟨h1, h2, h3⟩ := ih (by omega)
    rw [Lib.compactUpTo_succ]
    cases hk : Lib.keeps d m with
    | true =>
      have hk' : m = 0 ∨ d[m]! ≠ d[m - 1]! := by simpa [Lib.keeps] using hk
      have hlt : ∀ x ∈ Lib.compactUpTo d m, x < d[m]! := by
        intro x hx
        have hx3 := h3 x hx
        rcases hk' with rfl | hk'
        · obtain ⟨j, hj, _⟩ := (h2 x).1 hx; omega
        · have := h (m - 1) m (by omega) (by omega)
          omega
      simp only [if_true]
      refine ⟨?_, ?_, ?_⟩
      · unfold Asc at h1 ⊢
        rw [List.pairwise_append]
        exact ⟨h1, by simp, fun a ha b hb => by rw [List.mem_singleton] at hb; subst hb; exact hlt a ha⟩
      · intro x
        rw [List.mem_append, h2]
        constructor
        · rintro (⟨j, hj, e⟩ | hx)
          · exact ⟨j, by omega, e⟩
          · exact ⟨m, by omega, (List.mem_singleton.1 hx).symm⟩
        · rintro ⟨j, hj, e⟩
          by_cases hjm : j = m
          · subst hjm; exact .inr (by simp [e])
          · exact .inl ⟨j, by omega, e⟩
      · intro x hx
        rw [List.mem_append] at hx
        show x ≤ d[m]!
        rcases hx with hx | hx
        · have := hlt x hx; omega
        · rw [List.mem_singleton] at hx; omega
    | false =>
      have hk' : ¬ (m = 0 ∨ d[m]! ≠ d[m - 1]!) := by simpa [Lib.keeps] using hk
      have hm0 : m ≠ 0 := fun e => hk' (.inl e)
      have he : d[m]! = d[m - 1]! := by
        by_cases e : d[m]! = d[m - 1]!
        · exact e
        · exact absurd (.inr e) hk'
      simp only [Bool.false_eq_true, if_false, List.append_nil]
      refine ⟨h1, fun x => ?_, fun x hx => ?_⟩
      · rw [h2]
        constructor
        · rintro ⟨j, hj, e⟩; exact ⟨j, by omega, e⟩
        · rintro ⟨j, hj, e⟩
          by_cases hjm : j = m
          · subst hjm; exact ⟨j - 1, by omega, by rw [← he]; exact e⟩
          · exact ⟨j, by omega, e⟩
      · show x ≤ d[m]!
        rw [he]; exact h3 x hx
theorem sortU_asc (xs : List Int) : Asc (sortU xs) ∧ ∀ x, x ∈ sortU xs ↔ x ∈ xs := by
  have hs := srt_le xs
  have hsz : (srt xs).toArray.size = (srt xs).length := by simp
  have hg : ∀ i, i < (srt xs).length → (srt xs).toArray[i]! = (srt xs)[i]! := by intro i hi; simp
  have := compact_le (srt xs).toArray (by
    intro i j hij hj
    rw [hsz] at hj
    rw [hg i (by omega), hg j hj, getElem!_pos _ i (by omega), getElem!_pos _ j hj]
    by_cases e : i = j
    · subst e; omega
    · exact List.pairwise_iff_getElem.1 hs i j (by omega) hj (by omega)) (srt xs).length (by simp)
  refine ⟨this.1, fun x => ?_⟩
  have h2 := this.2.1 x
  show x ∈ Lib.compactUpTo (srt xs).toArray (srt xs).length ↔ _
  rw [h2, ← (srt_perm xs).mem_iff]
  constructor
  · rintro ⟨j, hj, e⟩
    rw [hg j hj, getElem!_pos _ j hj] at e
    rw [← e]; exact List.getElem_mem _
  · intro hx
    obtain ⟨j, hj, e⟩ := List.mem_iff_getElem.1 hx
    exact ⟨j, hj, by rw [hg j hj, getElem!_pos _ j hj]; exact e⟩
theorem sortU_len (xs : List Int) : (sortU xs).length ≤ xs.length := by
  unfold sortU Lib.compact Lib.compactUpTo
  rw [List.length_map]
  have := List.length_filter_le (Lib.keeps (srt xs).toArray) (List.range (srt xs).length)
  rw [List.length_range, srt_len] at this
  rw [srt_len]
  exact this
/-- What l00Put builds, number by number. -/
def puts (acc xs : List Int) : List Int := xs.foldl (fun l n => put n l) acc
theorem puts_cons (acc xs : List Int) (n : Int) : puts acc (n :: xs) = puts (put n acc) xs := rfl
theorem puts_app (acc xs ys : List Int) : puts acc (xs ++ ys) = puts (puts acc xs) ys := by simp [puts]
theorem puts_spec (xs : List Int) : ∀ acc, Asc acc → Asc (puts acc xs) ∧ ∀ x, x ∈ puts acc xs ↔ x ∈ acc ∨ x ∈ xs := by
  induction xs with
  | nil => intro acc h; exact ⟨h, by simp [puts]⟩
  | cons n xs ih =>
    intro acc h
    rw [puts_cons]
    obtain ⟨h1, h2⟩ := ih (put n acc) (asc_put n acc h)
    refine ⟨h1, fun x => ?_⟩
    rw [h2, mem_put, List.mem_cons]
    constructor
    · rintro ((h | h) | h)
      · exact .inr (.inl h)
      · exact .inl h
      · exact .inr (.inr h)
    · rintro (h | h | h)
      · exact .inl (.inr h)
      · exact .inl (.inl h)
      · exact .inr h
theorem puts_eq (xs : List Int) : puts [] xs = sortU xs := by
  have h1 := puts_spec xs [] (by simp [Asc])
  have h2 := sortU_asc xs
  exact asc_ext _ _ h1.1 h2.1 fun x => by rw [h1.2, h2.2]; simp
theorem puts_len (xs : List Int) : ∀ acc, (puts acc xs).length ≤ acc.length + xs.length := by
  induction xs with
  | nil => intro acc; simp [puts]
  | cons n xs ih => intro acc; rw [puts_cons]; have := ih (put n acc); have := put_len n acc; simp; omega

/-- Each number is greater than the one before it. -/
def rises : List Int → Bool
  | [] => true
  | [_] => true
  | x :: y :: l => decide (x < y) && rises (y :: l)
theorem rises_iff (l : List Int) (h : l.Pairwise (· ≤ ·)) : rises l = true ↔ l.Nodup := by
  induction l with
  | nil => simp [rises]
  | cons x l ih =>
    rw [List.pairwise_cons] at h
    cases l with
    | nil => simp [rises]
    | cons y l =>
      rw [rises, Bool.and_eq_true, ih h.2, decide_eq_true_eq, List.nodup_cons (a := x)]
      constructor
      · rintro ⟨h1, h2⟩
        refine ⟨fun hm => ?_, h2⟩
        rcases List.mem_cons.1 hm with e | e
        · omega
        · have := (List.pairwise_cons.1 h.2).1 x e; omega
      · rintro ⟨h1, h2⟩
        refine ⟨?_, h2⟩
        have := h.1 y (by simp)
        have : x ≠ y := fun e => h1 (by simp [e])
        omega
/-- No number occurs twice. -/
def nodupB (l : List Int) : Bool := decide l.Nodup
theorem rises_srt (xs : List Int) : rises (srt xs) = nodupB xs := by
  rw [Bool.eq_iff_iff, rises_iff _ (srt_le xs), (srt_perm xs).nodup_iff]
  simp [nodupB]
/-- From place k on no number stands ahead of itself. -/
theorem nodup_step {xs : List Int} {k : Nat} {x : Int} (hx : xs[k]? = some x) (h : (xs.take k).Nodup) : (xs.take (k + 1)).Nodup ↔ x ∉ xs.take k := by
  rw [List.take_add_one, hx]
  simp only [Option.toList_some]
  rw [List.nodup_append]
  constructor
  · rintro ⟨_, _, h3⟩ hm
    exact h3 x hm x (by simp) rfl
  · intro hm
    exact ⟨h, by simp, fun a ha b hb => by rw [List.mem_singleton] at hb; subst hb; rintro rfl; exact hm ha⟩
theorem nodup_of_not {xs : List Int} {k : Nat} (h : ¬ (xs.take k).Nodup) : nodupB xs = false := by
  unfold nodupB
  rw [decide_eq_false_iff_not]
  intro hn
  exact h (hn.sublist (List.take_sublist _ _))
end Go.Proofs.YtkiaclajjlidoaaGreatDoor
