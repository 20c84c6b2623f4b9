/- What TagToMarkov gives, rule by rule, and the odometer's words: plain lemmas. -/
import Derived.Test.YtcfkjigapnknnaaTagSpec1
namespace Go.Proofs.Ytcfkjigapnknnaa
set_option linter.all false

theorem ltrs_len (n : Nat) : (ltrs n).length = n := by simp [ltrs]
theorem ltrs_succ (n : Nat) : ltrs (n + 1) = ltrs n ++ [(n : Int)] := by simp [ltrs, List.range_succ]
def ruleA (n : Nat) (i k : Int) : DMarkovRule := ⟨[(n : Int) + i, k], [k, (n : Int) + i], false⟩
def ruleB (n : Nat) (i : Int) (w : List Int) : DMarkovRule := ⟨[(n : Int) + i], w, false⟩
def ruleC (n : Nat) (i : Int) (x : List Int) : DMarkovRule := ⟨[2 * (n : Int), i] ++ x, [2 * (n : Int), (n : Int) + i], false⟩
def rulesCi (n l : Nat) (hs : List Int) (i : Int) : List DMarkovRule := if hs.contains i then [] else (wordsN n l).map (ruleC n i)
def rA (n i : Nat) : List DMarkovRule := (ltrs i).flatMap fun a => (ltrs n).map (ruleA n a)
def rA2 (n i k : Nat) : List DMarkovRule := rA n i ++ (ltrs k).map (ruleA n i)
def rB (n : Nat) (ws : List (List Int)) (i : Nat) : List DMarkovRule := (ws.take i).mapIdx fun i w => ruleB n (i : Int) w
def rC (n l : Nat) (hs : List Int) (i : Nat) : List DMarkovRule := (ltrs i).flatMap (rulesCi n l hs)
theorem rA_zero (n : Nat) : rA n 0 = [] := rfl
theorem rA_succ (n i : Nat) : rA n (i + 1) = rA2 n i n := by simp [rA, rA2, ltrs_succ]
theorem rA2_zero (n i : Nat) : rA2 n i 0 = rA n i := by simp [rA2, ltrs]
theorem rA2_succ (n i k : Nat) : rA2 n i (k + 1) = rA2 n i k ++ [ruleA n i k] := by simp [rA2, ltrs_succ]
theorem rA_all (n : Nat) : rA n n = rulesA n := rfl
theorem rA_len (n i : Nat) : (rA n i).length = i * n := by
  induction i with
  | zero => simp [rA_zero]
  | succ i ih => rw [rA_succ, rA2, List.length_append, ih, List.length_map, ltrs_len, Nat.succ_mul]
theorem rA2_len (n i k : Nat) : (rA2 n i k).length = i * n + k := by rw [rA2, List.length_append, rA_len, List.length_map, ltrs_len]
theorem rB_zero (n : Nat) (ws : List (List Int)) : rB n ws 0 = [] := rfl
theorem rB_succ {n : Nat} {ws : List (List Int)} {i : Nat} {x : List Int} (h : ws[i]? = some x) : rB n ws (i + 1) = rB n ws i ++ [ruleB n i x] := by
  have hi := (List.getElem?_eq_some_iff.1 h).1
  rw [rB, List.take_add_one, h]
  simp only [Option.toList_some]
  rw [List.mapIdx_append]
  simp [rB, List.length_take, Nat.min_eq_left (Nat.le_of_lt hi)]
theorem rB_all (ws : List (List Int)) : rB ws.length ws ws.length = rulesB ws.length ws := by
  rw [rB, List.take_length]; rfl
theorem rB_len (n : Nat) (ws : List (List Int)) (i : Nat) (h : i ≤ ws.length) : (rB n ws i).length = i := by simp [rB, Nat.min_eq_left h]
theorem rC_zero (n l : Nat) (hs : List Int) : rC n l hs 0 = [] := rfl
theorem rC_succ (n l : Nat) (hs : List Int) (i : Nat) : rC n l hs (i + 1) = rC n l hs i ++ rulesCi n l hs i := by simp [rC, ltrs_succ]
theorem rC_all (n l : Nat) (hs : List Int) : rC n l hs n = rulesC n l hs := rfl
theorem tagRules_eq (d : Int) (ws : List (List Int)) (hs : List Int) : tagRules d ws hs = rA ws.length ws.length ++ rB ws.length ws ws.length ++ rC ws.length (d - 1).toNat hs ws.length := by rw [rB_all]; rfl
theorem wordsN_len (n l : Nat) : (wordsN n l).length = n ^ l := by
  induction l with
  | zero => rfl
  | succ l ih =>
    rw [wordsN, List.length_flatMap]
    simp only [List.length_map, ltrs_len]
    rw [List.map_const', List.sum_replicate_nat, ih, Nat.pow_succ]
theorem wordsN_mem {n : Nat} : ∀ {l : Nat} {x : List Int}, x ∈ wordsN n l → x.length = l := by
  intro l
  induction l with
  | zero => intro x h; simp [wordsN] at h; subst h; rfl
  | succ l ih =>
    intro x h
    simp only [wordsN, List.mem_flatMap, List.mem_map] at h
    obtain ⟨y, hy, a, _, rfl⟩ := h
    simp [ih hy]

/-- Each rule is short. -/
def Short (xs : List DMarkovRule) : Prop := ∀ r ∈ xs, wlMarkovRule r ≤ 1010
theorem Short.nil : Short [] := fun r h => by cases h
theorem Short.app {xs ys : List DMarkovRule} (h : Short xs) (k : Short ys) : Short (xs ++ ys) := fun r hr => by
  rcases List.mem_append.1 hr with h1 | h1
  · exact h r h1
  · exact k r h1
theorem Short.one {r : DMarkovRule} (h : wlMarkovRule r ≤ 1010) : Short [r] := fun r hr => by rw [List.mem_singleton.1 hr]; exact h
theorem Short.sum {xs : List DMarkovRule} (h : Short xs) : sumMarkovRule xs ≤ xs.length * 1010 := by
  induction xs with
  | nil => simp [sumMarkovRule]
  | cons x xs ih =>
    have h1 := h x (List.mem_cons_self ..)
    have h2 := ih fun r hr => h r (List.mem_cons_of_mem _ hr)
    simp only [sumMarkovRule, List.map_cons, List.sum_cons, List.length_cons] at *
    omega
theorem short_A (n : Nat) (i k : Int) : wlMarkovRule (ruleA n i k) ≤ 1010 := by simp [ruleA, wlMarkovRule]
theorem short_B (n : Nat) (i : Int) (x : List Int) (h : x.length ≤ 1000) : wlMarkovRule (ruleB n i x) ≤ 1010 := by simp [ruleB, wlMarkovRule]; omega
theorem short_C (n : Nat) (i : Int) (x : List Int) (h : x.length ≤ 1000) : wlMarkovRule (ruleC n i x) ≤ 1010 := by simp [ruleC, wlMarkovRule]; omega
theorem short_map {α : Type} {f : α → DMarkovRule} {l : List α} (h : ∀ a ∈ l, wlMarkovRule (f a) ≤ 1010) : Short (l.map f) := fun r hr => by
  obtain ⟨a, ha, rfl⟩ := List.mem_map.1 hr
  exact h a ha
theorem short_rA (n i : Nat) : Short (rA n i) := by
  induction i with
  | zero => exact Short.nil
  | succ i ih => rw [rA_succ, rA2]; exact ih.app (short_map fun a _ => short_A n i a)
theorem short_rA2 (n i k : Nat) : Short (rA2 n i k) := by rw [rA2]; exact (short_rA n i).app (short_map fun a _ => short_A n i a)
theorem short_rB (n : Nat) (ws : List (List Int)) (h : ∀ x ∈ ws, x.length ≤ 1000) (i : Nat) (hi : i ≤ ws.length) : Short (rB n ws i) := by
  induction i with
  | zero => exact Short.nil
  | succ i ih =>
    have hg : ws[i]? = some ws[i] := List.getElem?_eq_getElem (by omega)
    rw [rB_succ hg]
    exact (ih (by omega)).app (Short.one (short_B n i _ (h _ (List.getElem_mem _))))
theorem short_rulesCi (n l : Nat) (hs : List Int) (i : Int) (hl : l ≤ 1000) : Short (rulesCi n l hs i) := by
  unfold rulesCi
  split
  · exact Short.nil
  · exact short_map fun x hx => short_C n i x (by rw [wordsN_mem hx]; exact hl)
theorem short_rC (n l : Nat) (hs : List Int) (i : Nat) (hl : l ≤ 1000) : Short (rC n l hs i) := by
  induction i with
  | zero => exact Short.nil
  | succ i ih => rw [rC_succ]; exact ih.app (short_rulesCi n l hs i hl)
theorem rulesCi_len (n l : Nat) (hs : List Int) (i : Int) : (rulesCi n l hs i).length ≤ n ^ l := by
  unfold rulesCi
  split
  · exact Nat.zero_le _
  · rw [List.length_map, wordsN_len]; exact Nat.le_refl _
theorem rC_len (n l : Nat) (hs : List Int) (i : Nat) : (rC n l hs i).length ≤ i * n ^ l := by
  induction i with
  | zero => exact Nat.zero_le _
  | succ i ih => rw [rC_succ, List.length_append, Nat.succ_mul]; exact Nat.add_le_add ih (rulesCi_len n l hs i)
theorem pow_small {n l : Nat} (hn : n ≤ 4) (hl : l ≤ 3) : n ^ l ≤ 64 := by
  have h1 : n ^ l ≤ 4 ^ l := Nat.pow_le_pow_left hn l
  have h2 : 4 ^ l ≤ 4 ^ 3 := Nat.pow_le_pow_right (by omega) hl
  exact Nat.le_trans h1 (Nat.le_trans h2 (by decide))

/-- The word behind a word: all at the last letter, or one letter turned. -/
theorem nextW_all {n : Nat} : ∀ {x : List Int}, (∀ b ∈ x, b = (n : Int) - 1) → nextW n x = none := by
  intro x
  induction x with
  | nil => intro _; rfl
  | cons a x ih =>
    intro h
    rw [nextW, ih fun b hb => h b (List.mem_cons_of_mem _ hb)]
    simp [h a (List.mem_cons_self ..)]
theorem nextW_turn {n : Nat} {a : Int} {q : List Int} (ha : a ≠ (n : Int) - 1) (hq : ∀ b ∈ q, b = (n : Int) - 1) : ∀ p : List Int, nextW n (p ++ a :: q) = some (p ++ (a + 1) :: List.replicate q.length 0) := by
  intro p
  induction p with
  | nil => rw [List.nil_append, nextW, nextW_all hq]; simp [ha]
  | cons b p ih => rw [List.cons_append, nextW, ih]; rfl
theorem ChainW.none {n : Nat} {x : List Int} {l : List (List Int)} (h : ChainW n x l) (hx : nextW n x = none) : l = [x] := by
  cases h with
  | last h => rfl
  | step h t => rw [hx] at h; cases h
theorem ChainW.some {n : Nat} {x y : List Int} {l : List (List Int)} (h : ChainW n x l) (hx : nextW n x = some y) : ∃ t, l = x :: t ∧ ChainW n y t := by
  cases h with
  | last h => rw [hx] at h; cases h
  | step h t => rw [hx] at h; injection h with h; subst h; exact ⟨_, rfl, t⟩
theorem ChainW.head {n : Nat} {x : List Int} {l : List (List Int)} (h : ChainW n x l) : ∃ t, l = x :: t := by
  cases h with
  | last h => exact ⟨_, rfl⟩
  | step h t => exact ⟨_, rfl⟩

/-- TagToMarkov's answer. -/
def tagOk (d : Int) (ws : List (List Int)) (hs : List Int) : Bool := decide (2 * ws.length ≤ 9) && validMks (tagRules d ws hs)
def tagToMarkov (d : Int) (ws : List (List Int)) (hs : List Int) : List DMarkovRule × Int :=
  if validTag d ws hs then (if tagOk d ws hs then (tagRules d ws hs, 0) else ([], 5)) else ([], 1)
theorem validMks_sum {xs : List DMarkovRule} (h : validMks xs = true) : xs.length ≤ 60 ∧ sumMarkovRule xs ≤ 48000 := by
  have hl := validMks_len h
  refine ⟨hl.2, ?_⟩
  have h1 : ∀ r ∈ xs, wlMarkovRule r ≤ 800 := fun r hr => by
    obtain ⟨a, b⟩ := okMk_parts (okMk_at h hr)
    unfold isWordB at a b
    simp at a b
    unfold wlMarkovRule
    omega
  have h2 : ∀ ys : List DMarkovRule, (∀ r ∈ ys, wlMarkovRule r ≤ 800) → sumMarkovRule ys ≤ ys.length * 800 := by
    intro ys
    induction ys with
    | nil => intro _; simp [sumMarkovRule]
    | cons y ys ih =>
      intro h
      have k1 := h y (List.mem_cons_self ..)
      have k2 := ih fun r hr => h r (List.mem_cons_of_mem _ hr)
      simp only [sumMarkovRule, List.map_cons, List.sum_cons, List.length_cons] at *
      omega
  have := h2 xs h1
  omega
theorem bndTagToMarkov0 (d : Int) (ws : List (List Int)) (hs : List Int) (h0 : ws.length ≤ 1048576) (h1 : sumLen ws ≤ 1048576) (h2 : hs.length ≤ 1048576) : ((tagToMarkov d ws hs).1).length ≤ 1048576 ∧ sumMarkovRule ((tagToMarkov d ws hs).1) ≤ 1048576 := by
  have e0 : (tagToMarkov d ws hs).1 = [] ∨ ((tagToMarkov d ws hs).1 = tagRules d ws hs ∧ validMks (tagRules d ws hs) = true) := by
    unfold tagToMarkov
    by_cases h1 : validTag d ws hs = true
    · rw [if_pos h1]
      by_cases h3 : tagOk d ws hs = true
      · rw [if_pos h3]
        unfold tagOk at h3
        exact .inr ⟨rfl, (Bool.and_eq_true _ _ ▸ h3).2⟩
      · rw [if_neg h3]; exact .inl rfl
    · rw [if_neg h1]; exact .inl rfl
  rcases e0 with e | ⟨e, h⟩
  · rw [e]; exact ⟨Nat.zero_le _, Nat.zero_le _⟩
  · rw [e]
    have := validMks_sum h
    exact ⟨by omega, by omega⟩
theorem validTag_parts {d : Int} {ws : List (List Int)} {hs : List Int} (h : validTag d ws hs = true) : 1 ≤ d ∧ d ≤ 4 ∧ 1 ≤ ws.length ∧ ws.length ≤ 200 ∧ risesB hs 0 ((ws.length : Int) - 1) = true ∧ ∀ x ∈ ws, x.length ≤ 1000 ∧ ∀ a ∈ x, 0 ≤ a ∧ a ≤ (ws.length : Int) - 1 := by
  unfold validTag at h
  simp only [Bool.and_eq_true, inB_iff, List.all_eq_true] at h
  obtain ⟨h1, h2, h3, h4⟩ := h
  refine ⟨h1.1, h1.2, by omega, by omega, h3, fun x hx => ?_⟩
  have := h4 x hx
  unfold overB at this
  simp only [Bool.and_eq_true, List.all_eq_true, inB_iff, decide_eq_true_eq] at this
  exact ⟨this.2, this.1⟩
end Go.Proofs.Ytcfkjigapnknnaa
