/- SuccessorsOf in plain words: the steps in order, the words that are new; keys in rising order. Plain definitions and lemmas. -/
import Derived.Test.YtjakgeblmkdbpaaRwPlain
import Derived.Sort.Walk0
namespace Go.Proofs.Ytjakgeblmkdbpaa
open Go.RowKit
set_option linter.all false

/-- The word behind a step at a place, if there is one. -/
def moveAt (r : DRewrite) (w : List Int) (k : Nat) : List (List Int) := if (stepRw r w k).2 = 0 then [(stepRw r w k).1] else []
def movesTo (r : DRewrite) (w : List Int) (k : Nat) : List (List Int) := (List.range k).flatMap (moveAt r w)
def movesIn (xs : List DRewrite) (w : List Int) : List (List Int) := xs.flatMap fun r => movesTo r w (w.length + 1)
theorem movesTo_succ (r : DRewrite) (w : List Int) (k : Nat) : movesTo r w (k + 1) = movesTo r w k ++ moveAt r w k := by
  unfold movesTo; rw [List.range_succ, List.flatMap_append]; simp
theorem movesTo_no {r : DRewrite} {w : List Int} {k : Nat} (h : (stepRw r w k).2 ≠ 0) : movesTo r w (k + 1) = movesTo r w k := by
  rw [movesTo_succ, moveAt, if_neg h, List.append_nil]
theorem movesTo_yes {r : DRewrite} {w z : List Int} {k : Nat} (h : stepRw r w k = (z, 0)) : movesTo r w (k + 1) = movesTo r w k ++ [z] := by
  rw [movesTo_succ, moveAt, h, if_pos rfl]
theorem movesIn_succ {xs : List DRewrite} {r : DRewrite} {i : Nat} (w : List Int) (h : xs[i]? = some r) : movesIn (xs.take (i + 1)) w = movesIn (xs.take i) w ++ movesTo r w (w.length + 1) := by
  unfold movesIn; rw [List.take_add_one, h, List.flatMap_append]; simp
theorem movesTo_len (r : DRewrite) (w : List Int) (k : Nat) : (movesTo r w k).length ≤ k := by
  induction k with
  | zero => simp [movesTo]
  | succ k ih =>
    rw [movesTo_succ, List.length_append]
    have : (moveAt r w k).length ≤ 1 := by unfold moveAt; split <;> simp
    omega
theorem movesIn_len (w : List Int) : ∀ xs : List DRewrite, (movesIn xs w).length ≤ xs.length * (w.length + 1)
  | [] => by simp [movesIn]
  | x :: xs => by
    have h1 := movesIn_len w xs
    have h2 := movesTo_len x w (w.length + 1)
    unfold movesIn at *
    rw [List.flatMap_cons, List.length_append, List.length_cons, Nat.succ_mul]
    omega
theorem movesTo_mem {r : DRewrite} {w z : List Int} {k : Nat} (h : z ∈ movesTo r w k) : ∃ j, j < k ∧ stepRw r w j = (z, 0) := by
  unfold movesTo at h
  obtain ⟨j, hj, hz⟩ := List.mem_flatMap.1 h
  refine ⟨j, List.mem_range.1 hj, ?_⟩
  unfold moveAt at hz
  split at hz
  · rename_i h0
    have e : z = (stepRw r w j).1 := by simpa using hz
    rw [e, ← h0]
  · cases hz
theorem movesIn_mem {xs : List DRewrite} {w z : List Int} (h : z ∈ movesIn xs w) : ∃ r ∈ xs, ∃ j, stepRw r w j = (z, 0) := by
  unfold movesIn at h
  obtain ⟨r, hr, hz⟩ := List.mem_flatMap.1 h
  obtain ⟨j, _, hj⟩ := movesTo_mem hz
  exact ⟨r, hr, j, hj⟩
theorem movesIn_word {xs : List DRewrite} {w z : List Int} (hv : validRws xs = true) (hw : isWordB w = true) (h : z ∈ movesIn xs w) : isWordB z = true := by
  obtain ⟨r, hr, j, hj⟩ := movesIn_mem h
  have := stepRw_word (k := j) hw (okRw_parts (okRw_at hv hr)).2.1 (by rw [hj])
  rwa [hj] at this

/-- A word that is not there yet is laid behind the others. -/
def addL (acc : List (List Int)) (x : List Int) : List (List Int) := if x ∈ acc then acc else acc ++ [x]
def dedup (ms : List (List Int)) : List (List Int) := ms.foldl addL []
theorem dedup_snoc (ms : List (List Int)) (x : List Int) : dedup (ms ++ [x]) = addL (dedup ms) x := by
  unfold dedup; rw [List.foldl_append]; rfl
theorem dedup_old {ms : List (List Int)} {x : List Int} (h : x ∈ dedup ms) : dedup (ms ++ [x]) = dedup ms := by rw [dedup_snoc, addL, if_pos h]
theorem dedup_new {ms : List (List Int)} {x : List Int} (h : x ∉ dedup ms) : dedup (ms ++ [x]) = dedup ms ++ [x] := by rw [dedup_snoc, addL, if_neg h]
theorem addL_mem {acc : List (List Int)} {x y : List Int} : y ∈ addL acc x ↔ y ∈ acc ∨ y = x := by
  unfold addL; split
  · rename_i h
    constructor
    · exact .inl
    · rintro (h1 | rfl)
      · exact h1
      · exact h
  · simp
theorem foldl_addL_mem (ms : List (List Int)) : ∀ (acc : List (List Int)) (y : List Int), y ∈ ms.foldl addL acc ↔ y ∈ acc ∨ y ∈ ms := by
  induction ms with
  | nil => intro acc y; simp
  | cons x ms ih =>
    intro acc y
    rw [List.foldl_cons, ih, addL_mem, List.mem_cons, or_assoc]
theorem dedup_mem {ms : List (List Int)} {y : List Int} : y ∈ dedup ms ↔ y ∈ ms := by
  unfold dedup; rw [foldl_addL_mem]; simp
theorem foldl_addL_len (ms : List (List Int)) : ∀ acc : List (List Int), (ms.foldl addL acc).length ≤ acc.length + ms.length := by
  induction ms with
  | nil => intro acc; simp
  | cons x ms ih =>
    intro acc
    have h := ih (addL acc x)
    have h2 : (addL acc x).length ≤ acc.length + 1 := by unfold addL; split <;> simp
    rw [List.foldl_cons, List.length_cons]
    omega
theorem dedup_len (ms : List (List Int)) : (dedup ms).length ≤ ms.length := by
  have := foldl_addL_len ms []
  unfold dedup; simpa using this

def succsOf (xs : List DRewrite) (w : List Int) : List (List Int) × Int :=
  if validRws xs && isWordB w then (dedup (movesIn xs w), 0) else ([], 1)
theorem succsOf_len (xs : List DRewrite) (w : List Int) : (succsOf xs w).1.length ≤ 24060 ∧ ∀ t ∈ (succsOf xs w).1, t.length ≤ 400 := by
  unfold succsOf; split
  · rename_i hv
    rw [Bool.and_eq_true] at hv
    have h1 := dedup_len (movesIn xs w)
    have h2 := movesIn_len w xs
    have h3 := (validRws_len hv.1).2
    have h4 := isWord_len hv.2
    have h5 : xs.length * (w.length + 1) ≤ 60 * 401 := Nat.mul_le_mul h3 (by omega)
    refine ⟨by show (dedup (movesIn xs w)).length ≤ _; omega, fun t ht => ?_⟩
    exact isWord_len (movesIn_word hv.1 hv.2 (dedup_mem.1 ht))
  · exact ⟨by simp, fun t ht => by cases ht⟩

/-- The key of a word. -/
def keyL (x : List Int) : List UInt8 := x.map fun a => UInt8.ofNat a.toNat
def keyB (x : List Int) : ByteArray := ⟨(keyL x).toArray⟩
theorem word_digits {x : List Int} (h : isWordB x = true) : ∀ a ∈ x, 0 ≤ a ∧ a ≤ 9 := by
  unfold isWordB at h
  rw [Bool.and_eq_true] at h
  intro a ha
  exact (inB_iff _ _ _).1 (List.all_eq_true.1 h.2 a ha)
theorem keyL_inj : ∀ {x y : List Int}, (∀ a ∈ x, 0 ≤ a ∧ a ≤ 9) → (∀ a ∈ y, 0 ≤ a ∧ a ≤ 9) → keyL x = keyL y → x = y
  | [], [], _, _, _ => rfl
  | [], _ :: _, _, _, h => by cases h
  | _ :: _, [], _, _, h => by cases h
  | a :: x, b :: y, hx, hy, h => by
    unfold keyL at h
    rw [List.map_cons, List.map_cons] at h
    injection h with h1 h2
    have h3 := hx a (by simp)
    have h4 := hy b (by simp)
    have h5 := congrArg UInt8.toNat h1
    rw [UInt8.toNat_ofNat', UInt8.toNat_ofNat'] at h5
    have e : a = b := by omega
    rw [e, keyL_inj (fun c hc => hx c (by simp [hc])) (fun c hc => hy c (by simp [hc])) h2]
theorem keyB_inj {x y : List Int} (hx : isWordB x = true) (hy : isWordB y = true) (h : keyB x = keyB y) : x = y := by
  unfold keyB at h
  injection h with h
  exact keyL_inj (word_digits hx) (word_digits hy) (by simpa using h)

/-! ### Keys in rising order -/
def baLt (a b : ByteArray) : Prop := a.toList < b.toList
theorem baLt_dec (a b : ByteArray) : Op.bytesLess a.toList b.toList = decide (a.toList < b.toList) := bytesLess_eq _ _
theorem baLt_irrefl (a : ByteArray) : ¬ baLt a a := by unfold baLt; exact List.lt_irrefl _
theorem baLt_trans {a b c : ByteArray} (h1 : baLt a b) (h2 : baLt b c) : baLt a c := by unfold baLt at *; exact List.lt_trans h1 h2
theorem baLt_total {a b : ByteArray} (h : ¬ baLt a b) (hne : a ≠ b) : baLt b a := by
  unfold baLt at *
  by_cases h2 : b.toList < a.toList
  · exact h2
  · have h3 : a.toList = b.toList := List.le_antisymm (List.not_lt.1 h2) (List.not_lt.1 h)
    rw [ByteArray.toList_eq, ByteArray.toList_eq] at h3
    exact absurd (by cases a; cases b; simpa using h3) hne
def Rising (ks : List ByteArray) : Prop := ks.Pairwise baLt
theorem Rising.at {ks : List ByteArray} (h : Rising ks) {i j : Nat} {a b : ByteArray} (hij : i < j) (ha : ks[i]? = some a) (hb : ks[j]? = some b) : baLt a b := by
  obtain ⟨h1, rfl⟩ := List.getElem?_eq_some_iff.1 ha
  obtain ⟨h2, rfl⟩ := List.getElem?_eq_some_iff.1 hb
  exact List.pairwise_iff_getElem.1 h i j h1 h2 hij
/-- Where a key lies, or would. -/
structure Place (ks : List ByteArray) (key : ByteArray) (low high : Nat) : Prop where
  le : low ≤ high
  len : high ≤ ks.length
  below : ∀ (j : Nat) a, j < low → ks[j]? = some a → baLt a key
  above : ∀ (j : Nat) a, high ≤ j → ks[j]? = some a → ¬ baLt a key
theorem Place.start (ks : List ByteArray) (key : ByteArray) : Place ks key 0 ks.length :=
  ⟨Nat.zero_le _, Nat.le_refl _, fun j a h => by omega, fun j a h1 h2 => by have := (List.getElem?_eq_some_iff.1 h2).1; omega⟩
theorem Place.up {ks : List ByteArray} {key a : ByteArray} {low high m : Nat} (hr : Rising ks) (h : Place ks key low high) (hm : m < high) (ha : ks[m]? = some a) (hl : baLt a key) : Place ks key (m + 1) high := by
  refine ⟨hm, h.len, fun j b hj hb => ?_, h.above⟩
  rcases Nat.lt_or_ge j m with h1 | h1
  · exact baLt_trans (hr.at h1 hb ha) hl
  · obtain rfl : j = m := by omega
    rw [ha] at hb; injection hb with hb; subst hb; exact hl
theorem Place.down {ks : List ByteArray} {key a : ByteArray} {low high m : Nat} (hr : Rising ks) (h : Place ks key low high) (hl : low ≤ m) (hm : m < high) (ha : ks[m]? = some a) (hn : ¬ baLt a key) : Place ks key low m := by
  refine ⟨hl, by have := h.len; omega, h.below, fun j b hj hb => ?_⟩
  rcases Nat.lt_or_ge m j with h1 | h1
  · exact fun h2 => hn (baLt_trans (hr.at h1 ha hb) h2)
  · obtain rfl : j = m := by omega
    rw [ha] at hb; injection hb with hb; subst hb; exact hn
theorem Place.fresh {ks : List ByteArray} {key : ByteArray} {p : Nat} (hr : Rising ks) (h : Place ks key p p) (hp : ks[p]? ≠ some key) : key ∉ ks := by
  intro hk
  obtain ⟨j, hj⟩ := List.getElem?_of_mem hk
  rcases Nat.lt_or_ge j p with h1 | h1
  · exact baLt_irrefl _ (h.below j key h1 hj)
  · rcases Nat.lt_or_ge p j with h2 | h2
    · obtain ⟨h3, _⟩ := List.getElem?_eq_some_iff.1 hj
      have h4 : ks[p]? = some ks[p] := List.getElem?_eq_getElem (by omega)
      exact h.above p _ (Nat.le_refl _) h4 (hr.at h2 h4 hj)
    · obtain rfl : j = p := by omega
      exact hp hj
def putAt (ks : List ByteArray) (p : Nat) (key : ByteArray) : List ByteArray := ks.take p ++ key :: ks.drop p
theorem putAt_mem {ks : List ByteArray} {p : Nat} {key x : ByteArray} : x ∈ putAt ks p key ↔ x = key ∨ x ∈ ks := by
  unfold putAt
  rw [List.mem_append, List.mem_cons]
  conv => rhs; rw [← List.take_append_drop p ks, List.mem_append]
  constructor
  · rintro (h | h | h)
    · exact .inr (.inl h)
    · exact .inl h
    · exact .inr (.inr h)
  · rintro (h | h | h)
    · exact .inr (.inl h)
    · exact .inl h
    · exact .inr (.inr h)
theorem putAt_len (ks : List ByteArray) (p : Nat) (key : ByteArray) : (putAt ks p key).length = ks.length + 1 := by
  unfold putAt
  rw [List.length_append, List.length_cons, List.length_take, List.length_drop]
  omega
theorem putAt_rising {ks : List ByteArray} {key : ByteArray} {p : Nat} (hr : Rising ks) (h : Place ks key p p) (hk : key ∉ ks) : Rising (putAt ks p key) := by
  unfold Rising putAt
  rw [List.pairwise_append]
  refine ⟨List.Pairwise.sublist (List.take_sublist _ _) hr, ?_, ?_⟩
  · rw [List.pairwise_cons]
    refine ⟨fun b hb => ?_, List.Pairwise.sublist (List.drop_sublist _ _) hr⟩
    obtain ⟨j, hj⟩ := List.getElem?_of_mem hb
    rw [List.getElem?_drop] at hj
    exact baLt_total (h.above (p + j) b (by omega) hj) (fun e => hk (e ▸ List.mem_of_getElem? hj))
  · intro a ha b hb
    obtain ⟨i, hi⟩ := List.getElem?_of_mem ha
    rw [List.getElem?_take] at hi
    split at hi
    · rename_i hip
      have hl := h.below i a hip hi
      rcases List.mem_cons.1 hb with rfl | hb
      · exact hl
      · obtain ⟨j, hj⟩ := List.getElem?_of_mem hb
        rw [List.getElem?_drop] at hj
        exact hr.at (by omega) hi hj
    · cases hi
end Go.Proofs.Ytjakgeblmkdbpaa
