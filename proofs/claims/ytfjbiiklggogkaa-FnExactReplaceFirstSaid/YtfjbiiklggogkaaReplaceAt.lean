/- ReplaceAt and ReplaceFirst: the walks. -/
import Derived.Test.YtfjbiiklggogkaaReplace
namespace Go.Proofs.Ytfjbiiklggogkaa
open Go.RowKit
set_option linter.all false

def wordsB (x p y : List Int) : Bool := isWordB x && isWordB p && isWordB y
def replaceAt (x : List Int) (at' : Int) (p y : List Int) : List Int × Int :=
  if wordsB x p y then
    if inB at' 0 x.length then
      if startsB x at'.toNat p then fitL (putL x at'.toNat p.length y) else ([], 3)
    else ([], 2)
  else ([], 1)
theorem fitL_bnd (xs : List Int) : (fitL xs).1.length ≤ 1048576 := by unfold fitL; split <;> simp <;> omega
theorem bndReplaceAt0 (x : List Int) (at' : Int) (p y : List Int) (h1 : x.length ≤ 1048576) (h2 : p.length ≤ 1048576) (h3 : y.length ≤ 1048576) : (replaceAt x at' p y).1.length ≤ 1048576 := by
  unfold replaceAt; split
  · split
    · split
      · exact fitL_bnd _
      · simp
    · simp
  · simp
theorem starts_le {x p : List Int} {k : Nat} (h : startsB x k p = true) : k + p.length ≤ x.length := by unfold startsB at h; simp at h; exact h.1
theorem starts_drop (x p : List Int) (k : Nat) (h : k ≤ x.length) : startsB (x.drop k) 0 p = startsB x k p := by
  unfold startsB
  simp only [List.drop_zero, List.length_drop, Nat.zero_add]
  congr 1
  rw [decide_eq_decide]; omega
theorem ends2 {v : Value} {a b : Int} (h : a = b) : Ending.returned (.tuple #[v, .int .i64 a]) = .returned (.tuple #[v, .int .i64 b]) := by rw [h]
/-- How the word laws end. -/
theorem own_nil' {w : World} {B : Nat} {r : List Int × Int} {k : Int} (h : r = ([], k)) : w.ownsRow B 2 1 (.slice none 0 0) r.1.length (r.1.map (.int .i64)) := by
  rw [h]; exact World.ownsRow_nil _ _ _ _
theorem own_fit {w : World} {B n : Nat} {v : Value} {r : List Int × Int} {k : Int} {xs : List Int} (h : r = (xs, k)) (hl : xs.length = n) (ho : w.ownsRow B 2 1 v n (xs.map (.int .i64))) : w.ownsRow B 2 1 v r.1.length (r.1.map (.int .i64)) := by
  subst hl; rw [h]; exact ho

set_option maxRecDepth 100000 in
set_option maxHeartbeats 1000000 in
theorem specReplaceAt_any (b1 o1 n1 c1 : Nat) (x : List Int) (at' : Int) (b2 o2 n2 c2 : Nat) (p : List Int) (b3 o3 n3 c3 : Nat) (y : List Int) (w : World) (hs1 : Sl w b1 o1 (x.map (.int .i64))) (hl1 : x.length = n1) (hn1 : n1 ≤ 1048576) (wf1 : Wf64s x) (wfa : Wf64 at') (hs2 : Sl w b2 o2 (p.map (.int .i64))) (hl2 : p.length = n2) (hn2 : n2 ≤ 1048576) (wf2 : Wf64s p) (hs3 : Sl w b3 o3 (y.map (.int .i64))) (hl3 : y.length = n3) (hn3 : n3 ≤ 1048576) (wf3 : Wf64s y) (hc : n1 ≤ c1 := by omega) :
    Calls Try.prog 34 #[.slice (some ⟨b1, o1, none⟩) n1 c1, .int .i64 at', .slice (some ⟨b2, o2, none⟩) n2 c2, .slice (some ⟨b3, o3, none⟩) n3 c3] w fun e w' => ∃ v, e = .returned (.tuple #[v, .int .i64 (replaceAt x at' p y).2]) ∧
      w'.ownsRow w.heap.size 2 1 v (replaceAt x at' p y).1.length ((replaceAt x at' p y).1.map (.int .i64)) ∧ Below w.heap.size w w' := by
  clear wf1 wf2 wf3 wfa
  have HL1 := Lib.hid hl1; have HL2 := Lib.hid hl2; have HL3 := Lib.hid hl3
  clear hl1 hl2 hl3
  rcases Bool.eq_false_or_eq_true (isWordB x) with h1 | h1
  rotate_left
  · have H1 := Lib.hid h1; clear h1
    have HE : Hid (replaceAt x at' p y = ([], 1)) := by unfold Hid replaceAt wordsB; rw [H1.out]; simp
    go_enter Try.func34, Try.ntmps34
    go_wp2_with fail
    refine (l03Is_is b1 o1 n1 c1 x false H1.out _ hs1 HL1.out (by omega)).mono ?_
    rintro e w' ⟨rfl, rfl⟩
    go_wp2_with fail
    go_ret2
    exact ⟨_, ends2 (by rw [HE.out]), own_nil' HE.out, Below.refl _ _⟩
  have H1 := Lib.hid h1; clear h1
  rcases Bool.eq_false_or_eq_true (isWordB p) with h2 | h2
  rotate_left
  · have H2 := Lib.hid h2; clear h2
    have HE : Hid (replaceAt x at' p y = ([], 1)) := by unfold Hid replaceAt wordsB; rw [H2.out]; simp
    go_enter Try.func34, Try.ntmps34
    go_wp2_with fail
    refine (l03Is_is b1 o1 n1 c1 x true H1.out _ hs1 HL1.out (by omega)).mono ?_
    rintro e w' ⟨rfl, rfl⟩
    go_wp2_with fail
    refine (l03Is_is b2 o2 n2 c2 p false H2.out _ hs2 HL2.out (by omega)).mono ?_
    rintro e w' ⟨rfl, rfl⟩
    go_wp2_with fail
    go_ret2
    exact ⟨_, ends2 (by rw [HE.out]), own_nil' HE.out, Below.refl _ _⟩
  have H2 := Lib.hid h2; clear h2
  rcases Bool.eq_false_or_eq_true (isWordB y) with h3 | h3
  rotate_left
  · have H3 := Lib.hid h3; clear h3
    have HE : Hid (replaceAt x at' p y = ([], 1)) := by unfold Hid replaceAt wordsB; rw [H3.out]; simp
    go_enter Try.func34, Try.ntmps34
    go_wp2_with fail
    refine (l03Is_is b1 o1 n1 c1 x true H1.out _ hs1 HL1.out (by omega)).mono ?_
    rintro e w' ⟨rfl, rfl⟩
    go_wp2_with fail
    refine (l03Is_is b2 o2 n2 c2 p true H2.out _ hs2 HL2.out (by omega)).mono ?_
    rintro e w' ⟨rfl, rfl⟩
    go_wp2_with fail
    refine (l03Is_is b3 o3 n3 c3 y false H3.out _ hs3 HL3.out (by omega)).mono ?_
    rintro e w' ⟨rfl, rfl⟩
    go_wp2_with fail
    go_ret2
    exact ⟨_, ends2 (by rw [HE.out]), own_nil' HE.out, Below.refl _ _⟩
  have H3 := Lib.hid h3; clear h3
  have HW : Hid (wordsB x p y = true) := by unfold Hid wordsB; rw [H1.out, H2.out, H3.out]; rfl
  have w1 := isWord_len H1.out; have w2 := isWord_len H2.out; have w3 := isWord_len H3.out
  rw [HL1.out] at w1; rw [HL2.out] at w2; rw [HL3.out] at w3
  rcases Bool.eq_false_or_eq_true (inB at' 0 n1) with hi | hi
  rotate_left
  · have HI := Lib.hid hi; clear hi
    have HE : Hid (replaceAt x at' p y = ([], 2)) := by unfold Hid replaceAt; rw [HW.out, HL1.out, HI.out]; simp
    go_enter Try.func34, Try.ntmps34
    go_wp2_with fail
    refine (l03Is_is b1 o1 n1 c1 x true H1.out _ hs1 HL1.out (by omega)).mono ?_
    rintro e w' ⟨rfl, rfl⟩
    go_wp2_with fail
    refine (l03Is_is b2 o2 n2 c2 p true H2.out _ hs2 HL2.out (by omega)).mono ?_
    rintro e w' ⟨rfl, rfl⟩
    go_wp2_with fail
    refine (l03Is_is b3 o3 n3 c3 y true H3.out _ hs3 HL3.out (by omega)).mono ?_
    rintro e w' ⟨rfl, rfl⟩
    go_wp2_with fail
    refine (l00In_is at' 0 n1 false HI.out _).mono ?_
    rintro e w' ⟨rfl, rfl⟩
    go_wp2_with fail
    go_ret2
    exact ⟨_, ends2 (by rw [HE.out]), own_nil' HE.out, Below.refl _ _⟩
  obtain ⟨k, rfl⟩ : ∃ k : Nat, at' = k := ⟨at'.toNat, by have := (inB_iff _ _ _).1 hi; omega⟩
  have hk : k ≤ n1 := by have := (inB_iff _ _ _).1 hi; omega
  have HI := Lib.hid hi; clear hi
  have HM : Hid (replaceAt x k p y = if startsB x k p then fitL (putL x k n2 y) else ([], 3)) := by unfold Hid replaceAt; rw [HW.out, HL1.out, HI.out, HL2.out]; simp
  rcases Bool.eq_false_or_eq_true (startsB x k p) with ht | ht
  rotate_left
  · have HT := Lib.hid ht; clear ht
    have HE : Hid (replaceAt x k p y = ([], 3)) := by unfold Hid; rw [HM.out, HT.out]; rfl
    go_enter Try.func34, Try.ntmps34
    go_wp2_with fail
    refine (l03Is_is b1 o1 n1 c1 x true H1.out _ hs1 HL1.out (by omega)).mono ?_
    rintro e w' ⟨rfl, rfl⟩
    go_wp2_with fail
    refine (l03Is_is b2 o2 n2 c2 p true H2.out _ hs2 HL2.out (by omega)).mono ?_
    rintro e w' ⟨rfl, rfl⟩
    go_wp2_with fail
    refine (l03Is_is b3 o3 n3 c3 y true H3.out _ hs3 HL3.out (by omega)).mono ?_
    rintro e w' ⟨rfl, rfl⟩
    go_wp2_with fail
    refine (l00In_is k 0 n1 true HI.out _).mono ?_
    rintro e w' ⟨rfl, rfl⟩
    go_wp2_with fail
    refine (l03At_is b1 o1 n1 c1 x k b2 o2 n2 c2 p false HT.out _ hs1 HL1.out (by omega) hs2 HL2.out (by omega) hk hc).mono ?_
    rintro e w' ⟨rfl, q, rfl⟩
    go_wp2_with fail
    go_ret2
    exact ⟨_, ends2 (by rw [HE.out]), own_nil' HE.out, below_drewN (Below.refl _ _) _⟩
  have hkm := starts_le ht
  rw [HL1.out, HL2.out] at hkm
  have HT := Lib.hid ht; clear ht
  have HE : Hid (replaceAt x k p y = fitL (putL x k n2 y)) := by unfold Hid; rw [HM.out, HT.out]; rfl
  have HPL : Hid ((putL x k n2 y).length = n1 - n2 + n3) := by unfold Hid; rw [putL_length _ _ _ _ (by have := HL1.out; omega), HL1.out, HL3.out]
  go_enter Try.func34, Try.ntmps34
  go_wp2_with fail
  refine (l03Is_is b1 o1 n1 c1 x true H1.out _ hs1 HL1.out (by omega)).mono ?_
  rintro e w' ⟨rfl, rfl⟩
  go_wp2_with fail
  refine (l03Is_is b2 o2 n2 c2 p true H2.out _ hs2 HL2.out (by omega)).mono ?_
  rintro e w' ⟨rfl, rfl⟩
  go_wp2_with fail
  refine (l03Is_is b3 o3 n3 c3 y true H3.out _ hs3 HL3.out (by omega)).mono ?_
  rintro e w' ⟨rfl, rfl⟩
  go_wp2_with fail
  refine (l00In_is k 0 n1 true HI.out _).mono ?_
  rintro e w' ⟨rfl, rfl⟩
  go_wp2_with fail
  refine (l03At_is b1 o1 n1 c1 x k b2 o2 n2 c2 p true HT.out _ hs1 HL1.out (by omega) hs2 HL2.out (by omega) hk hc).mono ?_
  rintro e w' ⟨rfl, q, rfl⟩
  have hBq : Below w.heap.size w (w.drewN q) := below_drewN (Below.refl _ _) q
  have hs1q := hs1.below' hBq
  have hs3q := hs3.below' hBq
  go_wp2_with fail
  refine (l03Put_any b1 o1 n1 c1 x k n2 b3 o3 n3 c3 y _ (by exact hs1q) HL1.out (by omega) (by exact hs3q) HL3.out (by omega) hkm hc).mono ?_
  rintro e w1' ⟨v, rfl, hown, hB⟩
  obtain ⟨A, d, rfl⟩ := own_form hown
  have hB2 := below_step hBq hB
  have hown2 := own_base hown hBq.size
  clear hown hB
  by_cases hf : n1 - n2 + n3 ≤ 400
  · have HE2 : Hid (replaceAt x k p y = (putL x k n2 y, 0)) := by unfold Hid; rw [HE.out, fitL_yes (by have := HPL.out; omega)]
    go_wp2_with fail
    go_ret2
    exact ⟨_, ends2 (by rw [HE2.out]), own_fit HE2.out HPL.out hown2, hB2⟩
  · have HE2 : Hid (replaceAt x k p y = ([], 5)) := by unfold Hid; rw [HE.out, fitL_no (by have := HPL.out; omega)]
    go_wp2_with fail
    go_ret2
    exact ⟨_, ends2 (by rw [HE2.out]), own_nil' HE2.out, hB2⟩

set_option maxRecDepth 100000 in
set_option maxHeartbeats 1000000 in
theorem implReplaceAt_any (b1 o1 n1 c1 : Nat) (x : List Int) (at' : Int) (b2 o2 n2 c2 : Nat) (p : List Int) (b3 o3 n3 c3 : Nat) (y : List Int) (w : World) (hs1 : Sl w b1 o1 (x.map (.int .i64))) (hl1 : x.length = n1) (hn1 : n1 ≤ 1048576) (wf1 : Wf64s x) (wfa : Wf64 at') (hs2 : Sl w b2 o2 (p.map (.int .i64))) (hl2 : p.length = n2) (hn2 : n2 ≤ 1048576) (wf2 : Wf64s p) (hs3 : Sl w b3 o3 (y.map (.int .i64))) (hl3 : y.length = n3) (hn3 : n3 ≤ 1048576) (wf3 : Wf64s y) (hc : n1 ≤ c1 := by omega) :
    Calls Try.prog 35 #[.slice (some ⟨b1, o1, none⟩) n1 c1, .int .i64 at', .slice (some ⟨b2, o2, none⟩) n2 c2, .slice (some ⟨b3, o3, none⟩) n3 c3] w fun e w' => ∃ v, e = .returned (.tuple #[v, .int .i64 (replaceAt x at' p y).2]) ∧
      w'.ownsRow w.heap.size 2 1 v (replaceAt x at' p y).1.length ((replaceAt x at' p y).1.map (.int .i64)) ∧ Below w.heap.size w w' := by
  clear wf1 wf2 wf3 wfa
  have HL1 := Lib.hid hl1; have HL2 := Lib.hid hl2; have HL3 := Lib.hid hl3
  clear hl1 hl2 hl3
  have hB0 := laid_below w (.cells #[.slice (some ⟨b1, o1, none⟩) n1 c1, .slice (some ⟨b2, o2, none⟩) n2 c2, .slice (some ⟨b3, o3, none⟩) n3 c3] 22)
  have htr : Wds (w.alloc (.cells #[.slice (some ⟨b1, o1, none⟩) n1 c1, .slice (some ⟨b2, o2, none⟩) n2 c2, .slice (some ⟨b3, o3, none⟩) n3 c3] 22)) [.slice (some ⟨b1, o1, none⟩) n1 c1, .slice (some ⟨b2, o2, none⟩) n2 c2, .slice (some ⟨b3, o3, none⟩) n3 c3] [x, p, y] := by
    refine ⟨rfl, fun j v t h1 h2 => ?_⟩
    match j, h1, h2 with
    | 0, h1, h2 => simp at h1 h2; subst h1; subst h2; exact ⟨b1, o1, c1, by rw [HL1.out], hs1.below' hB0, by have := HL1.out; omega⟩
    | 1, h1, h2 => simp at h1 h2; subst h1; subst h2; exact ⟨b2, o2, c2, by rw [HL2.out], hs2.below' hB0, by have := HL2.out; omega⟩
    | 2, h1, h2 => simp at h1 h2; subst h1; subst h2; exact ⟨b3, o3, c3, by rw [HL3.out], hs3.below' hB0, by have := HL3.out; omega⟩
  have hsl : Sl (w.alloc (.cells #[.slice (some ⟨b1, o1, none⟩) n1 c1, .slice (some ⟨b2, o2, none⟩) n2 c2, .slice (some ⟨b3, o3, none⟩) n3 c3] 22)) w.heap.size 0 [.slice (some ⟨b1, o1, none⟩) n1 c1, .slice (some ⟨b2, o2, none⟩) n2 c2, .slice (some ⟨b3, o3, none⟩) n3 c3] := sl_laid _ _ _
  rcases Bool.eq_false_or_eq_true (wordsB x p y) with h1 | h1
  rotate_left
  · have HE : Hid (replaceAt x at' p y = ([], 1)) := by unfold Hid replaceAt; rw [h1]; rfl
    have H1 : Hid ([x, p, y].all isWordB = false) := by unfold Hid; unfold wordsB at h1; simpa [Bool.and_assoc] using h1
    clear h1
    go_enter Try.func35, Try.ntmps35
    go_wp2_with fail
    refine (areWords_is w.heap.size 0 3 3 _ [x, p, y] false H1.out _ hsl htr rfl (by omega)).mono ?_
    rintro e w' ⟨rfl, rfl⟩
    go_wp2_with fail
    go_ret2
    exact ⟨_, ends2 (by rw [HE.out]), own_nil' HE.out, hB0⟩
  have H1 : Hid ([x, p, y].all isWordB = true) := by unfold Hid; unfold wordsB at h1; simpa [Bool.and_assoc] using h1
  have HW := Lib.hid h1
  have w123 : n1 ≤ 400 ∧ n2 ≤ 400 ∧ n3 ≤ 400 := by
    unfold wordsB at h1
    simp only [Bool.and_eq_true] at h1
    have a1 := isWord_len h1.1.1; have a2 := isWord_len h1.1.2; have a3 := isWord_len h1.2
    rw [HL1.out] at a1; rw [HL2.out] at a2; rw [HL3.out] at a3
    exact ⟨a1, a2, a3⟩
  obtain ⟨w1, w2, w3⟩ := w123
  clear h1
  rcases Bool.eq_false_or_eq_true (inB at' 0 n1) with hi | hi
  rotate_left
  · have HI := Lib.hid hi; clear hi
    have HE : Hid (replaceAt x at' p y = ([], 2)) := by unfold Hid replaceAt; rw [HW.out, HL1.out, HI.out]; simp
    go_enter Try.func35, Try.ntmps35
    go_wp2_with fail
    refine (areWords_is w.heap.size 0 3 3 _ [x, p, y] true H1.out _ hsl htr rfl (by omega)).mono ?_
    rintro e w' ⟨rfl, rfl⟩
    generalize w.alloc (.cells #[.slice (some ⟨b1, o1, none⟩) n1 c1, .slice (some ⟨b2, o2, none⟩) n2 c2, .slice (some ⟨b3, o3, none⟩) n3 c3] 22) = wa at *
    have hs1' := hs1.below' hB0
    have hs2' := hs2.below' hB0
    have hs3' := hs3.below' hB0
    clear hsl htr
    go_wp2_with fail
    refine (size_int64_any _ n1 c1 _).mono ?_
    rintro e w' ⟨rfl, rfl⟩
    go_wp2_with fail
    refine (within_is at' 0 n1 false HI.out _).mono ?_
    rintro e w' ⟨rfl, rfl⟩
    go_wp2_with fail
    go_ret2
    exact ⟨_, ends2 (by rw [HE.out]), own_nil' HE.out, hB0⟩
  obtain ⟨k, rfl⟩ : ∃ k : Nat, at' = k := ⟨at'.toNat, by have := (inB_iff _ _ _).1 hi; omega⟩
  have hk : k ≤ n1 := by have := (inB_iff _ _ _).1 hi; omega
  have HI := Lib.hid hi; clear hi
  have HM : Hid (replaceAt x k p y = if startsB x k p then fitL (putL x k n2 y) else ([], 3)) := by unfold Hid replaceAt; rw [HW.out, HL1.out, HI.out, HL2.out]; simp
  rcases Bool.eq_false_or_eq_true (startsB x k p) with ht | ht
  rotate_left
  · have HT : Hid (startsB (x.drop k) 0 p = false) := by unfold Hid; rw [starts_drop _ _ _ (by have := HL1.out; omega)]; exact ht
    have HE : Hid (replaceAt x k p y = ([], 3)) := by unfold Hid; rw [HM.out, ht]; rfl
    clear ht
    by_cases hck : c1 = k
    · have HD0 : Hid (x.drop k = []) := by unfold Hid; exact List.drop_of_length_le (by have := HL1.out; omega)
      subst hck
      go_enter Try.func35, Try.ntmps35
      go_wp2_with fail
      refine (areWords_is w.heap.size 0 3 3 _ [x, p, y] true H1.out _ hsl htr rfl (by omega)).mono ?_
      rintro e w' ⟨rfl, rfl⟩
      generalize w.alloc (.cells #[.slice (some ⟨b1, o1, none⟩) n1 c1, .slice (some ⟨b2, o2, none⟩) n2 c2, .slice (some ⟨b3, o3, none⟩) n3 c3] 22) = wa at *
      have hs1' := hs1.below' hB0
      have hs2' := hs2.below' hB0
      have hs3' := hs3.below' hB0
      clear hsl htr
      go_wp2_with fail
      refine (size_int64_any _ n1 c1 _).mono ?_
      rintro e w' ⟨rfl, rfl⟩
      go_wp2_with fail
      refine (within_is c1 0 n1 true HI.out _).mono ?_
      rintro e w' ⟨rfl, rfl⟩
      go_wp2_with fail
      refine (begins_is _ _ _ _ (x.drop c1) b2 o2 n2 c2 p false HT.out _ (by rw [HD0.out]; exact Sl.empty hs1'.1) (by have := HL1.out; rw [List.length_drop]; omega) (by omega) (by exact hs2') HL2.out (by omega) (by omega)).mono ?_
      rintro e w' ⟨rfl, q, rfl⟩
      have hBq : Below w.heap.size w (wa.drewN q) := below_drewN hB0 q
      go_wp2_with fail
      go_ret2
      exact ⟨_, ends2 (by rw [HE.out]), own_nil' HE.out, hBq⟩
    · go_enter Try.func35, Try.ntmps35
      go_wp2_with fail
      refine (areWords_is w.heap.size 0 3 3 _ [x, p, y] true H1.out _ hsl htr rfl (by omega)).mono ?_
      rintro e w' ⟨rfl, rfl⟩
      generalize w.alloc (.cells #[.slice (some ⟨b1, o1, none⟩) n1 c1, .slice (some ⟨b2, o2, none⟩) n2 c2, .slice (some ⟨b3, o3, none⟩) n3 c3] 22) = wa at *
      have hs1' := hs1.below' hB0
      have hs2' := hs2.below' hB0
      have hs3' := hs3.below' hB0
      clear hsl htr
      go_wp2_with fail
      refine (size_int64_any _ n1 c1 _).mono ?_
      rintro e w' ⟨rfl, rfl⟩
      go_wp2_with fail
      refine (within_is k 0 n1 true HI.out _).mono ?_
      rintro e w' ⟨rfl, rfl⟩
      have hdr := hs1'.from k
      go_wp2_with fail
      refine (begins_is _ _ (n1 - k) _ (x.drop k) b2 o2 n2 c2 p false HT.out _ hdr (by have := HL1.out; simp; omega) (by omega) (by exact hs2') HL2.out (by omega) (by omega)).mono ?_
      rintro e w' ⟨rfl, q, rfl⟩
      have hBq : Below w.heap.size w (wa.drewN q) := below_drewN hB0 q
      go_wp2_with fail
      go_ret2
      exact ⟨_, ends2 (by rw [HE.out]), own_nil' HE.out, hBq⟩
  have hkm := starts_le ht
  rw [HL1.out, HL2.out] at hkm
  have HT : Hid (startsB (x.drop k) 0 p = true) := by unfold Hid; rw [starts_drop _ _ _ (by have := HL1.out; omega)]; exact ht
  have HE : Hid (replaceAt x k p y = fitL (putL x k n2 y)) := by unfold Hid; rw [HM.out, ht]; rfl
  clear ht
  have HPL : Hid ((putL x k n2 y).length = n1 - n2 + n3) := by unfold Hid; rw [putL_length _ _ _ _ (by have := HL1.out; omega), HL1.out, HL3.out]
  by_cases hck : c1 = k
  · have HD0 : Hid (x.drop k = []) := by unfold Hid; exact List.drop_of_length_le (by have := HL1.out; omega)
    subst hck
    go_enter Try.func35, Try.ntmps35
    go_wp2_with fail
    refine (areWords_is w.heap.size 0 3 3 _ [x, p, y] true H1.out _ hsl htr rfl (by omega)).mono ?_
    rintro e w' ⟨rfl, rfl⟩
    generalize w.alloc (.cells #[.slice (some ⟨b1, o1, none⟩) n1 c1, .slice (some ⟨b2, o2, none⟩) n2 c2, .slice (some ⟨b3, o3, none⟩) n3 c3] 22) = wa at *
    have hs1' := hs1.below' hB0
    have hs2' := hs2.below' hB0
    have hs3' := hs3.below' hB0
    clear hsl htr
    go_wp2_with fail
    refine (size_int64_any _ n1 c1 _).mono ?_
    rintro e w' ⟨rfl, rfl⟩
    go_wp2_with fail
    refine (within_is c1 0 n1 true HI.out _).mono ?_
    rintro e w' ⟨rfl, rfl⟩
    go_wp2_with fail
    refine (begins_is _ _ _ _ (x.drop c1) b2 o2 n2 c2 p true HT.out _ (by rw [HD0.out]; exact Sl.empty hs1'.1) (by have := HL1.out; rw [List.length_drop]; omega) (by omega) (by exact hs2') HL2.out (by omega) (by omega)).mono ?_
    rintro e w' ⟨rfl, q, rfl⟩
    have hBq : Below w.heap.size w (wa.drewN q) := below_drewN hB0 q
    have hs1q : Sl (wa.drewN q) b1 o1 (x.map (.int .i64)) := hs1'
    have hs3q : Sl (wa.drewN q) b3 o3 (y.map (.int .i64)) := hs3'
    go_wp2_with fail
    refine (replaced_any b1 o1 n1 c1 x c1 n2 b3 o3 n3 c3 y _ (by exact hs1q) HL1.out (by omega) (by exact hs3q) HL3.out (by omega) hkm hc).mono ?_
    rintro e w1' ⟨v, rfl, hown, hB⟩
    obtain ⟨A, d, rfl⟩ := own_form hown
    have hB2 := below_step hBq hB
    have hown2 := own_base hown hBq.size
    clear hown hB
    go_wp2_with fail
    by_cases hf : n1 - n2 + n3 ≤ 400
    · have HE2 : Hid (replaceAt x c1 p y = (putL x c1 n2 y, 0)) := by unfold Hid; rw [HE.out, fitL_yes (by have := HPL.out; omega)]
      refine (fitting_yes (n1 - n2 + n3) w1' A d hf).mono ?_
      rintro e w' ⟨rfl, rfl⟩
      go_wp2_with fail
      go_ret2
      exact ⟨_, ends2 (by rw [HE2.out]), own_fit HE2.out HPL.out hown2, hB2⟩
    · have HE2 : Hid (replaceAt x c1 p y = ([], 5)) := by unfold Hid; rw [HE.out, fitL_no (by have := HPL.out; omega)]
      refine (fitting_no (n1 - n2 + n3) w1' A d (by omega) (by omega)).mono ?_
      rintro e w' ⟨rfl, rfl⟩
      go_wp2_with fail
      go_ret2
      exact ⟨_, ends2 (by rw [HE2.out]), own_nil' HE2.out, hB2⟩
  · go_enter Try.func35, Try.ntmps35
    go_wp2_with fail
    refine (areWords_is w.heap.size 0 3 3 _ [x, p, y] true H1.out _ hsl htr rfl (by omega)).mono ?_
    rintro e w' ⟨rfl, rfl⟩
    generalize w.alloc (.cells #[.slice (some ⟨b1, o1, none⟩) n1 c1, .slice (some ⟨b2, o2, none⟩) n2 c2, .slice (some ⟨b3, o3, none⟩) n3 c3] 22) = wa at *
    have hs1' := hs1.below' hB0
    have hs2' := hs2.below' hB0
    have hs3' := hs3.below' hB0
    clear hsl htr
    go_wp2_with fail
    refine (size_int64_any _ n1 c1 _).mono ?_
    rintro e w' ⟨rfl, rfl⟩
    go_wp2_with fail
    refine (within_is k 0 n1 true HI.out _).mono ?_
    rintro e w' ⟨rfl, rfl⟩
    have hdr := hs1'.from k
    go_wp2_with fail
    refine (begins_is _ _ (n1 - k) _ (x.drop k) b2 o2 n2 c2 p true HT.out _ hdr (by have := HL1.out; simp; omega) (by omega) (by exact hs2') HL2.out (by omega) (by omega)).mono ?_
    rintro e w' ⟨rfl, q, rfl⟩
    have hBq : Below w.heap.size w (wa.drewN q) := below_drewN hB0 q
    have hs1q : Sl (wa.drewN q) b1 o1 (x.map (.int .i64)) := hs1'
    have hs3q : Sl (wa.drewN q) b3 o3 (y.map (.int .i64)) := hs3'
    go_wp2_with fail
    refine (replaced_any b1 o1 n1 c1 x k n2 b3 o3 n3 c3 y _ (by exact hs1q) HL1.out (by omega) (by exact hs3q) HL3.out (by omega) hkm hc).mono ?_
    rintro e w1' ⟨v, rfl, hown, hB⟩
    obtain ⟨A, d, rfl⟩ := own_form hown
    have hB2 := below_step hBq hB
    have hown2 := own_base hown hBq.size
    clear hown hB
    go_wp2_with fail
    by_cases hf : n1 - n2 + n3 ≤ 400
    · have HE2 : Hid (replaceAt x k p y = (putL x k n2 y, 0)) := by unfold Hid; rw [HE.out, fitL_yes (by have := HPL.out; omega)]
      refine (fitting_yes (n1 - n2 + n3) w1' A d hf).mono ?_
      rintro e w' ⟨rfl, rfl⟩
      go_wp2_with fail
      go_ret2
      exact ⟨_, ends2 (by rw [HE2.out]), own_fit HE2.out HPL.out hown2, hB2⟩
    · have HE2 : Hid (replaceAt x k p y = ([], 5)) := by unfold Hid; rw [HE.out, fitL_no (by have := HPL.out; omega)]
      refine (fitting_no (n1 - n2 + n3) w1' A d (by omega) (by omega)).mono ?_
      rintro e w' ⟨rfl, rfl⟩
      go_wp2_with fail
      go_ret2
      exact ⟨_, ends2 (by rw [HE2.out]), own_nil' HE2.out, hB2⟩
end Go.Proofs.Ytfjbiiklggogkaa
