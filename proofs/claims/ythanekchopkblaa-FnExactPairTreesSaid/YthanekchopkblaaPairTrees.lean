/- PairTrees, the reference's and the program's. -/
import Derived.Test.YthanekchopkblaaAreTrees
import Derived.Test.YthanekchopkblaaConcatBool
namespace Go.Proofs.Ythanekchopkblaa
open Go.RowKit
set_option linter.all false

def pairTrees (a b : List Bool) : List Bool × Int :=
  if isTreeB a && isTreeB b then (if a.length + b.length + 1 ≤ 2000 then (true :: (a ++ b), 0) else ([], 5)) else ([], 1)
theorem bndPairTrees0 (a b : List Bool) (h : a.length ≤ 1048576) (h2 : b.length ≤ 1048576) : (pairTrees a b).1.length ≤ 1048576 := by
  unfold pairTrees; split
  · split
    · simp; omega
    · simp
  · simp

set_option maxRecDepth 100000 in
theorem l21Pair_any (b1 o1 n1 c1 : Nat) (x : List Bool) (b2 o2 n2 c2 : Nat) (y : List Bool) (w : World) (hs1 : Sl w b1 o1 (x.map .bool)) (hl1 : x.length = n1) (hn1 : n1 ≤ 4194304) (hs2 : Sl w b2 o2 (y.map .bool)) (hl2 : y.length = n2) (hn2 : n2 ≤ 4194304) :
    Calls Try.prog 74 #[.slice (some ⟨b1, o1, none⟩) n1 c1, .slice (some ⟨b2, o2, none⟩) n2 c2] w fun e w' => ∃ v, e = .returned v ∧
      w'.ownsRow w.heap.size 4 1 v (1 + n1 + n2) ((true :: (x ++ y)).map .bool) ∧ Below w.heap.size w w' := by
  have HL1 := Lib.hid hl1; have HL2 := Lib.hid hl2
  clear hl1 hl2
  have hown0 : (w.alloc (.cells #[.bool true] 4)).ownsRow w.heap.size 4 1 (.slice (some ⟨w.heap.size, 0, none⟩) 1 1) 1 [.bool true] :=
    ⟨rfl, .inr ⟨w.heap.size, 1, #[.bool true], rfl, Nat.le_refl _, heap_alloc_new _ _, Nat.le_refl _, by simp [maxLen], rfl, rfl⟩⟩
  have hB0 := laid_below w (.cells #[.bool true] 4)
  have hsrc1 : Src 1 (w.alloc (.cells #[.bool true] 4)) (.slice (some ⟨b1, o1, none⟩) n1 c1) n1 (x.map .bool) := Src.of_sl (hs1.below' hB0) (by have := HL1.out; simp; omega)
  go_enter Try.func74, Try.ntmps74
  go_wp2_with (first
    | (at_builtin; refine wpList_appx rfl (.tmp 6) (.tmp 7) _ rfl Try.underlying22 infoBoolS rfl (by omega) w.heap.size hown0 hB0.size rfl hsrc1 rfl (one_bools _) (by unfold maxLen; omega) (by omega) ?_; intro v2 w2 hown2 hg2 hnil2; have hB2 := grown_below hB0 hown0 (Nat.le_refl _) hg2; have hsrc2 : Src 1 w2 (.slice (some ⟨b2, o2, none⟩) n2 c2) n2 (y.map .bool) := Src.of_sl (hs2.below' hB2) (by have := HL2.out; simp; omega); clear hnil2 hown0 hB0 hsrc1 hg2)
    | (at_builtin; refine wpList_appx rfl (.tmp 9) (.tmp 10) _ rfl Try.underlying22 infoBoolS rfl (by omega) w.heap.size hown2 hB2.size rfl hsrc2 rfl (one_bools _) (by unfold maxLen; omega) (by omega) ?_; intro v3 w3 hown3 hg3 hnil3; have hB3 := grown_below hB2 hown2 (Nat.le_refl _) hg3; clear hnil3 hown2 hB2 hsrc2 hg3))
  go_ret
  exact ⟨v3, rfl, by simpa using hown3, hB3⟩

theorem l21Fits_yes (n : Nat) (w : World) (A : Option Addr) (c : Nat) (h : n ≤ 2000) :
    Calls Try.prog 73 #[.slice A n c] w fun e w' => e = .returned (.tuple #[.slice A n c, .int .i64 0]) ∧ w = w' := by
  go_enter Try.func73, Try.ntmps73
  go_wp2_with fail
  go_ret2
  exact ⟨rfl, rfl⟩
theorem l21Fits_no (n : Nat) (w : World) (A : Option Addr) (c : Nat) (hn : n ≤ 9000000) (h : 2000 < n) :
    Calls Try.prog 73 #[.slice A n c] w fun e w' => e = .returned (.tuple #[.slice none 0 0, .int .i64 5]) ∧ w = w' := by
  go_enter Try.func73, Try.ntmps73
  go_wp2_with fail
  go_ret2
  exact ⟨rfl, rfl⟩

set_option maxRecDepth 100000 in
theorem specPairTrees_any (b1 o1 n1 c1 : Nat) (x : List Bool) (b2 o2 n2 c2 : Nat) (y : List Bool) (w : World) (hs1 : Sl w b1 o1 (x.map .bool)) (hl1 : x.length = n1) (hn1 : n1 ≤ 1048576) (hs2 : Sl w b2 o2 (y.map .bool)) (hl2 : y.length = n2) (hn2 : n2 ≤ 1048576) :
    Calls Try.prog 37 #[.slice (some ⟨b1, o1, none⟩) n1 c1, .slice (some ⟨b2, o2, none⟩) n2 c2] w fun e w' => ∃ v, e = .returned (.tuple #[v, .int .i64 (pairTrees x y).2]) ∧
      w'.ownsRow w.heap.size 4 1 v (pairTrees x y).1.length ((pairTrees x y).1.map .bool) ∧ Below w.heap.size w w' := by
  have HL1 := Lib.hid hl1; have HL2 := Lib.hid hl2
  clear hl1 hl2
  rcases Bool.eq_false_or_eq_true (isTreeB x) with h1 | h1
  rotate_left
  · have H1 := Lib.hid h1; clear h1
    have HE : Hid (pairTrees x y = ([], 1)) := by unfold Hid pairTrees; rw [H1.out]; rfl
    go_enter Try.func37, Try.ntmps37
    go_wp2_with fail
    refine (l21Is_is b1 o1 n1 c1 x false H1.out _ hs1 HL1.out (by omega)).mono ?_
    rintro e w' ⟨rfl, rfl⟩
    go_wp2_with fail
    go_ret2
    rw [HE.out]
    exact ⟨_, rfl, World.ownsRow_nil _ _ _ _, Below.refl _ _⟩
  rcases Bool.eq_false_or_eq_true (isTreeB y) with h2 | h2
  rotate_left
  · have H1 := Lib.hid h1; have H2 := Lib.hid h2; clear h1 h2
    have HE : Hid (pairTrees x y = ([], 1)) := by unfold Hid pairTrees; rw [H1.out, H2.out]; rfl
    go_enter Try.func37, Try.ntmps37
    go_wp2_with fail
    refine (l21Is_is b1 o1 n1 c1 x true H1.out _ hs1 HL1.out (by omega)).mono ?_
    rintro e w' ⟨rfl, rfl⟩
    go_wp2_with fail
    refine (l21Is_is b2 o2 n2 c2 y false H2.out _ hs2 HL2.out (by omega)).mono ?_
    rintro e w' ⟨rfl, rfl⟩
    go_wp2_with fail
    go_ret2
    rw [HE.out]
    exact ⟨_, rfl, World.ownsRow_nil _ _ _ _, Below.refl _ _⟩
  · have H1 := Lib.hid h1; have H2 := Lib.hid h2; clear h1 h2
    go_enter Try.func37, Try.ntmps37
    go_wp2_with fail
    refine (l21Is_is b1 o1 n1 c1 x true H1.out _ hs1 HL1.out (by omega)).mono ?_
    rintro e w' ⟨rfl, rfl⟩
    go_wp2_with fail
    refine (l21Is_is b2 o2 n2 c2 y true H2.out _ hs2 HL2.out (by omega)).mono ?_
    rintro e w' ⟨rfl, rfl⟩
    go_wp2_with fail
    refine (l21Pair_any b1 o1 n1 c1 x b2 o2 n2 c2 y w hs1 HL1.out (by omega) hs2 HL2.out (by omega)).mono ?_
    rintro e w1 ⟨v, rfl, hown, hB⟩
    obtain ⟨A, c, rfl⟩ := own_form hown
    go_wp2_with fail
    by_cases hf : 1 + n1 + n2 ≤ 2000
    · refine (l21Fits_yes (1 + n1 + n2) w1 A c hf).mono ?_
      rintro e w' ⟨rfl, rfl⟩
      go_wp2_with fail
      go_ret2
      have e : pairTrees x y = (true :: (x ++ y), 0) := by unfold pairTrees; rw [H1.out, H2.out]; simp only [Bool.and_self, if_true]; rw [if_pos (by have := HL1.out; have := HL2.out; omega)]
      rw [e]
      exact ⟨_, rfl, by have e2 : (true :: (x ++ y)).length = 1 + n1 + n2 := by (have := HL1.out; have := HL2.out; simp; omega)
                        rw [e2]; exact hown, hB⟩
    · refine (l21Fits_no (1 + n1 + n2) w1 A c (by omega) (by omega)).mono ?_
      rintro e w' ⟨rfl, rfl⟩
      go_wp2_with fail
      go_ret2
      have e : pairTrees x y = ([], 5) := by unfold pairTrees; rw [H1.out, H2.out]; simp only [Bool.and_self, if_true]; rw [if_neg (by have := HL1.out; have := HL2.out; omega)]
      rw [e]
      exact ⟨_, rfl, World.ownsRow_nil _ _ _ _, hB⟩

set_option maxRecDepth 100000 in
theorem implPairTrees_any (b1 o1 n1 c1 : Nat) (x : List Bool) (b2 o2 n2 c2 : Nat) (y : List Bool) (w : World) (hs1 : Sl w b1 o1 (x.map .bool)) (hl1 : x.length = n1) (hn1 : n1 ≤ 1048576) (hs2 : Sl w b2 o2 (y.map .bool)) (hl2 : y.length = n2) (hn2 : n2 ≤ 1048576) :
    Calls Try.prog 38 #[.slice (some ⟨b1, o1, none⟩) n1 c1, .slice (some ⟨b2, o2, none⟩) n2 c2] w fun e w' => ∃ v, e = .returned (.tuple #[v, .int .i64 (pairTrees x y).2]) ∧
      w'.ownsRow w.heap.size 4 1 v (pairTrees x y).1.length ((pairTrees x y).1.map .bool) ∧ Below w.heap.size w w' := by
  have HL1 := Lib.hid hl1; have HL2 := Lib.hid hl2
  clear hl1 hl2
  have hB0 := laid_below w (.cells #[.slice (some ⟨b1, o1, none⟩) n1 c1, .slice (some ⟨b2, o2, none⟩) n2 c2] 22)
  have htr : Trs (w.alloc (.cells #[.slice (some ⟨b1, o1, none⟩) n1 c1, .slice (some ⟨b2, o2, none⟩) n2 c2] 22)) [.slice (some ⟨b1, o1, none⟩) n1 c1, .slice (some ⟨b2, o2, none⟩) n2 c2] [x, y] := by
    refine ⟨rfl, fun j v t h1 h2 => ?_⟩
    match j, h1, h2 with
    | 0, h1, h2 => simp at h1 h2; subst h1; subst h2; exact ⟨b1, o1, c1, by rw [HL1.out], hs1.below' hB0, by have := HL1.out; omega⟩
    | 1, h1, h2 => simp at h1 h2; subst h1; subst h2; exact ⟨b2, o2, c2, by rw [HL2.out], hs2.below' hB0, by have := HL2.out; omega⟩
  have hsl : Sl (w.alloc (.cells #[.slice (some ⟨b1, o1, none⟩) n1 c1, .slice (some ⟨b2, o2, none⟩) n2 c2] 22)) w.heap.size 0 [.slice (some ⟨b1, o1, none⟩) n1 c1, .slice (some ⟨b2, o2, none⟩) n2 c2] :=
    sl_laid _ _ _
  rcases Bool.eq_false_or_eq_true (isTreeB x && isTreeB y) with h1 | h1
  rotate_left
  · have HE : Hid (pairTrees x y = ([], 1)) := by unfold Hid pairTrees; rw [h1]; rfl
    have H1 : Hid ([x, y].all isTreeB = false) := by unfold Hid; simpa using h1
    clear h1
    go_enter Try.func38, Try.ntmps38
    go_wp2_with fail
    refine (areTrees_is w.heap.size 0 2 2 _ [x, y] false H1.out _ hsl htr rfl (by omega)).mono ?_
    rintro e w' ⟨rfl, rfl⟩
    go_wp2_with fail
    go_ret2
    rw [HE.out]
    exact ⟨_, rfl, World.ownsRow_nil _ _ _ _, hB0⟩
  · have H1 : Hid ([x, y].all isTreeB = true) := by unfold Hid; simpa using h1
    have HP := Lib.hid h1
    have hxy : n1 ≤ 2000 ∧ n2 ≤ 2000 := by
      simp only [Bool.and_eq_true] at h1
      have a1 := ((isTree_iff x).1 h1.1).1; have a2 := ((isTree_iff y).1 h1.2).1
      have := HL1.out; have := HL2.out; omega
    obtain ⟨hx2, hy2⟩ := hxy
    clear h1
    by_cases hf : n1 + n2 + 1 ≤ 2000
    · go_enter Try.func38, Try.ntmps38
      go_wp2_with fail
      refine (areTrees_is w.heap.size 0 2 2 _ [x, y] true H1.out _ hsl htr rfl (by omega)).mono ?_
      rintro e w' ⟨rfl, rfl⟩
      generalize w.alloc (.cells #[.slice (some ⟨b1, o1, none⟩) n1 c1, .slice (some ⟨b2, o2, none⟩) n2 c2] 22) = w1 at *
      have hs1' := hs1.below' hB0
      have hs2' := hs2.below' hB0
      clear hsl htr
      have hA1 := laid_below w1 (.cells #[.bool true] 4)
      have hA2 := laid_below (w1.alloc (.cells #[.bool true] 4)) (.cells #[.slice (some ⟨w1.heap.size, 0, none⟩) 1 1, .slice (some ⟨b1, o1, none⟩) n1 c1, .slice (some ⟨b2, o2, none⟩) n2 c2] 22)
      have hsl2 := sl_laid (w1.alloc (.cells #[.bool true] 4)) #[.slice (some ⟨w1.heap.size, 0, none⟩) 1 1, .slice (some ⟨b1, o1, none⟩) n1 c1, .slice (some ⟨b2, o2, none⟩) n2 c2] 22
      rw [show (w1.alloc (.cells #[.bool true] 4)).heap.size = w1.heap.size + 1 from by simp] at hsl2
      have hone := (sl_laid w1 #[.bool true] 4).below' hA2
      have hs1'' := (hs1'.below' hA1).below' hA2
      have hs2'' := (hs2'.below' hA1).below' hA2
      have hB3 := below_step (below_step hB0 hA1) hA2
      have HSL := Lib.hid hsl2
      clear hA1 hA2 hs1' hs2' hsl2
      go_wp2_with fail
      generalize ((w1.alloc (.cells #[.bool true] 4)).alloc (.cells #[.slice (some ⟨w1.heap.size, 0, none⟩) 1 1, .slice (some ⟨b1, o1, none⟩) n1 c1, .slice (some ⟨b2, o2, none⟩) n2 c2] 22)) = w3 at *
      refine (concatBoolS_any (w1.heap.size + 1) 0 3 [.slice (some ⟨w1.heap.size, 0, none⟩) 1 1, .slice (some ⟨b1, o1, none⟩) n1 c1, .slice (some ⟨b2, o2, none⟩) n2 c2] [1, n1, n2] [[.bool true], x.map .bool, y.map .bool] w3 HSL.out ?_ (by simp; omega) (by simp)).mono ?_
      · refine ⟨rfl, rfl, fun j v n xs h1 h2 h3 => ?_⟩
        match j, h1, h2, h3 with
        | 0, h1, h2, h3 => simp at h1 h2 h3; subst h1; subst h2; subst h3; exact ⟨Src.of_sl hone rfl, by simp [Value.oneCell']⟩
        | 1, h1, h2, h3 => simp at h1 h2 h3; subst h1; subst h2; subst h3; exact ⟨Src.of_sl hs1'' (by have := HL1.out; simp; omega), one_bools _⟩
        | 2, h1, h2, h3 => simp at h1 h2 h3; subst h1; subst h2; subst h3; exact ⟨Src.of_sl hs2'' (by have := HL2.out; simp; omega), one_bools _⟩
      rintro e w4 ⟨v, rfl, hown, hB4, _⟩
      have hB5 := below_step hB3 hB4
      go_wp2_with fail
      go_ret2
      have e : pairTrees x y = (true :: (x ++ y), 0) := by unfold pairTrees; rw [HP.out]; simp only [if_true]; rw [if_pos (by have := HL1.out; have := HL2.out; omega)]
      rw [e]
      refine ⟨v, rfl, ?_, hB5⟩
      have e2 : (true :: (x ++ y)).length = [1, n1, n2].sum := by have := HL1.out; have := HL2.out; simp; omega
      rw [e2]
      exact own_base (by simpa using hown) hB3.size
    · have hf2 : 2000 < n1 + n2 + 1 := by omega
      go_enter Try.func38, Try.ntmps38
      go_wp2_with fail
      refine (areTrees_is w.heap.size 0 2 2 _ [x, y] true H1.out _ hsl htr rfl (by omega)).mono ?_
      rintro e w' ⟨rfl, rfl⟩
      go_wp2_with fail
      go_ret2
      have e : pairTrees x y = ([], 5) := by unfold pairTrees; rw [HP.out]; simp only [if_true]; rw [if_neg (by have := HL1.out; have := HL2.out; omega)]
      rw [e]
      exact ⟨_, rfl, World.ownsRow_nil _ _ _ _, hB0⟩
end Go.Proofs.Ythanekchopkblaa
