/- ReplaceAt and ReplaceFirst, the reference's and the program's. -/
import Derived.Test.YtjakgeblmkdbpaaAreWords
import Derived.Test.YtjakgeblmkdbpaaConcatInt
import Derived.StillTailTactics
namespace Go.Proofs.Ytjakgeblmkdbpaa
open Go.RowKit
set_option linter.all false

/-- A word with 'm' letters from 'k' on replaced. -/
def putL (xs : List Int) (k m : Nat) (ys : List Int) : List Int := xs.take k ++ ys ++ xs.drop (k + m)
theorem putL_length (xs : List Int) (k m : Nat) (ys : List Int) (h : k + m ≤ xs.length) : (putL xs k m ys).length = xs.length - m + ys.length := by
  unfold putL; simp; omega
/-- What the word laws answer: the word where it fits. -/
def fitL (xs : List Int) : List Int × Int := if xs.length ≤ 400 then (xs, 0) else ([], 5)
theorem fitL_yes {xs : List Int} (h : xs.length ≤ 400) : fitL xs = (xs, 0) := by unfold fitL; rw [if_pos h]
theorem fitL_no {xs : List Int} (h : 400 < xs.length) : fitL xs = ([], 5) := by unfold fitL; rw [if_neg (by omega)]
theorem isWord_len {xs : List Int} (h : isWordB xs = true) : xs.length ≤ 400 := by unfold isWordB at h; simp at h; exact h.1

theorem l00Own_any (b off n c : Nat) (xs : List Int) (w : World) (hs : Sl w b off (xs.map (.int .i64))) (hl : xs.length = n) (hn : n ≤ 4194304) :
    Calls Try.prog 164 #[.slice (some ⟨b, off, none⟩) n c] w fun e w' => ∃ v, e = .returned v ∧ w'.ownsRow w.heap.size 2 1 v n (xs.map (.int .i64)) ∧ Below w.heap.size w w' := by
  have HL := Lib.hid hl; clear hl
  have hown0 : (w.alloc (.cells #[] 2)).ownsRow w.heap.size 2 1 (.slice (some ⟨w.heap.size, 0, none⟩) 0 0) 0 [] := World.ownsRow_made w #[] 0 (by simp) (by simp [maxLen]) rfl
  have hB0 := laid_below w (.cells #[] 2)
  have hsrc : Src 1 (w.alloc (.cells #[] 2)) (.slice (some ⟨b, off, none⟩) n c) n (xs.map (.int .i64)) := Src.of_sl (hs.below' hB0) (by have := HL.out; simp; omega)
  go_enter Try.func164, Try.ntmps164
  go_wp2_with (at_builtin; refine wpList_appx rfl (.tmp 3) (.tmp 4) _ rfl Try.underlying25 infoInt64S rfl (by omega) w.heap.size hown0 hB0.size rfl hsrc rfl (one_ints _ _) (by unfold maxLen; omega) (by omega) ?_; intro v2 w2 hown2 hg2 hnil2; have hB2 := grown_below hB0 hown0 (Nat.le_refl _) hg2; clear hnil2 hown0 hB0 hsrc hg2)
  go_ret
  exact ⟨v2, rfl, by simpa using hown2, hB2⟩

set_option maxRecDepth 100000 in
theorem l03Put_any (b1 o1 n1 c1 : Nat) (x : List Int) (k m : Nat) (b2 o2 n2 c2 : Nat) (y : List Int) (w : World) (hs1 : Sl w b1 o1 (x.map (.int .i64))) (hl1 : x.length = n1) (hn1 : n1 ≤ 4194304) (hs2 : Sl w b2 o2 (y.map (.int .i64))) (hl2 : y.length = n2) (hn2 : n2 ≤ 4194304) (hk : k + m ≤ n1) (hc : n1 ≤ c1) :
    Calls Try.prog 158 #[.slice (some ⟨b1, o1, none⟩) n1 c1, .int .i64 k, .int .i64 m, .slice (some ⟨b2, o2, none⟩) n2 c2] w fun e w' => ∃ v, e = .returned v ∧
      w'.ownsRow w.heap.size 2 1 v (n1 - m + n2) ((putL x k m y).map (.int .i64)) ∧ Below w.heap.size w w' := by
  have HL1 := Lib.hid hl1; have HL2 := Lib.hid hl2
  clear hl1 hl2
  go_enter Try.func158, Try.ntmps158
  go_wp2_with fail
  refine (l00Own_any b1 o1 k _ (x.take k) w (hs1.to k) (by have := HL1.out; simp; omega) (by omega)).mono ?_
  rintro e w1 ⟨v1, rfl, hown1, hB1⟩
  obtain ⟨A1, d1, rfl⟩ := own_form hown1
  have hsrc1 : Src 1 w1 (.slice (some ⟨b2, o2, none⟩) n2 c2) n2 (y.map (.int .i64)) := Src.of_sl (hs2.below' hB1) (by have := HL2.out; simp; omega)
  have hdrop := hs1.from (k + m)
  have HDL : Hid ((x.drop (k + m)).length = n1 - (k + m)) := by have := HL1.out; unfold Hid; simp; omega
  have hB1b := hB1
  have hlast : ∀ (v3 : Value) (w3 : World), w3.ownsRow w.heap.size 2 1 v3 (k + n2 + (n1 - (k + m))) (List.map (Value.int .i64) (x.take k) ++ y.map (.int .i64) ++ (x.drop (k + m)).map (.int .i64)) → w3.ownsRow w.heap.size 2 1 v3 (n1 - m + n2) ((putL x k m y).map (.int .i64)) := by
    intro v3 w3 h
    have e : k + n2 + (n1 - (k + m)) = n1 - m + n2 := by omega
    rw [e] at h
    unfold putL
    rw [List.map_append, List.map_append]
    exact h
  have HLAST := Lib.hid hlast
  clear hlast
  by_cases hck : c1 = k + m
  · subst hck
    go_wp2_with (first
      | (at_builtin; refine wpList_appx rfl (.tmp 14) (.tmp 15) _ rfl Try.underlying25 infoInt64S rfl (by omega) w.heap.size hown1 hB1.size rfl hsrc1 rfl (one_ints _ _) (by unfold maxLen; omega) (by omega) ?_; intro v2 w2 hown2 hg2 hnil2; obtain ⟨A2, d2, rfl⟩ := own_form hown2; have hB2 := grown_below hB1 hown1 (Nat.le_refl _) hg2; have hsrc2 : ∀ c, Src 1 w2 (.slice (some ⟨b1, o1, none⟩) (n1 - (k + m)) c) (n1 - (k + m)) ((x.drop (k + m)).map (.int .i64)) := (by intro c; have e : n1 - (k + m) = 0 := (by omega); have e2 : x.drop (k + m) = [] := List.drop_of_length_le (by have := HL1.out; omega); rw [e, e2]; exact Src.of_sl (Sl.empty (hs1.below' hB2).1) rfl); clear hnil2 hown1 hB1 hsrc1 hg2)
      | (at_builtin; refine wpList_appx rfl (.tmp 17) (.tmp 22) _ rfl Try.underlying25 infoInt64S rfl (by omega) w.heap.size hown2 hB2.size rfl (hsrc2 _) rfl (one_ints _ _) (by unfold maxLen; omega) (by omega) ?_; intro v3 w3 hown3 hg3 hnil3; have hB3 := grown_below hB2 hown2 (Nat.le_refl _) hg3; clear hnil3 hown2 hB2 hsrc2 hg3))
    go_ret
    exact ⟨v3, rfl, HLAST.out _ _ hown3, hB3⟩
  · have hc2 : k + m < c1 := by omega
    go_wp2_with (first
      | (at_builtin; refine wpList_appx rfl (.tmp 14) (.tmp 15) _ rfl Try.underlying25 infoInt64S rfl (by omega) w.heap.size hown1 hB1.size rfl hsrc1 rfl (one_ints _ _) (by unfold maxLen; omega) (by omega) ?_; intro v2 w2 hown2 hg2 hnil2; obtain ⟨A2, d2, rfl⟩ := own_form hown2; have hB2 := grown_below hB1 hown1 (Nat.le_refl _) hg2; have hsrc2 : ∀ c, Src 1 w2 (.slice (some ⟨b1, o1 + (k + m), none⟩) (n1 - (k + m)) c) (n1 - (k + m)) ((x.drop (k + m)).map (.int .i64)) := (by intro c; exact Src.of_sl (hdrop.below' hB2) (by have := HDL.out; simp at this ⊢; omega)); clear hnil2 hown1 hB1 hsrc1 hg2)
      | (at_builtin; refine wpList_appx rfl (.tmp 17) (.tmp 22) _ rfl Try.underlying25 infoInt64S rfl (by omega) w.heap.size hown2 hB2.size rfl (hsrc2 _) rfl (one_ints _ _) (by unfold maxLen; omega) (by omega) ?_; intro v3 w3 hown3 hg3 hnil3; have hB3 := grown_below hB2 hown2 (Nat.le_refl _) hg3; clear hnil3 hown2 hB2 hsrc2 hg3))
    go_ret
    exact ⟨v3, rfl, HLAST.out _ _ hown3, hB3⟩

theorem fitting_yes (n : Nat) (w : World) (A : Option Addr) (c : Nat) (h : n ≤ 400) :
    Calls Try.prog 112 #[.slice A n c] w fun e w' => e = .returned (.tuple #[.slice A n c, .int .i64 0]) ∧ w = w' := by
  go_enter Try.func112, Try.ntmps112
  go_wp2_with fail
  go_ret2
  exact ⟨rfl, rfl⟩
theorem fitting_no (n : Nat) (w : World) (A : Option Addr) (c : Nat) (hn : n ≤ 9000000) (h : 400 < n) :
    Calls Try.prog 112 #[.slice A n c] w fun e w' => e = .returned (.tuple #[.slice none 0 0, .int .i64 5]) ∧ w = w' := by
  go_enter Try.func112, Try.ntmps112
  go_wp2_with fail
  go_ret2
  exact ⟨rfl, rfl⟩

set_option maxRecDepth 100000 in
theorem joined3_any (g off : Nat) (vs : List Value) (ns : List Nat) (xss : List (List Value)) (w : World) (hs : Sl w g off vs) (hv : SrcsInt64S w vs ns xss) (hsum : ns.sum ≤ 8388608) (hm : ns.length ≤ 1000) :
    Calls Try.prog 163 #[.slice (some ⟨g, off, none⟩) ns.length ns.length] w fun e w' => ∃ v, e = .returned v ∧ w'.ownsRow w.heap.size 2 1 v ns.sum xss.flatten ∧ Below w.heap.size w w' := by
  go_enter Try.func163, Try.ntmps163
  go_wp2_with fail
  refine (concatInt64S_any g off ns.length vs ns xss w hs hv hsum hm).mono ?_
  rintro e w' ⟨v, rfl, h1, h2, _⟩
  go_wp2_with fail
  go_ret
  exact ⟨v, rfl, h1, h2⟩

set_option maxRecDepth 100000 in
theorem replaced_any (b1 o1 n1 c1 : Nat) (x : List Int) (k m : Nat) (b2 o2 n2 c2 : Nat) (y : List Int) (w : World) (hs1 : Sl w b1 o1 (x.map (.int .i64))) (hl1 : x.length = n1) (hn1 : n1 ≤ 1048576) (hs2 : Sl w b2 o2 (y.map (.int .i64))) (hl2 : y.length = n2) (hn2 : n2 ≤ 1048576) (hk : k + m ≤ n1) (hc : n1 ≤ c1) :
    Calls Try.prog 113 #[.slice (some ⟨b1, o1, none⟩) n1 c1, .int .i64 k, .int .i64 m, .slice (some ⟨b2, o2, none⟩) n2 c2] w fun e w' => ∃ v, e = .returned v ∧
      w'.ownsRow w.heap.size 2 1 v (n1 - m + n2) ((putL x k m y).map (.int .i64)) ∧ Below w.heap.size w w' := by
  have HL1 := Lib.hid hl1; have HL2 := Lib.hid hl2
  clear hl1 hl2
  have i1 : (k : Int) ≤ (c1 : Int) := by omega
  have i2 : (k : Int) + (m : Int) ≤ (n1 : Int) := by omega
  have i3 : IntKind.i64.wrap ((k : Int) + (m : Int)) = (k : Int) + (m : Int) := IntWalk.i64_in _ (by omega)
  have i4 : 0 ≤ (k : Int) + (m : Int) := by omega
  have i5 : 0 ≤ (k : Int) := by omega
  have i6 : ((k : Int) + (m : Int)).toNat = k + m := by omega
  have hst : Sl w.drew b1 o1 ((x.take k).map (.int .i64)) := hs1.to k
  have hs2' : Sl w.drew b2 o2 (y.map (.int .i64)) := hs2
  have hBd : Below w.heap.size w w.drew := (Below.refl _ _).drew
  have hlast : ∀ (r : Nat), r = n1 - (k + m) → ∀ (v3 : Value) (w3 : World) (B : Nat), w.heap.size ≤ B → w3.ownsRow B 2 1 v3 [k, n2, r].sum [(x.take k).map (Value.int .i64), y.map (.int .i64), (x.drop (k + m)).map (.int .i64)].flatten → w3.ownsRow w.heap.size 2 1 v3 (n1 - m + n2) ((putL x k m y).map (.int .i64)) := by
    intro r hr v3 w3 B hB h
    subst hr
    have e : [k, n2, n1 - (k + m)].sum = n1 - m + n2 := by simp; omega
    rw [e] at h
    unfold putL
    rw [List.map_append, List.map_append]
    exact own_base (by simpa using h) hB
  have HLAST := Lib.hid hlast
  clear hlast
  by_cases hck : c1 = k + m
  · have hdrop : Sl w.drew b1 o1 ((x.drop (k + m)).map (.int .i64)) := by
      have e2 : x.drop (k + m) = [] := List.drop_of_length_le (by have := HL1.out; omega)
      rw [e2]; exact Sl.empty hs1.1
    have HDL : Hid ((x.drop (k + m)).length = n1 - (k + m)) := by have := HL1.out; unfold Hid; simp; omega
    subst hck
    have HZ : Hid (n1 - (k + m) = 0) := by unfold Hid; omega
    have i8 : (k : Int) ≤ (k : Int) + (m : Int) := by omega
    go_enter Try.func113, Try.ntmps113
    go_wp2_with fail
    go_still_tail 9, (by kernel_rfl)
    change wpList _ _ _ _ _ w.drew
    generalize w.drew = wd at *
    go_wp2_with fail
    refine (joined3_any wd.heap.size 0 [.slice (some ⟨b1, o1, none⟩) k _, .slice (some ⟨b2, o2, none⟩) n2 c2, .slice (some ⟨b1, o1, none⟩) 0 _] [k, n2, 0] [(x.take k).map (Value.int .i64), y.map (.int .i64), (x.drop (k + m)).map (.int .i64)] _ (sl_laid wd #[.slice (some ⟨b1, o1, none⟩) k _, .slice (some ⟨b2, o2, none⟩) n2 c2, .slice (some ⟨b1, o1, none⟩) 0 _] 25) ?_ (by simp; omega) (by simp)).mono ?_
    · have hA := laid_below wd (.cells #[.slice (some ⟨b1, o1, none⟩) k (k + m), .slice (some ⟨b2, o2, none⟩) n2 c2, .slice (some ⟨b1, o1, none⟩) 0 0] 25)
      refine ⟨rfl, rfl, fun j v n xs h1 h2 h3 => ?_⟩
      match j, h1, h2, h3 with
      | 0, h1, h2, h3 => simp only [List.getElem?_cons_zero, List.getElem?_cons_succ, Option.some.injEq] at h1 h2 h3; subst h1; subst h2; subst h3; exact ⟨Src.of_sl (hst.below' (laid_below wd _)) (by have := HL1.out; simp; omega), one_ints _ _⟩
      | 1, h1, h2, h3 => simp only [List.getElem?_cons_zero, List.getElem?_cons_succ, Option.some.injEq] at h1 h2 h3; subst h1; subst h2; subst h3; exact ⟨Src.of_sl (hs2'.below' (laid_below wd _)) (by have := HL2.out; simp; omega), one_ints _ _⟩
      | 2, h1, h2, h3 => simp only [List.getElem?_cons_zero, List.getElem?_cons_succ, Option.some.injEq] at h1 h2 h3; subst h1; subst h2; subst h3; exact ⟨Src.of_sl (hdrop.below' (laid_below wd _)) (by have := HDL.out; have := HZ.out; simp at *; omega), one_ints _ _⟩
    rintro e w4 ⟨v, rfl, hown, hB4⟩
    have hB5 := below_step (below_step hBd (laid_below wd _)) hB4
    have hown2 := HLAST.out 0 HZ.out.symm _ _ _ (by have := (laid_below wd _ : Below wd.heap.size wd (wd.alloc (.cells #[.slice (some ⟨b1, o1, none⟩) k (k + m), .slice (some ⟨b2, o2, none⟩) n2 c2, .slice (some ⟨b1, o1, none⟩) 0 0] 25))).size; have := hBd.size; simp at this ⊢; omega) hown
    clear hown hB4
    go_wp2_with fail
    go_ret
    exact ⟨v, rfl, hown2, hB5⟩
  · have hdrop : Sl w.drew b1 (o1 + (k + m)) ((x.drop (k + m)).map (.int .i64)) := hs1.from (k + m)
    have HDL : Hid ((x.drop (k + m)).length = n1 - (k + m)) := by have := HL1.out; unfold Hid; simp; omega
    go_enter Try.func113, Try.ntmps113
    go_wp2_with fail
    go_still_tail 9, (by kernel_rfl)
    change wpList _ _ _ _ _ w.drew
    generalize w.drew = wd at *
    go_wp2_with fail
    refine (joined3_any wd.heap.size 0 [.slice (some ⟨b1, o1, none⟩) k _, .slice (some ⟨b2, o2, none⟩) n2 c2, .slice (some ⟨b1, o1 + (k + m), none⟩) (n1 - (k + m)) _] [k, n2, n1 - (k + m)] [(x.take k).map (Value.int .i64), y.map (.int .i64), (x.drop (k + m)).map (.int .i64)] _ (sl_laid wd #[.slice (some ⟨b1, o1, none⟩) k _, .slice (some ⟨b2, o2, none⟩) n2 c2, .slice (some ⟨b1, o1 + (k + m), none⟩) (n1 - (k + m)) _] 25) ?_ (by simp; omega) (by simp)).mono ?_
    · have hA := laid_below wd (.cells #[.slice (some ⟨b1, o1, none⟩) k c1, .slice (some ⟨b2, o2, none⟩) n2 c2, .slice (some ⟨b1, o1 + (k + m), none⟩) (n1 - (k + m)) (c1 - (k + m))] 25)
      refine ⟨rfl, rfl, fun j v n xs h1 h2 h3 => ?_⟩
      match j, h1, h2, h3 with
      | 0, h1, h2, h3 => simp only [List.getElem?_cons_zero, List.getElem?_cons_succ, Option.some.injEq] at h1 h2 h3; subst h1; subst h2; subst h3; exact ⟨Src.of_sl (hst.below' (laid_below wd _)) (by have := HL1.out; simp; omega), one_ints _ _⟩
      | 1, h1, h2, h3 => simp only [List.getElem?_cons_zero, List.getElem?_cons_succ, Option.some.injEq] at h1 h2 h3; subst h1; subst h2; subst h3; exact ⟨Src.of_sl (hs2'.below' (laid_below wd _)) (by have := HL2.out; simp; omega), one_ints _ _⟩
      | 2, h1, h2, h3 => simp only [List.getElem?_cons_zero, List.getElem?_cons_succ, Option.some.injEq] at h1 h2 h3; subst h1; subst h2; subst h3; exact ⟨Src.of_sl (hdrop.below' (laid_below wd _)) (by have := HDL.out; simp at this ⊢; omega), one_ints _ _⟩
    rintro e w4 ⟨v, rfl, hown, hB4⟩
    have hB5 := below_step (below_step hBd (laid_below wd _)) hB4
    have hown2 := HLAST.out _ rfl _ _ _ (by have := (laid_below wd _ : Below wd.heap.size wd (wd.alloc (.cells #[.slice (some ⟨b1, o1, none⟩) k c1, .slice (some ⟨b2, o2, none⟩) n2 c2, .slice (some ⟨b1, o1 + (k + m), none⟩) (n1 - (k + m)) (c1 - (k + m))] 25))).size; have := hBd.size; simp at this ⊢; omega) hown
    clear hown hB4
    go_wp2_with fail
    go_ret
    exact ⟨v, rfl, hown2, hB5⟩
end Go.Proofs.Ytjakgeblmkdbpaa
