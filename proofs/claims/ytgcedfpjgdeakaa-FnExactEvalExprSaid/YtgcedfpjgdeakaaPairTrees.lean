/- PairTrees, the reference's and the program's. -/
import Derived.Test.YtgcedfpjgdeakaaAreTrees
import Derived.Test.YtgcedfpjgdeakaaConcatBool
namespace Go.Proofs.Ytgcedfpjgdeakaa
open Go.RowKit
set_option linter.all false

def pairTrees (a b : List Bool) : List Bool × Int :=
  if isTreeB a && isTreeB b then (if a.length + b.length + 1 ≤ 2000 then (true :: (a ++ b), 0) else ([], 5)) else ([], 1)
theorem bndPairTrees0 (a b : List Bool) (h : a.length ≤ 1048576) (h2 : b.length ≤ 1048576) : (pairTrees a b).1.length ≤ 1048576 := by
  unfold pairTrees; split
  · split
    · simp; omega
    · simp
  · simp

set_option maxRecDepth 100000 in
theorem l21Pair_any (b1 o1 n1 c1 : Nat) (x : List Bool) (b2 o2 n2 c2 : Nat) (y : List Bool) (w : World) (hs1 : Sl w b1 o1 (x.map .bool)) (hl1 : x.length = n1) (hn1 : n1 ≤ 4194304) (hs2 : Sl w b2 o2 (y.map .bool)) (hl2 : y.length = n2) (hn2 : n2 ≤ 4194304) :
    Calls Try.prog 55 #[.slice (some ⟨b1, o1, none⟩) n1 c1, .slice (some ⟨b2, o2, none⟩) n2 c2] w fun e w' => ∃ v, e = .returned v ∧
      w'.ownsRow w.heap.size 4 1 v (1 + n1 + n2) ((true :: (x ++ y)).map .bool) ∧ Below w.heap.size w w' := by
  have HL1 := Lib.hid hl1; have HL2 := Lib.hid hl2
  clear hl1 hl2
  have hown0 : (w.alloc (.cells #[.bool true] 4)).ownsRow w.heap.size 4 1 (.slice (some ⟨w.heap.size, 0, none⟩) 1 1) 1 [.bool true] :=
    ⟨rfl, .inr ⟨w.heap.size, 1, #[.bool true], rfl, Nat.le_refl _, heap_alloc_new _ _, Nat.le_refl _, by simp [maxLen], rfl, rfl⟩⟩
  have hB0 := laid_below w (.cells #[.bool true] 4)
  have hsrc1 : Src 1 (w.alloc (.cells #[.bool true] 4)) (.slice (some ⟨b1, o1, none⟩) n1 c1) n1 (x.map .bool) := Src.of_sl (hs1.below' hB0) (by have := HL1.out; simp; omega)
  go_enter Try.func55, Try.ntmps55
  go_wp2_with (first
    | (at_builtin; refine wpList_appx rfl (.tmp 6) (.tmp 7) _ rfl Try.underlying26 infoBoolS rfl (by omega) w.heap.size hown0 hB0.size rfl hsrc1 rfl (one_bools _) (by unfold maxLen; omega) (by omega) ?_; intro v2 w2 hown2 hg2 hnil2; have hB2 := grown_below hB0 hown0 (Nat.le_refl _) hg2; have hsrc2 : Src 1 w2 (.slice (some ⟨b2, o2, none⟩) n2 c2) n2 (y.map .bool) := Src.of_sl (hs2.below' hB2) (by have := HL2.out; simp; omega); clear hnil2 hown0 hB0 hsrc1 hg2)
    | (at_builtin; refine wpList_appx rfl (.tmp 9) (.tmp 10) _ rfl Try.underlying26 infoBoolS rfl (by omega) w.heap.size hown2 hB2.size rfl hsrc2 rfl (one_bools _) (by unfold maxLen; omega) (by omega) ?_; intro v3 w3 hown3 hg3 hnil3; have hB3 := grown_below hB2 hown2 (Nat.le_refl _) hg3; clear hnil3 hown2 hB2 hsrc2 hg3))
  go_ret
  exact ⟨v3, rfl, by simpa using hown3, hB3⟩
