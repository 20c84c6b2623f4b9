/- Small contracts on rows of numbers: clone, l00Has, allWithin, rising. No conditions beyond the sizes. -/
import Derived.Test.YtjakgeblmkdbpaaHelpInt
import Derived.Test.YtjakgeblmkdbpaaNums
import Derived.Test.YtjakgeblmkdbpaaSeq
import Derived.Test.YtjakgeblmkdbpaaApp
namespace Go.Proofs.Ytjakgeblmkdbpaa
open Go.RowKit
set_option linter.all false

theorem own_cap {w : World} {base : Nat} {e : TypeId} {size n : Nat} {v : Value} {xs : List Value} (h : w.ownsRow base e size v n xs) : ∀ A c, v = .slice A n c → n ≤ c := by
  intro A c hv
  rcases h.2 with ⟨h0, h1⟩ | ⟨g, cap, cur, h0, _, _, h1, _⟩
  · omega
  · rw [h0] at hv; injection hv with _ _ h3; omega

theorem allWithin_is (b off n c : Nat) (xs : List Int) (lo hi : Int) (v : Bool) (hv : xs.all (inB · lo hi) = v) (w : World) (hs : Sl w b off (xs.map (.int .i64))) (hl : xs.length = n) (hn : n ≤ 4194304) :
    Calls Try.prog 123 #[.slice (some ⟨b, off, none⟩) n c, .int .i64 lo, .int .i64 hi] w fun e w' => e = .returned (.bool v) ∧ w = w' := by
  subst hv; exact allWithin_any b off n c xs lo hi w hs hl hn

set_option maxRecDepth 100000 in
theorem cloneInt64_any (v0 : Value) (n : Nat) (xs : List Int) (w : World) (hsrc : Src 1 w v0 n (xs.map (Value.int .i64))) (hn : n ≤ 1048576) :
    Calls Try.prog 125 #[v0] w fun e w' => ∃ v, e = .returned v ∧ w'.ownsRow w.heap.size 2 1 v n (xs.map (Value.int .i64)) ∧ Below w.heap.size w w' := by
  rcases hsrc.2 with ⟨rfl, rfl⟩ | ⟨b, off, c, rfl, hs⟩
  · have h0 : xs.map (Value.int .i64) = [] := List.eq_nil_of_length_eq_zero (by simpa using hsrc.1)
    have H0 := Lib.hid h0; clear h0
    have hnl := run_nil_none Try.underlying25
    go_enter Try.func125, Try.ntmps125
    go_wp2
    go_ret
    exact ⟨_, rfl, by rw [H0.out]; exact World.ownsRow_nil _ _ _ _, Below.refl _ _⟩
  · have hown0 : (w.alloc (.cells #[] 2)).ownsRow w.heap.size 2 1 (.slice (some ⟨w.heap.size, 0, none⟩) 0 0) 0 [] := own_empty w 2 1
    have hB0 := laid_below w (.cells #[] 2)
    have hsrc1 := hsrc.below hB0
    have HO := Lib.hid (one_ints .i64 xs)
    clear hsrc hs
    have hnl := run_nil_some Try.underlying25 ⟨b, off, none⟩ n c
    go_enter Try.func125, Try.ntmps125
    go_wp2_with (at_builtin; refine wpList_appx rfl _ _ _ rfl Try.underlying25 infoInt64S rfl (by omega) w.heap.size hown0 hB0.size rfl hsrc1 rfl HO.out (by unfold maxLen; omega) (by omega) ?_; intro v2 w2 hown2 hg2 hnil2; have hB2 := grown_below hB0 hown0 (Nat.le_refl _) hg2; clear hnil2 hown0 hB0 hsrc1 hg2)
    go_ret
    exact ⟨_, rfl, by simpa using hown2, hB2⟩

end Go.Proofs.Ytjakgeblmkdbpaa
