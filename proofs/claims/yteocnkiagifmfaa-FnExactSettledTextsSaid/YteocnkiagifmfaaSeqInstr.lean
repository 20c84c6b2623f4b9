/- Library functions on rows of Instr: IndexFunc, ContainsFunc with whatever function value, Clone; size. -/
import Derived.Test.YteocnkiagifmfaaSeq
import Derived.Test.YteocnkiagifmfaaApp
import Derived.Test.YteocnkiagifmfaaHelpInstr
namespace Go.Proofs.Yteocnkiagifmfaa
open Go.RowKit
set_option linter.all false

theorem one_rows_Instr (xs : List R4) : ∀ u ∈ rows R4.vs xs, u.oneCell' = true := by
  intro u hu
  simp only [rows, List.mem_flatMap, R4.vs] at hu
  obtain ⟨x, _, hu⟩ := hu
  simp at hu
  rcases hu with rfl | rfl | rfl | rfl <;> rfl

set_option maxRecDepth 100000 in
theorem sizeOf_Instr_any (A : Option Addr) (n c : Nat) (w : World) : Calls Try.prog 253 #[.slice A n c] w fun e w' => e = .returned (.int .i64 n) ∧ w = w' := by
  go_enter Try.func253, Try.ntmps253
  go_wp2
  go_ret
  exact ⟨rfl, rfl⟩

set_option maxRecDepth 100000 in
theorem clone_Instr_any (v0 : Value) (n : Nat) (xs : List R4) (w : World) (hsrc : Src 4 w v0 n (rows R4.vs xs)) (hn : n ≤ 1048576) :
    Calls Try.prog 298 #[v0] w fun e w' => ∃ v, e = .returned v ∧ w'.ownsRow w.heap.size 185 4 v n (rows R4.vs xs) ∧ Below w.heap.size w w' := by
  rcases hsrc.2 with ⟨rfl, rfl⟩ | ⟨b, off, c, rfl, hs⟩
  · have h0 : rows R4.vs xs = [] := List.eq_nil_of_length_eq_zero (by simpa using hsrc.1)
    have H0 := Lib.hid h0; clear h0
    have hnl := run_nil_none Try.underlying98
    go_enter Try.func298, Try.ntmps298
    go_wp2
    go_ret
    exact ⟨_, rfl, by rw [H0.out]; exact World.ownsRow_nil _ _ _ _, Below.refl _ _⟩
  · have hown0 : (w.alloc (.cells #[] 185)).ownsRow w.heap.size 185 4 (.slice (some ⟨w.heap.size, 0, none⟩) 0 0) 0 [] := own_empty w 185 4
    have hB0 := laid_below w (.cells #[] 185)
    have hsrc1 := hsrc.below hB0
    have hone := one_rows_Instr xs
    have HO := Lib.hid hone; clear hone
    clear hsrc hs
    have hnl := run_nil_some Try.underlying98 ⟨b, off, none⟩ n c
    go_enter Try.func298, Try.ntmps298
    go_wp2_with (at_builtin; refine wpList_appx rfl _ _ _ rfl Try.underlying98 infoInstr rfl (by omega) w.heap.size hown0 hB0.size rfl hsrc1 rfl HO.out (by unfold maxLen; omega) (by omega) ?_; intro v2 w2 hown2 hg2 hnil2; have hB2 := grown_below hB0 hown0 (Nat.le_refl _) hg2; clear hnil2 hown0 hB0 hsrc1 hg2)
    go_ret
    exact ⟨_, rfl, by simpa using hown2, hB2⟩

end Go.Proofs.Yteocnkiagifmfaa
