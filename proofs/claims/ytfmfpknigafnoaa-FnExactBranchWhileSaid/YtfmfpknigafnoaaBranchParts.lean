/- Parts of BranchWhile: setTo, l22Set, l22Var, the closure 'variable'. -/
import Derived.Test.YtfmfpknigafnoaaEncWhile
namespace Go.Proofs.Ytfmfpknigafnoaa
open Go.RowKit
set_option linter.all false

set_option maxRecDepth 100000 in
theorem setTo_any (k : Int) (A : Option Addr) (n c : Nat) (w : World) :
    Calls Try.prog 70 #[.int .i64 k, .slice A n c] w fun z w' => z = .returned (.agg #[.int .i64 0, .int .i64 k, .int .i64 0, .slice A n c]) ∧ Below w.heap.size w w' := by
  have B : Below w.heap.size w (w.alloc (.cells #[.int .i64 0, .int .i64 k, .int .i64 0, .slice A n c] 87)) := laid_below _ _
  have HI := infoCommand
  go_enter Try.func70, Try.ntmps70
  go_wp2
  refine bodyPost_ret (v := .agg #[.int .i64 0, .int .i64 k, .int .i64 0, .slice A n c]) (by simp [results, Try.results70, go_sem]) rfl ?_
  exact ⟨rfl, B⟩

set_option maxRecDepth 100000 in
theorem l22Set_any (k : Int) (A : Option Addr) (n c : Nat) (w : World) :
    Calls Try.prog 58 #[.int .i64 k, .slice A n c] w fun z w' => z = .returned (.agg #[.int .i64 0, .int .i64 k, .int .i64 0, .slice A n c]) ∧ Below w.heap.size w w' := by
  have B : Below w.heap.size w (w.alloc (.cells #[.int .i64 0, .int .i64 k, .int .i64 0, .slice A n c] 87)) := laid_below _ _
  have HI := infoCommand
  go_enter Try.func58, Try.ntmps58
  go_wp2
  refine bodyPost_ret (v := .agg #[.int .i64 0, .int .i64 k, .int .i64 0, .slice A n c]) (by simp [results, Try.results58, go_sem]) rfl ?_
  exact ⟨rfl, B⟩

set_option maxRecDepth 100000 in
theorem l22Var_any (k : Int) (w : World) :
    Calls Try.prog 60 #[.int .i64 k] w fun z w' => (∃ A, z = .returned (.slice A 1 1) ∧ w'.ownsRow w.heap.size 85 2 (.slice A 1 1) 1 (rows R2.vs [⟨1, k⟩])) ∧ Below w.heap.size w w' := by
  have B : Below w.heap.size w (w.alloc (.cells #[.int .i64 1, .int .i64 k] 85)) := laid_below _ _
  have own : (w.alloc (.cells #[.int .i64 1, .int .i64 k] 85)).ownsRow w.heap.size 85 2 (.slice (some ⟨w.heap.size, 0, none⟩) 1 1) 1 (rows R2.vs [⟨1, k⟩]) :=
    ⟨rfl, .inr ⟨w.heap.size, 1, #[.int .i64 1, .int .i64 k], rfl, Nat.le_refl _, heap_alloc_new w _, Nat.le_refl _, by simp [maxLen], rfl, rfl⟩⟩
  go_enter Try.func60, Try.ntmps60
  go_wp2
  go_ret
  exact ⟨⟨_, rfl, own⟩, B⟩

set_option maxRecDepth 100000 in
theorem variable_any (k : Int) (w : World) :
    Calls Try.prog 67 #[.int .i64 k] w fun z w' => (∃ A, z = .returned (.slice A 1 1) ∧ w'.ownsRow w.heap.size 85 2 (.slice A 1 1) 1 (rows R2.vs [⟨1, k⟩])) ∧ Below w.heap.size w w' := by
  have B : Below w.heap.size w (w.alloc (.cells #[.int .i64 1, .int .i64 k] 85)) := laid_below _ _
  have own : (w.alloc (.cells #[.int .i64 1, .int .i64 k] 85)).ownsRow w.heap.size 85 2 (.slice (some ⟨w.heap.size, 0, none⟩) 1 1) 1 (rows R2.vs [⟨1, k⟩]) :=
    ⟨rfl, .inr ⟨w.heap.size, 1, #[.int .i64 1, .int .i64 k], rfl, Nat.le_refl _, heap_alloc_new w _, Nat.le_refl _, by simp [maxLen], rfl, rfl⟩⟩
  go_enter Try.func67, Try.ntmps67
  go_wp2
  go_ret
  exact ⟨⟨_, rfl, own⟩, B⟩

def setD (k : Int) (e : List R2) : DCommand := ⟨0, k, 0, e⟩
def loopD (k : Int) (b : List DCommand) : List DCommand := ⟨1, 0, b.length, [⟨1, k⟩]⟩ :: b
/-- The program that runs one of two. -/
def brW (e : List R2) (y n : List DCommand) (f s : Int) : List DCommand :=
  [setD f e, setD s [⟨2, 0⟩, ⟨0, 0⟩, ⟨0, 0⟩]] ++ (loopD f (setD f [⟨0, 0⟩] :: setD s [⟨0, 0⟩] :: y) ++ loopD s (setD s [⟨0, 0⟩] :: n))
def branchWhile (e : List R2) (y n : List DCommand) (f s : Int) : List DCommand × Int :=
  if validE e = true ∧ validWhile y = true ∧ validWhile n = true then
    if inB f 0 5 = true ∧ inB s 0 5 = true ∧ f ≠ s then fitW (brW e y n f s) else ([], 2)
  else ([], 1)
theorem sum_brW (e : List R2) (y n : List DCommand) (f s : Int) : sumCommand (brW e y n f s) = e.length + 3 + 1 + 1 + 1 + sumCommand y + 1 + 1 + sumCommand n := by
  simp only [brW, loopD, setD, List.cons_append, List.nil_append, sumCommand_cons, sumCommand_app, List.length_cons, List.length_nil]
  omega
theorem bndBranchWhile0 (e : List R2) (y n : List DCommand) (f s : Int) (h1 : e.length ≤ 1048576) (h2 : y.length ≤ 1048576) (s2 : sumCommand y ≤ 1048576) (h3 : n.length ≤ 1048576) (s3 : sumCommand n ≤ 1048576) : (branchWhile e y n f s).1.length ≤ 1048576 ∧ sumCommand (branchWhile e y n f s).1 ≤ 2097152 := by
  unfold branchWhile
  split
  · rename_i hv
    split
    · refine fitW_le _ ?_
      rw [sum_brW]
      have := (validE_pos hv.1).2
      have := validWhile_sum hv.2.1
      have := validWhile_sum hv.2.2
      omega
    · exact ⟨by simp, by simp [sumCommand]⟩
  · exact ⟨by simp, by simp [sumCommand]⟩

end Go.Proofs.Ytfmfpknigafnoaa
