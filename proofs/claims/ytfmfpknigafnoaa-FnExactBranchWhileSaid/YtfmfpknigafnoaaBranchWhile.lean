/- BranchWhile on both sides. -/
import Derived.Test.YtfmfpknigafnoaaBranchImpl
namespace Go.Proofs.Ytfmfpknigafnoaa
open Go.RowKit
set_option linter.all false

theorem specBranchWhile_any (b0 o0 n0 c0 : Nat) (x0 : List R2) (b1 o1 n1 c1 : Nat) (e1 : List ECommand) (x1 : List DCommand) (b2 o2 n2 c2 : Nat) (e2 : List ECommand) (x2 : List DCommand) (f s : Int) (w : World) (s0 : Sl w b0 o0 (rows R2.vs x0)) (h0 : x0.length = n0) (m0 : n0 ≤ 1048576) (hc0 : n0 ≤ c0) (wf0 : ∀ x ∈ x0, x.wf)
    (s1 : Sl w b1 o1 (rows ECommand.vs e1)) (r1 : RdsCommand w e1) (d1 : e1.map (·.d) = x1) (h1 : x1.length = n1) (m1 : n1 ≤ 1048576) (hc1 : n1 ≤ c1) (t1 : sumCommand x1 ≤ 1048576) (wf1 : ∀ x ∈ x1, x.wf)
    (s2 : Sl w b2 o2 (rows ECommand.vs e2)) (r2 : RdsCommand w e2) (d2 : e2.map (·.d) = x2) (h2 : x2.length = n2) (m2 : n2 ≤ 1048576) (hc2 : n2 ≤ c2) (t2 : sumCommand x2 ≤ 1048576) (wf2 : ∀ x ∈ x2, x.wf) (wff : Wf64 f) (wfs : Wf64 s) :
    Calls Try.prog 11 #[.slice (some ⟨b0, o0, none⟩) n0 c0, .slice (some ⟨b1, o1, none⟩) n1 c1, .slice (some ⟨b2, o2, none⟩) n2 c2, .int .i64 f, .int .i64 s] w fun z w' => ∃ v es, z = .returned (.tuple #[v, .int .i64 (branchWhile x0 x1 x2 f s).2]) ∧ SGrid kndCommand w.heap.size w'.heap.size 87 85 2 v es w' ∧ es.map (·.d) = (branchWhile x0 x1 x2 f s).1 ∧ Below w.heap.size w w' := by
  by_cases hv : (validE x0 = true ∧ validWhile x1 = true ∧ validWhile x2 = true) ∧ (inB f 0 5 = true ∧ inB s 0 5 = true ∧ f ≠ s)
  · have e : branchWhile x0 x1 x2 f s = fitW (brW x0 x1 x2 f s) := by unfold branchWhile; rw [if_pos hv.1, if_pos hv.2]
    rw [e]
    exact specBranchYes_any b0 o0 n0 c0 x0 b1 o1 n1 c1 e1 x1 b2 o2 n2 c2 e2 x2 f s w s0 h0 m0 s1 r1 d1 h1 m1 t1 s2 r2 d2 h2 m2 t2 hv.1.1 hv.1.2.1 hv.1.2.2 hv.2.1 hv.2.2.1 hv.2.2.2
  · first
    | exact specBranchNo_any b0 o0 n0 c0 x0 b1 o1 n1 c1 e1 x1 b2 o2 n2 c2 e2 x2 f s w s0 h0 m0 s1 r1 d1 h1 m1 hc1 t1 wf1 s2 r2 d2 h2 m2 hc2 t2 wf2 hv
    | exact specBranchNo_any b0 o0 n0 c0 x0 b1 o1 n1 c1 e1 x1 b2 o2 n2 c2 e2 x2 f s w s0 h0 m0 s1 r1 d1 h1 m1 t1 s2 r2 d2 h2 m2 t2 hv

theorem implBranchWhile_any (b0 o0 n0 c0 : Nat) (x0 : List R2) (b1 o1 n1 c1 : Nat) (e1 : List ECommand) (x1 : List DCommand) (b2 o2 n2 c2 : Nat) (e2 : List ECommand) (x2 : List DCommand) (f s : Int) (w : World) (s0 : Sl w b0 o0 (rows R2.vs x0)) (h0 : x0.length = n0) (m0 : n0 ≤ 1048576) (hc0 : n0 ≤ c0) (wf0 : ∀ x ∈ x0, x.wf)
    (s1 : Sl w b1 o1 (rows ECommand.vs e1)) (r1 : RdsCommand w e1) (d1 : e1.map (·.d) = x1) (h1 : x1.length = n1) (m1 : n1 ≤ 1048576) (hc1 : n1 ≤ c1) (t1 : sumCommand x1 ≤ 1048576) (wf1 : ∀ x ∈ x1, x.wf)
    (s2 : Sl w b2 o2 (rows ECommand.vs e2)) (r2 : RdsCommand w e2) (d2 : e2.map (·.d) = x2) (h2 : x2.length = n2) (m2 : n2 ≤ 1048576) (hc2 : n2 ≤ c2) (t2 : sumCommand x2 ≤ 1048576) (wf2 : ∀ x ∈ x2, x.wf) (wff : Wf64 f) (wfs : Wf64 s) :
    Calls Try.prog 14 #[.slice (some ⟨b0, o0, none⟩) n0 c0, .slice (some ⟨b1, o1, none⟩) n1 c1, .slice (some ⟨b2, o2, none⟩) n2 c2, .int .i64 f, .int .i64 s] w fun z w' => ∃ v es, z = .returned (.tuple #[v, .int .i64 (branchWhile x0 x1 x2 f s).2]) ∧ SGrid kndCommand w.heap.size w'.heap.size 87 85 2 v es w' ∧ es.map (·.d) = (branchWhile x0 x1 x2 f s).1 ∧ Below w.heap.size w w' := by
  by_cases hv : (validE x0 = true ∧ validWhile x1 = true ∧ validWhile x2 = true) ∧ (inB f 0 5 = true ∧ inB s 0 5 = true ∧ f ≠ s)
  · have e : branchWhile x0 x1 x2 f s = fitW (brW x0 x1 x2 f s) := by unfold branchWhile; rw [if_pos hv.1, if_pos hv.2]
    rw [e]
    exact implBranchYes_any b0 o0 n0 c0 x0 b1 o1 n1 c1 e1 x1 b2 o2 n2 c2 e2 x2 f s w s0 h0 m0 s1 r1 d1 h1 m1 hc1 t1 wf1 s2 r2 d2 h2 m2 hc2 t2 wf2 hv.1.1 hv.1.2.1 hv.1.2.2 hv.2.1 hv.2.2.1 hv.2.2.2
  · first
    | exact implBranchNo_any b0 o0 n0 c0 x0 b1 o1 n1 c1 e1 x1 b2 o2 n2 c2 e2 x2 f s w s0 h0 m0 s1 r1 d1 h1 m1 hc1 t1 wf1 s2 r2 d2 h2 m2 hc2 t2 wf2 hv
    | exact implBranchNo_any b0 o0 n0 c0 x0 b1 o1 n1 c1 e1 x1 b2 o2 n2 c2 e2 x2 f s w s0 h0 m0 s1 r1 d1 h1 m1 t1 s2 r2 d2 h2 m2 t2 hv
end Go.Proofs.Ytfmfpknigafnoaa
