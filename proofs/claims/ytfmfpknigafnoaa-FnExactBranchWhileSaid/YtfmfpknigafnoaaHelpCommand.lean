/- Contracts of the laws' helpers on Command and []Command: copy, compare, size, mark, look at the marks. -/
import Derived.Test.YtfmfpknigafnoaaSGrid
import Derived.Test.YtfmfpknigafnoaaSeq
import Derived.Test.YtfmfpknigafnoaaInExprS
import Derived.StillTailTactics
namespace Go.Proofs.Ytfmfpknigafnoaa
open Go.RowKit
set_option linter.all false

/-- The data. -/
structure DCommand where
  f0 : Int
  f1 : Int
  f2 : Int
  f3 : List R2
instance : DecidableEq DCommand := fun x y => decidable_of_iff (x.f0 = y.f0 ∧ x.f1 = y.f1 ∧ x.f2 = y.f2 ∧ x.f3 = y.f3) ⟨fun h => by cases x; cases y; simp_all, fun h => by subst h; exact ⟨rfl, rfl, rfl, rfl⟩⟩
/-- A record in memory. -/
structure ECommand where
  d : DCommand
  u3 : Value
def ECommand.vs (e : ECommand) : List Value := [.int .i64 e.d.f0, .int .i64 e.d.f1, .int .i64 e.d.f2, e.u3]
def ECommand.us (e : ECommand) : List Value := [e.u3]
def ECommand.its (e : ECommand) : List (Nat × List Value) := [(e.d.f3.length, rows R2.vs e.d.f3)]
def kndCommand : Knd ECommand := ⟨ECommand.vs, ECommand.us, ECommand.its, 4, 1, fun _ => rfl, fun _ => rfl, fun _ => rfl⟩
def wlCommand (x : DCommand) : Nat := x.f3.length
def wbCommand (m : Nat) (x : DCommand) : Prop := x.f3.length ≤ m ∧ True
def DCommand.wf (x : DCommand) : Prop := Wf64 x.f0 ∧ Wf64 x.f1 ∧ Wf64 x.f2 ∧ (∀ y ∈ x.f3, y.wf)
def RdCommand (w : World) (e : ECommand) : Prop := (∃ A c, e.u3 = .slice A e.d.f3.length c ∧ Args 2 w A e.d.f3.length (rows R2.vs e.d.f3)) ∧ True
theorem RdCommand.below {w w' : World} {e : ECommand} (h : RdCommand w e) (hb : Below w.heap.size w w') : RdCommand w' e := by
  obtain ⟨⟨A3, c3, e3, h3⟩, -⟩ := h
  exact ⟨⟨A3, c3, e3, h3.below hb⟩, trivial⟩
def RdsCommand (w : World) (es : List ECommand) : Prop := ∀ e ∈ es, RdCommand w e
theorem RdsCommand.below {w w' : World} {es : List ECommand} (h : RdsCommand w es) (hb : Below w.heap.size w w') : RdsCommand w' es := fun e he => (h e he).below hb
theorem rdsCommand_of {base hi : Nat} {T Te : TypeId} {V : Value} {es : List ECommand} {W : World} (h : SGrid kndCommand base hi T Te 2 V es W) : RdsCommand W es := by
  intro e he
  obtain ⟨k, hk⟩ := List.getElem?_of_mem he
  refine ⟨?_, trivial⟩
  · have hr := h.row (j := 0) hk (v := e.u3) (it := (e.d.f3.length, rows R2.vs e.d.f3)) rfl rfl
    obtain ⟨A, c, e1⟩ := own_form hr
    rw [e1] at hr
    exact ⟨A, c, e1, args_of_own hr⟩
def mkCommand (k : Int) (e : ECommand) : ECommand := ⟨⟨k, (k + 1), ((k + 1) + 1), run2 (((k + 1) + 1) + 1) e.d.f3.length⟩, e.u3⟩
def widCommand (e : ECommand) : Nat := 3 + wlCommand e.d * 2
theorem widCommand_eq (e : ECommand) : widCommand e = 1 + 1 + 1 + e.d.f3.length * 2 := by unfold widCommand wlCommand; omega
theorem infoCommand : (Try.prog.info? 87).map (fun i => (i.zero, i.size, i.bytes)) = some (some (.agg #[.int .i64 0, .int .i64 0, .int .i64 0, .slice none 0 0]), 4, 48) := by kernel_rfl

set_option maxRecDepth 100000 in
theorem toCommand_any (e : ECommand) (w : World) (h : RdCommand w e) (hl : wlCommand e.d ≤ 1048576) :
    Calls Try.prog 63 #[.agg #[.int .i64 e.d.f0, .int .i64 e.d.f1, .int .i64 e.d.f2, e.u3]] w fun z w' => (∃ v3 : Nat, z = .returned (.agg #[.int .i64 e.d.f0, .int .i64 e.d.f1, .int .i64 e.d.f2, .slice (some ⟨v3, 0, none⟩) e.d.f3.length e.d.f3.length]) ∧ Inn 2 85 w.heap.size w'.heap.size [.slice (some ⟨v3, 0, none⟩) e.d.f3.length e.d.f3.length] e.its w') ∧ Below w.heap.size w w' := by
  obtain ⟨⟨f0, f1, f2, f3⟩, u3⟩ := e
  obtain ⟨⟨A3, c3, hu3, ha3⟩, -⟩ := h
  simp only [wlCommand] at hl hu3 ha3 ⊢
  unfold ECommand.its
  simp only
  subst hu3
  obtain ⟨n3, hn3⟩ : ∃ n, n = f3.length := ⟨_, rfl⟩
  rw [← hn3] at ha3 hl ⊢
  clear hn3
  obtain ⟨w0, HW0, B0, x0, y0, z0, sz0⟩ := al3 w (.cells #[.int .i64 f0, .int .i64 f1, .int .i64 f2, .slice A3 n3 c3] 80) (.cells #[.int .i64 0, .int .i64 0, .int .i64 0, .slice none 0 0] 87) (.cells #[.int .i64 f0, .int .i64 f1, .int .i64 f2, .slice none 0 0] 87)
  have I0 := Inn.nil 2 w0.heap.size w0.heap.size 85 w0
  have L0 : w.heap.size + 1 + 1 < w0.heap.size := by omega
  go_enter Try.func63, Try.ntmps63
  go_wp2_with fail
  rw [← HW0.out]
  refine (inToExprS A3 n3 c3 f3 _ (ha3.below B0) (by omega)).mono ?_
  rintro z w1a ⟨rfl, own3, b3⟩
  have B0a := below_step B0 b3
  have x0a := (b3.block _ (heap_lt x0)).trans x0
  have y0a := (b3.block _ (heap_lt y0)).trans y0
  have z0a := (b3.block _ (heap_lt z0)).trans z0
  have I0a := (I0.below b3).snoc (it := (n3, rows R2.vs f3)) own3 (Nat.le_refl _) (by have := B0.size; exact Nat.le_refl _) (Nat.le_refl _) b3.size
  obtain ⟨g3, hg3⟩ : ∃ g : Nat, g = w0.heap.size := ⟨_, rfl⟩
  have I0b : Inn 2 85 w0.heap.size w1a.heap.size [.slice (some ⟨g3, 0, none⟩) n3 n3] [(n3, rows R2.vs f3)] w1a := by rw [hg3]; exact I0a
  rw [← hg3]
  clear own3 hg3 I0a
  obtain ⟨w1, HW1, B1, x1, y1, z1, I1, SZ1⟩ : ∃ w1, Hid (w1 = (w1a.setCell ⟨w.heap.size + 1 + 1, 3, none⟩ (.slice (some ⟨g3, 0, none⟩) n3 n3))) ∧ Below w.heap.size w w1 ∧ w1.heap[w.heap.size]? = some (.cells #[.int .i64 f0, .int .i64 f1, .int .i64 f2, .slice A3 n3 c3] 80 (0, 0)) ∧ w1.heap[w.heap.size + 1]? = some (.cells #[.int .i64 0, .int .i64 0, .int .i64 0, .slice none 0 0] 87 (0, 0)) ∧ w1.heap[w.heap.size + 1 + 1]? = some (.cells #[.int .i64 f0, .int .i64 f1, .int .i64 f2, .slice (some ⟨g3, 0, none⟩) n3 n3] 87 (0, 0)) ∧ Inn 2 85 w0.heap.size w1a.heap.size [.slice (some ⟨g3, 0, none⟩) n3 n3] [(n3, rows R2.vs f3)] w1 ∧ w1a.heap.size = w1.heap.size := by
    refine ⟨_, rfl, ?_, ?_, ?_, ?_, ?_, ?_⟩
    · exact (B0a.setCell (p := ⟨w.heap.size + 1 + 1, 3, none⟩) (by simp; omega) _)
    · exact (heap_set_other x0a ⟨w.heap.size + 1 + 1, 3, none⟩ (by dsimp only; omega) _)
    · exact (heap_set_other y0a ⟨w.heap.size + 1 + 1, 3, none⟩ (by dsimp only; omega) _)
    · exact (heap_set z0a (.slice (some ⟨g3, 0, none⟩) n3 n3))
    · exact (I0b.set_low (b := w.heap.size + 1 + 1) (o := 3) L0 _)
    · simp [World.setCell]
  have kz0 : w1a.frozen? ⟨w.heap.size + 1 + 1, 0, none⟩ = false := frozen_of_heap z0a
  have ez0_3 : ∃ u, w1a.cell? ⟨w.heap.size + 1 + 1, 3, none⟩ = some u := ⟨_, by rw [cell_of_heap z0a]; rfl⟩
  obtain ⟨oz0_3, ez0_3⟩ := ez0_3
  have fz0_3 : w1a.frozen? ⟨w.heap.size + 1 + 1, 3, none⟩ = false := frozen_of_heap z0a
  clear HW0 x0 y0 z0 x0a b3 I0 I0b 
  have lz0 : w1a.cell? ⟨w.heap.size + 1 + 1, 0, none⟩ = some (.int .i64 f0) := by rw [cell_of_heap z0a]; rfl
  have ly0 : w1a.cell? ⟨w.heap.size + 1, 0, none⟩ = some (.int .i64 0) := by rw [cell_of_heap y0a]; rfl
  have fy0 : w1a.frozen? ⟨w.heap.size + 1, 0, none⟩ = false := frozen_of_heap y0a
  have lz1 : w1a.cell? ⟨w.heap.size + 1 + 1, 1, none⟩ = some (.int .i64 f1) := by rw [cell_of_heap z0a]; rfl
  have ly1 : w1a.cell? ⟨w.heap.size + 1, 1, none⟩ = some (.int .i64 0) := by rw [cell_of_heap y0a]; rfl
  have fy1 : w1a.frozen? ⟨w.heap.size + 1, 1, none⟩ = false := frozen_of_heap y0a
  have lz2 : w1a.cell? ⟨w.heap.size + 1 + 1, 2, none⟩ = some (.int .i64 f2) := by rw [cell_of_heap z0a]; rfl
  have ly2 : w1a.cell? ⟨w.heap.size + 1, 2, none⟩ = some (.int .i64 0) := by rw [cell_of_heap y0a]; rfl
  have fy2 : w1a.frozen? ⟨w.heap.size + 1, 2, none⟩ = false := frozen_of_heap y0a
  have ly3 : w1a.cell? ⟨w.heap.size + 1, 3, none⟩ = some (.slice none 0 0) := by rw [cell_of_heap y0a]; rfl
  have fy3 : w1a.frozen? ⟨w.heap.size + 1, 3, none⟩ = false := frozen_of_heap y0a
  clear y0a z0a
  go_wp2
  refine bodyPost_ret (v := .agg #[.int .i64 f0, .int .i64 f1, .int .i64 f2, .slice (some ⟨g3, 0, none⟩) n3 n3]) (by simp [results, Try.results63, go_sem, ly0, ly1, ly2, ly3]) rfl ?_
  refine ⟨⟨g3, rfl, ?_⟩, ?_⟩
  · rw [← HW1.out]
    have hsz : ∀ (a b : World), a.heap.size = b.heap.size → a.heap.size ≤ b.heap.size := fun a b e => Nat.le_of_eq e
    refine Inn.wide (hi := w1.heap.size) ?_ (by simp [World.setCell])
    rw [← SZ1]
    have L1 : w.heap.size + 1 < w0.heap.size := by omega
    exact ((((I1.set_low (b := w.heap.size + 1) (o := 0) L1 _).set_low (b := w.heap.size + 1) (o := 1) L1 _).set_low (b := w.heap.size + 1) (o := 2) L1 _).set_low (b := w.heap.size + 1) (o := 3) L1 _).lower B0.size
  · rw [← HW1.out]
    exact ((((B1.setCell (p := ⟨w.heap.size + 1, 0, none⟩) (by simp) _).setCell (p := ⟨w.heap.size + 1, 1, none⟩) (by simp) _).setCell (p := ⟨w.heap.size + 1, 2, none⟩) (by simp) _).setCell (p := ⟨w.heap.size + 1, 3, none⟩) (by simp) _)

set_option maxRecDepth 100000 in
theorem eqCommand_any (e g : ECommand) (w : World) (he : RdCommand w e) (hg : RdCommand w g) (hl : wlCommand e.d ≤ 4194304) (hm : wlCommand g.d ≤ 4194304) :
    Calls Try.prog 72 #[.agg #[.int .i64 e.d.f0, .int .i64 e.d.f1, .int .i64 e.d.f2, e.u3], .agg #[.int .i64 g.d.f0, .int .i64 g.d.f1, .int .i64 g.d.f2, g.u3]] w fun z w' => z = .returned (.bool (decide (e.d = g.d))) ∧ Below w.heap.size w w' := by
  obtain ⟨⟨f0, f1, f2, f3⟩, u3⟩ := e
  obtain ⟨⟨g0, g1, g2, g3⟩, v3⟩ := g
  obtain ⟨⟨A3, c3, hu3, ha3⟩, -⟩ := he
  obtain ⟨⟨B3, d3, hv3, hb3⟩, -⟩ := hg
  simp only [wlCommand] at hl hm hu3 ha3 hv3 hb3 ⊢
  subst hu3
  subst hv3
  obtain ⟨n3, hn3⟩ : ∃ n, n = f3.length := ⟨_, rfl⟩
  rw [← hn3] at ha3 hl ⊢
  obtain ⟨m3, hm3⟩ : ∃ n, n = g3.length := ⟨_, rfl⟩
  rw [← hm3] at hb3 hm ⊢
  clear hn3 hm3
  obtain ⟨w0, HW0, B0, x0, y0⟩ := al2 w (.cells #[.int .i64 f0, .int .i64 f1, .int .i64 f2, .slice A3 n3 c3] 87) (.cells #[.int .i64 g0, .int .i64 g1, .int .i64 g2, .slice B3 m3 d3] 87)
  have HX0 := Lib.hid x0; have HY0 := Lib.hid y0; clear x0 y0
  have BL : Hid (Below w.heap.size w ((w.alloc (.cells #[.int .i64 f0, .int .i64 f1, .int .i64 f2, .slice A3 n3 c3] 87)).alloc (.cells #[.int .i64 g0, .int .i64 g1, .int .i64 g2, .slice B3 m3 d3] 87))) := by have := HW0.out; rw [← this]; exact B0
  by_cases h0 : f0 = g0
  rotate_left
  · have NE := Lib.hid h0
    have e0 : (f0 != g0) = true := by simpa using h0
    clear h0
    go_enter Try.func72, Try.ntmps72
    go_wp2
    go_ret
    exact ⟨ret_bool (by simp [NE.out]), BL.out⟩
  subst h0
  by_cases h1 : f1 = g1
  rotate_left
  · have NE := Lib.hid h1
    have e1 : (f1 != g1) = true := by simpa using h1
    clear h1
    go_enter Try.func72, Try.ntmps72
    go_wp2
    go_ret
    exact ⟨ret_bool (by simp [NE.out]), BL.out⟩
  subst h1
  by_cases h2 : f2 = g2
  rotate_left
  · have NE := Lib.hid h2
    have e2 : (f2 != g2) = true := by simpa using h2
    clear h2
    go_enter Try.func72, Try.ntmps72
    go_wp2
    go_ret
    exact ⟨ret_bool (by simp [NE.out]), BL.out⟩
  subst h2
  by_cases h3 : f3 = g3
  rotate_left
  · have NE := Lib.hid h3
    have E3 := Lib.hid (decide_eq_false h3)
    clear h3
    go_enter Try.func72, Try.ntmps72
    go_wp2_with fail
    rw [← HW0.out]
    refine (inEqExprS A3 B3 n3 m3 c3 d3 f3 g3 false E3.out _ (ha3.below B0) (hb3.below B0) (by omega) (by omega)).mono ?_
    rintro z w1 ⟨rfl, b1⟩
    have B1 := below_step B0 b1
    have HX1 := Lib.hid ((b1.block _ (heap_lt HX0.out)).trans HX0.out)
    have HY1 := Lib.hid ((b1.block _ (heap_lt HY0.out)).trans HY0.out)
    clear b1
    go_wp2
    go_ret
    exact ⟨ret_bool (by simp [NE.out]), B1⟩
  subst h3
  go_enter Try.func72, Try.ntmps72
  go_wp2_with fail
  rw [← HW0.out]
  refine (inEqExprS A3 B3 n3 m3 c3 d3 f3 f3 true (decide_eq_true rfl) _ (ha3.below B0) (hb3.below B0) (by omega) (by omega)).mono ?_
  rintro z w1 ⟨rfl, b1⟩
  have B1 := below_step B0 b1
  have HX1 := Lib.hid ((b1.block _ (heap_lt HX0.out)).trans HX0.out)
  have HY1 := Lib.hid ((b1.block _ (heap_lt HY0.out)).trans HY0.out)
  clear b1
  go_wp2
  go_ret
  exact ⟨ret_bool (by simp), B1⟩

theorem eqCommand_is (e g : ECommand) (v : Bool) (hv : decide (e.d = g.d) = v) (w : World) (he : RdCommand w e) (hg : RdCommand w g) (hl : wlCommand e.d ≤ 4194304) (hm : wlCommand g.d ≤ 4194304) :
    Calls Try.prog 72 #[.agg #[.int .i64 e.d.f0, .int .i64 e.d.f1, .int .i64 e.d.f2, e.u3], .agg #[.int .i64 g.d.f0, .int .i64 g.d.f1, .int .i64 g.d.f2, g.u3]] w fun z w' => z = .returned (.bool v) ∧ Below w.heap.size w w' := by
  subst hv; exact eqCommand_any e g w he hg hl hm

set_option maxRecDepth 100000 in
theorem szCommand_any (e : ECommand) (left : Int) (w : World) (he : RdCommand w e) (h0 : 0 ≤ left) (h1 : left ≤ 1048576) (hl : wbCommand 9223372036854775807 e.d) :
    Calls Try.prog 54 #[.agg #[.int .i64 e.d.f0, .int .i64 e.d.f1, .int .i64 e.d.f2, e.u3], .int .i64 left] w fun z w' => (∃ q : Int, z = .returned (.int .i64 q) ∧ SzOut (wlCommand e.d) left q) ∧ Below w.heap.size w w' := by
  obtain ⟨⟨f0, f1, f2, f3⟩, u3⟩ := e
  obtain ⟨⟨A3, c3, hu3, ha3⟩, -⟩ := he
  obtain ⟨z3, -⟩ := hl
  simp only [wlCommand] at hu3 ha3 z3 ⊢
  subst hu3
  obtain ⟨n3, hn3⟩ : ∃ n, n = f3.length := ⟨_, rfl⟩
  rw [← hn3] at ha3 z3 ⊢
  clear hn3 ha3
  have BL : Below w.heap.size w (w.alloc (.cells #[.int .i64 f0, .int .i64 f1, .int .i64 f2, .slice A3 n3 c3] 80)) := laid_below _ _
  by_cases y3 : (n3 : Int) ≤ left
  rotate_left
  · have Y := Lib.hid y3
    go_enter Try.func54, Try.ntmps54
    go_wp2_with fail
    refine (inSzExprS A3 n3 c3 (left) _ (by omega) (by omega) (by omega)).mono ?_
    rintro z w1 ⟨⟨q3, rfl, hq3⟩, rfl⟩
    unfold SzOut at hq3
    obtain rfl : q3 = -1 := by omega
    go_wp2_with fail
    go_ret
    exact ⟨⟨_, rfl, szOut_no (by omega)⟩, BL⟩
  go_enter Try.func54, Try.ntmps54
  go_wp2_with fail
  refine (inSzExprS A3 n3 c3 (left) _ (by omega) (by omega) (by omega)).mono ?_
  rintro z w1 ⟨⟨q3, rfl, hq3⟩, rfl⟩
  unfold SzOut at hq3
  obtain rfl : q3 = left - (n3 : Int) := by omega
  have nn3 : ¬ left - (n3 : Int) < 0 := by omega
  clear hq3
  go_wp2_with fail
  go_ret
  exact ⟨⟨_, rfl, szOut_yes (by omega) (by omega)⟩, BL⟩

/-- How many elements the records' slices have. -/
def sumCommand (xs : List DCommand) : Nat := (xs.map wlCommand).sum
theorem sumCommand_take {xs : List DCommand} {k : Nat} {x : DCommand} (h : xs[k]? = some x) : sumCommand (xs.take (k + 1)) = sumCommand (xs.take k) + wlCommand x := by rw [List.take_add_one, h]; simp [sumCommand]
theorem sumCommand_le (xs : List DCommand) (k : Nat) : sumCommand (xs.take k) ≤ sumCommand xs := by
  have h : ∀ a b : List DCommand, sumCommand a ≤ sumCommand (a ++ b) := by intro a b; simp [sumCommand]
  have := h (xs.take k) (xs.drop k)
  rwa [List.take_append_drop] at this
theorem sumCommand_at {xs : List DCommand} {k : Nat} {x : DCommand} (h : xs[k]? = some x) : wlCommand x ≤ sumCommand xs := by
  have := sumCommand_take h
  have := sumCommand_le xs (k + 1)
  omega

set_option maxRecDepth 100000 in
set_option maxHeartbeats 1000000 in
theorem toCommandS_any (A : Option Addr) (n c : Nat) (es : List ECommand) (w : World) (ha : Args 4 w A n (rows ECommand.vs es)) (hr : RdsCommand w es) (hn : n ≤ 1048576) (hts : sumCommand (es.map (·.d)) ≤ 1048576) :
    Calls Try.prog 13 #[.slice A n c] w fun z w' => z = .returned (.slice (some ⟨w.heap.size, 0, none⟩) n n) ∧ (∃ es', SGrid kndCommand w.heap.size w'.heap.size 87 85 2 (.slice (some ⟨w.heap.size, 0, none⟩) n n) es' w' ∧ es'.map (·.d) = es.map (·.d)) ∧ Below w.heap.size w w' := by
  have HL : Hid (es.length = n) := by have := ha.1; rw [rows_len (s := 4) (fun _ => rfl)] at this; unfold Hid; omega
  have HS := Lib.hid hts; clear hts
  have hmk := fun W => run_make_rows (P := Try.prog) 26 87 _ 4 48 Try.underlying26 infoCommand .i64 .i64 n (by omega) (by omega) W
  simp only [Value.cells] at hmk
  have hown0 : (w.alloc (.cells (madeCells #[.int .i64 0, .int .i64 0, .int .i64 0, .slice none 0 0] (n * 4)) 87)).ownsRow w.heap.size 87 4 (.slice (some ⟨w.heap.size, 0, none⟩) n n) n (madeCells #[.int .i64 0, .int .i64 0, .int .i64 0, .slice none 0 0] (n * 4)).toList := own_laid w 87 4 n _ (size_madeCells _ _) (by unfold maxLen; omega)
  have hb0 := laid_below w (.cells (madeCells #[.int .i64 0, .int .i64 0, .int .i64 0, .slice none 0 0] (n * 4)) 87)
  go_enter Try.func13, Try.ntmps13
  go_wp2
  clear hmk
  go_loopw [4] (fun i wr => ∃ (k : Nat) (es' : List ECommand) (rest : List Value), k ≤ n ∧ es'.length = k ∧ i = .int .i64 k ∧ wr.ownsRow w.heap.size 87 4 (.slice (some ⟨w.heap.size, 0, none⟩) n n) n (rows ECommand.vs es' ++ rest) ∧ Inn 2 85 w.heap.size wr.heap.size (es'.flatMap ECommand.us) (es'.flatMap ECommand.its) wr ∧ Hid (es'.map (·.d) = (es.take k).map (·.d)) ∧ Below w.heap.size w wr) (fun i _ => n - (intOf i).toNat)
  case atStart => exact ⟨0, [], _, Nat.zero_le _, rfl, rfl, hown0, Inn.nil _ _ _ _ _, rfl, hb0⟩
  case round =>
    obtain ⟨k, es', rest, hk, hkl, rfl, hown, hinn, HD, hB⟩ := hrel
    clear hown0 hb0
    have HK := Lib.hid hkl; clear hkl
    by_cases hlt : k < n
    · obtain ⟨b, off, rfl, hs⟩ := ha.sl hlt
      obtain ⟨e, HX⟩ := hget HL hlt
      have hrd := hr e (List.mem_of_getElem? HX.out)
      have hwl := sumCommand_at (xs := es.map (·.d)) (k := k) (x := e.d) (by rw [List.getElem?_map, HX.out]; rfl)
      have hst := HS.out
      obtain ⟨⟨f0, f1, f2, f3⟩, u3⟩ := e
      obtain ⟨⟨A3, c3, hu3, ha3⟩, -⟩ := hrd
      simp only [wlCommand] at hwl hu3 ha3
      subst hu3
      have hrd2 : RdCommand w (⟨⟨f0, f1, f2, f3⟩, .slice A3 f3.length c3⟩ : ECommand) := ⟨⟨A3, c3, rfl, ha3⟩, trivial⟩
      have HT := Lib.hid (toCommand_any ⟨⟨f0, f1, f2, f3⟩, .slice A3 f3.length c3⟩ wr (hrd2.below hB) (by simp only [wlCommand]; omega))
      unfold ECommand.its at HT
      simp only at HT
      have p0 : wr.cell? ⟨b, off + k * 4, none⟩ = some (.int .i64 f0) := Sl.rec (f := ECommand.vs) (s := 4) (fun _ => rfl) (hs.below' hB) HX.out (j := 0) rfl
      have p1 : wr.cell? ⟨b, off + k * 4 + 1, none⟩ = some (.int .i64 f1) := Sl.rec (f := ECommand.vs) (s := 4) (fun _ => rfl) (hs.below' hB) HX.out (j := 1) rfl
      have p2 : wr.cell? ⟨b, off + k * 4 + 2, none⟩ = some (.int .i64 f2) := Sl.rec (f := ECommand.vs) (s := 4) (fun _ => rfl) (hs.below' hB) HX.out (j := 2) rfl
      have p3 : wr.cell? ⟨b, off + k * 4 + 3, none⟩ = some (.slice A3 f3.length c3) := Sl.rec (f := ECommand.vs) (s := 4) (fun _ => rfl) (hs.below' hB) HX.out (j := 3) rfl
      obtain ⟨n3, hn3⟩ : ∃ n, n = f3.length := ⟨_, rfl⟩
      rw [← hn3] at HT p3
      have HN3 := Lib.hid hn3
      clear hn3 ha3
      clear hrd2 hwl hst hs hr ha
      go_wp2_with fail
      refine HT.out.mono ?_
      rintro z w1 ⟨⟨v3, rfl, hin1⟩, hb1⟩
      have hown2 := own_below' hown hb1
      have hB1 := below_step hB hb1
      have hlen : (rows ECommand.vs es').length = k * 4 := by rw [rows_len (s := 4) (fun _ => rfl), HK.out]
      have hrl := rest_len (s := 4) hown2.1 hlen hlt
      obtain ⟨o0, q0⟩ := own_some hown2 (j := k * 4) (by omega)
      have z0 := hown2.frozenAt (k * 4)
      obtain ⟨o1, q1⟩ := own_some hown2 (j := k * 4 + 1) (by omega)
      have z1 := hown2.frozenAt (k * 4 + 1)
      obtain ⟨o2, q2⟩ := own_some hown2 (j := k * 4 + 2) (by omega)
      have z2 := hown2.frozenAt (k * 4 + 2)
      obtain ⟨o3, q3⟩ := own_some hown2 (j := k * 4 + 3) (by omega)
      have z3 := hown2.frozenAt (k * 4 + 3)
      obtain ⟨hp1, hp2⟩ := own_put4 hown2 hlen hrl (.int .i64 f0) (.int .i64 f1) (.int .i64 f2) (.slice (some ⟨v3, 0, none⟩) n3 n3)
      have hin2 := (((hinn.below hb1).append hin1 hB.size hb1.size).kept hown2 hp2 (by decide)).wide hp2.size
      have HP1 := Lib.hid hp1; have HI2 := Lib.hid hin2
      have HB := Lib.hid (hB1.grown hp2 hB1.size (fun j hj => by injection hj with hj; omega))
      have HD2 : Hid ((es' ++ [(⟨⟨f0, f1, f2, f3⟩, .slice (some ⟨v3, 0, none⟩) n3 n3⟩ : ECommand)]).map (·.d) = (es.take (k + 1)).map (·.d)) := by unfold Hid; rw [List.map_append, HD.out, List.take_add_one, HX.out, List.map_append]; rfl
      clear hown hown2 hinn hin1 hp1 hp2 hin2 hB1 hB hb1 hlen hrl HT p0 p1 p2 p3
      go_wp2_with fail
      go_roundw
      case rel =>
        refine ⟨k + 1, es' ++ [(⟨⟨f0, f1, f2, f3⟩, .slice (some ⟨v3, 0, none⟩) n3 n3⟩ : ECommand)], rest.drop 4, by omega, by simp [HK.out], by go_num, ?_, ?_, HD2.out, HB.out⟩
        · rw [rows_app, rows_one]; exact HP1.out
        · rw [List.flatMap_append, List.flatMap_append]
          have := HI2.out
          simp only [List.flatMap_cons, List.flatMap_nil, List.append_nil, ECommand.us, ECommand.its, ← HN3.out]
          exact this
      case measure => simp [intOf]; omega
    · obtain rfl : n = k := by omega
      go_wp2
      go_ret
      have hr0 : rest = [] := by
        have := hown.1
        rw [List.length_append, rows_len (s := 4) (fun _ => rfl), HK.out] at this
        exact List.eq_nil_of_length_eq_zero (by omega)
      subst hr0
      rw [List.append_nil] at hown
      refine ⟨rfl, ⟨es', ⟨?_, hinn, fun q hq => (hown.lt q hq).2⟩, ?_⟩, hB⟩
      · rw [HK.out]; exact hown
      · rw [HD.out, List.take_of_length_le (by have := HL.out; omega)]

set_option maxRecDepth 100000 in
set_option maxHeartbeats 1000000 in
theorem eqCommandS_any (A B : Option Addr) (n m c d : Nat) (es gs : List ECommand) (w : World) (ha : Args 4 w A n (rows ECommand.vs es)) (hra : RdsCommand w es) (hb : Args 4 w B m (rows ECommand.vs gs)) (hrb : RdsCommand w gs) (hn : n ≤ 4194304) (hm : m ≤ 4194304) (hx : sumCommand (es.map (·.d)) ≤ 4194304) (hy : sumCommand (gs.map (·.d)) ≤ 4194304) :
    Calls Try.prog 15 #[.slice A n c, .slice B m d] w fun z w' => z = .returned (.bool (decide (es.map (·.d) = gs.map (·.d)))) ∧ Below w.heap.size w w' := by
  have HA : Hid (es.length = n) := by have := ha.1; rw [rows_len (s := 4) (fun _ => rfl)] at this; unfold Hid; omega
  have HB : Hid (gs.length = m) := by have := hb.1; rw [rows_len (s := 4) (fun _ => rfl)] at this; unfold Hid; omega
  have HX := Lib.hid hx; have HY := Lib.hid hy; clear hx hy
  by_cases hnm : n = m
  rotate_left
  · have hne : ((n : Int) != (m : Int)) = true := by simp; omega
    go_enter Try.func15, Try.ntmps15
    go_wp2
    go_ret
    refine ⟨ret_bool ?_, Below.refl _ _⟩
    symm
    apply decide_eq_false
    intro h
    have := congrArg List.length h
    simp only [List.length_map] at this
    have h2 := HA.out
    have h3 := HB.out
    omega
  subst hnm
  go_enter Try.func15, Try.ntmps15
  go_wp2
  go_loopw [5] (fun i wr => ∃ k : Nat, k ≤ n ∧ i = .int .i64 k ∧ Below w.heap.size w wr ∧ Hid ((es.map (·.d)).take k = (gs.map (·.d)).take k)) (fun i _ => n - (intOf i).toNat)
  case atStart => exact ⟨0, Nat.zero_le _, rfl, Below.refl _ _, rfl⟩
  case round =>
    obtain ⟨k, hk, rfl, hB, HR⟩ := hrel
    by_cases hlt : k < n
    rotate_left
    · go_wp2
      go_ret
      refine ⟨ret_bool ?_, hB⟩
      have h1 := HR.out
      have h2 := HA.out
      have h3 := HB.out
      rw [List.take_of_length_le (by simp; omega), List.take_of_length_le (by simp; omega)] at h1
      simp [h1]
    obtain ⟨b1, o1, rfl, hs1⟩ := ha.sl hlt
    obtain ⟨b2, o2, rfl, hs2⟩ := hb.sl hlt
    obtain ⟨e, HE⟩ := hget HA hlt
    obtain ⟨g, HG⟩ := hget HB hlt
    have hrd1 := hra e (List.mem_of_getElem? HE.out)
    have hrd2 := hrb g (List.mem_of_getElem? HG.out)
    have hwl1 := sumCommand_at (xs := es.map (·.d)) (k := k) (x := e.d) (by rw [List.getElem?_map, HE.out]; rfl)
    have hwl2 := sumCommand_at (xs := gs.map (·.d)) (k := k) (x := g.d) (by rw [List.getElem?_map, HG.out]; rfl)
    have hst1 := HX.out; have hst2 := HY.out
    have HED : Hid ((es.map (·.d))[k]? = some e.d) := by unfold Hid; rw [List.getElem?_map, HE.out]; rfl
    have HGD : Hid ((gs.map (·.d))[k]? = some g.d) := by unfold Hid; rw [List.getElem?_map, HG.out]; rfl
    obtain ⟨v, hv⟩ : ∃ v, decide (e.d = g.d) = v := ⟨_, rfl⟩
    have HC := Lib.hid (fun W (hW : Below w.heap.size w W) => eqCommand_is e g v hv W (hrd1.below hW) (hrd2.below hW) (by omega) (by omega))
    have HV := Lib.hid hv
    obtain ⟨⟨A3, c3, hu3, ha3⟩, -⟩ := hrd1
    obtain ⟨⟨B3, d3, hv3, hb3⟩, -⟩ := hrd2
    have p0 : wr.cell? ⟨b1, o1 + k * 4, none⟩ = some (.int .i64 e.d.f0) := Sl.rec (f := ECommand.vs) (s := 4) (fun _ => rfl) (hs1.below' hB) HE.out (j := 0) rfl
    have p1 : wr.cell? ⟨b1, o1 + k * 4 + 1, none⟩ = some (.int .i64 e.d.f1) := Sl.rec (f := ECommand.vs) (s := 4) (fun _ => rfl) (hs1.below' hB) HE.out (j := 1) rfl
    have p2 : wr.cell? ⟨b1, o1 + k * 4 + 2, none⟩ = some (.int .i64 e.d.f2) := Sl.rec (f := ECommand.vs) (s := 4) (fun _ => rfl) (hs1.below' hB) HE.out (j := 2) rfl
    have p3 : wr.cell? ⟨b1, o1 + k * 4 + 3, none⟩ = some (e.u3) := Sl.rec (f := ECommand.vs) (s := 4) (fun _ => rfl) (hs1.below' hB) HE.out (j := 3) rfl
    have q0 : wr.cell? ⟨b2, o2 + k * 4, none⟩ = some (.int .i64 g.d.f0) := Sl.rec (f := ECommand.vs) (s := 4) (fun _ => rfl) (hs2.below' hB) HG.out (j := 0) rfl
    have q1 : wr.cell? ⟨b2, o2 + k * 4 + 1, none⟩ = some (.int .i64 g.d.f1) := Sl.rec (f := ECommand.vs) (s := 4) (fun _ => rfl) (hs2.below' hB) HG.out (j := 1) rfl
    have q2 : wr.cell? ⟨b2, o2 + k * 4 + 2, none⟩ = some (.int .i64 g.d.f2) := Sl.rec (f := ECommand.vs) (s := 4) (fun _ => rfl) (hs2.below' hB) HG.out (j := 2) rfl
    have q3 : wr.cell? ⟨b2, o2 + k * 4 + 3, none⟩ = some (g.u3) := Sl.rec (f := ECommand.vs) (s := 4) (fun _ => rfl) (hs2.below' hB) HG.out (j := 3) rfl
    rw [hu3] at HC p3
    rw [hv3] at HC q3
    obtain ⟨n3, hn3⟩ : ∃ n, n = e.d.f3.length := ⟨_, rfl⟩
    obtain ⟨m3, hm3⟩ : ∃ n, n = g.d.f3.length := ⟨_, rfl⟩
    rw [← hn3, ← hm3] at HC
    rw [← hn3] at p3
    rw [← hm3] at q3
    clear hn3 hm3 hu3 hv3 ha3 hb3
    clear hv hs1 hs2 ha hb hra hrb hwl1 hwl2 hst1 hst2
    cases v with
    | true =>
      have E2 : Hid (e.d = g.d) := of_decide_eq_true (p := e.d = g.d) HV.out
      go_wp2
      go_still_tail 8, (by kernel_rfl)
      change wpList _ _ _ _ _ wr.drew
      have hB2 := hB.drew
      clear hB p0 q0 p1 q1 p2 q2 p3 q3
      generalize wr.drew = w2 at hB2 ⊢
      go_wp2_with fail
      refine (HC.out _ hB2).mono ?_
      rintro z w3 ⟨rfl, hb3⟩
      go_wp2
      go_roundw
      case rel => exact ⟨k + 1, by omega, by go_num, below_step hB2 hb3, take_succ_eq HR.out HED.out HGD.out E2.out⟩
      case measure => simp [intOf]; omega
    | false =>
      have E2 : Hid (¬ e.d = g.d) := of_decide_eq_false (p := e.d = g.d) HV.out
      go_wp2
      go_still_tail 8, (by kernel_rfl)
      change wpList _ _ _ _ _ wr.drew
      have hB2 := hB.drew
      clear hB p0 q0 p1 q1 p2 q2 p3 q3
      generalize wr.drew = w2 at hB2 ⊢
      go_wp2_with fail
      refine (HC.out _ hB2).mono ?_
      rintro z w3 ⟨rfl, hb3⟩
      go_wp2
      go_ret
      exact ⟨ret_bool (by simp [ne_of_at HED.out HGD.out E2.out]), below_step hB2 hb3⟩

set_option maxRecDepth 100000 in
set_option maxHeartbeats 1000000 in
theorem szCommandS_any (A : Option Addr) (n c : Nat) (es : List ECommand) (left : Int) (w : World) (ha : Args 4 w A n (rows ECommand.vs es)) (hr : RdsCommand w es) (h0 : 0 ≤ left) (h1 : left ≤ 1048576) (hn : n ≤ 9223372036854775807) (hw : ∀ e ∈ es, wbCommand 9223372036854775807 e.d) :
    Calls Try.prog 10 #[.slice A n c, .int .i64 left] w fun z w' => (∃ q : Int, z = .returned (.int .i64 q) ∧ SzOut (n + sumCommand (es.map (·.d))) left q) ∧ Below w.heap.size w w' := by
  have HL : Hid (es.length = n) := by have := ha.1; rw [rows_len (s := 4) (fun _ => rfl)] at this; unfold Hid; omega
  have HW := Lib.hid hw; clear hw
  by_cases h : (n : Int) ≤ left
  rotate_left
  · have h' : left - (n : Int) < 0 := by omega
    go_enter Try.func10, Try.ntmps10
    go_wp2
    go_ret
    exact ⟨⟨_, rfl, szOut_no (by omega)⟩, Below.refl _ _⟩
  have h' : ¬ left - (n : Int) < 0 := by omega
  go_enter Try.func10, Try.ntmps10
  go_wp2
  go_loopw [1, 5] (fun l i wr => ∃ k : Nat, k ≤ n ∧ i = .int .i64 k ∧ l = .int .i64 (left - (n : Int) - (sumCommand ((es.map (·.d)).take k) : Int)) ∧ (n : Int) + (sumCommand ((es.map (·.d)).take k) : Int) ≤ left ∧ Below w.heap.size w wr) (fun _ i _ => n - (intOf i).toNat)
  case atStart => exact ⟨0, Nat.zero_le _, rfl, by simp [sumCommand], by simpa [sumCommand] using h, Below.refl _ _⟩
  case round =>
    obtain ⟨k, hk, rfl, rfl, hle, hB⟩ := hrel
    by_cases hlt : k < n
    · obtain ⟨b, off, rfl, hs⟩ := ha.sl hlt
      obtain ⟨e, HX⟩ := hget HL hlt
      have hrd := hr e (List.mem_of_getElem? HX.out)
      have hwb := HW.out e (List.mem_of_getElem? HX.out)
      have HED : Hid ((es.map (·.d))[k]? = some e.d) := by unfold Hid; rw [List.getElem?_map, HX.out]; rfl
      have hst := sumCommand_take HED.out
      have hsl := sumCommand_le (es.map (·.d)) (k + 1)
      obtain ⟨p, hp⟩ : ∃ p, p = sumCommand ((es.map (·.d)).take k) := ⟨_, rfl⟩
      rw [← hp] at hle hst ⊢
      have HST := Lib.hid hst; have HSL := Lib.hid hsl
      have HC := Lib.hid (szCommand_any e (left - (n : Int) - (p : Int)) wr (hrd.below hB) (by omega) (by omega) hwb)
      obtain ⟨⟨A3, c3, hu3, ha3⟩, -⟩ := hrd
      have p0 : wr.cell? ⟨b, off + k * 4, none⟩ = some (.int .i64 e.d.f0) := Sl.rec (f := ECommand.vs) (s := 4) (fun _ => rfl) (hs.below' hB) HX.out (j := 0) rfl
      have p1 : wr.cell? ⟨b, off + k * 4 + 1, none⟩ = some (.int .i64 e.d.f1) := Sl.rec (f := ECommand.vs) (s := 4) (fun _ => rfl) (hs.below' hB) HX.out (j := 1) rfl
      have p2 : wr.cell? ⟨b, off + k * 4 + 2, none⟩ = some (.int .i64 e.d.f2) := Sl.rec (f := ECommand.vs) (s := 4) (fun _ => rfl) (hs.below' hB) HX.out (j := 2) rfl
      have p3 : wr.cell? ⟨b, off + k * 4 + 3, none⟩ = some (e.u3) := Sl.rec (f := ECommand.vs) (s := 4) (fun _ => rfl) (hs.below' hB) HX.out (j := 3) rfl
      rw [hu3] at HC p3
      obtain ⟨n3, hn3⟩ : ∃ n, n = e.d.f3.length := ⟨_, rfl⟩
      rw [← hn3] at HC p3
      clear hn3 hu3 ha3
      obtain ⟨wl, hwl⟩ : ∃ wl, wl = wlCommand e.d := ⟨_, rfl⟩
      rw [← hwl] at HC HST
      clear hp hst hsl hs ha hr hwb h h' hwl
      have w1 : IntKind.i64.wrap (left - (n : Int) - (p : Int)) = left - (n : Int) - (p : Int) := IntWalk.i64_in _ (by omega)
      go_wp2_with fail
      refine HC.out.mono ?_
      rintro z w1 ⟨⟨q, rfl, hz⟩, hb1⟩
      unfold SzOut at hz
      have hB1 := below_step hB hb1
      rcases hz with ⟨z1, rfl⟩ | ⟨z1, rfl⟩
      · have z2 : ¬ left - (n : Int) - (p : Int) - (wl : Int) < 0 := by omega
        clear hb1 p0 p1 p2 p3
        go_wp2_with fail
        go_roundw
        case rel => exact ⟨k + 1, by omega, by go_num, by rw [HST.out]; congr 1; omega, by rw [HST.out]; omega, hB1⟩
        case measure => simp [intOf]; omega
      · clear hb1 p0 p1 p2 p3
        go_wp2_with fail
        go_ret
        exact ⟨⟨_, rfl, szOut_no (by have := HST.out; have := HSL.out; omega)⟩, hB1⟩
    · go_wp2
      go_ret
      obtain rfl : n = k := by omega
      rw [List.take_of_length_le (by rw [List.length_map]; have := HL.out; omega)] at hle ⊢
      exact ⟨⟨_, rfl, szOut_yes (by omega) (by omega)⟩, hB⟩

theorem szCommandS_is (A : Option Addr) (n c left r : Nat) (es : List ECommand) (w : World) (ha : Args 4 w A n (rows ECommand.vs es)) (hr : RdsCommand w es) (h : r + (n + sumCommand (es.map (·.d))) = left) (h1 : left ≤ 1048576) (hw : ∀ e ∈ es, wbCommand 9223372036854775807 e.d) :
    Calls Try.prog 10 #[.slice A n c, .int .i64 left] w fun z w' => z = .returned (.int .i64 r) ∧ Below w.heap.size w w' := by
  refine (szCommandS_any A n c es left w ha hr (by omega) (by omega) (by omega) hw).mono ?_
  rintro e w' ⟨⟨z, rfl, hz⟩, hb⟩
  unfold SzOut at hz
  exact ⟨ret_int (by omega), hb⟩

theorem szCommandS_not (A : Option Addr) (n c left : Nat) (es : List ECommand) (w : World) (ha : Args 4 w A n (rows ECommand.vs es)) (hr : RdsCommand w es) (h : left < n + sumCommand (es.map (·.d))) (h1 : left ≤ 1048576) (hn : n ≤ 9223372036854775807) (hw : ∀ e ∈ es, wbCommand 9223372036854775807 e.d) :
    Calls Try.prog 10 #[.slice A n c, .int .i64 left] w fun z w' => z = .returned (.int .i64 (-1)) ∧ Below w.heap.size w w' := by
  refine (szCommandS_any A n c es left w ha hr (by omega) (by omega) hn hw).mono ?_
  rintro e w' ⟨⟨z, rfl, hz⟩, hb⟩
  unfold SzOut at hz
  exact ⟨ret_int (by omega), hb⟩

set_option maxRecDepth 100000 in
set_option maxHeartbeats 2000000 in
theorem markCommandS_any (base hi : Nat) (V : Value) (es : List ECommand) (k0 : Int) (w : World) (hg : SGrid kndCommand base hi 87 85 2 V es w) (hk0 : 0 ≤ k0) (hk1 : k0 + (widSum widCommand es : Nat) ≤ 1099511627776) (hn : es.length ≤ 4194304) (hit : ∀ e ∈ es, wlCommand e.d ≤ 4194304) :
    Calls Try.prog 18 #[V, .int .i64 k0] w fun z w' => z = .returned (.int .i64 (k0 + (widSum widCommand es : Nat))) ∧ SGrid kndCommand base hi 87 85 2 V (markL widCommand mkCommand k0 es) w' ∧ Touch base hi w w' := by
  obtain ⟨n, hnn⟩ : ∃ n, n = es.length := ⟨_, rfl⟩
  have HL : Hid (es.length = n) := hnn.symm
  rw [← hnn] at hn
  clear hnn
  have HTL := Lib.hid hit; clear hit
  rcases Nat.eq_zero_or_pos n with hz | hz
  · subst hz
    have he : es = [] := List.eq_nil_of_length_eq_zero HL.out
    subst he
    obtain ⟨A, cap, rfl⟩ := own_form hg.own
    have HG := Lib.hid hg; clear hg
    go_enter Try.func18, Try.ntmps18
    go_wp2
    refine wp_loop_rounds 1 ?_
    rw [rounds_succ]
    go_wp2
    go_ret
    exact ⟨by simp [widSum], HG.out, Touch.refl _ _ _⟩
  obtain ⟨g, cap, rfl⟩ := hg.addr HL.out hz
  obtain ⟨tt, htt⟩ : ∃ t, t = widSum widCommand es := ⟨_, rfl⟩
  rw [← htt] at hk1
  have HT := Lib.hid htt; clear htt
  have HG0 := Lib.hid hg; clear hg
  go_enter Try.func18, Try.ntmps18
  go_wp2
  go_loopw [1, 5] (fun kk i wr => ∃ k : Nat, k ≤ n ∧ i = .int .i64 k ∧ kk = .int .i64 (k0 + (widSum widCommand (es.take k) : Nat)) ∧ Hid (SGrid kndCommand base hi 87 85 2 (.slice (some ⟨g, 0, none⟩) n cap) (markL widCommand mkCommand k0 (es.take k) ++ es.drop k) (wr)) ∧ Touch base hi w wr) (fun _ i _ => n - (intOf i).toNat)
  case atStart => exact ⟨0, Nat.zero_le _, rfl, by simp [widSum], by simpa [markL, Hid] using HG0.out, Touch.refl _ _ _⟩
  case round =>
    obtain ⟨k, hk, rfl, rfl, HG, hto⟩ := hrel
    by_cases hlt : k < n
    rotate_left
    · obtain rfl : n = k := by omega
      have hg := HG.out
      rw [List.take_of_length_le (by have := HL.out; omega), List.drop_of_length_le (by have := HL.out; omega), List.append_nil] at hg
      rw [List.take_of_length_le (by have := HL.out; omega)]
      have HG2 := Lib.hid hg; clear hg
      go_wp2
      go_ret
      exact ⟨rfl, HG2.out, hto⟩
    obtain ⟨e, HX⟩ := hget HL hlt
    have hk_0 := markL_cur widCommand mkCommand HX.out k0
    have hc1 := widSum_take widCommand HX.out
    have hc2 := widSum_le widCommand es (k + 1)
    have hwe := widCommand_eq e
    have hlen := HTL.out e (List.mem_of_getElem? HX.out)
    unfold wlCommand at hlen
    obtain ⟨p, hp⟩ : ∃ p, p = widSum widCommand (es.take k) := ⟨_, rfl⟩
    rw [← hp, hwe] at hc1
    rw [← hp]
    have hpt : p + (1 + 1 + 1 + e.d.f3.length * 2) ≤ tt := by have := HT.out; omega
    have HP := Lib.hid hp; have HC1 := Lib.hid hc1
    have s_0 := HG.out
    have cwr_0 : wr.cell? ⟨g, k * 4, none⟩ = some (.int .i64 e.d.f0) := s_0.cell (j := 0) hk_0 rfl
    have zwr_0 : wr.frozen? ⟨g, k * 4, none⟩ = false := s_0.thaw _
    have cwr_1 : wr.cell? ⟨g, k * 4 + 1, none⟩ = some (.int .i64 e.d.f1) := s_0.cell (j := 1) hk_0 rfl
    have zwr_1 : wr.frozen? ⟨g, k * 4 + 1, none⟩ = false := s_0.thaw _
    have cwr_2 : wr.cell? ⟨g, k * 4 + 2, none⟩ = some (.int .i64 e.d.f2) := s_0.cell (j := 2) hk_0 rfl
    have zwr_2 : wr.frozen? ⟨g, k * 4 + 2, none⟩ = false := s_0.thaw _
    have cwr_3 : wr.cell? ⟨g, k * 4 + 3, none⟩ = some (e.u3) := s_0.cell (j := 3) hk_0 rfl
    clear hp hc1 hc2 hwe
    have st_1 := SGrid.store (k := k) (j := 0) (e' := (⟨⟨(k0 + (p : Int)), e.d.f1, e.d.f2, e.d.f3⟩, e.u3⟩ : ECommand)) (u := .int .i64 ((k0 + (p : Int)))) s_0 hk_0 (by decide) rfl rfl rfl (by decide)
    have s_1 : SGrid kndCommand base hi 87 85 2 (.slice (some ⟨g, 0, none⟩) n cap) ((markL widCommand mkCommand k0 (es.take k) ++ es.drop k).set k (⟨⟨(k0 + (p : Int)), e.d.f1, e.d.f2, e.d.f3⟩, e.u3⟩ : ECommand)) ((wr).setCell ⟨g, k * 4, none⟩ (.int .i64 ((k0 + (p : Int))))) := st_1.1
    have t_1 : Touch base hi w ((wr).setCell ⟨g, k * 4, none⟩ (.int .i64 ((k0 + (p : Int))))) := hto.trans st_1.2
    have hk_1 : ((markL widCommand mkCommand k0 (es.take k) ++ es.drop k).set k (⟨⟨(k0 + (p : Int)), e.d.f1, e.d.f2, e.d.f3⟩, e.u3⟩ : ECommand))[k]? = some (⟨⟨(k0 + (p : Int)), e.d.f1, e.d.f2, e.d.f3⟩, e.u3⟩ : ECommand) := get_set' hk_0 _
    clear st_1
    have st_2 := SGrid.store (k := k) (j := 1) (e' := (⟨⟨(k0 + (p : Int)), (k0 + (p : Int)) + 1, e.d.f2, e.d.f3⟩, e.u3⟩ : ECommand)) (u := .int .i64 ((k0 + (p : Int)) + 1)) s_1 hk_1 (by decide) rfl rfl rfl (by decide)
    have s_2 : SGrid kndCommand base hi 87 85 2 (.slice (some ⟨g, 0, none⟩) n cap) ((markL widCommand mkCommand k0 (es.take k) ++ es.drop k).set k (⟨⟨(k0 + (p : Int)), (k0 + (p : Int)) + 1, e.d.f2, e.d.f3⟩, e.u3⟩ : ECommand)) (((wr).setCell ⟨g, k * 4, none⟩ (.int .i64 ((k0 + (p : Int))))).setCell ⟨g, k * 4 + 1, none⟩ (.int .i64 ((k0 + (p : Int)) + 1))) := by have := st_2.1; rw [set_set'] at this; exact this
    have t_2 : Touch base hi w (((wr).setCell ⟨g, k * 4, none⟩ (.int .i64 ((k0 + (p : Int))))).setCell ⟨g, k * 4 + 1, none⟩ (.int .i64 ((k0 + (p : Int)) + 1))) := t_1.trans st_2.2
    have hk_2 : ((markL widCommand mkCommand k0 (es.take k) ++ es.drop k).set k (⟨⟨(k0 + (p : Int)), (k0 + (p : Int)) + 1, e.d.f2, e.d.f3⟩, e.u3⟩ : ECommand))[k]? = some (⟨⟨(k0 + (p : Int)), (k0 + (p : Int)) + 1, e.d.f2, e.d.f3⟩, e.u3⟩ : ECommand) := get_set' hk_0 _
    clear st_2
    have st_3 := SGrid.store (k := k) (j := 2) (e' := (⟨⟨(k0 + (p : Int)), (k0 + (p : Int)) + 1, (k0 + (p : Int)) + 1 + 1, e.d.f3⟩, e.u3⟩ : ECommand)) (u := .int .i64 ((k0 + (p : Int)) + 1 + 1)) s_2 hk_2 (by decide) rfl rfl rfl (by decide)
    have s_3 : SGrid kndCommand base hi 87 85 2 (.slice (some ⟨g, 0, none⟩) n cap) ((markL widCommand mkCommand k0 (es.take k) ++ es.drop k).set k (⟨⟨(k0 + (p : Int)), (k0 + (p : Int)) + 1, (k0 + (p : Int)) + 1 + 1, e.d.f3⟩, e.u3⟩ : ECommand)) ((((wr).setCell ⟨g, k * 4, none⟩ (.int .i64 ((k0 + (p : Int))))).setCell ⟨g, k * 4 + 1, none⟩ (.int .i64 ((k0 + (p : Int)) + 1))).setCell ⟨g, k * 4 + 2, none⟩ (.int .i64 ((k0 + (p : Int)) + 1 + 1))) := by have := st_3.1; rw [set_set'] at this; exact this
    have t_3 : Touch base hi w ((((wr).setCell ⟨g, k * 4, none⟩ (.int .i64 ((k0 + (p : Int))))).setCell ⟨g, k * 4 + 1, none⟩ (.int .i64 ((k0 + (p : Int)) + 1))).setCell ⟨g, k * 4 + 2, none⟩ (.int .i64 ((k0 + (p : Int)) + 1 + 1))) := t_2.trans st_3.2
    have hk_3 : ((markL widCommand mkCommand k0 (es.take k) ++ es.drop k).set k (⟨⟨(k0 + (p : Int)), (k0 + (p : Int)) + 1, (k0 + (p : Int)) + 1 + 1, e.d.f3⟩, e.u3⟩ : ECommand))[k]? = some (⟨⟨(k0 + (p : Int)), (k0 + (p : Int)) + 1, (k0 + (p : Int)) + 1 + 1, e.d.f3⟩, e.u3⟩ : ECommand) := get_set' hk_0 _
    clear st_3
    obtain ⟨wa0, HWA0, sa0, ta0⟩ : ∃ wa, Hid (wa = (((wr).setCell ⟨g, k * 4, none⟩ (.int .i64 ((k0 + (p : Int))))).setCell ⟨g, k * 4 + 1, none⟩ (.int .i64 ((k0 + (p : Int)) + 1))).setCell ⟨g, k * 4 + 2, none⟩ (.int .i64 ((k0 + (p : Int)) + 1 + 1))) ∧ SGrid kndCommand base hi 87 85 2 (.slice (some ⟨g, 0, none⟩) n cap) ((markL widCommand mkCommand k0 (es.take k) ++ es.drop k).set k (⟨⟨(k0 + (p : Int)), (k0 + (p : Int)) + 1, (k0 + (p : Int)) + 1 + 1, e.d.f3⟩, e.u3⟩ : ECommand)) (wa) ∧ Touch base hi w wa := ⟨_, rfl, s_3, t_3⟩
    have r0 := SGrid.row (j := 0) sa0 hk_3 (v := e.u3) (it := (e.d.f3.length, rows R2.vs e.d.f3)) rfl rfl
    go_wp2_with fail
    rw [← HWA0.out]
    refine (inMarkExprS base e.u3 e.d.f3.length ((k0 + (p : Int)) + 1 + 1 + 1) _ _ r0 (by omega) (by omega) (by omega)).mono ?_
    rintro z wb0 ⟨rfl, ow0, gr0⟩
    have st_4 := SGrid.mark (k := k) (j := 0) (e' := (⟨⟨(k0 + (p : Int)), (k0 + (p : Int)) + 1, (k0 + (p : Int)) + 1 + 1, run2 ((k0 + (p : Int)) + 1 + 1 + 1) e.d.f3.length⟩, e.u3⟩ : ECommand)) sa0 hk_3 (v := e.u3) (it := (e.d.f3.length, rows R2.vs e.d.f3)) rfl rfl gr0 ow0 rfl rfl (by show ECommand.its _ = (ECommand.its _).set 0 _; simp only [ECommand.its, run2_len, rows_run2]; rfl) (by decide)
    have s_4 : SGrid kndCommand base hi 87 85 2 (.slice (some ⟨g, 0, none⟩) n cap) ((markL widCommand mkCommand k0 (es.take k) ++ es.drop k).set k (⟨⟨(k0 + (p : Int)), (k0 + (p : Int)) + 1, (k0 + (p : Int)) + 1 + 1, run2 ((k0 + (p : Int)) + 1 + 1 + 1) e.d.f3.length⟩, e.u3⟩ : ECommand)) (wb0) := by have := st_4.1; rw [set_set'] at this; exact this
    have t_4 : Touch base hi w wb0 := ta0.trans st_4.2
    have hk_4 : ((markL widCommand mkCommand k0 (es.take k) ++ es.drop k).set k (⟨⟨(k0 + (p : Int)), (k0 + (p : Int)) + 1, (k0 + (p : Int)) + 1 + 1, run2 ((k0 + (p : Int)) + 1 + 1 + 1) e.d.f3.length⟩, e.u3⟩ : ECommand))[k]? = some (⟨⟨(k0 + (p : Int)), (k0 + (p : Int)) + 1, (k0 + (p : Int)) + 1 + 1, run2 ((k0 + (p : Int)) + 1 + 1 + 1) e.d.f3.length⟩, e.u3⟩ : ECommand) := get_set' hk_0 _
    clear st_4 r0 ow0 gr0
    have HN : Hid (SGrid kndCommand base hi 87 85 2 (.slice (some ⟨g, 0, none⟩) n cap) (markL widCommand mkCommand k0 (es.take (k + 1)) ++ es.drop (k + 1)) (wb0)) := by
      have := markL_next widCommand mkCommand HX.out k0 (e' := (⟨⟨(k0 + (p : Int)), (k0 + (p : Int)) + 1, (k0 + (p : Int)) + 1 + 1, run2 ((k0 + (p : Int)) + 1 + 1 + 1) e.d.f3.length⟩, e.u3⟩ : ECommand)) (by rw [← HP.out]; rfl)
      unfold Hid
      rw [← this]
      exact s_4
    have HTT := Lib.hid t_4
    clear s_0 s_1 s_2 s_3 s_4 t_1 t_2 t_3 t_4 hk_0 hk_1 hk_2 hk_3 hk_4
    go_wp2_with fail
    go_roundw
    case rel => exact ⟨k + 1, by omega, by go_num, by rw [HC1.out]; congr 1; omega, HN, HTT.out⟩
    case measure => simp [intOf]; omega

set_option maxRecDepth 100000 in
set_option maxHeartbeats 2000000 in
theorem heldCommandS_any (base hi : Nat) (V : Value) (es : List ECommand) (k0 : Int) (w : World) (hg : SGrid kndCommand base hi 87 85 2 V (markL widCommand mkCommand k0 es) w) (hk0 : 0 ≤ k0) (hk1 : k0 + (widSum widCommand es : Nat) ≤ 1099511627776) (hn : es.length ≤ 4194304) (hit : ∀ e ∈ es, wlCommand e.d ≤ 4194304) :
    Calls Try.prog 19 #[V, .int .i64 k0] w fun z w' => z = .returned (.int .i64 (k0 + (widSum widCommand es : Nat))) ∧ w = w' := by
  obtain ⟨n, hnn⟩ : ∃ n, n = es.length := ⟨_, rfl⟩
  have HL : Hid (es.length = n) := hnn.symm
  rw [← hnn] at hn
  clear hnn
  have HTL := Lib.hid hit; clear hit
  have hml : (markL widCommand mkCommand k0 es).length = n := by rw [length_markL, HL.out]
  rcases Nat.eq_zero_or_pos n with hz | hz
  · subst hz
    have he : es = [] := List.eq_nil_of_length_eq_zero HL.out
    subst he
    obtain ⟨A, cap, rfl⟩ := own_form hg.own
    clear hg
    go_enter Try.func19, Try.ntmps19
    go_wp2
    refine wp_loop_rounds 1 ?_
    rw [rounds_succ]
    go_wp2
    go_ret
    exact ⟨by simp [widSum], rfl⟩
  obtain ⟨g, cap, rfl⟩ := hg.addr hml hz
  obtain ⟨tt, htt⟩ : ∃ t, t = widSum widCommand es := ⟨_, rfl⟩
  rw [← htt] at hk1
  have HT := Lib.hid htt; clear htt
  have HG := Lib.hid hg; clear hg hml
  go_enter Try.func19, Try.ntmps19
  go_wp2
  go_loop [1, 5] (fun kk i => ∃ k : Nat, k ≤ n ∧ i = .int .i64 k ∧ kk = .int .i64 (k0 + (widSum widCommand (es.take k) : Nat))) (fun _ i => n - (intOf i).toNat)
  case atStart => exact ⟨0, Nat.zero_le _, rfl, by simp [widSum]⟩
  case round =>
    obtain ⟨k, hk, rfl, rfl⟩ := hrel
    by_cases hlt : k < n
    rotate_left
    · obtain rfl : n = k := by omega
      rw [List.take_of_length_le (by have := HL.out; omega)]
      go_wp2
      go_ret
      exact ⟨rfl, rfl⟩
    obtain ⟨e, HX⟩ := hget HL hlt
    have hkm := markL_at widCommand mkCommand HX.out k0
    have hc1 := widSum_take widCommand HX.out
    have hc2 := widSum_le widCommand es (k + 1)
    have hwe := widCommand_eq e
    have hlen := HTL.out e (List.mem_of_getElem? HX.out)
    unfold wlCommand at hlen
    obtain ⟨p, hp⟩ : ∃ p, p = widSum widCommand (es.take k) := ⟨_, rfl⟩
    rw [← hp, hwe] at hc1
    rw [← hp] at hkm ⊢
    have hpt : p + (1 + 1 + 1 + e.d.f3.length * 2) ≤ tt := by have := HT.out; omega
    have HC1 := Lib.hid hc1
    have r0 := HG.out.row (j := 0) hkm (v := e.u3) (it := ((run2 ((k0 + (p : Int)) + 1 + 1 + 1) e.d.f3.length).length, rows R2.vs (run2 ((k0 + (p : Int)) + 1 + 1 + 1) e.d.f3.length))) rfl rfl
    simp only [run2_len, rows_run2] at r0
    obtain ⟨A3, c3, e3⟩ := own_form r0
    rw [e3] at r0
    have a3 := args_of_own r0
    clear r0
    have k_0 : w.cell? ⟨g, k * 4, none⟩ = some (.int .i64 ((k0 + (p : Int)))) := HG.out.cell (j := 0) hkm rfl
    have k_1 : w.cell? ⟨g, k * 4 + 1, none⟩ = some (.int .i64 ((k0 + (p : Int)) + 1)) := HG.out.cell (j := 1) hkm rfl
    have k_2 : w.cell? ⟨g, k * 4 + 2, none⟩ = some (.int .i64 ((k0 + (p : Int)) + 1 + 1)) := HG.out.cell (j := 2) hkm rfl
    have k_3 : w.cell? ⟨g, k * 4 + 3, none⟩ = some (e.u3) := HG.out.cell (j := 3) hkm rfl
    rw [e3] at k_3
    clear e3
    clear hp hc1 hc2 hwe hkm
    go_wp2_with fail
    refine (inHeldExprS A3 e.d.f3.length c3 ((k0 + (p : Int)) + 1 + 1 + 1) _ a3 (by omega) (by omega) (by omega)).mono ?_
    rintro z w1 ⟨rfl, rfl⟩
    have nn3 : ¬ (k0 + (p : Int)) + 1 + 1 + 1 + ((e.d.f3.length * 2 : Nat) : Int) < 0 := by omega
    clear k_0 k_1 k_2 k_3
    go_wp2_with fail
    go_round
    case rel => exact ⟨k + 1, by omega, by go_num, by rw [HC1.out]; congr 1; omega⟩
    case measure => simp [intOf]; omega

theorem markCommandS_is (base hi : Nat) (V : Value) (es : List ECommand) (k0 : Int) (q : Nat) (w : World) (hg : SGrid kndCommand base hi 87 85 2 V es w) (hq : widSum widCommand es = q) (hk0 : 0 ≤ k0) (hk1 : k0 + (q : Int) ≤ 1099511627776) (hn : es.length ≤ 4194304) (hit : ∀ e ∈ es, wlCommand e.d ≤ 4194304) :
    Calls Try.prog 18 #[V, .int .i64 k0] w fun z w' => z = .returned (.int .i64 (k0 + (q : Int))) ∧ SGrid kndCommand base hi 87 85 2 V (markL widCommand mkCommand k0 es) w' ∧ Touch base hi w w' := by
  subst hq
  exact markCommandS_any base hi V es k0 w hg hk0 hk1 hn hit

theorem heldCommandS_is (base hi : Nat) (V : Value) (es : List ECommand) (k0 : Int) (q : Nat) (w : World) (hg : SGrid kndCommand base hi 87 85 2 V (markL widCommand mkCommand k0 es) w) (hq : widSum widCommand es = q) (hk0 : 0 ≤ k0) (hk1 : k0 + (q : Int) ≤ 1099511627776) (hn : es.length ≤ 4194304) (hit : ∀ e ∈ es, wlCommand e.d ≤ 4194304) :
    Calls Try.prog 19 #[V, .int .i64 k0] w fun z w' => z = .returned (.int .i64 (k0 + (q : Int))) ∧ w = w' := by
  subst hq
  exact heldCommandS_any base hi V es k0 w hg hk0 hk1 hn hit

theorem eqCommandS_is (A B : Option Addr) (n m c d : Nat) (es gs : List ECommand) (xs : List DCommand) (w : World) (ha : Args 4 w A n (rows ECommand.vs es)) (hra : RdsCommand w es) (hb : Args 4 w B m (rows ECommand.vs gs)) (hrb : RdsCommand w gs) (he : es.map (·.d) = xs) (hg : gs.map (·.d) = xs) (hn : n ≤ 4194304) (hm : m ≤ 4194304) (hx : sumCommand xs ≤ 4194304) :
    Calls Try.prog 15 #[.slice A n c, .slice B m d] w fun z w' => z = .returned (.bool true) ∧ Below w.heap.size w w' := by
  refine (eqCommandS_any A B n m c d es gs w ha hra hb hrb hn hm (by rw [he]; exact hx) (by rw [hg]; exact hx)).mono ?_
  rintro z w' ⟨rfl, hb⟩
  exact ⟨ret_bool (by rw [he, hg]; simp), hb⟩

theorem widSumCommand_of {es : List ECommand} {xs : List DCommand} (h : es.map (·.d) = xs) : widSum widCommand es = 3 * xs.length + sumCommand xs * 2 := by
  subst h
  induction es with
  | nil => simp [widSum, sumCommand]
  | cons e l ih =>
    simp only [widSum, sumCommand, widCommand, List.map_cons, List.sum_cons, List.length_cons] at ih ⊢
    rw [ih]
    omega
theorem lensCommand {es : List ECommand} {xs : List DCommand} (h : es.map (·.d) = xs) {m : Nat} (hm : sumCommand xs ≤ m) : ∀ e ∈ es, wlCommand e.d ≤ m := by
  intro e he
  have h1 : e.d ∈ xs := by rw [← h]; exact List.mem_map_of_mem he
  obtain ⟨k, hk⟩ := List.getElem?_of_mem h1
  exact Nat.le_trans (sumCommand_at hk) hm

end Go.Proofs.Ytfmfpknigafnoaa
