/- Programs one after the other: joinPrograms, copied, CopyRegister and the reference's l07Join, l07Copy, CopyRegister. -/
import Derived.Test.YtkdjdnfdiphgiaaRegs
namespace Go.Proofs.Ytkdjdnfdiphgiaa
open Go.RowKit
set_option linter.all false
attribute [local go_sem ↓] Go.wp_at_zero Go.wp_at_succ

def joinP (a b : List R4) : List R4 := a ++ b.map (redirF (tgt b.length ((a.length : Int) + b.length) a.length))
/-- Each target lies in the program or behind it. -/
def WfP (p : List R4) : Prop := ∀ x ∈ p, (0 ≤ x.c ∧ x.c ≤ p.length) ∧ (0 ≤ x.d ∧ x.d ≤ p.length) ∧ (x.a = 0 ∨ x.a = 1)
theorem WfP.near {p : List R4} (h : WfP p) (hl : p.length ≤ 1048576) : Near p := by
  intro x hx; obtain ⟨h1, h2, _⟩ := h x hx; omega
theorem WfP.kinds {p : List R4} (h : WfP p) : Kinds p := fun x hx => (h x hx).2.2
theorem joinP_len (a b : List R4) : (joinP a b).length = a.length + b.length := by simp [joinP]
theorem tgt_le {n : Nat} {halt by_ y m : Int} (h0 : 0 ≤ y) (h1 : y ≤ n) (hb : 0 ≤ by_) (hm : by_ + n ≤ m) (hh : 0 ≤ halt) (hh1 : halt ≤ m) : 0 ≤ tgt n halt by_ y ∧ tgt n halt by_ y ≤ m := by
  unfold tgt; split <;> omega
theorem redir_wf {b : List R4} {n : Nat} {halt by_ m : Int} (hb : WfP b) (hn : b.length = n) (h0 : 0 ≤ by_) (hm : by_ + n ≤ m) (hh : 0 ≤ halt) (hh1 : halt ≤ m) : ∀ x ∈ b.map (redirF (tgt n halt by_)), (0 ≤ x.c ∧ x.c ≤ m) ∧ (0 ≤ x.d ∧ x.d ≤ m) ∧ (x.a = 0 ∨ x.a = 1) := by
  intro x hx
  obtain ⟨y, hy, rfl⟩ := List.mem_map.1 hx
  obtain ⟨h1, h2, h3⟩ := hb y hy
  rw [hn] at h1 h2
  refine ⟨tgt_le h1.1 h1.2 h0 hm hh hh1, ?_, h3⟩
  show 0 ≤ (if y.a = 1 then tgt n halt by_ y.d else y.d) ∧ (if y.a = 1 then tgt n halt by_ y.d else y.d) ≤ m
  split
  · exact tgt_le h2.1 h2.2 h0 hm hh hh1
  · omega
theorem joinP_wf {a b : List R4} (ha : WfP a) (hb : WfP b) : WfP (joinP a b) := by
  intro x hx
  rw [joinP_len]
  unfold joinP at hx
  rcases List.mem_append.1 hx with hx | hx
  · obtain ⟨h1, h2, h3⟩ := ha x hx
    exact ⟨by omega, by omega, h3⟩
  · have := redir_wf (m := ((a.length + b.length : Nat) : Int)) hb rfl (by omega) (by omega) (by omega) (by omega) x hx
    exact this
theorem redir_id (p : List R4) (n : Nat) (k : Int) (hk : k = 0) : p.map (redirF (tgt n (n : Int) k)) = p := by
  subst hk
  have h : ∀ y, tgt n (n : Int) 0 y = y := by intro y; unfold tgt; split <;> omega
  rw [List.map_congr_left (g := id)]
  · simp
  · intro x _
    show (⟨x.a, x.b, tgt n (n : Int) 0 x.c, if x.a = 1 then tgt n (n : Int) 0 x.d else x.d⟩ : R4) = x
    rw [h, h]; simp
theorem joinP_nil (b : List R4) : joinP [] b = b := by
  show b.map (redirF (tgt b.length ((0 : Int) + b.length) 0)) = b
  rw [Int.zero_add]; exact redir_id b _ _ rfl
theorem moveP_wf (f : Int) (ts : List Int) : WfP (moveP f ts) := by
  intro x hx
  rw [moveP_len]
  unfold moveP at hx
  split at hx
  · rw [List.mem_singleton] at hx; subst hx; simp; omega
  · rcases List.mem_cons.1 hx with rfl | hx
    · simp; omega
    · unfold incs at hx
      obtain ⟨i, hi, rfl⟩ := List.mem_mapIdx.1 hx
      simp only
      split <;> simp <;> omega
/-- A register is added to another by way of a third. -/
def copyP (f t s : Int) : List R4 := joinP (moveP f [t, s]) (moveP s [f])
theorem copyP_len (f t s : Int) : (copyP f t s).length = 5 := by unfold copyP; rw [joinP_len, moveP_len, moveP_len]; rfl
theorem copyP_wf (f t s : Int) : WfP (copyP f t s) := joinP_wf (moveP_wf _ _) (moveP_wf _ _)

set_option maxRecDepth 100000 in
set_option maxHeartbeats 1000000 in
theorem joinPrograms_any (A1 A2 : Option Addr) (n1 n2 c1 c2 : Nat) (xa xb : List R4) (w : World) (h1 : Src 4 w (.slice A1 n1 c1) n1 (rows R4.vs xa)) (h2 : Src 4 w (.slice A2 n2 c2) n2 (rows R4.vs xb)) (hn1 : n1 ≤ 500000) (hn2 : n2 ≤ 500000) (hw1 : WfP xa) (hw2 : WfP xb) :
    Calls Try.prog 117 #[.slice A1 n1 c1, .slice A2 n2 c2] w fun e w' => ∃ g, e = .returned (.pointer (some ⟨g, 0, none⟩)) ∧ Asm w' w.heap.size g (joinP xa xb) ∧ Below w.heap.size w w' := by
  have HL1 : Hid (xa.length = n1) := by have := h1.1; rw [rows_len R4.vs_len] at this; unfold Hid; omega
  have HL2 : Hid (xb.length = n2) := by have := h2.1; rw [rows_len R4.vs_len] at this; unfold Hid; omega
  have near1 := hw1.near (by have := HL1.out; omega)
  have near2 := hw2.near (by have := HL2.out; omega)
  clear hw1 hw2
  have N1 := Lib.hid near1; have N2 := Lib.hid near2; clear near1 near2
  have hasm : Asm (w.alloc (.cells #[.slice none 0 0] 120)) w.heap.size w.heap.size [] := ⟨Nat.le_refl _, _, heap_alloc_new _ _, World.ownsRow_nil _ _ _ _⟩
  have hb0 := laid_below w (.cells #[.slice none 0 0] 120)
  go_enter Try.func117, Try.ntmps117
  go_wp2_with (go_at_call 86; refine (sizeOf_Instr_any _ _ _ _).mono ?_; rintro e w1 ⟨rfl, hw1⟩; subst hw1)
  refine (asmPart_any w.heap.size w.heap.size (n1 : Int) [] xa A1 n1 c1 _ hasm (by simp) (h1.below hb0) (by omega) N1.out).mono ?_
  rintro e w1 ⟨rfl, hasm1, hb1⟩
  have hB1 := hb0.trans hb1
  rw [List.nil_append, redir_id xa n1 ((([] : List R4).length : Nat) : Int) rfl] at hasm1
  clear hasm hb0 hb1
  go_wp2_with (go_at_call 86; refine (sizeOf_Instr_any _ _ _ _).mono ?_; rintro e w2 ⟨rfl, hw2⟩; subst hw2)
  refine (asmPart_any w.heap.size w.heap.size ((n1 : Int) + n2) xa xb A2 n2 c2 _ hasm1 (by have := HL1.out; omega) (h2.below hB1) (by omega) N2.out).mono ?_
  rintro e w2 ⟨rfl, hasm2, hb2⟩
  have hB2 := hB1.trans hb2
  go_wp2
  go_ret
  exact ⟨_, rfl, by unfold joinP; rw [HL1.out, HL2.out]; rw [HL1.out] at hasm2; exact hasm2, hB2⟩

set_option maxRecDepth 100000 in
set_option maxHeartbeats 1000000 in
theorem copied_any (f t : Int) (w : World) : Calls Try.prog 118 #[.int .i64 f, .int .i64 t] w fun e w' => ∃ v, e = .returned v ∧ w'.ownsRow w.heap.size 78 4 v 5 (rows R4.vs (copyP f t 23)) ∧ Below w.heap.size w w' := by
  have hb0 := laid_below w (.cells #[.int .i64 t, .int .i64 23] 2)
  have hs0 : Src 1 (w.alloc (.cells #[.int .i64 t, .int .i64 23] 2)) (.slice (some ⟨w.heap.size, 0, none⟩) 2 2) 2 ([t, 23].map (Value.int .i64)) := Src.of_sl (sl_laid w _ _) rfl
  go_enter Try.func118, Try.ntmps118
  go_wp2_with fail
  refine (moveRegister_any f _ 2 [t, 23] _ hs0 (by omega)).mono ?_
  rintro e w1 ⟨v1, rfl, hown1, hb1⟩
  have hB1 := below_step hb0 hb1
  obtain ⟨A1, c1, rfl⟩ := own_form hown1
  clear hs0 hb0 hb1
  have hb2 := laid_below w1 (.cells #[.int .i64 f] 2)
  have hs2 : Src 1 (w1.alloc (.cells #[.int .i64 f] 2)) (.slice (some ⟨w1.heap.size, 0, none⟩) 1 1) 1 ([f].map (Value.int .i64)) := Src.of_sl (sl_laid w1 _ _) rfl
  go_wp2_with fail
  refine (moveRegister_any 23 _ 1 [f] _ hs2 (by omega)).mono ?_
  rintro e w2 ⟨v2, rfl, hown2, hb3⟩
  have hb23 := below_step hb2 hb3
  have hB2 := below_step hB1 hb23
  have hs1 := (Src.of_own hown1).below hb23
  have hs2' := Src.of_own hown2
  obtain ⟨A2, c2, rfl⟩ := own_form hown2
  clear hs2 hb2 hb3 hown1 hown2
  go_wp2_with fail
  refine (joinPrograms_any A1 A2 _ _ c1 c2 _ _ _ hs1 hs2' (by omega) (by omega) (moveP_wf _ _) (moveP_wf _ _)).mono ?_
  rintro e w3 ⟨g, rfl, hasm, hb3⟩
  obtain ⟨v, hc, hown⟩ := hasm.list
  have hln := copyP_len f t 23
  unfold copyP at hln
  rw [hln] at hown
  clear hasm hln
  go_wp2
  go_ret
  exact ⟨_, rfl, own_base hown hB2.size, below_step hB2 hb3⟩

set_option maxRecDepth 100000 in
set_option maxHeartbeats 1000000 in
theorem l07Join_any (A1 A2 : Option Addr) (n1 n2 c1 c2 : Nat) (xa xb : List R4) (w : World) (h1 : Src 4 w (.slice A1 n1 c1) n1 (rows R4.vs xa)) (h2 : Src 4 w (.slice A2 n2 c2) n2 (rows R4.vs xb)) (hn1 : n1 ≤ 500000) (hn2 : n2 ≤ 500000) (hw2 : WfP xb) :
    Calls Try.prog 76 #[.slice A1 n1 c1, .slice A2 n2 c2] w fun e w' => ∃ v, e = .returned v ∧ w'.ownsRow w.heap.size 78 4 v (n1 + n2) (rows R4.vs (joinP xa xb)) ∧ Below w.heap.size w w' := by
  have HL1 : Hid (xa.length = n1) := by have := h1.1; rw [rows_len R4.vs_len] at this; unfold Hid; omega
  have HL2 : Hid (xb.length = n2) := by have := h2.1; rw [rows_len R4.vs_len] at this; unfold Hid; omega
  have N2 := Lib.hid (hw2.near (by have := HL2.out; omega))
  have K2 := Lib.hid hw2.kinds
  clear hw2
  have hown0 : (w.alloc (.cells #[] 78)).ownsRow w.heap.size 78 4 (.slice (some ⟨w.heap.size, 0, none⟩) 0 0) 0 [] := own_empty w 78 4
  have hB0 := laid_below w (.cells #[] 78)
  have hs1 := h1.below hB0
  have HO := Lib.hid (one_rows_Instr xa)
  have HO2 := Lib.hid (one_rows_Instr (xb.map (redirF (tgt n2 ((n1 : Int) + n2) n1))))
  clear h1
  go_enter Try.func76, Try.ntmps76
  go_wp2_with (at_builtin; refine wpList_appx rfl _ _ _ rfl Try.underlying24 infoInstr rfl (by omega) w.heap.size hown0 hB0.size rfl hs1 rfl HO.out (by unfold maxLen; omega) (by omega) ?_; intro v2 w2 hown2 hg2 hnil2; have hb1 := grown_below hB0 hown0 (Nat.le_refl _) hg2; clear hnil2 hown0 hB0 hs1 hg2; obtain ⟨A3, c3, rfl⟩ := own_form hown2; simp only [Nat.zero_add, List.nil_append] at hown2 ⊢)
  refine (l07Shift_any (n1 : Int) ((n1 : Int) + n2) A2 n2 c2 xb _ (h2.below hb1) (by omega) N2.out K2.out (by omega) (by omega)).mono ?_
  rintro e w3 ⟨v3, rfl, hown3, hb3⟩
  have hown4 := own_below' hown2 hb3
  have hB3 := below_step hb1 hb3
  have hsrc3 := Src.of_own hown3
  clear hown2 hown3 hb3
  go_wp2_with (at_builtin; refine wpList_appx rfl _ _ _ rfl Try.underlying24 infoInstr rfl (by omega) w.heap.size hown4 hB3.size rfl hsrc3 rfl HO2.out (by unfold maxLen; omega) (by omega) ?_; intro v5 w5 hown5 hg5 hnil5; have hB5 := grown_below hB3 hown4 (Nat.le_refl _) hg5; clear hnil5 hown4 hsrc3 hg5)
  go_ret
  exact ⟨_, rfl, by unfold joinP; rw [rows_app, HL1.out, HL2.out]; exact hown5, hB5⟩

set_option maxRecDepth 100000 in
set_option maxHeartbeats 1000000 in
theorem l07Copy_any (f t s : Int) (w : World) : Calls Try.prog 78 #[.int .i64 f, .int .i64 t, .int .i64 s] w fun e w' => ∃ v, e = .returned v ∧ w'.ownsRow w.heap.size 78 4 v 5 (rows R4.vs (copyP f t s)) ∧ Below w.heap.size w w' := by
  have hb0 := laid_below w (.cells #[.int .i64 t, .int .i64 s] 2)
  have hs0 : Arg (w.alloc (.cells #[.int .i64 t, .int .i64 s] 2)) (some ⟨w.heap.size, 0, none⟩) 2 ([t, s].map (Value.int .i64)) := Arg.of_sl (sl_laid w _ _) rfl
  go_enter Try.func78, Try.ntmps78
  go_wp2_with fail
  refine (l07Move_any f _ 2 2 [t, s] _ hs0 (by omega)).mono ?_
  rintro e w1 ⟨v1, rfl, hown1, hb1⟩
  have hB1 := below_step hb0 hb1
  obtain ⟨A1, c1, rfl⟩ := own_form hown1
  clear hs0 hb0 hb1
  have hb2 := laid_below w1 (.cells #[.int .i64 f] 2)
  have hs2 : Arg (w1.alloc (.cells #[.int .i64 f] 2)) (some ⟨w1.heap.size, 0, none⟩) 1 ([f].map (Value.int .i64)) := Arg.of_sl (sl_laid w1 _ _) rfl
  go_wp2_with fail
  refine (l07Move_any s _ 1 1 [f] _ hs2 (by omega)).mono ?_
  rintro e w2 ⟨v2, rfl, hown2, hb3⟩
  have hb23 := below_step hb2 hb3
  have hB2 := below_step hB1 hb23
  have hs1 := (Src.of_own hown1).below hb23
  have hs2' := Src.of_own hown2
  obtain ⟨A2, c2, rfl⟩ := own_form hown2
  clear hs2 hb2 hb3 hown1 hown2
  go_wp2_with fail
  refine (l07Join_any A1 A2 _ _ c1 c2 _ _ _ hs1 hs2' (by omega) (by omega) (moveP_wf _ _)).mono ?_
  rintro e w3 ⟨v, rfl, hown, hb3⟩
  go_wp2
  go_ret
  exact ⟨_, rfl, own_base hown hB2.size, below_step hB2 hb3⟩

/-- What CopyRegister gives. -/
def copyRegister (f t s : Int) : List R4 × Int := if regsCode [f, t, s] = 0 then (copyP f t s, 0) else ([], regsCode [f, t, s])
theorem bndCopyRegister0 (f t s : Int) : (copyRegister f t s).1.length ≤ 1048576 := by
  unfold copyRegister
  split
  · show (copyP f t s).length ≤ _; rw [copyP_len]; omega
  · simp
