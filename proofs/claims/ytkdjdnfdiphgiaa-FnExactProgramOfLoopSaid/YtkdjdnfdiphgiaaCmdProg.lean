/- commandProgram: the program of a command with the program of its body. -/
import Derived.Test.YtkdjdnfdiphgiaaProgPlain
namespace Go.Proofs.Ytkdjdnfdiphgiaa
open Go.RowKit
set_option linter.all false
attribute [local go_sem ↓] Go.wp_at_zero Go.wp_at_succ

theorem cmd0 (d b c : Int) (p : List R4) : cmdP d ⟨0, b, c⟩ p = moveP b [] := by simp [cmdP]
theorem cmd1 (d b c : Int) (p : List R4) : cmdP d ⟨1, b, c⟩ p = [⟨0, b, 1, 0⟩] := by simp [cmdP]
theorem cmd2e (d b : Int) (p : List R4) : cmdP d ⟨2, b, b⟩ p = [] := by simp [cmdP]
theorem cmd2 (d b c : Int) (p : List R4) (h : b ≠ c) : cmdP d ⟨2, b, c⟩ p = joinP (moveP b []) (copyP c b 23) := by simp [cmdP, h]
theorem cmd3 (d b c : Int) (p : List R4) : cmdP d ⟨3, b, c⟩ p = joinP (copyP b (16 + d) 23) (timesP (16 + d) p) := by simp [cmdP]
theorem cmd4 (d b c : Int) (p : List R4) : cmdP d ⟨4, b, c⟩ p = loopP b p := by simp [cmdP]

theorem below_drew_b {B : Nat} {w w' : World} (h : Below B w.drew w') : Below B w w' := ⟨h.os, h.tape, h.output, h.size, h.block⟩
/-- What a command's parameter and the empty assembly look like. -/
structure Box (w w1 : World) (x : R3) : Prop where
  below : Below w.heap.size w w1
  k0 : w1.cell? ⟨w.heap.size, 0, none⟩ = some (.int .i64 x.a)
  k1 : w1.cell? ⟨w.heap.size, 1, none⟩ = some (.int .i64 x.b)
  k2 : w1.cell? ⟨w.heap.size, 2, none⟩ = some (.int .i64 x.c)
  asm : Asm w1 (w.heap.size + 1) (w.heap.size + 1) []
theorem box_mk (w : World) (x : R3) : ∃ w1, Hid (w1 = (w.alloc (.cells #[.int .i64 x.a, .int .i64 x.b, .int .i64 x.c] 72)).alloc (.cells #[.slice none 0 0] 120)) ∧ Box w w1 x := by
  refine ⟨_, rfl, ⟨((Below.refl _ _).alloc (Nat.le_refl _) _).alloc (by simp) _, by simp [go_sem], by simp [go_sem], by simp [go_sem], ?_⟩⟩
  refine ⟨Nat.le_refl _, _, ?_, World.ownsRow_nil _ _ _ _⟩
  have := heap_alloc_new (w.alloc (.cells #[.int .i64 x.a, .int .i64 x.b, .int .i64 x.c] 72)) (.cells #[.slice none 0 0] 120)
  simpa using this

set_option maxRecDepth 100000 in
set_option maxHeartbeats 1000000 in
theorem command0_any (d b c : Int) (A : Option Addr) (n cc : Nat) (w : World) :
    Calls Try.prog 84 #[.agg #[.int .i64 0, .int .i64 b, .int .i64 c], .slice A n cc, .int .i64 d] w fun e w' => ∃ v, e = .returned v ∧ w'.ownsRow w.heap.size 78 4 v 1 (rows R4.vs (moveP b [])) ∧ Below w.heap.size w w' := by
  obtain ⟨w1, HW, hbox⟩ := box_mk w ⟨0, b, c⟩
  have hB1 := hbox.below
  clear hbox
  go_enter Try.func84, Try.ntmps84
  go_wp2_with fail
  rw [← HW.out]
  refine (moveRegister_any b (.slice none 0 0) 0 [] _ ⟨rfl, .inl ⟨rfl, rfl⟩⟩ (by omega)).mono ?_
  rintro e w2 ⟨v, rfl, hown, hb2⟩
  go_wp2
  go_ret
  exact ⟨_, rfl, own_base hown hB1.size, below_step hB1 hb2⟩

set_option maxRecDepth 100000 in
set_option maxHeartbeats 1000000 in
theorem command1_any (d b c : Int) (A : Option Addr) (n cc : Nat) (w : World) :
    Calls Try.prog 84 #[.agg #[.int .i64 1, .int .i64 b, .int .i64 c], .slice A n cc, .int .i64 d] w fun e w' => ∃ v, e = .returned v ∧ w'.ownsRow w.heap.size 78 4 v 1 (rows R4.vs [⟨0, b, 1, 0⟩]) ∧ Below w.heap.size w w' := by
  obtain ⟨w1, HW, hbox⟩ := box_mk w ⟨1, b, c⟩
  have hB1 := hbox.below
  have hasm := hbox.asm
  clear hbox
  go_enter Try.func84, Try.ntmps84
  go_wp2_with fail
  rw [← HW.out]
  refine (asmInc_any _ _ b 1 [] _ hasm (by simp)).mono ?_
  rintro e w2 ⟨rfl, hasm2, hb2⟩
  obtain ⟨v, hc, hown⟩ := hasm2.list
  clear hasm hasm2
  go_wp2
  go_ret
  exact ⟨_, rfl, own_base hown (by omega), hB1.trans (hb2.mono (by omega))⟩

set_option maxRecDepth 100000 in
set_option maxHeartbeats 2000000 in
theorem command2_any (d b c : Int) (A : Option Addr) (n cc : Nat) (w : World) (hne : b ≠ c) :
    Calls Try.prog 84 #[.agg #[.int .i64 2, .int .i64 b, .int .i64 c], .slice A n cc, .int .i64 d] w fun e w' => ∃ v, e = .returned v ∧ w'.ownsRow w.heap.size 78 4 v 6 (rows R4.vs (joinP (moveP b []) (copyP c b 23))) ∧ Below w.heap.size w w' := by
  obtain ⟨w1, HW, hbox⟩ := box_mk w ⟨2, b, c⟩
  have hB1 := hbox.below
  have k1 := hbox.k1
  have k2 := hbox.k2
  clear hbox
  have e1 : (b == c) = false := by simpa using hne
  clear hne
  have HLN : Hid ((joinP (moveP b []) (copyP c b 23)).length = 6) := by unfold Hid; rw [joinP_len, moveP_len, copyP_len]; rfl
  go_enter Try.func84, Try.ntmps84
  go_wp2
  rw [← HW.out]
  go_region_with
    ((first
      | (go_at_call 115; refine (moveRegister_any b (.slice none 0 0) 0 [] _ ⟨rfl, .inl ⟨rfl, rfl⟩⟩ (by omega)).mono ?_; rintro e w2 ⟨v2, rfl, hown2, hb2⟩; have m1 := cell_step (by exact k1) hb2; have m2 := cell_step (by exact k2) hb2; obtain ⟨A2, c2, rfl⟩ := own_form hown2)
      | (go_at_call 118; refine (copied_any c b _).mono ?_; rintro e w3 ⟨v3, rfl, hown3, hb3⟩; have p1 := cell_step (by exact m1) hb3; have p2 := cell_step (by exact m2) hb3; obtain ⟨A3, c3, rfl⟩ := own_form hown3)
      | (go_at_call 117; refine (joinPrograms_any A2 A3 _ _ c2 c3 (moveP b []) (copyP c b 23) _ ((Src.of_own hown2).below (by exact hb3)) (by exact Src.of_own hown3) (by omega) (by omega) (moveP_wf _ _) (copyP_wf _ _ _)).mono ?_; rintro e w4 ⟨g4, rfl, hasm4, hb4⟩; have q1 := cell_step (by exact p1) hb4; have q2 := cell_step (by exact p2) hb4; obtain ⟨v4, hc4, hown4⟩ := hasm4.list)))
  all_goals
    go_wp2
    go_ret
    rw [HLN.out] at hown4
    exact ⟨_, rfl, own_base hown4 (Nat.le_trans hB1.size (Nat.le_trans (by exact hb2.size) hb3.size)), below_step hB1 (below_step (below_step (below_drew_at hb2) hb3) hb4)⟩

set_option maxRecDepth 100000 in
set_option maxHeartbeats 2000000 in
theorem command3_any (d b c : Int) (A : Option Addr) (n cc : Nat) (p : List R4) (w : World) (hsrc : Src 4 w (.slice A n cc) n (rows R4.vs p)) (hwf : WfP p) (hn : n ≤ 100000) (hd0 : 0 ≤ d) (hd : d ≤ 1000) :
    Calls Try.prog 84 #[.agg #[.int .i64 3, .int .i64 b, .int .i64 c], .slice A n cc, .int .i64 d] w fun e w' => ∃ v, e = .returned v ∧ w'.ownsRow w.heap.size 78 4 v (6 + n) (rows R4.vs (joinP (copyP b (16 + d) 23) (timesP (16 + d) p))) ∧ Below w.heap.size w w' := by
  have HL : Hid (p.length = n) := by have := hsrc.1; rw [rows_len R4.vs_len] at this; unfold Hid; omega
  have HN := Lib.hid (hwf.near (by have := HL.out; omega)); clear hwf
  obtain ⟨w1, HW, hbox⟩ := box_mk w ⟨3, b, c⟩
  have hB1 := hbox.below
  have hasm := hbox.asm
  obtain ⟨hBg, v0, hg0, -⟩ := hasm
  clear hbox
  have main : ∀ t : Int, ((n = 0 ∧ t = 5) ∨ (n ≠ 0 ∧ t = 6)) → Calls Try.prog 84 #[.agg #[.int .i64 3, .int .i64 b, .int .i64 c], .slice A n cc, .int .i64 d] w fun e w' => ∃ v, e = .returned v ∧ w'.ownsRow w.heap.size 78 4 v (6 + n) (rows R4.vs (copyP b (16 + d) 23 ++ [⟨1, 16 + d, t, 6 + (n : Int)⟩] ++ p.map (redirF (tgt n 5 ((5 + 1 : Nat) : Int))))) ∧ Below w.heap.size w w' := by
    intro t ht
    rcases ht with ⟨h0, rfl⟩ | ⟨h0, rfl⟩
    all_goals
      first
        | (have e0 : ((n : Int) == 0) = true := by simp [h0])
        | (have e0 : ((n : Int) == 0) = false := by simp [h0])
      clear h0
      go_enter Try.func84, Try.ntmps84
      go_wp2_with fail
      rw [← HW.out]
      refine (copied_any b (16 + d) _).mono ?_
      rintro e w2 ⟨v2, rfl, hown2, hb2⟩
      have hg2 := (hb2.block _ (heap_lt hg0)).trans hg0
      obtain ⟨f1, f2, -⟩ := var_facts hg2
      have HG2 := Lib.hid hg2; clear hg2
      obtain ⟨A2, c2, rfl⟩ := own_form hown2
      have hB2 := below_step hB1 hb2
      have hasm2 := Asm.put (u := .slice A2 5 c2) hBg HG2.out (copyP_len b (16 + d) 23) (own_base hown2 (by have := World.block_lt_of_cell? _ _ f1; have := heap_lt hg0; omega))
      have hB3 := hB2.setCell (p := ⟨w.heap.size + 1, 0, none⟩) (by simp) (.slice A2 5 c2)
      go_wp2_with (go_at_call 86; refine (sizeOf_Instr_any _ _ _ _).mono ?_; rintro e w3 ⟨rfl, hw3⟩; subst hw3)
      refine (asmDec_any _ _ _ _ _ _ _ hasm2 (by rw [copyP_len]; omega)).mono ?_
      rintro e w4 ⟨rfl, hasm4, hb4⟩
      have hB4 := hB3.trans (hb4.mono (by omega))
      clear hasm2 hb4
      go_wp2_with fail
      refine (asmPart_any _ _ _ _ p A n cc _ hasm4 (by rw [List.length_append, copyP_len]; simp) (hsrc.below hB4) (by omega) HN.out).mono ?_
      rintro e w5 ⟨rfl, hasm5, hb5⟩
      have hB5 := hB4.trans (hb5.mono (by omega))
      rw [List.length_append, copyP_len] at hasm5
      obtain ⟨v5, hc5, hown5⟩ := hasm5.list
      clear hasm4 hasm5 hb5
      have HLN : Hid (∀ t0 : R4, (copyP b (16 + d) 23 ++ [t0] ++ p.map (redirF (tgt n 5 ((5 + 1 : Nat) : Int)))).length = 6 + n) := by intro t0; have := HL.out; simp [copyP_len, this]; omega
      go_wp2
      go_ret
      refine ⟨_, rfl, ?_, hB5⟩
      have h6 := own_base hown5 (show w.heap.size ≤ w.heap.size + 1 by omega)
      have hl6 : ∀ ys : List R4, ys.length = 6 + n → w5.ownsRow w.heap.size 78 4 v5 ys.length (rows R4.vs ys) → w5.ownsRow w.heap.size 78 4 v5 (6 + n) (rows R4.vs ys) := by intro ys h hh; rw [h] at hh; exact hh
      exact hl6 _ (HLN.out _) h6
  have h56 : (5 : Int) + 1 + (n : Int) = 6 + (n : Int) := by omega
  by_cases h0 : n = 0
  · have h1 := main 5 (.inl ⟨h0, rfl⟩)
    have h2 := times_eq (copyP b (16 + d) 23) (copyP_len _ _ _) (16 + d) p n HL.out
    rw [if_pos h0, h56] at h2
    rw [h2]; exact h1
  · have h1 := main 6 (.inr ⟨h0, rfl⟩)
    have h2 := times_eq (copyP b (16 + d) 23) (copyP_len _ _ _) (16 + d) p n HL.out
    rw [if_neg h0, h56] at h2
    rw [h2]; exact h1

set_option maxRecDepth 100000 in
set_option maxHeartbeats 2000000 in
theorem command4_any (d b c : Int) (A : Option Addr) (n cc : Nat) (p : List R4) (w : World) (hsrc : Src 4 w (.slice A n cc) n (rows R4.vs p)) (hwf : WfP p) (hn : n ≤ 100000) :
    Calls Try.prog 84 #[.agg #[.int .i64 4, .int .i64 b, .int .i64 c], .slice A n cc, .int .i64 d] w fun e w' => ∃ v, e = .returned v ∧ w'.ownsRow w.heap.size 78 4 v (n + 2) (rows R4.vs (loopP b p)) ∧ Below w.heap.size w w' := by
  have HL : Hid (p.length = n) := by have := hsrc.1; rw [rows_len R4.vs_len] at this; unfold Hid; omega
  have HN := Lib.hid (hwf.near (by have := HL.out; omega)); clear hwf
  obtain ⟨w1, HW, hbox⟩ := box_mk w ⟨4, b, c⟩
  have hB1 := hbox.below
  have hasm := hbox.asm
  have k1 := hbox.k1
  clear hbox
  have w9 : IntKind.i64.wrap ((n : Int) + 2) = (n : Int) + 2 := IntWalk.i64_in _ (by omega)
  have main : ∀ t : Int, ((n = 0 ∧ t = 0) ∨ (n ≠ 0 ∧ t = 2)) → Calls Try.prog 84 #[.agg #[.int .i64 4, .int .i64 b, .int .i64 c], .slice A n cc, .int .i64 d] w fun e w' => ∃ v, e = .returned v ∧ w'.ownsRow w.heap.size 78 4 v (n + 2) (rows R4.vs ([] ++ [⟨1, b, 1, (n : Int) + 2⟩] ++ [⟨0, b, t, 0⟩] ++ p.map (redirF (tgt n 0 2)))) ∧ Below w.heap.size w w' := by
    intro t ht
    rcases ht with ⟨h0, rfl⟩ | ⟨h0, rfl⟩
    all_goals
      first
        | (have e0 : ((n : Int) == 0) = true := by simp [h0])
        | (have e0 : ((n : Int) == 0) = false := by simp [h0])
      clear h0
      go_enter Try.func84, Try.ntmps84
      go_wp2
      rw [← HW.out]
      go_region_with
        ((first
          | (go_at_call 86; refine (sizeOf_Instr_any _ _ _ _).mono ?_; rintro e w2 ⟨rfl, hw2⟩; subst hw2)
          | (go_at_call 119; refine (asmDec_any _ _ b 1 ((n : Int) + 2) [] _ (by exact hasm) (by simp)).mono ?_; rintro e w3 ⟨rfl, hasm3, hb3⟩; have m1 : w3.cell? ⟨w.heap.size, 1, none⟩ = some (.int .i64 b) := (hb3.cell (p := ⟨w.heap.size, 1, none⟩) (by show w.heap.size < _; omega)).trans (by exact k1))
          | (go_at_call 116; refine (asmInc_any _ _ b _ _ _ (by exact hasm3) (by simp)).mono ?_; rintro e w4 ⟨rfl, hasm4, hb4⟩; have hB4 := (hB1.trans ((below_drew_b hb3).mono (by omega))).trans (hb4.mono (by omega)); have hs4 := hsrc.below hB4)
          | (go_at_call 85; refine (asmPart_any _ _ 0 _ p A n cc _ (by exact hasm4) (by simp) hs4 (by omega) HN.out).mono ?_; rintro e w5 ⟨rfl, hasm5, hb5⟩; obtain ⟨v5, hc5, hown5⟩ := hasm5.list)))
      all_goals
        have HLN : Hid (∀ t0 t1 : R4, ([] ++ [t0] ++ [t1] ++ p.map (redirF (tgt n 0 2)) : List R4).length = n + 2) := by intro t0 t1; have := HL.out; simp [this]
        go_wp2
        go_ret
        have hl6 : ∀ ys : List R4, ys.length = n + 2 → w5.ownsRow (w.heap.size + 1) 78 4 v5 ys.length (rows R4.vs ys) → w5.ownsRow w.heap.size 78 4 v5 (n + 2) (rows R4.vs ys) := by intro ys h hh; rw [h] at hh; exact own_base hh (by omega)
        exact ⟨_, rfl, hl6 _ (HLN.out _ _) hown5, hB4.trans (hb5.mono (by omega))⟩
  by_cases h0 : n = 0
  · have h1 := main 0 (.inl ⟨h0, rfl⟩)
    unfold loopP
    rw [HL.out, if_pos h0]; exact h1
  · have h1 := main 2 (.inr ⟨h0, rfl⟩)
    unfold loopP
    rw [HL.out, if_neg h0]; exact h1
end Go.Proofs.Ytkdjdnfdiphgiaa
