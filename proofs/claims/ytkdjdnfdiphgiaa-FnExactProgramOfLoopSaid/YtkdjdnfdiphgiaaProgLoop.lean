/- The register program of a loop program: programOfLoop, ProgramOfLoop and the reference's l17Program, ProgramOfLoop. -/
import Derived.Test.YtkdjdnfdiphgiaaCmdProg
namespace Go.Proofs.Ytkdjdnfdiphgiaa
open Go.RowKit
set_option linter.all false
attribute [local go_sem ↓] Go.wp_at_zero Go.wp_at_succ

theorem commandProgram_any (d : Int) (x : R3) (A : Option Addr) (n cc : Nat) (p : List R4) (w : World) (hsrc : Src 4 w (.slice A n cc) n (rows R4.vs p)) (hwf : WfP p) (hn : n ≤ 100000) (hd0 : 0 ≤ d) (hd : d ≤ 1000) (hx : x.a = 0 ∨ x.a = 1 ∨ x.a = 2 ∨ x.a = 3 ∨ x.a = 4) :
    Calls Try.prog 84 #[.agg #[.int .i64 x.a, .int .i64 x.b, .int .i64 x.c], .slice A n cc, .int .i64 d] w fun e w' => ∃ v, e = .returned v ∧ w'.ownsRow w.heap.size 78 4 v (cmdP d x p).length (rows R4.vs (cmdP d x p)) ∧ Below w.heap.size w w' := by
  have HL : p.length = n := by have := hsrc.1; rw [rows_len R4.vs_len] at this; omega
  obtain ⟨a, b, c⟩ := x
  simp only at hx
  rcases hx with rfl | rfl | rfl | rfl | rfl
  · have h := command0_any d b c A n cc w
    rw [cmd0, moveP_len]; exact h
  · have h := command1_any d b c A n cc w
    rw [cmd1]; exact h
  · by_cases hbc : b = c
    · subst hbc
      rw [cmd2e]
      have e1 : (b == b) = true := by simp
      obtain ⟨w1, HW, hbox⟩ := box_mk w ⟨2, b, b⟩
      have hB1 := hbox.below
      rw [HW.out] at hB1
      clear hbox HW HL hsrc hwf
      go_enter Try.func84, Try.ntmps84
      go_wp2
      go_ret
      exact ⟨_, rfl, World.ownsRow_nil _ _ _ _, hB1⟩
    · have h := command2_any d b c A n cc w hbc
      rw [cmd2 _ _ _ _ hbc]
      have hl : (joinP (moveP b []) (copyP c b 23)).length = 6 := by rw [joinP_len, moveP_len, copyP_len]; rfl
      rw [hl]; exact h
  · have h := command3_any d b c A n cc p w hsrc hwf hn hd0 hd
    rw [cmd3]
    have hl : (joinP (copyP b (16 + d) 23) (timesP (16 + d) p)).length = 6 + n := by rw [joinP_len, copyP_len]; simp [timesP, HL]; omega
    rw [hl]; exact h
  · have h := command4_any d b c A n cc p w hsrc hwf hn
    rw [cmd4, loopP_len, HL]; exact h

/-- What a run of bodies has made: acc so far, the rest still to come. -/
def Made (w : World) (B g gp gd : Nat) (d : Int) (xs : List R3) (P : List R4) (k : Nat) (W : World) : Prop :=
  Below w.heap.size w W ∧ ∃ acc, Asm W B g acc ∧ progAt d acc (xs.drop k) = P ∧ W.heap[gp]? = some (.cells #[.pointer (some ⟨g, 0, none⟩)] 118 (0, 0)) ∧ W.heap[gd]? = some (.cells #[.int .i64 d] 2 (0, 0))
theorem Made.mono {w : World} {B g gp gd : Nat} {d : Int} {xs : List R3} {P : List R4} {k : Nat} {W W' : World} (h : Made w B g gp gd d xs P k W) (hb : Below W.heap.size W W') : Made w B g gp gd d xs P k W' := by
  obtain ⟨h1, acc, h2, h3, h4, h5⟩ := h
  exact ⟨h1.trans (hb.mono h1.size), acc, h2.below hb, h3, (hb.block _ (heap_lt h4)).trans h4, (hb.block _ (heap_lt h5)).trans h5⟩

set_option maxRecDepth 100000 in
set_option maxHeartbeats 2000000 in
theorem programOfLoop1_any (n : Nat) (ih : Hid (∀ m, m < n → ∀ (A : Option Addr) (c d : Nat) (dd : Int) (xs : List R3) (w : World), Args 3 w A m (rows R3.vs xs) → m ≤ 150 → m ≤ c → 0 ≤ dd → dd + m ≤ 200 → vl d xs = true →
      Calls Try.prog 48 #[.slice A m c, .int .i64 dd] w fun e w' => ∃ v, e = .returned v ∧ w'.ownsRow w.heap.size 78 4 v (progAt dd [] xs).length (rows R4.vs (progAt dd [] xs)) ∧ Below w.heap.size w w'))
    (x : R3) (m c g gp gd d : Nat) (dd : Int) (A : Option Addr) (ys : List R3) (acc : List R4) (w : World) (bs : Nat) (hm : m < n) (hm1 : m ≤ 150) (hmc : m ≤ c) (hd0 : 0 ≤ dd) (hd1 : dd + 1 + m ≤ 200) (ha : Args 3 w A m (rows R3.vs ys)) (hv : vl d ys = true)
    (hx : x.a = 0 ∨ x.a = 1 ∨ x.a = 2 ∨ x.a = 3 ∨ x.a = 4) (hacc : acc.length ≤ 1000)
    (hasm : Asm w bs g acc) (hgp : w.heap[gp]? = some (.cells #[.pointer (some ⟨g, 0, none⟩)] 118 (0, 0))) (hgd : w.heap[gd]? = some (.cells #[.int .i64 dd] 2 (0, 0))) (hlo : bs ≤ w.heap.size) (hgg : gp ≠ g) (hgg2 : gd ≠ g) :
    Calls Try.prog 83 #[.agg #[.int .i64 x.a, .int .i64 x.b, .int .i64 x.c], .slice A m c, .pointer (some ⟨gd, 0, none⟩), .pointer (some ⟨gp, 0, none⟩)] w fun e w' => e = .returned (.tuple #[]) ∧
      Asm w' bs g (joinP acc (cmdP dd x (progAt (dd + 1) [] ys))) ∧ Below bs w w' ∧ w'.heap[gp]? = some (.cells #[.pointer (some ⟨g, 0, none⟩)] 118 (0, 0)) ∧ w'.heap[gd]? = some (.cells #[.int .i64 dd] 2 (0, 0)) := by
  obtain ⟨w1, HW, hB1, k0, k1, k2⟩ : ∃ w1, Hid (w1 = w.alloc (.cells #[.int .i64 x.a, .int .i64 x.b, .int .i64 x.c] 72)) ∧ Below w.heap.size w w1 ∧ w1.cell? ⟨w.heap.size, 0, none⟩ = some (.int .i64 x.a) ∧ w1.cell? ⟨w.heap.size, 1, none⟩ = some (.int .i64 x.b) ∧ w1.cell? ⟨w.heap.size, 2, none⟩ = some (.int .i64 x.c) := ⟨_, rfl, laid_below _ _, by simp [go_sem], by simp [go_sem], by simp [go_sem]⟩
  have kd := cell_step (var_facts hgd).1 hB1
  obtain ⟨f1, f2, f3⟩ := progAt_facts _ ys (dd + 1) [] (Nat.le_refl _)
  have HLY : Hid (ys.length = m) := by have := ha.1; rw [rows_len R3.vs_len] at this; unfold Hid; omega
  rw [HLY.out] at f2
  simp only [List.length_nil, Nat.zero_add] at f2
  obtain ⟨B, hB⟩ : ∃ B, B = progAt (dd + 1) [] ys := ⟨_, rfl⟩
  rw [← hB] at f1 f2 f3
  have HB := Lib.hid hB; clear hB
  obtain ⟨nb, hnb⟩ : ∃ nb, nb = B.length := ⟨_, rfl⟩
  rw [← hnb] at f2
  have HNB := Lib.hid hnb; clear hnb
  have HWF := Lib.hid (f3 nil_wf); clear f3 f1
  have hcl := cmdP_len dd x B
  rw [← HNB.out] at hcl
  obtain ⟨np, hnp⟩ : ∃ np, np = (cmdP dd x B).length := ⟨_, rfl⟩
  rw [← hnp] at hcl
  have HNP := Lib.hid hnp; clear hnp
  have HWC := Lib.hid ((cmdP_wf dd x HWF.out).near (by rw [← HNP.out]; omega))
  have HIH : Hid (∀ W, Below w.heap.size w W → Calls Try.prog 48 #[.slice A m c, .int .i64 (dd + 1)] W fun e w' => ∃ v, e = .returned v ∧ w'.ownsRow W.heap.size 78 4 v nb (rows R4.vs B) ∧ Below W.heap.size W w') := by
    intro W hW
    rw [HNB.out, HB.out]
    exact ih.out m hm A c d (dd + 1) ys W (ha.below hW) hm1 hmc (by omega) hd1 hv
  have w9 : IntKind.i64.wrap (dd + 1) = dd + 1 := IntWalk.i64_in _ (by omega)
  clear ih
  go_enter Try.func83, Try.ntmps83
  go_wp2
  rw [← HW.out]
  go_region_held3 (fun w' => w'.cell? ⟨w.heap.size, 0, none⟩ = some (.int .i64 x.a) ∧ w'.cell? ⟨w.heap.size, 1, none⟩ = some (.int .i64 x.b) ∧ w'.cell? ⟨w.heap.size, 2, none⟩ = some (.int .i64 x.c) ∧ w'.cell? ⟨gd, 0, none⟩ = some (.int .i64 dd)) (first | go_keep | exact ⟨m0, m1, m2, md⟩ | exact ⟨n0, n1, n2, nd⟩)
    ((first
      | (go_at_call 48; refine (HIH.out _ (hB1.drew)).mono ?_; rintro e w2 ⟨v2, rfl, hown2, hb2⟩; obtain ⟨A2, c2, rfl⟩ := own_form hown2; have hs2 := Src.of_own hown2; have m0 := cell_step (by exact k0) hb2; have m1 := cell_step (by exact k1) hb2; have m2 := cell_step (by exact k2) hb2; have md := cell_step (by exact kd) hb2)
      | (go_at_call 84; refine (commandProgram_any dd x A2 nb c2 B _ hs2 HWF.out (by omega) hd0 (by omega) hx).mono ?_; rintro e w3 ⟨v3, rfl, hown3, hb3⟩; rw [← HNP.out] at hown3; obtain ⟨A3, c3, rfl⟩ := own_form hown3; have n0 := cell_step m0 hb3; have n1 := cell_step m1 hb3; have n2 := cell_step m2 hb3; have nd := cell_step md hb3)))
  all_goals
    have hB3 := below_step hB1 (below_step (below_drew_at hb2) hb3)
    have hasm3 := hasm.below hB3
    have HG3 := Lib.hid ((hB3.block _ (heap_lt hgp)).trans hgp)
    have HD3 := Lib.hid ((hB3.block _ (heap_lt hgd)).trans hgd)
    have hs3 := Src.of_own hown3
    clear k0 k1 k2 kd hB1 hb2 hb3 hown2 hown3 HW m0 m1 m2 md n0 n1 n2 nd w9 hs2
    obtain ⟨va, hca, howna⟩ := hasm3.list
    obtain ⟨la, hla⟩ : ∃ la, la = acc.length := ⟨_, rfl⟩
    rw [← hla] at howna hacc
    have HLA := Lib.hid hla; clear hla
    obtain ⟨Aa, ca, rfl⟩ := own_form howna
    clear howna
    have g3 := (var_facts HG3.out).1
    have w10 : IntKind.i64.wrap ((la : Int) + (np : Int)) = (la : Int) + (np : Int) := IntWalk.i64_in _ (by omega)
    go_wp2
    go_region_law ((first
        | (go_simp; go_at_call 86; refine (sizeOf_Instr_any _ _ _ _).mono ?_; rintro e w5 ⟨rfl, hw5⟩; subst hw5)
        | (go_simp; go_at_call 85; refine (asmPart_full _ _ ((la : Int) + (np : Int)) acc (cmdP dd x B) A3 np c3 _ (by exact hasm3) (by rw [← HLA.out]; omega) (by exact hs3) (by omega) HWC.out).mono ?_; rintro e w6 ⟨rfl, hasm6, hb6, hkeep6⟩)))
    all_goals
      go_wp2
      go_end0
      refine ⟨rfl, ?_, (hB3.mono hlo).trans (below_drew_b hb6), hkeep6 gp _ _ _ hgg (by decide) (by exact HG3.out), hkeep6 gd _ _ _ hgg2 (by decide) (by exact HD3.out)⟩
      unfold joinP
      rw [← HB.out, ← HNP.out, ← HLA.out]
      rw [← HLA.out] at hasm6
      exact hasm6

set_option maxRecDepth 100000 in
set_option maxHeartbeats 2000000 in
theorem programOfLoop_any (n : Nat) : ∀ (A : Option Addr) (c d : Nat) (dd : Int) (xs : List R3) (w : World), Args 3 w A n (rows R3.vs xs) → n ≤ 150 → n ≤ c → 0 ≤ dd → dd + n ≤ 200 → vl d xs = true →
      Calls Try.prog 48 #[.slice A n c, .int .i64 dd] w fun e w' => ∃ v, e = .returned v ∧ w'.ownsRow w.heap.size 78 4 v (progAt dd [] xs).length (rows R4.vs (progAt dd [] xs)) ∧ Below w.heap.size w w' := by
  induction n using Nat.strongRecOn with
  | ind n ih =>
  intro A c d dd xs w ha hn hc hd0 hd1 hv
  have IH := Lib.hid ih; clear ih
  have HV := Lib.hid hv; clear hv
  have HA := Lib.hid ha; clear ha
  have HL : Hid (xs.length = n) := by have := HA.out.1; rw [rows_len R3.vs_len] at this; unfold Hid; omega
  obtain ⟨w1, HW, hB1, hgd, hgp, hasm⟩ : ∃ w1, Hid (w1 = ((w.alloc (.cells #[.int .i64 dd] 2)).alloc (.cells #[.slice none 0 0] 120)).alloc (.cells #[.pointer (some ⟨w.heap.size + 1, 0, none⟩)] 118)) ∧ Below w.heap.size w w1 ∧ w1.heap[w.heap.size]? = some (.cells #[.int .i64 dd] 2 (0, 0)) ∧ w1.heap[w.heap.size + 1 + 1]? = some (.cells #[.pointer (some ⟨w.heap.size + 1, 0, none⟩)] 118 (0, 0)) ∧ Asm w1 (w.heap.size + 1) (w.heap.size + 1) [] := by
    refine ⟨_, rfl, (((Below.refl _ _).alloc (Nat.le_refl _) _).alloc (by simp) _).alloc (by simp; omega) _, ?_, ?_, Nat.le_refl _, .slice none 0 0, ?_, World.ownsRow_nil _ _ _ _⟩
    · rw [Below.heap_alloc _ _ _ (by simp; omega), Below.heap_alloc _ _ _ (by simp)]; exact heap_alloc_new _ _
    · have := heap_alloc_new ((w.alloc (.cells #[.int .i64 dd] 2)).alloc (.cells #[.slice none 0 0] 120)) (.cells #[.pointer (some ⟨w.heap.size + 1, 0, none⟩)] 118)
      simpa using this
    · rw [Below.heap_alloc _ _ _ (by simp)]
      have := heap_alloc_new (w.alloc (.cells #[.int .i64 dd] 2)) (.cells #[.slice none 0 0] 120)
      simpa using this
  have HM0 : Hid (Made w (w.heap.size + 1) (w.heap.size + 1) (w.heap.size + 1 + 1) w.heap.size dd xs (progAt dd [] xs) 0 w1) := ⟨hB1, [], hasm, by rw [List.drop_zero], hgp, hgd⟩
  obtain ⟨pf1, pf2, -⟩ := progAt_facts _ xs dd [] (Nat.le_refl _)
  rw [HL.out] at pf2
  simp only [List.length_nil, Nat.zero_add] at pf2
  have HF1 : Hid (∀ (k : Nat) (x : R3) (m : Nat) (A' : Option Addr) (c' : Nat) (W : World), xs[k]? = some x → bodyLen x = m → vl d (xs.drop k) = true → k + 1 + m ≤ n → m ≤ c' → Args 3 W A' m (rows R3.vs ((xs.drop (k + 1)).take m)) → Made w (w.heap.size + 1) (w.heap.size + 1) (w.heap.size + 1 + 1) w.heap.size dd xs (progAt dd [] xs) k W →
      Calls Try.prog 83 (#[.agg #[.int .i64 x.a, .int .i64 x.b, .int .i64 x.c], .slice A' m c'] ++ #[.pointer (some ⟨w.heap.size, 0, none⟩), .pointer (some ⟨w.heap.size + 1 + 1, 0, none⟩)]) W fun e w' => e = .returned (.tuple #[]) ∧ Made w (w.heap.size + 1) (w.heap.size + 1) (w.heap.size + 1 + 1) w.heap.size dd xs (progAt dd [] xs) (k + 1 + m) w') := by
    intro k x m A' c' W hx hm hvk hkm hmc ha' hmade
    obtain ⟨h1, acc, h2, h3, h4, h5⟩ := hmade
    have hlt := (progAt_facts _ (xs.drop k) dd acc (Nat.le_refl _)).1
    rw [h3] at hlt
    have hvk' := hvk
    rw [drop_at hx] at hvk'
    have hkind := vl_kind hvk'
    obtain ⟨_, _, hv3⟩ := vl_step hx hvk
    rw [hm] at hv3
    have hvy : vl (d - 1) ((xs.drop (k + 1)).take m) = true := by
      cases hl : isLp x with
      | true => exact (hv3 hl).1
      | false =>
        have : m = 0 := by rw [← hm, bodyLen_no hl]
        rw [this, List.take_zero, vl_nil]
    have hW := heap_lt h4
    refine (programOfLoop1_any n IH x m c' (w.heap.size + 1) (w.heap.size + 1 + 1) w.heap.size (d - 1) dd A' ((xs.drop (k + 1)).take m) acc W (w.heap.size + 1) (by omega) (by omega) hmc hd0 (by omega) ha' hvy (by omega) (by omega) h2 h4 h5 (by omega) (by omega) (by omega)).mono ?_
    rintro e w' ⟨rfl, g1, g2, g3, g4⟩
    refine ⟨rfl, h1.trans (g2.mono (by omega)), _, g1, ?_, g3, g4⟩
    rw [← h3, progAt_step dd acc hx, hm]
  have HI1 : Hid (∀ k W W', Made w (w.heap.size + 1) (w.heap.size + 1) (w.heap.size + 1 + 1) w.heap.size dd xs (progAt dd [] xs) k W → Below W.heap.size W W' → Made w (w.heap.size + 1) (w.heap.size + 1) (w.heap.size + 1 + 1) w.heap.size dd xs (progAt dd [] xs) k W') := fun k W W' h hb => h.mono hb
  have HA1 : Hid (∀ k W, Made w (w.heap.size + 1) (w.heap.size + 1) (w.heap.size + 1 + 1) w.heap.size dd xs (progAt dd [] xs) k W → Args 3 W A n (rows R3.vs xs)) := fun k W h => HA.out.below h.1
  have HE := Lib.hid (enters_of' (P := Try.prog) Try.func83 (by kernel_rfl) rfl)
  have HBD := Lib.hid (bodies_any 83 #[.pointer (some ⟨w.heap.size, 0, none⟩), .pointer (some ⟨w.heap.size + 1 + 1, 0, none⟩)] d (Made w (w.heap.size + 1) (w.heap.size + 1) (w.heap.size + 1 + 1) w.heap.size dd xs (progAt dd [] xs)) A n c xs w1 (HA.out.below hB1) (by omega) hc HV.out HE.out HI1 HA1 HF1 HM0.out)
  clear hgd hgp hasm HM0 HF1 HI1 HA1
  go_enter Try.func48, Try.ntmps48
  go_wp2_with fail
  rw [← HW.out]
  refine HBD.out.mono ?_
  rintro e w2 ⟨rfl, hmade⟩
  obtain ⟨h1, acc, h2, h3, h4, h5⟩ := hmade
  rw [List.drop_of_length_le (by have := HL.out; omega), progAt_nil] at h3
  subst h3
  have p4 := (var_facts h4).1
  obtain ⟨v, hc2, hown⟩ := h2.list
  clear h2 h4 h5 HBD
  go_wp2
  go_ret
  exact ⟨_, rfl, own_base hown (by omega), h1⟩
end Go.Proofs.Ytkdjdnfdiphgiaa
