/- The law FnExactProgramOfFunc returns true for every input, and each argument reads afterwards as before: the proof, part 7. No conditions. -/
import Derived.Test.YteocnkiagifmfaaProgramOfFuncZf
import Derived.ProofKit
import Derived.OpenShut
import Derived.ShutString
import Derived.ChangeOld
import Derived.Deep.Slices
import Derived.Deep.Fields
import Derived.ChangeSame
/- The register program of a loop program: programOfLoop, ProgramOfLoop and the reference's l17Program, ProgramOfLoop. -/
namespace Go.Proofs.Yteocnkiagifmfaa
open Go.RowKit
set_option linter.all false
attribute [local go_sem ↓] Go.wp_at_zero Go.wp_at_succ

theorem commandProgram_any (d : Int) (x : R3) (A : Option Addr) (n cc : Nat) (p : List R4) (w : World) (hsrc : Src 4 w (.slice A n cc) n (rows R4.vs p)) (hwf : WfP p) (hn : n ≤ 100000) (hd0 : 0 ≤ d) (hd : d ≤ 1000) (hx : x.a = 0 ∨ x.a = 1 ∨ x.a = 2 ∨ x.a = 3 ∨ x.a = 4) :
    Calls Try.prog 251 #[.agg #[.int .i64 x.a, .int .i64 x.b, .int .i64 x.c], .slice A n cc, .int .i64 d] w fun e w' => ∃ v, e = .returned v ∧ w'.ownsRow w.heap.size 185 4 v (cmdP d x p).length (rows R4.vs (cmdP d x p)) ∧ Below w.heap.size w w' := by
  have HL : p.length = n := by have := hsrc.1; rw [rows_len R4.vs_len] at this; omega
  obtain ⟨a, b, c⟩ := x
  simp only at hx
  rcases hx with rfl | rfl | rfl | rfl | rfl
  · have h := command0_any d b c A n cc w
    rw [cmd0, moveP_len]; exact h
  · have h := command1_any d b c A n cc w
    rw [cmd1]; exact h
  · by_cases hbc : b = c
    · subst hbc
      rw [cmd2e]
      have e1 : (b == b) = true := by simp
      obtain ⟨w1, HW, hbox⟩ := box_mk w ⟨2, b, b⟩
      have hB1 := hbox.below
      rw [HW.out] at hB1
      clear hbox HW HL hsrc hwf
      go_enter Try.func251, Try.ntmps251
      go_wp2
      go_ret
      exact ⟨_, rfl, World.ownsRow_nil _ _ _ _, hB1⟩
    · have h := command2_any d b c A n cc w hbc
      rw [cmd2 _ _ _ _ hbc]
      have hl : (joinP (moveP b []) (copyP c b 23)).length = 6 := by rw [joinP_len, moveP_len, copyP_len]; rfl
      rw [hl]; exact h
  · have h := command3_any d b c A n cc p w hsrc hwf hn hd0 hd
    rw [cmd3]
    have hl : (joinP (copyP b (16 + d) 23) (timesP (16 + d) p)).length = 6 + n := by rw [joinP_len, copyP_len]; simp [timesP, HL]; omega
    rw [hl]; exact h
  · have h := command4_any d b c A n cc p w hsrc hwf hn
    rw [cmd4, loopP_len, HL]; exact h

/-- What a run of bodies has made: acc so far, the rest still to come. -/
def Made (w : World) (B g gp gd : Nat) (d : Int) (xs : List R3) (P : List R4) (k : Nat) (W : World) : Prop :=
  Below w.heap.size w W ∧ ∃ acc, Asm W B g acc ∧ progAt d acc (xs.drop k) = P ∧ W.heap[gp]? = some (.cells #[.pointer (some ⟨g, 0, none⟩)] 281 (0, 0)) ∧ W.heap[gd]? = some (.cells #[.int .i64 d] 2 (0, 0))
theorem Made.mono {w : World} {B g gp gd : Nat} {d : Int} {xs : List R3} {P : List R4} {k : Nat} {W W' : World} (h : Made w B g gp gd d xs P k W) (hb : Below W.heap.size W W') : Made w B g gp gd d xs P k W' := by
  obtain ⟨h1, acc, h2, h3, h4, h5⟩ := h
  exact ⟨h1.trans (hb.mono h1.size), acc, h2.below hb, h3, (hb.block _ (heap_lt h4)).trans h4, (hb.block _ (heap_lt h5)).trans h5⟩

set_option maxRecDepth 100000 in
set_option maxHeartbeats 2000000 in
theorem programOfLoop1_any (n : Nat) (ih : Hid (∀ m, m < n → ∀ (A : Option Addr) (c d : Nat) (dd : Int) (xs : List R3) (w : World), Args 3 w A m (rows R3.vs xs) → m ≤ 150 → m ≤ c → 0 ≤ dd → dd + m ≤ 200 → vl d xs = true →
      Calls Try.prog 216 #[.slice A m c, .int .i64 dd] w fun e w' => ∃ v, e = .returned v ∧ w'.ownsRow w.heap.size 185 4 v (progAt dd [] xs).length (rows R4.vs (progAt dd [] xs)) ∧ Below w.heap.size w w'))
    (x : R3) (m c g gp gd d : Nat) (dd : Int) (A : Option Addr) (ys : List R3) (acc : List R4) (w : World) (bs : Nat) (hm : m < n) (hm1 : m ≤ 150) (hmc : m ≤ c) (hd0 : 0 ≤ dd) (hd1 : dd + 1 + m ≤ 200) (ha : Args 3 w A m (rows R3.vs ys)) (hv : vl d ys = true)
    (hx : x.a = 0 ∨ x.a = 1 ∨ x.a = 2 ∨ x.a = 3 ∨ x.a = 4) (hacc : acc.length ≤ 1000)
    (hasm : Asm w bs g acc) (hgp : w.heap[gp]? = some (.cells #[.pointer (some ⟨g, 0, none⟩)] 281 (0, 0))) (hgd : w.heap[gd]? = some (.cells #[.int .i64 dd] 2 (0, 0))) (hlo : bs ≤ w.heap.size) (hgg : gp ≠ g) (hgg2 : gd ≠ g) :
    Calls Try.prog 250 #[.agg #[.int .i64 x.a, .int .i64 x.b, .int .i64 x.c], .slice A m c, .pointer (some ⟨gd, 0, none⟩), .pointer (some ⟨gp, 0, none⟩)] w fun e w' => e = .returned (.tuple #[]) ∧
      Asm w' bs g (joinP acc (cmdP dd x (progAt (dd + 1) [] ys))) ∧ Below bs w w' ∧ w'.heap[gp]? = some (.cells #[.pointer (some ⟨g, 0, none⟩)] 281 (0, 0)) ∧ w'.heap[gd]? = some (.cells #[.int .i64 dd] 2 (0, 0)) := by
  obtain ⟨w1, HW, hB1, k0, k1, k2⟩ : ∃ w1, Hid (w1 = w.alloc (.cells #[.int .i64 x.a, .int .i64 x.b, .int .i64 x.c] 243)) ∧ Below w.heap.size w w1 ∧ w1.cell? ⟨w.heap.size, 0, none⟩ = some (.int .i64 x.a) ∧ w1.cell? ⟨w.heap.size, 1, none⟩ = some (.int .i64 x.b) ∧ w1.cell? ⟨w.heap.size, 2, none⟩ = some (.int .i64 x.c) := ⟨_, rfl, laid_below _ _, by simp [go_sem], by simp [go_sem], by simp [go_sem]⟩
  have kd := cell_step (var_facts hgd).1 hB1
  obtain ⟨f1, f2, f3⟩ := progAt_facts _ ys (dd + 1) [] (Nat.le_refl _)
  have HLY : Hid (ys.length = m) := by have := ha.1; rw [rows_len R3.vs_len] at this; unfold Hid; omega
  rw [HLY.out] at f2
  simp only [List.length_nil, Nat.zero_add] at f2
  obtain ⟨B, hB⟩ : ∃ B, B = progAt (dd + 1) [] ys := ⟨_, rfl⟩
  rw [← hB] at f1 f2 f3
  have HB := Lib.hid hB; clear hB
  obtain ⟨nb, hnb⟩ : ∃ nb, nb = B.length := ⟨_, rfl⟩
  rw [← hnb] at f2
  have HNB := Lib.hid hnb; clear hnb
  have HWF := Lib.hid (f3 nil_wf); clear f3 f1
  have hcl := cmdP_len dd x B
  rw [← HNB.out] at hcl
  obtain ⟨np, hnp⟩ : ∃ np, np = (cmdP dd x B).length := ⟨_, rfl⟩
  rw [← hnp] at hcl
  have HNP := Lib.hid hnp; clear hnp
  have HWC := Lib.hid ((cmdP_wf dd x HWF.out).near (by rw [← HNP.out]; omega))
  have HIH : Hid (∀ W, Below w.heap.size w W → Calls Try.prog 216 #[.slice A m c, .int .i64 (dd + 1)] W fun e w' => ∃ v, e = .returned v ∧ w'.ownsRow W.heap.size 185 4 v nb (rows R4.vs B) ∧ Below W.heap.size W w') := by
    intro W hW
    rw [HNB.out, HB.out]
    exact ih.out m hm A c d (dd + 1) ys W (ha.below hW) hm1 hmc (by omega) hd1 hv
  have w9 : IntKind.i64.wrap (dd + 1) = dd + 1 := IntWalk.i64_in _ (by omega)
  clear ih
  go_enter Try.func250, Try.ntmps250
  go_wp2
  rw [← HW.out]
  go_region_held3 (fun w' => w'.cell? ⟨w.heap.size, 0, none⟩ = some (.int .i64 x.a) ∧ w'.cell? ⟨w.heap.size, 1, none⟩ = some (.int .i64 x.b) ∧ w'.cell? ⟨w.heap.size, 2, none⟩ = some (.int .i64 x.c) ∧ w'.cell? ⟨gd, 0, none⟩ = some (.int .i64 dd)) (first | go_keep | exact ⟨m0, m1, m2, md⟩ | exact ⟨n0, n1, n2, nd⟩)
    ((first
      | (go_at_call 216; refine (HIH.out _ (hB1.drew)).mono ?_; rintro e w2 ⟨v2, rfl, hown2, hb2⟩; obtain ⟨A2, c2, rfl⟩ := own_form hown2; have hs2 := Src.of_own hown2; have m0 := cell_step (by exact k0) hb2; have m1 := cell_step (by exact k1) hb2; have m2 := cell_step (by exact k2) hb2; have md := cell_step (by exact kd) hb2)
      | (go_at_call 251; refine (commandProgram_any dd x A2 nb c2 B _ hs2 HWF.out (by omega) hd0 (by omega) hx).mono ?_; rintro e w3 ⟨v3, rfl, hown3, hb3⟩; rw [← HNP.out] at hown3; obtain ⟨A3, c3, rfl⟩ := own_form hown3; have n0 := cell_step m0 hb3; have n1 := cell_step m1 hb3; have n2 := cell_step m2 hb3; have nd := cell_step md hb3)))
  all_goals
    have hB3 := below_step hB1 (below_step (below_drew_at hb2) hb3)
    have hasm3 := hasm.below hB3
    have HG3 := Lib.hid ((hB3.block _ (heap_lt hgp)).trans hgp)
    have HD3 := Lib.hid ((hB3.block _ (heap_lt hgd)).trans hgd)
    have hs3 := Src.of_own hown3
    clear k0 k1 k2 kd hB1 hb2 hb3 hown2 hown3 HW m0 m1 m2 md n0 n1 n2 nd w9 hs2
    obtain ⟨va, hca, howna⟩ := hasm3.list
    obtain ⟨la, hla⟩ : ∃ la, la = acc.length := ⟨_, rfl⟩
    rw [← hla] at howna hacc
    have HLA := Lib.hid hla; clear hla
    obtain ⟨Aa, ca, rfl⟩ := own_form howna
    clear howna
    have g3 := (var_facts HG3.out).1
    have w10 : IntKind.i64.wrap ((la : Int) + (np : Int)) = (la : Int) + (np : Int) := IntWalk.i64_in _ (by omega)
    go_wp2
    go_region_law ((first
        | (go_simp; go_at_call 253; refine (sizeOf_Instr_any _ _ _ _).mono ?_; rintro e w5 ⟨rfl, hw5⟩; subst hw5)
        | (go_simp; go_at_call 252; refine (asmPart_full _ _ ((la : Int) + (np : Int)) acc (cmdP dd x B) A3 np c3 _ (by exact hasm3) (by rw [← HLA.out]; omega) (by exact hs3) (by omega) HWC.out).mono ?_; rintro e w6 ⟨rfl, hasm6, hb6, hkeep6⟩)))
    all_goals
      go_wp2
      go_end0
      refine ⟨rfl, ?_, (hB3.mono hlo).trans (below_drew_b hb6), hkeep6 gp _ _ _ hgg (by decide) (by exact HG3.out), hkeep6 gd _ _ _ hgg2 (by decide) (by exact HD3.out)⟩
      unfold joinP
      rw [← HB.out, ← HNP.out, ← HLA.out]
      rw [← HLA.out] at hasm6
      exact hasm6

set_option maxRecDepth 100000 in
set_option maxHeartbeats 2000000 in
theorem programOfLoop_any (n : Nat) : ∀ (A : Option Addr) (c d : Nat) (dd : Int) (xs : List R3) (w : World), Args 3 w A n (rows R3.vs xs) → n ≤ 150 → n ≤ c → 0 ≤ dd → dd + n ≤ 200 → vl d xs = true →
      Calls Try.prog 216 #[.slice A n c, .int .i64 dd] w fun e w' => ∃ v, e = .returned v ∧ w'.ownsRow w.heap.size 185 4 v (progAt dd [] xs).length (rows R4.vs (progAt dd [] xs)) ∧ Below w.heap.size w w' := by
  induction n using Nat.strongRecOn with
  | ind n ih =>
  intro A c d dd xs w ha hn hc hd0 hd1 hv
  have IH := Lib.hid ih; clear ih
  have HV := Lib.hid hv; clear hv
  have HA := Lib.hid ha; clear ha
  have HL : Hid (xs.length = n) := by have := HA.out.1; rw [rows_len R3.vs_len] at this; unfold Hid; omega
  obtain ⟨w1, HW, hB1, hgd, hgp, hasm⟩ : ∃ w1, Hid (w1 = ((w.alloc (.cells #[.int .i64 dd] 2)).alloc (.cells #[.slice none 0 0] 283)).alloc (.cells #[.pointer (some ⟨w.heap.size + 1, 0, none⟩)] 281)) ∧ Below w.heap.size w w1 ∧ w1.heap[w.heap.size]? = some (.cells #[.int .i64 dd] 2 (0, 0)) ∧ w1.heap[w.heap.size + 1 + 1]? = some (.cells #[.pointer (some ⟨w.heap.size + 1, 0, none⟩)] 281 (0, 0)) ∧ Asm w1 (w.heap.size + 1) (w.heap.size + 1) [] := by
    refine ⟨_, rfl, (((Below.refl _ _).alloc (Nat.le_refl _) _).alloc (by simp) _).alloc (by simp; omega) _, ?_, ?_, Nat.le_refl _, .slice none 0 0, ?_, World.ownsRow_nil _ _ _ _⟩
    · rw [Below.heap_alloc _ _ _ (by simp; omega), Below.heap_alloc _ _ _ (by simp)]; exact heap_alloc_new _ _
    · have := heap_alloc_new ((w.alloc (.cells #[.int .i64 dd] 2)).alloc (.cells #[.slice none 0 0] 283)) (.cells #[.pointer (some ⟨w.heap.size + 1, 0, none⟩)] 281)
      simpa using this
    · rw [Below.heap_alloc _ _ _ (by simp)]
      have := heap_alloc_new (w.alloc (.cells #[.int .i64 dd] 2)) (.cells #[.slice none 0 0] 283)
      simpa using this
  have HM0 : Hid (Made w (w.heap.size + 1) (w.heap.size + 1) (w.heap.size + 1 + 1) w.heap.size dd xs (progAt dd [] xs) 0 w1) := ⟨hB1, [], hasm, by rw [List.drop_zero], hgp, hgd⟩
  obtain ⟨pf1, pf2, -⟩ := progAt_facts _ xs dd [] (Nat.le_refl _)
  rw [HL.out] at pf2
  simp only [List.length_nil, Nat.zero_add] at pf2
  have HF1 : Hid (∀ (k : Nat) (x : R3) (m : Nat) (A' : Option Addr) (c' : Nat) (W : World), xs[k]? = some x → bodyLen x = m → vl d (xs.drop k) = true → k + 1 + m ≤ n → m ≤ c' → Args 3 W A' m (rows R3.vs ((xs.drop (k + 1)).take m)) → Made w (w.heap.size + 1) (w.heap.size + 1) (w.heap.size + 1 + 1) w.heap.size dd xs (progAt dd [] xs) k W →
      Calls Try.prog 250 (#[.agg #[.int .i64 x.a, .int .i64 x.b, .int .i64 x.c], .slice A' m c'] ++ #[.pointer (some ⟨w.heap.size, 0, none⟩), .pointer (some ⟨w.heap.size + 1 + 1, 0, none⟩)]) W fun e w' => e = .returned (.tuple #[]) ∧ Made w (w.heap.size + 1) (w.heap.size + 1) (w.heap.size + 1 + 1) w.heap.size dd xs (progAt dd [] xs) (k + 1 + m) w') := by
    intro k x m A' c' W hx hm hvk hkm hmc ha' hmade
    obtain ⟨h1, acc, h2, h3, h4, h5⟩ := hmade
    have hlt := (progAt_facts _ (xs.drop k) dd acc (Nat.le_refl _)).1
    rw [h3] at hlt
    have hvk' := hvk
    rw [drop_at hx] at hvk'
    have hkind := vl_kind hvk'
    obtain ⟨_, _, hv3⟩ := vl_step hx hvk
    rw [hm] at hv3
    have hvy : vl (d - 1) ((xs.drop (k + 1)).take m) = true := by
      cases hl : isLp x with
      | true => exact (hv3 hl).1
      | false =>
        have : m = 0 := by rw [← hm, bodyLen_no hl]
        rw [this, List.take_zero, vl_nil]
    have hW := heap_lt h4
    refine (programOfLoop1_any n IH x m c' (w.heap.size + 1) (w.heap.size + 1 + 1) w.heap.size (d - 1) dd A' ((xs.drop (k + 1)).take m) acc W (w.heap.size + 1) (by omega) (by omega) hmc hd0 (by omega) ha' hvy (by omega) (by omega) h2 h4 h5 (by omega) (by omega) (by omega)).mono ?_
    rintro e w' ⟨rfl, g1, g2, g3, g4⟩
    refine ⟨rfl, h1.trans (g2.mono (by omega)), _, g1, ?_, g3, g4⟩
    rw [← h3, progAt_step dd acc hx, hm]
  have HI1 : Hid (∀ k W W', Made w (w.heap.size + 1) (w.heap.size + 1) (w.heap.size + 1 + 1) w.heap.size dd xs (progAt dd [] xs) k W → Below W.heap.size W W' → Made w (w.heap.size + 1) (w.heap.size + 1) (w.heap.size + 1 + 1) w.heap.size dd xs (progAt dd [] xs) k W') := fun k W W' h hb => h.mono hb
  have HA1 : Hid (∀ k W, Made w (w.heap.size + 1) (w.heap.size + 1) (w.heap.size + 1 + 1) w.heap.size dd xs (progAt dd [] xs) k W → Args 3 W A n (rows R3.vs xs)) := fun k W h => HA.out.below h.1
  have HE := Lib.hid (enters_of' (P := Try.prog) Try.func250 (by kernel_rfl) rfl)
  have HBD := Lib.hid (bodies_any 250 #[.pointer (some ⟨w.heap.size, 0, none⟩), .pointer (some ⟨w.heap.size + 1 + 1, 0, none⟩)] d (Made w (w.heap.size + 1) (w.heap.size + 1) (w.heap.size + 1 + 1) w.heap.size dd xs (progAt dd [] xs)) A n c xs w1 (HA.out.below hB1) (by omega) hc HV.out HE.out HI1 HA1 HF1 HM0.out)
  clear hgd hgp hasm HM0 HF1 HI1 HA1
  go_enter Try.func216, Try.ntmps216
  go_wp2_with fail
  rw [← HW.out]
  refine HBD.out.mono ?_
  rintro e w2 ⟨rfl, hmade⟩
  obtain ⟨h1, acc, h2, h3, h4, h5⟩ := hmade
  rw [List.drop_of_length_le (by have := HL.out; omega), progAt_nil] at h3
  subst h3
  have p4 := (var_facts h4).1
  obtain ⟨v, hc2, hown⟩ := h2.list
  clear h2 h4 h5 HBD
  go_wp2
  go_ret
  exact ⟨_, rfl, own_base hown (by omega), h1⟩
end Go.Proofs.Yteocnkiagifmfaa

/- The register program of a loop program: the reference's l17Program, ProgramOfLoop; the program's ProgramOfLoop. -/
namespace Go.Proofs.Yteocnkiagifmfaa
open Go.RowKit
set_option linter.all false
attribute [local go_sem ↓] Go.wp_at_zero Go.wp_at_succ

theorem joinP_none (a : List R4) : joinP a [] = a := by simp [joinP]
theorem prog_seg {xs : List R3} {k to : Nat} {x : R3} (dd : Int) (acc : List R4) (h : xs[k]? = some x) (hk : k < to) (hm : k + 1 + bodyLen x ≤ to) :
    progAt dd acc (seg xs k to) = progAt dd (joinP acc (cmdP dd x (progAt (dd + 1) [] (seg xs (k + 1) (k + 1 + bodyLen x))))) (seg xs (k + 1 + bodyLen x) to) := by
  rw [seg_at h hk, progAt_cons, seg_take _ _ _ _ hm, seg_drop]
theorem moveP_none (b : Int) : moveP b [] = [⟨1, b, 0, 1⟩] := by simp [moveP]

set_option maxRecDepth 100000 in
set_option maxHeartbeats 16000000 in
theorem l17Program_any (N : Nat) : ∀ (A : Option Addr) (n c fr to d : Nat) (dd : Int) (xs : List R3) (w : World), Args 3 w A n (rows R3.vs xs) → n ≤ 150 → fr ≤ to → to ≤ n → to - fr ≤ N → 0 ≤ dd → dd + (to - fr : Nat) ≤ 200 → vl d (seg xs fr to) = true →
    Calls Try.prog 142 #[.slice A n c, .int .i64 fr, .int .i64 to, .int .i64 dd] w fun e w' => ∃ v, e = .returned v ∧ w'.ownsRow w.heap.size 185 4 v (progAt dd [] (seg xs fr to)).length (rows R4.vs (progAt dd [] (seg xs fr to))) ∧ Below w.heap.size w w' := by
  induction N using Nat.strongRecOn with
  | ind N ih =>
  intro A n c fr to d dd xs w ha hn hft hto hN hd0 hd1 hv
  have IH := Lib.hid ih; clear ih
  have HV0 := Lib.hid hv; clear hv
  have HL : Hid (xs.length = n) := by have := ha.1; rw [rows_len R3.vs_len] at this; unfold Hid; omega
  obtain ⟨P, hP⟩ : ∃ P, P = progAt dd [] (seg xs fr to) := ⟨_, rfl⟩
  obtain ⟨pf1, pf2, -⟩ := progAt_facts _ (seg xs fr to) dd [] (Nat.le_refl _)
  rw [seg_len (by have := HL.out; omega), ← hP] at pf2
  simp only [List.length_nil, Nat.zero_add] at pf2
  rw [← hP]
  have HP := Lib.hid hP; clear hP pf1
  have hown0 : (w.alloc (.cells #[] 185)).ownsRow w.heap.size 185 4 (.slice (some ⟨w.heap.size, 0, none⟩) 0 0) 0 [] := own_empty w 185 4
  have hb0 := laid_below w (.cells #[] 185)
  go_enter Try.func142, Try.ntmps142
  go_wp2
  go_loopw [9, 11] (fun v i wr => ∃ (k : Nat) (acc : List R4), fr ≤ k ∧ k ≤ to ∧ i = .int .i64 k ∧ wr.ownsRow w.heap.size 185 4 v acc.length (rows R4.vs acc) ∧ Hid (progAt dd acc (seg xs k to) = P) ∧ Hid (vl d (seg xs k to) = true) ∧ Below w.heap.size w wr) (fun _ i _ => to - (intOf i).toNat)
  case atStart => exact ⟨fr, [], Nat.le_refl _, hft, rfl, hown0, HP.out.symm, HV0.out, hb0⟩
  case round =>
    obtain ⟨k, acc, hfk, hk, rfl, hown, HPP, HV, hB⟩ := hrel
    clear hown0 hb0
    obtain ⟨qf1, -, -⟩ := progAt_facts _ (seg xs k to) dd acc (Nat.le_refl _)
    rw [HPP.out] at qf1
    obtain ⟨la, hla⟩ : ∃ la, la = acc.length := ⟨_, rfl⟩
    rw [← hla] at hown qf1
    have hla1 : la ≤ 1000 := by omega
    have HLA := Lib.hid hla; clear hla
    by_cases hlt : k < to
    rotate_left
    · obtain rfl : to = k := by omega
      have hPP := HPP.out
      rw [seg_end (Nat.le_refl _), progAt_nil] at hPP
      subst hPP
      go_wp2
      go_ret
      exact ⟨_, rfl, by rw [← HLA.out]; exact hown, hB⟩
    obtain ⟨b, off, rfl, hs⟩ := ha.sl (k := k) (by omega)
    obtain ⟨x, HX⟩ := hget (k := k) HL (by omega)
    have hvv := HV.out
    rw [seg_at HX.out hlt] at hvv
    obtain ⟨s1, s2, s3⟩ := vl_split hvv
    have hkind := vl_kind hvv
    rw [seg_len (by have := HL.out; omega)] at s1
    have hkm : k + 1 + bodyLen x ≤ to := by omega
    rw [seg_drop] at s2
    rw [seg_take _ _ _ _ hkm] at s3
    have HV2 := Lib.hid s2; have S3 := Lib.hid s3
    have HST := Lib.hid (prog_seg dd acc HX.out hlt hkm)
    rw [HPP.out] at HST
    obtain ⟨p0, p1, p2⟩ := (hs.below' hB).rec3 HX.out
    obtain ⟨A1, c1, rfl⟩ := own_form hown
    obtain ⟨w1, HW, hb1, c0, k1, k2⟩ : ∃ w1, Hid (w1 = wr.alloc (.cells #[.int .i64 x.a, .int .i64 x.b, .int .i64 x.c] 243)) ∧ Below wr.heap.size wr w1 ∧ w1.cell? ⟨wr.heap.size, 0, none⟩ = some (.int .i64 x.a) ∧ w1.cell? ⟨wr.heap.size, 1, none⟩ = some (.int .i64 x.b) ∧ w1.cell? ⟨wr.heap.size, 2, none⟩ = some (.int .i64 x.c) := ⟨_, rfl, laid_below _ _, by simp [go_sem], by simp [go_sem], by simp [go_sem]⟩
    have hB1 := below_step hB hb1
    have hsrc1 := (Src.of_own hown).below hb1
    clear hvv s1 s2 s3 hb1
    rcases hkind with ⟨hb0', hb15, hkk⟩
    rcases hkk with e | e | e | e | ⟨e, hc0, hc15⟩
    · -- zero
      have HBL : Hid (bodyLen x = 0) := bodyLen_no (by unfold isLp; simp [e])
      have HC : Hid (cmdP dd x (progAt (dd + 1) [] (seg xs (k + 1) (k + 1 + bodyLen x))) = [⟨1, x.b, 0, 1⟩]) := by unfold Hid cmdP; rw [if_pos e, moveP_none]
      rw [HC.out, HBL.out] at HST
      rw [HBL.out] at HV2
      rw [e] at HW p0 c0
      have hwx : IntKind.i64.wrap ((k : Int) + 1 + x.c) = IntKind.i64.wrap ((k : Int) + 1 + x.c) := rfl
      clear e hown hs S3 HBL HC hwx
      go_wp2_with fail
      rw [← HW.out]
      refine (l07Clear_any x.b _).mono ?_
      rintro e w2 ⟨v2, rfl, hown2, hb2⟩
      obtain ⟨A2, c2, rfl⟩ := own_form hown2
      go_wp2_with fail
      refine (l07Join_any A1 A2 la 1 c1 c2 acc [⟨1, x.b, 0, 1⟩] _ (hsrc1.below hb2) (Src.of_own hown2) (by omega) (by omega) (by rw [← moveP_none]; exact moveP_wf _ _)).mono ?_
      rintro e w3 ⟨v3, rfl, hown3, hb3⟩
      have hB3 := below_step hB1 (below_step hb2 hb3)
      have hlo := Nat.le_trans hB1.size hb2.size
      clear c0 k1 k2 hb2 hb3 hown2 hsrc1 HW p0 p1 p2
      go_wp2
      go_roundw
      case rel => exact ⟨k + 1, joinP acc [⟨1, x.b, 0, 1⟩], by omega, by omega, by go_num, by rw [joinP_len, ← HLA.out]; exact own_base hown3 hlo, HST.symm, HV2, hB3⟩
      case measure => simp [intOf]; omega
    · -- inc
      have HBL : Hid (bodyLen x = 0) := bodyLen_no (by unfold isLp; simp [e])
      have HC : Hid (cmdP dd x (progAt (dd + 1) [] (seg xs (k + 1) (k + 1 + bodyLen x))) = [⟨0, x.b, 1, 0⟩]) := by unfold Hid cmdP; rw [if_neg (by omega), if_pos e]
      rw [HC.out, HBL.out] at HST
      rw [HBL.out] at HV2
      rw [e] at HW p0 c0
      have hown2 : (w1.alloc (.cells #[.int .i64 0, .int .i64 x.b, .int .i64 1, .int .i64 0] 185)).ownsRow w1.heap.size 185 4 (.slice (some ⟨w1.heap.size, 0, none⟩) 1 1) 1 (rows R4.vs [⟨0, x.b, 1, 0⟩]) := own_laid w1 _ 4 1 _ rfl (by simp [maxLen])
      have hb2 := laid_below w1 (.cells #[.int .i64 0, .int .i64 x.b, .int .i64 1, .int .i64 0] 185)
      clear e hown hs S3 HBL HC
      have hlo := Nat.le_trans hB1.size hb2.size
      have hsz : (wr.alloc (.cells #[.int .i64 1, .int .i64 x.b, .int .i64 x.c] 243)).heap.size = w1.heap.size := by rw [HW.out]
      go_wp2_with fail
      rw [← HW.out]
      try rw [hsz]
      refine (l07Join_any A1 _ la 1 c1 1 acc [⟨0, x.b, 1, 0⟩] _ (hsrc1.below hb2) (Src.of_own hown2) (by omega) (by omega) (by intro y hy; simp at hy; subst hy; simp)).mono ?_
      rintro e w3 ⟨v3, rfl, hown3, hb3⟩
      have hB3 := below_step hB1 (below_step hb2 hb3)
      clear c0 k1 k2 hb2 hb3 hown2 hsrc1 HW p0 p1 p2
      go_wp2
      go_roundw
      case rel => exact ⟨k + 1, joinP acc [⟨0, x.b, 1, 0⟩], by omega, by omega, by go_num, by rw [joinP_len, ← HLA.out]; exact own_base hown3 hlo, HST.symm, HV2, hB3⟩
      case measure => simp [intOf]; omega
    · -- times
      have hlp : isLp x = true := by unfold isLp; simp [e]
      obtain ⟨h3v, h3c, h3d⟩ := S3.out hlp
      obtain ⟨m, hm⟩ : ∃ m : Nat, x.c = m := ⟨x.c.toNat, by omega⟩
      have HBL : Hid (bodyLen x = m) := by unfold Hid; rw [bodyLen_lp hlp, hm]; simp
      rw [HBL.out] at HST HV2 hkm h3v
      obtain ⟨B, hBB⟩ : ∃ B, B = progAt (dd + 1) [] (seg xs (k + 1) (k + 1 + m)) := ⟨_, rfl⟩
      obtain ⟨f1, f2, f3⟩ := progAt_facts _ (seg xs (k + 1) (k + 1 + m)) (dd + 1) [] (Nat.le_refl _)
      rw [seg_len (by have := HL.out; omega), ← hBB] at f2
      rw [← hBB] at f3 HST
      simp only [List.length_nil, Nat.zero_add] at f2
      have HWF := Lib.hid (f3 nil_wf)
      obtain ⟨nb, hnb⟩ : ∃ nb, nb = B.length := ⟨_, rfl⟩
      rw [← hnb] at f2
      have HNB := Lib.hid hnb
      have HNR := Lib.hid (HWF.out.near (by rw [← hnb]; omega))
      have HIH : Hid (∀ W, Below w.heap.size w W → Calls Try.prog 142 #[.slice (some ⟨b, off, none⟩) n c, .int .i64 ((k : Int) + 1), .int .i64 ((k : Int) + 1 + (m : Int)), .int .i64 (dd + 1)] W fun e w' => ∃ v, e = .returned v ∧ w'.ownsRow W.heap.size 185 4 v nb (rows R4.vs B) ∧ Below W.heap.size W w') := by
        intro W hW
        have := IH.out (k + 1 + m - (k + 1)) (by omega) (some ⟨b, off, none⟩) n c (k + 1) (k + 1 + m) (d - 1) (dd + 1) xs W (ha.below hW) hn (by omega) (by omega) (by omega) (by omega) (by omega) h3v
        rw [← hBB, ← hnb] at this
        exact this
      have HC : Hid (cmdP dd x B = joinP (copyP x.b (16 + dd) 23) (timesP (16 + dd) B)) := by unfold Hid cmdP; rw [if_neg (by omega), if_neg (by omega), if_neg (by omega), if_pos e]
      rw [HC.out] at HST
      have HTW := Lib.hid (timesP_wf (16 + dd) HWF.out)
      have HJW := Lib.hid (joinP_wf (copyP_wf x.b (16 + dd) 23) HTW.out)
      have HO := Lib.hid (one_rows_Instr (B.map (redirF (tgt nb 0 1))))
      have HTL : Hid ((timesP (16 + dd) B).length = 1 + nb) := by unfold Hid timesP; rw [← hnb]; simp; omega
      rw [e] at HW p0 c0
      rw [hm] at HW p2 k2
      have w8 : IntKind.i64.wrap (16 + dd) = 16 + dd := IntWalk.i64_in _ (by omega)
      have w9 : IntKind.i64.wrap (dd + 1) = dd + 1 := IntWalk.i64_in _ (by omega)
      have w7 : IntKind.i64.wrap ((k : Int) + 1 + (m : Int)) = (k : Int) + 1 + (m : Int) := IntWalk.i64_in _ (by omega)
      have w6 : IntKind.i64.wrap ((nb : Int) + 1) = (nb : Int) + 1 := IntWalk.i64_in _ (by omega)
      have hmm : (m : Int) ≤ 150 := by omega
      clear e hown hs S3 HBL HC hBB hnb f1 f3 h3v h3c h3d hlp
      go_wp2_with fail
      rw [← HW.out]
      refine (HIH.out _ hB1).mono ?_
      rintro e w2 ⟨v2, rfl, hown2, hb2⟩
      obtain ⟨A2, c2, rfl⟩ := own_form hown2
      have hB2 := below_step hB1 hb2
      have hsrc2 := hsrc1.below hb2
      have k1' := cell_step k1 hb2
      clear c0 k1 k2 HW p0 p1 p2 hsrc1
      -- the head of the loop
      have HJL : Hid ((joinP (copyP x.b (16 + dd) 23) (timesP (16 + dd) B)).length = 5 + (1 + nb)) := by unfold Hid; rw [joinP_len, copyP_len, HTL.out]
      rcases Nat.eq_zero_or_pos nb with hz | hz
      · subst hz
        obtain ⟨w4, HW4⟩ : ∃ w4, Hid (w4 = w2.alloc (.cells #[.int .i64 1, .int .i64 (16 + dd), .int .i64 0, .int .i64 1] 185)) := ⟨_, rfl⟩
        have ho4 : w4.ownsRow w2.heap.size 185 4 (.slice (some ⟨w2.heap.size, 0, none⟩) 1 1) 1 (rows R4.vs [⟨1, 16 + dd, 0, 1⟩]) := by rw [HW4.out]; exact own_laid w2 185 4 1 #[.int .i64 1, .int .i64 (16 + dd), .int .i64 0, .int .i64 1] rfl (by simp [maxLen])
        have HTP : Hid (rows R4.vs [⟨1, 16 + dd, 0, 1⟩] ++ rows R4.vs (B.map (redirF (tgt 0 0 1))) = rows R4.vs (timesP (16 + dd) B)) := by unfold Hid timesP; rw [← HNB.out, ← rows_app]; rfl
        have hb4 : Below w2.heap.size w2 w4 := by rw [HW4.out]; exact laid_below _ _
        have hB4 := below_step hB2 hb4
        have hsB := (Src.of_own hown2).below hb4
        clear hown2 hb2
        go_wp2_with fail
        rw [← HW4.out]
        refine (l07Shift_any 1 0 A2 0 c2 B _ hsB (by omega) HNR.out HWF.out.kinds (by omega) (by omega)).mono ?_
        rintro e w5 ⟨v5, rfl, hown5, hb5⟩
        have ho5 := own_below' ho4 hb5
        have hb45 := below_step hb4 hb5
        have hB5 := below_step hB4 hb5
        have hs5 := Src.of_own hown5
        clear hsB ho4 hown5 hb5 HW4
        go_wp2_with (first | (at_builtin; refine wpList_appx rfl _ _ _ rfl Try.underlying98 infoInstr rfl (by omega) w2.heap.size ho5 hb45.size rfl hs5 rfl HO.out (by unfold maxLen; omega) (by omega) ?_; intro v6 w6 hown6 hg6 hnil6; have hb6 := grown_below hb45 ho5 (Nat.le_refl _) hg6; have k6 := cell_step k1' hb6; have hsa6 := hsrc2.below hb6; clear hnil6 hs5 ho5 hg6 hb45 k1' hsrc2))
        have hB6 := below_step hB2 hb6
        obtain ⟨A6, c6, rfl⟩ := own_form hown6
        rw [HTP.out] at hown6
        have hs6 := Src.of_own hown6
        refine (l07Copy_any x.b (16 + dd) 23 _).mono ?_
        rintro e w7 ⟨v7, rfl, hown7, hb7⟩
        have hB7 := below_step hB6 hb7
        obtain ⟨A7, c7, rfl⟩ := own_form hown7
        have hs7 := Src.of_own hown7
        have hs67 := hs6.below hb7
        have hsa7 := hsa6.below hb7
        clear hown6 hown7 hs6 hsa6 k6 hb6 hb4
        go_wp2_with fail
        refine (l07Join_any A7 A6 5 (1 + 0) c7 c6 _ _ _ hs7 hs67 (by omega) (by omega) HTW.out).mono ?_
        rintro e w9 ⟨v9, rfl, hown9, hb9⟩
        have hB9 := below_step hB7 hb9
        obtain ⟨A9, c9, rfl⟩ := own_form hown9
        have hs9 := Src.of_own hown9
        have hsa9 := hsa7.below hb9
        clear hown9 hb9 hsa7 hs7 hs67 hb7
        go_wp2_with fail
        refine (l07Join_any A1 A9 la (5 + (1 + 0)) c1 c9 acc _ _ hsa9 hs9 (by omega) (by omega) HJW.out).mono ?_
        rintro e w10 ⟨v10, rfl, hown10, hb10⟩
        have hB10 := below_step hB9 hb10
        clear hsa9 hs9 hb10
        go_wp2
        go_roundw
        case rel => exact ⟨k + 1 + m, _, by omega, by omega, by go_num, by rw [joinP_len, HJL.out, ← HLA.out]; exact own_base hown10 hB9.size, HST.symm, HV2, hB10⟩
        case measure => simp [intOf]; omega
      · have e0 : ((nb : Int) == 0) = false := (by simp; omega)
        obtain ⟨w4, HW4⟩ : ∃ w4, Hid (w4 = w2.alloc (.cells #[.int .i64 1, .int .i64 (16 + dd), .int .i64 1, .int .i64 ((nb : Int) + 1)] 185)) := ⟨_, rfl⟩
        have ho4 : w4.ownsRow w2.heap.size 185 4 (.slice (some ⟨w2.heap.size, 0, none⟩) 1 1) 1 (rows R4.vs [⟨1, 16 + dd, 1, ((nb : Int) + 1)⟩]) := by rw [HW4.out]; exact own_laid w2 185 4 1 #[.int .i64 1, .int .i64 (16 + dd), .int .i64 1, .int .i64 ((nb : Int) + 1)] rfl (by simp [maxLen])
        have HTP : Hid (rows R4.vs [⟨1, 16 + dd, 1, ((nb : Int) + 1)⟩] ++ rows R4.vs (B.map (redirF (tgt nb 0 1))) = rows R4.vs (timesP (16 + dd) B)) := by unfold Hid timesP; rw [← HNB.out, ← rows_app]; rw [if_neg (by omega)]; rfl
        have hb4 : Below w2.heap.size w2 w4 := by rw [HW4.out]; exact laid_below _ _
        have hB4 := below_step hB2 hb4
        have hsB := (Src.of_own hown2).below hb4
        clear hown2 hb2
        go_wp2_with fail
        rw [← HW4.out]
        refine (l07Shift_any 1 0 A2 nb c2 B _ hsB (by omega) HNR.out HWF.out.kinds (by omega) (by omega)).mono ?_
        rintro e w5 ⟨v5, rfl, hown5, hb5⟩
        have ho5 := own_below' ho4 hb5
        have hb45 := below_step hb4 hb5
        have hB5 := below_step hB4 hb5
        have hs5 := Src.of_own hown5
        clear hsB ho4 hown5 hb5 HW4
        go_wp2_with (first | (at_builtin; refine wpList_appx rfl _ _ _ rfl Try.underlying98 infoInstr rfl (by omega) w2.heap.size ho5 hb45.size rfl hs5 rfl HO.out (by unfold maxLen; omega) (by omega) ?_; intro v6 w6 hown6 hg6 hnil6; have hb6 := grown_below hb45 ho5 (Nat.le_refl _) hg6; have k6 := cell_step k1' hb6; have hsa6 := hsrc2.below hb6; clear hnil6 hs5 ho5 hg6 hb45 k1' hsrc2))
        have hB6 := below_step hB2 hb6
        obtain ⟨A6, c6, rfl⟩ := own_form hown6
        rw [HTP.out] at hown6
        have hs6 := Src.of_own hown6
        refine (l07Copy_any x.b (16 + dd) 23 _).mono ?_
        rintro e w7 ⟨v7, rfl, hown7, hb7⟩
        have hB7 := below_step hB6 hb7
        obtain ⟨A7, c7, rfl⟩ := own_form hown7
        have hs7 := Src.of_own hown7
        have hs67 := hs6.below hb7
        have hsa7 := hsa6.below hb7
        clear hown6 hown7 hs6 hsa6 k6 hb6 hb4
        go_wp2_with fail
        refine (l07Join_any A7 A6 5 (1 + nb) c7 c6 _ _ _ hs7 hs67 (by omega) (by omega) HTW.out).mono ?_
        rintro e w9 ⟨v9, rfl, hown9, hb9⟩
        have hB9 := below_step hB7 hb9
        obtain ⟨A9, c9, rfl⟩ := own_form hown9
        have hs9 := Src.of_own hown9
        have hsa9 := hsa7.below hb9
        clear hown9 hb9 hsa7 hs7 hs67 hb7
        go_wp2_with fail
        refine (l07Join_any A1 A9 la (5 + (1 + nb)) c1 c9 acc _ _ hsa9 hs9 (by omega) (by omega) HJW.out).mono ?_
        rintro e w10 ⟨v10, rfl, hown10, hb10⟩
        have hB10 := below_step hB9 hb10
        clear hsa9 hs9 hb10
        go_wp2
        go_roundw
        case rel => exact ⟨k + 1 + m, _, by omega, by omega, by go_num, by rw [joinP_len, HJL.out, ← HLA.out]; exact own_base hown10 hB9.size, HST.symm, HV2, hB10⟩
        case measure => simp [intOf]; omega
    · -- again
      have hlp : isLp x = true := by unfold isLp; simp [e]
      obtain ⟨h3v, h3c, h3d⟩ := S3.out hlp
      obtain ⟨m, hm⟩ : ∃ m : Nat, x.c = m := ⟨x.c.toNat, by omega⟩
      have HBL : Hid (bodyLen x = m) := by unfold Hid; rw [bodyLen_lp hlp, hm]; simp
      rw [HBL.out] at HST HV2 hkm h3v
      obtain ⟨B, hBB⟩ : ∃ B, B = progAt (dd + 1) [] (seg xs (k + 1) (k + 1 + m)) := ⟨_, rfl⟩
      obtain ⟨f1, f2, f3⟩ := progAt_facts _ (seg xs (k + 1) (k + 1 + m)) (dd + 1) [] (Nat.le_refl _)
      rw [seg_len (by have := HL.out; omega), ← hBB] at f2
      rw [← hBB] at f3 HST
      simp only [List.length_nil, Nat.zero_add] at f2
      have HWF := Lib.hid (f3 nil_wf)
      obtain ⟨nb, hnb⟩ : ∃ nb, nb = B.length := ⟨_, rfl⟩
      rw [← hnb] at f2
      have HNB := Lib.hid hnb
      have HNR := Lib.hid (HWF.out.near (by rw [← hnb]; omega))
      have HIH : Hid (∀ W, Below w.heap.size w W → Calls Try.prog 142 #[.slice (some ⟨b, off, none⟩) n c, .int .i64 ((k : Int) + 1), .int .i64 ((k : Int) + 1 + (m : Int)), .int .i64 (dd + 1)] W fun e w' => ∃ v, e = .returned v ∧ w'.ownsRow W.heap.size 185 4 v nb (rows R4.vs B) ∧ Below W.heap.size W w') := by
        intro W hW
        have := IH.out (k + 1 + m - (k + 1)) (by omega) (some ⟨b, off, none⟩) n c (k + 1) (k + 1 + m) (d - 1) (dd + 1) xs W (ha.below hW) hn (by omega) (by omega) (by omega) (by omega) (by omega) h3v
        rw [← hBB, ← hnb] at this
        exact this
      have HC : Hid (cmdP dd x B = loopP x.b B) := by unfold Hid cmdP; rw [if_neg (by omega), if_neg (by omega), if_neg (by omega), if_neg (by omega)]
      rw [HC.out] at HST
      have HLW := Lib.hid (loopP_wf x.b HWF.out)
      have HLL : Hid ((loopP x.b B).length = nb + 2) := by unfold Hid; rw [loopP_len, ← hnb]
      rw [e] at HW p0 c0
      rw [hm] at HW p2 k2
      have w9 : IntKind.i64.wrap (dd + 1) = dd + 1 := IntWalk.i64_in _ (by omega)
      have w7 : IntKind.i64.wrap ((k : Int) + 1 + (m : Int)) = (k : Int) + 1 + (m : Int) := IntWalk.i64_in _ (by omega)
      have w5 : IntKind.i64.wrap ((k : Int) + 1) = (k : Int) + 1 := IntWalk.i64_in _ (by omega)
      have hmm : (m : Int) ≤ 150 := by omega
      clear e hown hs S3 HBL HC hBB hnb f1 f3 h3v h3c h3d hlp
      go_wp2
      rw [← HW.out]
      go_region_held3 (fun w' => w'.cell? ⟨wr.heap.size, 1, none⟩ = some (.int .i64 x.b)) (first | go_keep | exact m1 | exact n1 | exact q1)
        ((first
          | (go_at_call 142; refine (HIH.out _ (hB1.drew)).mono ?_; rintro e w2 ⟨v2, rfl, hown2, hb2⟩; obtain ⟨A2, c2, rfl⟩ := own_form hown2; have hs2 := Src.of_own hown2; have m1 := cell_step (by exact k1) hb2)
          | (go_at_call 212; refine (l07Loop_any x.b A2 nb c2 B _ hs2 (by omega) HNR.out HWF.out.kinds).mono ?_; rintro e w3 ⟨v3, rfl, hown3, hb3⟩; obtain ⟨A3, c3, rfl⟩ := own_form hown3; have hs3 := Src.of_own hown3; have n1 := cell_step m1 hb3; have hsa3 := (hsrc1.below (below_drew_at hb2)).below hb3)
          | (go_at_call 208; refine (l07Join_any A1 A3 la (nb + 2) c1 c3 acc (loopP x.b B) _ hsa3 hs3 (by omega) (by omega) HLW.out).mono ?_; rintro e w4 ⟨v4, rfl, hown4, hb4⟩; have q1 := cell_step n1 hb4)))
      all_goals
        have hB3 := below_step (below_step hB1 (below_drew_at hb2)) hb3
        have hB4 := below_step hB3 hb4
        clear hsrc1 hown2 hown3 hb2 hb3 hb4 hs2 hs3 hsa3 m1 n1 q1 k1 k2 c0 p0 p1 p2
        go_wp2
        go_roundw
        case rel => exact ⟨k + 1 + m, _, by omega, by omega, by go_num, by rw [joinP_len, HLL.out, ← HLA.out]; exact own_base hown4 hB3.size, HST.symm, HV2, hB4⟩
        case measure => simp [intOf]; omega
    · -- copy
      have HBL : Hid (bodyLen x = 0) := bodyLen_no (by unfold isLp; simp [e])
      rw [HBL.out] at HV2 HST
      by_cases hbc : x.b = x.c
      · have HC : Hid (cmdP dd x (progAt (dd + 1) [] (seg xs (k + 1) (k + 1 + 0))) = []) := by unfold Hid cmdP; rw [if_neg (by omega), if_neg (by omega), if_pos e, if_pos hbc]
        rw [HC.out, joinP_none] at HST
        rw [e] at HW p0 c0
        have e0 : (x.b != x.c) = false := by simp [hbc]
        have HBC := Lib.hid hbc
        have hown1 : w1.ownsRow w.heap.size 185 4 (.slice A1 la c1) la (rows R4.vs acc) := by
          rw [HW.out]; exact own_below' hown (laid_below _ _)
        clear e hown hs S3 HBL HC hsrc1 hbc
        go_wp2_with fail
        rw [← HW.out]
        clear c0 k1 k2 p0 p1 p2 HW
        go_roundw
        case rel => exact ⟨k + 1, acc, by omega, by omega, by go_num, by rw [← HLA.out]; exact hown1, HST.symm, HV2, hB1⟩
        case measure => simp [intOf]; omega
      · have HC : Hid (cmdP dd x (progAt (dd + 1) [] (seg xs (k + 1) (k + 1 + 0))) = joinP (moveP x.b []) (copyP x.c x.b 23)) := by unfold Hid cmdP; rw [if_neg (by omega), if_neg (by omega), if_pos e, if_neg hbc]
        rw [HC.out] at HST
        have HJL : Hid ((joinP (moveP x.b []) (copyP x.c x.b 23)).length = 1 + 5) := by unfold Hid; rw [joinP_len, moveP_len, copyP_len]; rfl
        have HJW := Lib.hid (joinP_wf (moveP_wf x.b []) (copyP_wf x.c x.b 23))
        have HMN : Hid (rows R4.vs [⟨1, x.b, 0, 1⟩] = rows R4.vs (moveP x.b [])) := by unfold Hid; rw [moveP_none]
        rw [e] at HW p0 c0
        have e0 : (x.b != x.c) = true := by simpa using hbc
        clear e hown hs S3 HBL HC hbc
        go_wp2_with fail
        rw [← HW.out]
        go_region_held3 (fun w' => w'.cell? ⟨wr.heap.size, 1, none⟩ = some (.int .i64 x.b) ∧ w'.cell? ⟨wr.heap.size, 2, none⟩ = some (.int .i64 x.c)) (first | go_keep | exact ⟨m1, m2⟩ | exact ⟨n1, n2⟩ | exact ⟨q1, q2⟩ | exact ⟨r1, r2⟩)
          ((first
            | (go_at_call 209; refine (l07Clear_any x.b _).mono ?_; rintro e w2 ⟨v2, rfl, hown2, hb2⟩; obtain ⟨A2, c2, rfl⟩ := own_form hown2; rw [HMN.out] at hown2; have hs2 := Src.of_own hown2; have m1 := cell_step (by exact k1) hb2; have m2 := cell_step (by exact k2) hb2)
            | (go_at_call 210; refine (l07Copy_any x.c x.b 23 _).mono ?_; rintro e w3 ⟨v3, rfl, hown3, hb3⟩; obtain ⟨A3, c3, rfl⟩ := own_form hown3; have hs3 := Src.of_own hown3; have hs23 := hs2.below hb3; have n1 := cell_step m1 hb3; have n2 := cell_step m2 hb3; have hsa3 := (hsrc1.below (below_drew_at hb2)).below hb3)
            | (go_at_call_of 208 (Value.slice A2 1 c2); refine (l07Join_any A2 A3 1 5 c2 c3 _ _ _ hs23 hs3 (by omega) (by omega) (copyP_wf _ _ _)).mono ?_; rintro e w4 ⟨v4, rfl, hown4, hb4⟩; obtain ⟨A4, c4, rfl⟩ := own_form hown4; have hs4 := Src.of_own hown4; have hsa4 := hsa3.below hb4; have q1 := cell_step n1 hb4; have q2 := cell_step n2 hb4)
            | (go_at_call_of 208 (Value.slice A1 la c1); refine (l07Join_any A1 A4 la (1 + 5) c1 c4 acc _ _ hsa4 hs4 (by omega) (by omega) HJW.out).mono ?_; rintro e w5 ⟨v5, rfl, hown5, hb5⟩; have r1 := cell_step q1 hb5; have r2 := cell_step q2 hb5)))
        all_goals
          have hB3 := below_step (below_step (below_step hB1 (below_drew_at hb2)) hb3) hb4
          have hB4 := below_step hB3 hb5
          clear hsrc1 hown2 hown3 hown4 hb2 hb3 hb4 hb5 hs2 hs3 hsa3 hs23 hs4 hsa4 m1 n1 q1 m2 n2 q2 r1 r2 k1 k2 c0 p0 p1 p2
          go_wp2
          go_roundw
          case rel => exact ⟨k + 1, _, by omega, by omega, by go_num, by rw [joinP_len, HJL.out, ← HLA.out]; exact own_base hown5 hB3.size, HST.symm, HV2, hB4⟩
          case measure => simp [intOf]; omega
end Go.Proofs.Yteocnkiagifmfaa

/- ProgramOfLoop on both sides. -/
namespace Go.Proofs.Yteocnkiagifmfaa
open Go.RowKit
set_option linter.all false

theorem validL_facts {xs : List R3} (h : validL xs = true) : xs.length ≤ 150 ∧ vl 7 xs = true := by
  unfold validL at h
  simpa using h

set_option maxRecDepth 100000 in
theorem implProgramOfLoop_w (b off n c : Nat) (xs : List R3) (w : World) (hs : Sl w b off (rows R3.vs xs)) (hl : xs.length = n) (hn : n ≤ 1048576) (hc : n ≤ c) :
    Calls Try.prog 145 #[.slice (some ⟨b, off, none⟩) n c] w fun e w' => ∃ v, e = .returned (.tuple #[v, .int .i64 (programOfLoop xs).2]) ∧
      w'.ownsRow w.heap.size 185 4 v (programOfLoop xs).1.length (rows R4.vs (programOfLoop xs).1) ∧ Below w.heap.size w w' := by
  have HL := Lib.hid hl; clear hl
  have HA := Lib.hid (Args.of_sl (n := n) (s := 3) hs (by rw [rows_len R3.vs_len, HL.out]))
  rcases Bool.eq_false_or_eq_true (validL xs) with hv | hv
  rotate_left
  · have HM : Hid (programOfLoop xs = ([], 1)) := by unfold Hid programOfLoop; rw [hv]; rfl
    have HV := Lib.hid hv; clear hv
    go_enter Try.func145, Try.ntmps145
    go_wp2_with fail
    refine (implValidLoop_is b off n c xs false HV.out _ HA.out hn hc).mono ?_
    rintro e w1 ⟨rfl, hb1⟩
    go_wp2
    go_ret2
    rw [HM.out]
    exact ⟨_, rfl, World.ownsRow_nil _ _ _ _, hb1⟩
  obtain ⟨h1, h7⟩ := validL_facts hv
  rw [HL.out] at h1
  have HM : Hid (programOfLoop xs = fits (progAt 0 [] xs)) := by unfold Hid programOfLoop; rw [hv]; rfl
  have HV := Lib.hid hv; clear hv
  have H7 := Lib.hid h7
  obtain ⟨-, pf2, -⟩ := progAt_facts _ xs 0 [] (Nat.le_refl _)
  rw [HL.out] at pf2
  simp only [List.length_nil, Nat.zero_add] at pf2
  obtain ⟨m, hm⟩ : ∃ m, m = (progAt 0 [] xs).length := ⟨_, rfl⟩
  rw [← hm] at pf2
  have HMM := Lib.hid hm; clear hm h7
  by_cases h4 : 400 < m
  · have hi : (400 : Int) < (m : Int) := by omega
    have HF : Hid (fits (progAt 0 [] xs) = ([], 5)) := by unfold Hid fits; rw [← HMM.out, if_pos h4, if_pos h4]
    go_enter Try.func145, Try.ntmps145
    go_wp2_with fail
    refine (implValidLoop_is b off n c xs true HV.out _ HA.out hn hc).mono ?_
    rintro e w1 ⟨rfl, hb1⟩
    go_wp2_with fail
    refine (programOfLoop_any n _ c 7 0 xs _ (HA.out.below hb1) h1 hc (by omega) (by omega) H7.out).mono ?_
    rintro e w2 ⟨v2, rfl, hown2, hb2⟩
    rw [← HMM.out] at hown2
    obtain ⟨A2, c2, rfl⟩ := own_form hown2
    go_wp2
    go_ret2
    rw [HM.out, HF.out]
    exact ⟨_, rfl, World.ownsRow_nil _ _ _ _, below_step hb1 hb2⟩
  · have hi : ¬ (400 : Int) < (m : Int) := by omega
    have HF : Hid (fits (progAt 0 [] xs) = (progAt 0 [] xs, 0)) := by unfold Hid fits; rw [← HMM.out, if_neg h4, if_neg h4]
    go_enter Try.func145, Try.ntmps145
    go_wp2_with fail
    refine (implValidLoop_is b off n c xs true HV.out _ HA.out hn hc).mono ?_
    rintro e w1 ⟨rfl, hb1⟩
    go_wp2_with fail
    refine (programOfLoop_any n _ c 7 0 xs _ (HA.out.below hb1) h1 hc (by omega) (by omega) H7.out).mono ?_
    rintro e w2 ⟨v2, rfl, hown2, hb2⟩
    rw [← HMM.out] at hown2
    obtain ⟨A2, c2, rfl⟩ := own_form hown2
    go_wp2
    go_ret2
    rw [HM.out, HF.out]
    exact ⟨_, rfl, by show World.ownsRow _ _ _ _ _ (progAt 0 [] xs).length _; rw [← HMM.out]; exact own_base hown2 hb1.size, below_step hb1 hb2⟩
theorem implProgramOfLoop_any (b off n c : Nat) (xs : List R3) (w : World) (hs : Sl w b off (rows R3.vs xs)) (hl : xs.length = n) (hn : n ≤ 1048576) (hc : n ≤ c) (hf : ∀ x ∈ xs, x.wf) :
    Calls Try.prog 145 #[.slice (some ⟨b, off, none⟩) n c] w fun e w' => ∃ v, e = .returned (.tuple #[v, .int .i64 (programOfLoop xs).2]) ∧
      w'.ownsRow w.heap.size 185 4 v (programOfLoop xs).1.length (rows R4.vs (programOfLoop xs).1) ∧ Below w.heap.size w w' :=
  implProgramOfLoop_w b off n c xs w hs hl hn hc
end Go.Proofs.Yteocnkiagifmfaa

/- ProgramOfFunc: the loop program's register program. -/
namespace Go.Proofs.Yteocnkiagifmfaa
open Go.RowKit
set_option linter.all false

def progOfFunc (f : List R3) : List R4 × Int := if validF f = true ∧ validL (lpOf f) = true then programOfLoop (lpOf f) else ([], (loopF f).2)
theorem bndProgramOfFunc0 (f : List R3) (h : f.length ≤ 1048576) : (progOfFunc f).1.length ≤ 1048576 := by
  unfold progOfFunc
  by_cases hv : validF f = true ∧ validL (lpOf f) = true
  · rw [if_pos hv]
    have := (lpOf_len hv.1).1
    exact bndProgramOfLoop0 _ (by omega)
  · rw [if_neg hv]; simp
theorem progOfFunc_no {f : List R3} (h : ¬ (validF f = true ∧ validL (lpOf f) = true)) : ∃ cd : Int, loopF f = ([], cd) ∧ progOfFunc f = ([], cd) ∧ cd ≠ 0 := by
  have h2 : progOfFunc f = ([], (loopF f).2) := by unfold progOfFunc; rw [if_neg h]
  by_cases hv : validF f = true
  · have hk : validL (lpOf f) = false := by cases k : validL (lpOf f) with | false => rfl | true => exact absurd ⟨hv, k⟩ h
    exact ⟨5, loopF_5 hv hk, by rw [h2, loopF_5 hv hk], by decide⟩
  · have hk : validF f = false := by simpa using hv
    exact ⟨1, loopF_1 hk, by rw [h2, loopF_1 hk], by decide⟩

set_option maxRecDepth 100000 in
set_option maxHeartbeats 1000000 in
theorem specProgramOfFunc_any (b off n c : Nat) (xs : List R3) (w : World) (hs : Sl w b off (rows R3.vs xs)) (hl : xs.length = n) (hn : n ≤ 1048576) (hc : n ≤ c) (hf : ∀ x ∈ xs, x.wf) :
    Calls Try.prog 71 #[.slice (some ⟨b, off, none⟩) n c] w fun e w' => ∃ v, e = .returned (.tuple #[v, .int .i64 (progOfFunc xs).2]) ∧
      w'.ownsRow w.heap.size 185 4 v (progOfFunc xs).1.length (rows R4.vs (progOfFunc xs).1) ∧ Below w.heap.size w w' := by
  have HS := Lib.hid (specLoopOfFunc_any b off n c xs w hs hl hn hc hf)
  by_cases hv : validF xs = true ∧ validL (lpOf xs) = true
  · have hm := loopF_0 hv.1 hv.2
    have HM : Hid (progOfFunc xs = fits (progAt 0 [] (lpOf xs))) := by unfold Hid progOfFunc; rw [if_pos hv]; unfold programOfLoop; rw [hv.2]; rfl
    obtain ⟨h1, h7⟩ := validL_facts hv.2
    obtain ⟨_, hp⟩ := lpOf_len hv.1
    obtain ⟨L, hL⟩ : ∃ L, L = lpOf xs := ⟨_, rfl⟩
    rw [← hL] at hm HM h1 h7 hp
    rw [hm] at HS
    obtain ⟨a0, ha0⟩ : ∃ a0, a0 = L.length := ⟨_, rfl⟩
    have HA0 := Lib.hid ha0
    have HSG : Hid (seg L 0 a0 = L) := by unfold Hid; rw [ha0]; exact seg_all L
    have H7 : Hid (vl 7 (seg L 0 a0) = true) := by unfold Hid; rw [HSG.out]; exact h7
    obtain ⟨-, pf2, -⟩ := progAt_facts _ L 0 [] (Nat.le_refl _)
    rw [← ha0] at pf2 h1 hp
    simp only [List.length_nil, Nat.zero_add] at pf2
    obtain ⟨m, hm2⟩ : ∃ m, m = (progAt 0 [] L).length := ⟨_, rfl⟩
    rw [← hm2] at pf2
    have HMM := Lib.hid hm2
    clear hm2 h7 hm hL hv hl hf ha0
    go_enter Try.func71, Try.ntmps71
    go_wp2_with fail
    refine HS.out.mono ?_
    rintro e w1 ⟨v1, rfl, own1, b1⟩
    try simp only at own1
    rw [← HA0.out] at own1
    obtain ⟨A1, c1, rfl⟩ := own_form own1
    have hA1 : Args 3 w1 A1 a0 (rows R3.vs L) := args_of_own own1
    clear own1
    go_wp2_with fail
    refine (l17Program_any a0 _ a0 c1 0 a0 7 0 L _ hA1 h1 (Nat.zero_le _) (Nat.le_refl _) (by omega) (by omega) (by omega) H7.out).mono ?_
    rintro e w2 ⟨v2, rfl, hown2, hb2⟩
    rw [HSG.out, ← HMM.out] at hown2
    obtain ⟨A2, c2, rfl⟩ := own_form hown2
    have hB2 := below_step b1 hb2
    go_wp2_with fail
    refine (l07Fits_any w.heap.size m c2 A2 (progAt 0 [] L) _ (own_base hown2 b1.size) HMM.out.symm (by omega)).mono ?_
    rintro e w3 ⟨⟨v3, rfl, hown3⟩, rfl⟩
    go_wp2
    go_ret2
    rw [HM.out]
    exact ⟨_, rfl, hown3, hB2⟩
  · obtain ⟨cd, h1, h2, h3⟩ := progOfFunc_no hv
    rw [h1] at HS
    have HM := Lib.hid h2
    have hcd : (cd != 0) = true := by simpa using h3
    clear h1 h2 hv hl hf
    go_enter Try.func71, Try.ntmps71
    go_wp2_with fail
    refine HS.out.mono ?_
    rintro e w1 ⟨v1, rfl, own1, b1⟩
    obtain ⟨A1, c1, rfl⟩ := own_form own1
    go_wp2
    go_ret2
    rw [HM.out]
    exact ⟨_, rfl, World.ownsRow_nil _ _ _ _, b1⟩

set_option maxRecDepth 100000 in
set_option maxHeartbeats 1000000 in
theorem implProgramOfFunc_any (b off n c : Nat) (xs : List R3) (w : World) (hs : Sl w b off (rows R3.vs xs)) (hl : xs.length = n) (hn : n ≤ 1048576) (hc : n ≤ c) (hf : ∀ x ∈ xs, x.wf) :
    Calls Try.prog 73 #[.slice (some ⟨b, off, none⟩) n c] w fun e w' => ∃ v, e = .returned (.tuple #[v, .int .i64 (progOfFunc xs).2]) ∧
      w'.ownsRow w.heap.size 185 4 v (progOfFunc xs).1.length (rows R4.vs (progOfFunc xs).1) ∧ Below w.heap.size w w' := by
  have HS := Lib.hid (implLoopOfFunc_any b off n c xs w hs hl hn hc hf)
  by_cases hv : validF xs = true ∧ validL (lpOf xs) = true
  · have hm := loopF_0 hv.1 hv.2
    have HM : Hid (progOfFunc xs = programOfLoop (lpOf xs)) := by unfold Hid progOfFunc; rw [if_pos hv]
    obtain ⟨_, hp⟩ := lpOf_len hv.1
    obtain ⟨h1, h7⟩ := validL_facts hv.2
    obtain ⟨L, hL⟩ : ∃ L, L = lpOf xs := ⟨_, rfl⟩
    rw [← hL] at hm HM hp h1
    rw [hm] at HS
    obtain ⟨a0, ha0⟩ : ∃ a0, a0 = L.length := ⟨_, rfl⟩
    have HA0 := Lib.hid ha0
    rw [← ha0] at hp h1
    clear hm hL hv hl hf ha0 h7
    go_enter Try.func73, Try.ntmps73
    go_wp2_with fail
    refine HS.out.mono ?_
    rintro e w1 ⟨v1, rfl, own1, b1⟩
    try simp only at own1
    rw [← HA0.out] at own1
    obtain ⟨A1, c1, rfl⟩ := own_form own1
    have hc1 := own_capL own1 _ _ rfl
    obtain ⟨g1, rfl, _, _⟩ := own_addr0 own1 hp
    have HSL := Lib.hid (sl_of_own own1)
    clear own1
    go_wp2_with fail
    refine (implProgramOfLoop_w g1 0 a0 c1 L _ HSL.out HA0.out.symm (by omega) hc1).mono ?_
    rintro e w2 ⟨v2, rfl, own2, b2⟩
    obtain ⟨A2, c2, hx⟩ := own_form own2
    subst hx
    go_wp2
    go_ret2
    rw [HM.out]
    exact ⟨_, rfl, own_base own2 b1.size, below_step b1 b2⟩
  · obtain ⟨cd, h1, h2, h3⟩ := progOfFunc_no hv
    rw [h1] at HS
    have HM := Lib.hid h2
    have hcd : (cd != 0) = true := by simpa using h3
    clear h1 h2 hv hl hf
    go_enter Try.func73, Try.ntmps73
    go_wp2_with fail
    refine HS.out.mono ?_
    rintro e w1 ⟨v1, rfl, own1, b1⟩
    obtain ⟨A1, c1, rfl⟩ := own_form own1
    go_wp2
    go_ret2
    rw [HM.out]
    exact ⟨_, rfl, World.ownsRow_nil _ _ _ _, b1⟩
end Go.Proofs.Yteocnkiagifmfaa

/- The walk of the law FnExactProgramOfFunc: it returns true, whatever the arguments, and writes nothing that was there. -/
namespace Go.Proofs.Yteocnkiagifmfaa
open Go.RowKit

set_option maxRecDepth 100000 in
set_option maxHeartbeats 2000000 in
theorem walkProgramOfFunc (A0 : Option Addr) (n0 c0 : Nat) (x0 : List R3) (w : World) (h0 : Args 3 w A0 n0 (rows R3.vs x0)) (m0 : n0 ≤ maxLen) (f0 : ∀ x ∈ x0, x.wf) :
    Calls Try.prog 13 #[.slice A0 n0 c0] w fun e w' => e = .returned (.bool true) ∧ Below w.heap.size w w' := by
  unfold maxLen at m0
  have H0 : Hid (x0.length = n0) := by have := h0.1; rw [rows_len R3.vs_len] at this; unfold Hid; omega
  by_cases z0 : n0 ≤ 1048576
  rotate_left
  · go_enter Try.func13, Try.ntmps13
    go_wp2_with fail
    refine (szFuncS_not A0 n0 c0 1048576 _ (by omega) (by omega) (by omega)).mono ?_
    rintro e w' ⟨rfl, rfl⟩
    go_wp2_with fail
    go_ret
    exact ⟨rfl, Below.refl _ _⟩
  obtain ⟨r0, R0⟩ : ∃ r : Nat, Hid (r + n0 = 1048576) := ⟨1048576 - n0, by unfold Hid; omega⟩
  have q0 : r0 ≤ 1048576 := by have := R0.out; omega
  have s0 : n0 ≤ 1048576 := by omega
  have Z0 := Lib.hid z0; clear z0
  go_enter Try.func13, Try.ntmps13
  go_wp2_with fail
  refine (szFuncS_is A0 n0 c0 1048576 r0 _ R0.out (by omega)).mono ?_
  rintro e w' ⟨rfl, rfl⟩
  have B0 : Below w.heap.size w w := Below.refl _ _
  go_wp2_with fail
  refine (toFuncS_any A0 n0 c0 x0 _ (h0.below B0) s0).mono ?_
  rintro e w1 ⟨rfl, s0x_1, b1⟩
  have B1 := below_step B0 b1
  go_wp2_with fail
  refine (specProgramOfFunc_any _ _ n0 n0 x0 _ (sl_of_own s0x_1) H0.out s0 (Nat.le_refl _) f0).mono ?_
  rintro e w2 ⟨p0v, rfl, p0_2, b2⟩
  obtain ⟨p0A, p0c, rfl⟩ := own_form p0_2
  have B2 := below_step B1 b2
  have s0x_2 := own_below' s0x_1 b2
  go_wp2_with fail
  refine (toFuncS_any A0 n0 c0 x0 _ (h0.below B2) s0).mono ?_
  rintro e w3 ⟨rfl, u0x_3, b3⟩
  have B3 := below_step B2 b3
  have p0_3 := own_below' p0_2 b3
  have hl0 := bndProgramOfFunc0 x0 (by have := H0.out; omega)
  go_wp2_with fail
  refine (implProgramOfFunc_any _ _ n0 n0 x0 _ (sl_of_own u0x_3) H0.out s0 (Nat.le_refl _) f0).mono ?_
  rintro e w4 ⟨g0v, rfl, g0_4, b4⟩
  obtain ⟨g0A, g0c, rfl⟩ := own_form g0_4
  have B4 := below_step B3 b4
  have p0_4 := own_below' p0_3 b4
  have u0x_4 := own_below' u0x_3 b4
  go_wp2_with fail
  refine (eqInstrS_any _ _ _ _ _ _ _ _ _ (args_of_own g0_4) (args_of_own p0_4) (by omega) (by omega)).mono ?_
  rintro e w5 ⟨rfl, b5⟩
  have B5 := below_step B4 b5
  have p0_5 := own_below' p0_4 b5
  have u0x_5 := own_below' u0x_4 b5
  have g0_5 := own_below' g0_4 b5
  go_wp2_with fail
  refine (toFuncS_any A0 n0 c0 x0 _ (h0.below B5) s0).mono ?_
  rintro e w6 ⟨rfl, t0x_6, b6⟩
  have B6 := below_step B5 b6
  have p0_6 := own_below' p0_5 b6
  have u0x_6 := own_below' u0x_5 b6
  have g0_6 := own_below' g0_5 b6
  go_wp2_with fail
  refine (eqFuncS_any _ _ _ _ _ _ _ _ _ (args_of_own u0x_6) (args_of_own t0x_6) (by omega) (by omega)).mono ?_
  rintro e w7 ⟨rfl, b7⟩
  have B7 := below_step B6 b7
  have p0_7 := own_below' p0_6 b7
  have u0x_7 := own_below' u0x_6 b7
  have g0_7 := own_below' g0_6 b7
  have t0x_7 := own_below' t0x_6 b7
  go_wp2_with fail
  refine (markFuncS_any _ _ _ _ _ _ u0x_7 (by omega) (by omega) (by omega)).mono ?_
  rintro e w8 ⟨rfl, u0x_8, g8⟩
  have B8 := grown_below B7 u0x_7 (by have := B7.size; have := b1.size; have := b2.size; have := b3.size; have := b4.size; have := b5.size; have := b6.size; have := b7.size; omega) g8
  have p0_8 := World.ownsRow.kept p0_7 g8 (own_apart p0_2 u0x_3 (by have := b1.size; have := b2.size; have := b3.size; have := b4.size; have := b5.size; have := b6.size; have := b7.size; omega))
  have g0_8 := World.ownsRow.kept g0_7 g8 (own_apart' u0x_3 g0_4 (by have := b1.size; have := b2.size; have := b3.size; have := b4.size; have := b5.size; have := b6.size; have := b7.size; omega))
  clear g8
  go_wp2_with fail
  refine (eqInstrS_any _ _ _ _ _ _ _ _ _ (args_of_own g0_8) (args_of_own p0_8) (by omega) (by omega)).mono ?_
  rintro e w9 ⟨rfl, b9⟩
  have B9 := below_step B8 b9
  have p0_9 := own_below' p0_8 b9
  have g0_9 := own_below' g0_8 b9
  go_wp2_with fail
  refine (markInstrS_any _ _ _ _ _ _ g0_9 (by omega) (by omega) (by omega)).mono ?_
  rintro e w10 ⟨rfl, g0_10, g10⟩
  have B10 := grown_below B9 g0_9 (by have := B9.size; have := b1.size; have := b2.size; have := b3.size; have := b4.size; have := b5.size; have := b6.size; have := b7.size; omega) g10
  have p0_10 := World.ownsRow.kept p0_9 g10 (own_apart p0_2 g0_4 (by have := b1.size; have := b2.size; have := b3.size; have := b4.size; have := b5.size; have := b6.size; have := b7.size; omega))
  clear g10
  go_wp2_with fail
  refine (heldInstrS_any _ _ _ _ _ (args_of_own g0_10) (by omega) (by omega) (by omega)).mono ?_
  rintro e w11 ⟨rfl, rfl⟩
  go_wp2_with fail
  refine (toFuncS_any A0 n0 c0 x0 _ (h0.below B10) s0).mono ?_
  rintro e w11 ⟨rfl, y0x_11, b11⟩
  have B11 := below_step B10 b11
  have p0_11 := own_below' p0_10 b11
  have g0_11 := own_below' g0_10 b11
  go_wp2_with fail
  refine (implProgramOfFunc_any _ _ n0 n0 x0 _ (sl_of_own y0x_11) H0.out s0 (Nat.le_refl _) f0).mono ?_
  rintro e w12 ⟨h0v, rfl, h0_12, b12⟩
  obtain ⟨h0A, h0c, rfl⟩ := own_form h0_12
  have B12 := below_step B11 b12
  have p0_12 := own_below' p0_11 b12
  have g0_12 := own_below' g0_11 b12
  have y0x_12 := own_below' y0x_11 b12
  go_wp2_with fail
  refine (eqInstrS_any _ _ _ _ _ _ _ _ _ (args_of_own h0_12) (args_of_own p0_12) (by omega) (by omega)).mono ?_
  rintro e w13 ⟨rfl, b13⟩
  have B13 := below_step B12 b13
  have p0_13 := own_below' p0_12 b13
  have g0_13 := own_below' g0_12 b13
  have h0_13 := own_below' h0_12 b13
  go_wp2_with fail
  refine (heldInstrS_any _ _ _ _ _ (args_of_own g0_13) (by omega) (by omega) (by omega)).mono ?_
  rintro e w14 ⟨rfl, rfl⟩
  go_wp2_with fail
  go_ret
  exact ⟨rfl, B13⟩
end Go.Proofs.Yteocnkiagifmfaa

/- How the laws' arguments are opened: a slice that came in reads as a list of its elements' cells. -/
namespace Go.Proofs.Yteocnkiagifmfaa
open Go.ChangeShapes Go.WideShapes Go.ChangeAt Go.RowKit Go.Deep
open Go.ChangeMaps (open_string shut_string)

theorem own : ownKnob Try.prog.godebug = none := by kernel_rfl
theorem laidOut : laidOutB Try.prog = true := by kernel_rfl

theorem list_of_fun {α : Type} (n : Nat) (p : Nat → α → Prop) (h : ∀ i, i < n → ∃ x, p i x) : ∃ xs : List α, xs.length = n ∧ ∀ i x, xs[i]? = some x → p i x := by
  induction n with
  | zero => exact ⟨[], rfl, by simp⟩
  | succ n ih =>
    obtain ⟨xs, hl, hp⟩ := ih (fun i hi => h i (by omega))
    obtain ⟨x, hx⟩ := h n (by omega)
    refine ⟨xs ++ [x], by simp [hl], fun i y hy => ?_⟩
    rw [List.getElem?_append] at hy
    split at hy
    · exact hp i y hy
    · rw [List.getElem?_singleton] at hy
      split at hy
      · injection hy with hy
        subst hy
        obtain rfl : i = n := by omega
        exact hx
      · cases hy

theorem add_none {b off j : Nat} : (⟨b, off, none⟩ : Addr).add j = ⟨b, off + j, none⟩ := by
  unfold Addr.add
  split
  · rename_i h; subst h; rfl
  · rfl

section
variable {H : Type} {enc : TypeId × Value → H} {P : Program} {w : World} {base : Nat} {spare : Nat → Bool} {held : Bool}

/-- A slice of one-cell elements that came in. 'helem' says how an element's cell reads. -/
theorem arg_of_trod {α : Type} (f : α → Value) (ok : α → Prop) {t e : TypeId} {A : Option Addr} {n c : Nat} {d : DataW H} {ps : List MemPlace} (ht : P.underlying t = some (.slice e)) (hC : P.cellsOf e = 1)
    (helem : ∀ fuel cs x, DataW.trod enc P w base spare held fuel e cs = some x → ∃ a, cs = [f a] ∧ ok a)
    (h : DataW.Trod enc P w base spare held t (.slice A n c) d ps) : ∃ xs : List α, Arg w A n (xs.map f) ∧ (∀ x ∈ xs, ok x) ∧ n ≤ maxLen := by
  obtain ⟨fuel, hf⟩ := h
  rcases open_slice ht hf with ⟨h0, _⟩ | ⟨a, len, cap, m, n', D, Pl, hcs, _, hl, hm, hmm, _, hi⟩
  · simp [Value.cells] at h0
    obtain ⟨rfl, rfl, rfl⟩ := h0
    exact ⟨[], Arg.of_nil _ _, by simp, by simp [maxLen]⟩
  · simp [Value.cells] at hcs
    obtain ⟨rfl, rfl, rfl⟩ := hcs
    have hnm : n ≤ m := by rw [hmm]; split <;> omega
    have hex : ∀ i, i < n → ∃ x : α, w.cell? (a.add i) = some (f x) ∧ ok x := by
      intro i hin
      obtain ⟨cs', hc, ht'⟩ := hi i (by omega)
      rw [hC] at hc
      obtain ⟨x, rfl, hok⟩ := helem _ _ _ ht'
      obtain ⟨_, _, hat⟩ := World.cells?_some hc
      refine ⟨x, ?_, hok⟩
      have := hat 0 (by omega)
      simpa [Addr.add] using this
    obtain ⟨xs, hlen, hp⟩ := list_of_fun n _ hex
    refine ⟨xs, ⟨by simp [hlen], ?_⟩, fun x hx => by obtain ⟨i, hi⟩ := List.getElem?_of_mem hx; exact (hp i x hi).2, by omega⟩
    rcases Nat.eq_zero_or_pos n with h0 | h0
    · exact .inl h0
    · obtain ⟨b, off, spot⟩ := a
      obtain ⟨x0, hx0, _⟩ := hex 0 h0
      have hspot : spot = none := by simpa [Addr.add] using World.cell?_spot hx0
      subst hspot
      refine .inr ⟨b, off, rfl, World.block_lt_of_cell? w _ (by simpa [Addr.add] using hx0), fun j u hu => ?_⟩
      rw [List.getElem?_map] at hu
      obtain ⟨x, hx, rfl⟩ := Option.map_eq_some_iff.1 hu
      rw [← add_none]
      exact (hp j x hx).1

theorem arg_bools {t e : TypeId} {A : Option Addr} {n c : Nat} {d : DataW H} {ps : List MemPlace} (ht : P.underlying t = some (.slice e)) (hC : P.cellsOf e = 1) (he : P.underlying e = some .bool)
    (h : DataW.Trod enc P w base spare held t (.slice A n c) d ps) : ∃ xs : List Bool, Arg w A n (xs.map Value.bool) ∧ n ≤ maxLen := by
  obtain ⟨xs, h1, _, h3⟩ := arg_of_trod Value.bool (fun _ => True) ht hC (fun fuel cs x hx => by obtain ⟨b, hb, _⟩ := DataW.trod_bool he hx; exact ⟨b, hb, trivial⟩) h
  exact ⟨xs, h1, h3⟩

theorem arg_ints {k : IntKind} {t e : TypeId} {A : Option Addr} {n c : Nat} {d : DataW H} {ps : List MemPlace} (ht : P.underlying t = some (.slice e)) (hC : P.cellsOf e = 1) (he : P.underlying e = some (.int k))
    (h : DataW.Trod enc P w base spare held t (.slice A n c) d ps) : ∃ xs : List Int, Arg w A n (xs.map (Value.int k)) ∧ (∀ x ∈ xs, (Lit.int k x).wf = true) ∧ n ≤ maxLen :=
  arg_of_trod (Value.int k) (fun x => (Lit.int k x).wf = true) ht hC (fun fuel cs x hx => by obtain ⟨b, hb, _, hw⟩ := DataW.trod_int he hx; exact ⟨b, hb, hw⟩) h

theorem arg_strings {t e : TypeId} {A : Option Addr} {n c : Nat} {d : DataW H} {ps : List MemPlace} (ht : P.underlying t = some (.slice e)) (hC : P.cellsOf e = 1) (he : P.underlying e = some .string)
    (h : DataW.Trod enc P w base spare held t (.slice A n c) d ps) : ∃ xs : List ByteArray, Arg w A n (xs.map Value.string) ∧ (∀ x ∈ xs, x.size ≤ maxLen) ∧ n ≤ maxLen :=
  arg_of_trod Value.string (fun x => x.size ≤ maxLen) ht hC (fun fuel cs x hx => by obtain ⟨b, hb, _, hw⟩ := DataW.trod_string he hx; exact ⟨b, hb, hw⟩) h
end
end Go.Proofs.Yteocnkiagifmfaa

/- How the laws' arguments that are slices of records of numbers are opened. -/
namespace Go.Proofs.Yteocnkiagifmfaa
open Go.ChangeShapes Go.WideShapes Go.ChangeAt Go.RowKit Go.Deep
set_option linter.all false

section
variable {H : Type} {enc : TypeId × Value → H} {P : Program} {w : World} {base : Nat} {spare : Nat → Bool} {held : Bool}

theorem args_of_trod {α : Type} (f : α → List Value) (ok : α → Prop) {s : Nat} (hs : ∀ x, (f x).length = s) (hs0 : 0 < s) {t e : TypeId} {A : Option Addr} {n c : Nat} {d : DataW H} {ps : List MemPlace} (ht : P.underlying t = some (.slice e)) (hC : P.cellsOf e = s)
    (helem : ∀ fuel cs x, DataW.trod enc P w base spare held fuel e cs = some x → ∃ a, cs = f a ∧ ok a)
    (h : DataW.Trod enc P w base spare held t (.slice A n c) d ps) : ∃ xs : List α, Args s w A n (rows f xs) ∧ (∀ x ∈ xs, ok x) ∧ n ≤ maxLen := by
  obtain ⟨fuel, hf⟩ := h
  rcases open_slice ht hf with ⟨h0, _⟩ | ⟨a, len, cap, m, n', D, Pl, hcs, _, hl, hm, hmm, _, hi⟩
  · simp [Value.cells] at h0
    obtain ⟨rfl, rfl, rfl⟩ := h0
    exact ⟨[], Args.of_nil _ _ _, by simp, by simp [maxLen]⟩
  · simp [Value.cells] at hcs
    obtain ⟨rfl, rfl, rfl⟩ := hcs
    have hnm : n ≤ m := by rw [hmm]; split <;> omega
    have hex : ∀ i, i < n → ∃ x : α, (∀ j u, (f x)[j]? = some u → w.cell? (a.add (i * s + j)) = some u) ∧ ok x := by
      intro i hin
      obtain ⟨cs', hc, ht'⟩ := hi i (by omega)
      rw [hC] at hc
      obtain ⟨x, rfl, hok⟩ := helem _ _ _ ht'
      obtain ⟨_, _, hat⟩ := World.cells?_some hc
      refine ⟨x, fun j u hu => ?_, hok⟩
      have hj : j < s := by rw [← hs x]; exact (List.getElem?_eq_some_iff.1 hu).1
      have := hat j hj
      rw [← Go.Deep.add_add, this, hu]
    obtain ⟨xs, hlen, hp⟩ := list_of_fun n _ hex
    refine ⟨xs, ⟨by rw [rows_len hs, hlen], ?_⟩, fun x hx => by obtain ⟨i, hi⟩ := List.getElem?_of_mem hx; exact (hp i x hi).2, by omega⟩
    rcases Nat.eq_zero_or_pos n with h0 | h0
    · exact .inl h0
    · obtain ⟨b, off, spot⟩ := a
      obtain ⟨x0, hx0, _⟩ := hex 0 h0
      have hx0' := hx0 0 ((f x0)[0]'(by rw [hs]; exact hs0)) (List.getElem?_eq_getElem _)
      have hspot : spot = none := by simpa [Addr.add] using World.cell?_spot hx0'
      subst hspot
      refine .inr ⟨b, off, rfl, World.block_lt_of_cell? w _ (by simpa [Addr.add] using hx0'), fun j u hu => ?_⟩
      have hjl : j < n * s := by have := (List.getElem?_eq_some_iff.1 hu).1; rw [rows_len hs, hlen] at this; exact this
      have hq : j / s < n := Nat.div_lt_of_lt_mul (by rw [Nat.mul_comm]; exact hjl)
      have hm : j % s < s := Nat.mod_lt _ hs0
      have hjj : j = j / s * s + j % s := by rw [Nat.mul_comm]; exact (Nat.div_add_mod j s).symm
      have hx : xs[j / s]? = some (xs[j / s]'(by omega)) := List.getElem?_eq_getElem _
      rw [hjj, rows_at hs hx hm] at hu
      rw [hjj, ← add_none]
      exact (hp _ _ hx).1 _ _ hu

theorem one_of {n : Nat} {ty : TypeId} {v : Value} {y : DataW H × List MemPlace} (hu : P.underlying ty = some (.int .i64)) (h : DataW.trod enc P w base spare held n ty [v] = some y) : ∃ x : Int, v = .int .i64 x ∧ Wf64 x := by
  obtain ⟨b, hb, _, hw⟩ := DataW.trod_int hu h
  exact ⟨b, by simpa using hb, wf64_of hw⟩

theorem args_recs2 {t e : TypeId} {f0 f1 : Field} {A : Option Addr} {n c : Nat} {d : DataW H} {ps : List MemPlace} (ht : P.underlying t = some (.slice e)) (hC : P.cellsOf e = 2) (he : P.underlying e = some (.struct #[f0, f1])) (hone : oneCellFields P #[f0, f1] = true)
    (h0 : P.underlying f0.type = some (.int .i64)) (h1 : P.underlying f1.type = some (.int .i64)) (h : DataW.Trod enc P w base spare held t (.slice A n c) d ps) : ∃ xs : List R2, Args 2 w A n (rows R2.vs xs) ∧ (∀ x ∈ xs, x.wf) ∧ n ≤ maxLen := by
  refine args_of_trod R2.vs R2.wf R2.vs_len (by omega) ht hC (fun fuel cs x hx => ?_) h
  obtain ⟨xs, n', _, hx', hcl, hlen, hg⟩ := DataW.trod_struct he hx
  obtain ⟨o0, k0⟩ := hone_of hone 0 f0 rfl
  obtain ⟨o1, k1⟩ := hone_of hone 1 f1 rfl
  rw [hC] at hcl
  match cs, hcl with
  | [c0, c1], _ =>
    match xs, hlen with
    | [y0, y1], _ =>
      obtain ⟨a0, rfl, w0⟩ := one_of h0 (by simpa [o0, k0] using hg 0 f0 rfl)
      obtain ⟨a1, rfl, w1⟩ := one_of h1 (by simpa [o1, k1] using hg 1 f1 rfl)
      exact ⟨⟨a0, a1⟩, rfl, w0, w1⟩

theorem args_recs3 {t e : TypeId} {f0 f1 f2 : Field} {A : Option Addr} {n c : Nat} {d : DataW H} {ps : List MemPlace} (ht : P.underlying t = some (.slice e)) (hC : P.cellsOf e = 3) (he : P.underlying e = some (.struct #[f0, f1, f2])) (hone : oneCellFields P #[f0, f1, f2] = true)
    (h0 : P.underlying f0.type = some (.int .i64)) (h1 : P.underlying f1.type = some (.int .i64)) (h2 : P.underlying f2.type = some (.int .i64)) (h : DataW.Trod enc P w base spare held t (.slice A n c) d ps) : ∃ xs : List R3, Args 3 w A n (rows R3.vs xs) ∧ (∀ x ∈ xs, x.wf) ∧ n ≤ maxLen := by
  refine args_of_trod R3.vs R3.wf R3.vs_len (by omega) ht hC (fun fuel cs x hx => ?_) h
  obtain ⟨xs, n', _, hx', hcl, hlen, hg⟩ := DataW.trod_struct he hx
  obtain ⟨o0, k0⟩ := hone_of hone 0 f0 rfl
  obtain ⟨o1, k1⟩ := hone_of hone 1 f1 rfl
  obtain ⟨o2, k2⟩ := hone_of hone 2 f2 rfl
  rw [hC] at hcl
  match cs, hcl with
  | [c0, c1, c2], _ =>
    match xs, hlen with
    | [y0, y1, y2], _ =>
      obtain ⟨a0, rfl, w0⟩ := one_of h0 (by simpa [o0, k0] using hg 0 f0 rfl)
      obtain ⟨a1, rfl, w1⟩ := one_of h1 (by simpa [o1, k1] using hg 1 f1 rfl)
      obtain ⟨a2, rfl, w2⟩ := one_of h2 (by simpa [o2, k2] using hg 2 f2 rfl)
      exact ⟨⟨a0, a1, a2⟩, rfl, w0, w1, w2⟩

theorem args_recs4 {t e : TypeId} {f0 f1 f2 f3 : Field} {A : Option Addr} {n c : Nat} {d : DataW H} {ps : List MemPlace} (ht : P.underlying t = some (.slice e)) (hC : P.cellsOf e = 4) (he : P.underlying e = some (.struct #[f0, f1, f2, f3])) (hone : oneCellFields P #[f0, f1, f2, f3] = true)
    (h0 : P.underlying f0.type = some (.int .i64)) (h1 : P.underlying f1.type = some (.int .i64)) (h2 : P.underlying f2.type = some (.int .i64)) (h3 : P.underlying f3.type = some (.int .i64)) (h : DataW.Trod enc P w base spare held t (.slice A n c) d ps) : ∃ xs : List R4, Args 4 w A n (rows R4.vs xs) ∧ (∀ x ∈ xs, x.wf) ∧ n ≤ maxLen := by
  refine args_of_trod R4.vs R4.wf R4.vs_len (by omega) ht hC (fun fuel cs x hx => ?_) h
  obtain ⟨xs, n', _, hx', hcl, hlen, hg⟩ := DataW.trod_struct he hx
  obtain ⟨o0, k0⟩ := hone_of hone 0 f0 rfl
  obtain ⟨o1, k1⟩ := hone_of hone 1 f1 rfl
  obtain ⟨o2, k2⟩ := hone_of hone 2 f2 rfl
  obtain ⟨o3, k3⟩ := hone_of hone 3 f3 rfl
  rw [hC] at hcl
  match cs, hcl with
  | [c0, c1, c2, c3], _ =>
    match xs, hlen with
    | [y0, y1, y2, y3], _ =>
      obtain ⟨a0, rfl, w0⟩ := one_of h0 (by simpa [o0, k0] using hg 0 f0 rfl)
      obtain ⟨a1, rfl, w1⟩ := one_of h1 (by simpa [o1, k1] using hg 1 f1 rfl)
      obtain ⟨a2, rfl, w2⟩ := one_of h2 (by simpa [o2, k2] using hg 2 f2 rfl)
      obtain ⟨a3, rfl, w3⟩ := one_of h3 (by simpa [o3, k3] using hg 3 f3 rfl)
      exact ⟨⟨a0, a1, a2, a3⟩, rfl, w0, w1, w2, w3⟩
end
end Go.Proofs.Yteocnkiagifmfaa

/- The law FnExactProgramOfFunc returns true for every input, and each argument reads afterwards as before. No conditions. -/
namespace Go.Proofs.Yteocnkiagifmfaa.lawProgramOfFunc
open Go.ChangeShapes Go.WideShapes Go.ChangeAt Go.RowKit Go.Deep
open Go.ChangeMaps (open_string shut_string)

set_option maxRecDepth 100000 in
theorem lifted (os : Os) (started : os.Started) (H : Type) (enc : TypeId × Value → H) :
    ReturnsInHanded {} Try.checked os 13 .any (Rows.fnExactProgramOfFuncSpec.pre6 enc Try.prog Try.f13 Rows.fnExactProgramOfFuncRow.domain false) (Rows.fnExactProgramOfFuncSpec.post enc Try.prog Try.f13 false true false false) := by
  refine returnsInHanded_of_change (C := Try.checked) own started (by kernel_rfl) Try.func13
    (ChangeSpec.witness6 (enc := enc) (C := Try.checked) false ⟨#[], #[.slice none 0 0], []⟩ 8 (by kernel_rfl) (by kernel_rfl) (by kernel_rfl) (by kernel_rfl)) ?_
  intro W base args ds gs before hval0 hW hcnd _
  have hval : ∀ (j : Nat) t v, Try.f13.params[j]? = some t → args[j]? = some v → Value.okWide Try.prog W .any base t v := hval0
  have hW' := hW
  obtain ⟨p, q, hA0, hV, rfl, hfz, hnd⟩ := hW
  have hA : DataW.TrodAll enc Try.prog W 0 (fun _ => true) true Try.f13.params.toList args.toList ds p := hA0
  rw [Try.params13] at hA hval
  obtain ⟨v0, vs0, d0, ds0, p0, q0, hargs, rfl, rfl, h0, r0⟩ := trodAll_cons hA
  obtain ⟨rfl, rfl, rfl⟩ := trodAll_nil r0
  obtain rfl : args = #[v0] := by cases args; simp_all
  obtain ⟨rfl, rfl⟩ := trodVars_none hV
  obtain ⟨a0, len0, cap0, rfl⟩ := okWide_slice Try.underlying96 (hval 0 96 v0 rfl rfl)
  have k0 := h0
  have lt0 : ∀ x ∈ p0, x.block < W.heap.size := by obtain ⟨m, hm⟩ := k0; exact DataW.trod_lt m _ _ _ hm
  obtain ⟨z0, g0, f0, m0⟩ := args_recs3 Try.underlying96 (by kernel_rfl) Try.underlying181 (by kernel_rfl) Try.underlying2 Try.underlying2 Try.underlying2 h0
  clear hA0 hval0
  refine (walkProgramOfFunc a0 len0 cap0 z0 W g0 m0 f0).mono fun e W' ⟨he, bel⟩ => ?_
  subst he
  exact ⟨_, rfl, _, _, _, [], _, [], hW', trodAll_mk1 (shut_bool Try.underlying4 _), (trodAll_cons_mk (Below.trod laidOut (by kernel_rfl) (of_decide_eq_true (by kernel_rfl)) k0 bel lt0) trodAll_mk0), rfl, bel.frame _, fun h => by cases h⟩

theorem factA : Try.pinned.checked.prog.funcNamed Rows.fnExactProgramOfFuncRow.func = some 13 := by kernel_rfl
theorem factB0 : (Rows.fnExactProgramOfFuncRow.wf (OpenSpec.ofChange Rows.fnExactProgramOfFuncSpec)) = true := by kernel_rfl
theorem factB3 : (Try.f13.params.all (Try.pinned.checked.prog.readableRec ·)) = true := by kernel_rfl
theorem factB4 : (namedTie Try.pinned.checked.prog Rows.fnExactProgramOfFuncRow.named Rows.fnExactProgramOfFuncSpec.vars) = true := by kernel_rfl
theorem factB5 : (Rows.fnExactProgramOfFuncRow.stops == []) = true := by kernel_rfl
theorem factB7 : (Rows.fnExactProgramOfFuncRow.knobs == []) = true := by kernel_rfl
theorem factB9 : (Rows.fnExactProgramOfFuncRow.inPlace == Try.pinned.checked.prog.inPlace 13) = true := by kernel_rfl
theorem factB10 : (Rows.fnExactProgramOfFuncRow.unfollowed == Try.pinned.checked.prog.unfollowed 13) = true := by kernel_rfl
theorem factB11 : (Rows.fnExactProgramOfFuncRow.recurses == Try.pinned.checked.prog.recurses 13) = true := by kernel_rfl
theorem factB12 : (Rows.fnExactProgramOfFuncRow.named == Try.pinned.checked.prog.varsNamed 13) = true := by kernel_rfl
theorem factB13 : (Rows.fnExactProgramOfFuncRow.maps == (Try.f13.params.toList ++ Rows.fnExactProgramOfFuncSpec.plain.varTypes Try.pinned.checked.prog).any (Try.pinned.checked.prog.mapsRec ·)) = true := by kernel_rfl
theorem factB14 : (Rows.fnExactProgramOfFuncRow.ifaces == (Try.f13.params.toList ++ Rows.fnExactProgramOfFuncSpec.plain.varTypes Try.pinned.checked.prog).any (Try.pinned.checked.prog.ifacesRec ·)) = true := by kernel_rfl
theorem factB15 : (Rows.fnExactProgramOfFuncRow.mapsOut == Try.pinned.checked.prog.mapsAmong Try.f13.resultTypes.toList) = true := by kernel_rfl
theorem factB16 : (Rows.fnExactProgramOfFuncRow.loops == (Try.f13.params.toList ++ Rows.fnExactProgramOfFuncSpec.plain.varTypes Try.pinned.checked.prog).any (Try.pinned.checked.prog.loopsFrom ·)) = true := by kernel_rfl
theorem factB17 : (Rows.fnExactProgramOfFuncRow.wideKeys == (Try.f13.params.toList ++ Rows.fnExactProgramOfFuncSpec.plain.varTypes Try.pinned.checked.prog ++ Try.f13.resultTypes.toList).any (Try.pinned.checked.prog.wideKeysFrom ·)) = true := by kernel_rfl
theorem factB18 : (Rows.fnExactProgramOfFuncSpec.vars.all (Try.pinned.checked.prog.varReadable ·)) = true := by kernel_rfl
theorem factB19 : (Try.f13.resultTypes.all (fun t => Try.pinned.checked.prog.readableRec t && decide (t < Try.pinned.checked.prog.types.size))) = true := by kernel_rfl
theorem factB20 : (Rows.fnExactProgramOfFuncRow.ifacesOut == Try.f13.resultTypes.toList.any (Try.pinned.checked.prog.ifacesRec ·)) = true := by kernel_rfl
theorem factB21 : (Rows.fnExactProgramOfFuncRow.loopsOut == Try.f13.resultTypes.toList.any (Try.pinned.checked.prog.loopsFrom ·)) = true := by kernel_rfl
theorem factB23 : (Rows.fnExactProgramOfFuncRow.shortTexts.isNone) = true := by kernel_rfl
theorem factB28 : (Rows.fnExactProgramOfFuncRow.kinds == (if Rows.fnExactProgramOfFuncRow.domain.isEmpty then [] else Try.f13.params.toList.map fun t => match Try.pinned.checked.prog.underlying t with | some (.int k) => some k | _ => none)) = true := by kernel_rfl
theorem factB29 : (Rows.fnExactProgramOfFuncRow.pinned == Rows.fnExactProgramOfFuncRow.pinnedBy) = true := by kernel_rfl
theorem factB30 : (Rows.fnExactProgramOfFuncRow.veiled == (Try.f13.params.toList ++ Rows.fnExactProgramOfFuncSpec.plain.varTypes Try.pinned.checked.prog ++ Try.f13.resultTypes.toList).any (Try.pinned.checked.prog.veiledRec ·)) = true := by kernel_rfl
theorem factB31 : (Rows.fnExactProgramOfFuncRow.veiledFits Try.pinned.checked.prog Try.f13.params.toList (Try.f13.params.toList ++ Rows.fnExactProgramOfFuncSpec.plain.varTypes Try.pinned.checked.prog ++ Try.f13.resultTypes.toList)) = true := by kernel_rfl
set_option maxRecDepth 100000 in
theorem factB : joinedFacts Try.pinned.checked.prog 13 Try.f13 Rows.fnExactProgramOfFuncSpec Rows.fnExactProgramOfFuncRow = true := by
  unfold joinedFacts
  exact (pf.band (pf.band (pf.band (pf.band (pf.band (pf.band (pf.band (pf.band (pf.band (pf.band (pf.band (pf.band (pf.band (pf.band (pf.band (pf.band (pf.band (pf.band (pf.band (pf.band (pf.band (pf.band (pf.band (pf.band (pf.band (pf.band (pf.band (pf.band (pf.band (pf.band (pf.band factB0 pf.laid) pf.mapsRow) factB3) factB4) factB5) pf.stops) factB7) pf.stopKnobs) factB9) factB10) factB11) factB12) factB13) factB14) factB15) factB16) factB17) factB18) factB19) factB20) factB21) (by show (Rows.fnExactProgramOfFuncRow.plainKeys == Try.pinned.checked.prog.plainKeys) = true; rw [pf.plainKeys]; kernel_rfl)) factB23) pf.heard) pf.enter) (by show (Rows.fnExactProgramOfFuncRow.lifted == Try.pinned.checked.prog.liftsFinal) = true; rw [pf.lifts]; kernel_rfl)) (by show (Try.pinned.checked.prog.make == some Rows.fnExactProgramOfFuncRow.make) = true; rw [pf.make]; kernel_rfl)) factB28) factB29) factB30) factB31)
theorem factC : decide (Func.isInstance Try.pinned.checked.prog Try.f13 Rows.fnExactProgramOfFuncRow.origin Rows.fnExactProgramOfFuncRow.targs) = true := by kernel_rfl
theorem factD : Func.isWrapper Try.pinned.checked.prog Try.f13 Rows.fnExactProgramOfFuncRow.wrapper Rows.fnExactProgramOfFuncRow.mainSum := by
  unfold Func.isWrapper; first | (rw [if_pos (by decide +kernel)]; kernel_rfl) | (rw [if_neg (by decide +kernel)]; exact ⟨rfl, rfl⟩)

theorem over : Rows.fnExactProgramOfFuncRow.holds Try.pinned (OpenSpec.ofChange Rows.fnExactProgramOfFuncSpec) :=
  OpenClaim.holds_of_wide 13 Try.f13 rfl rfl rfl rfl rfl rfl rfl ⟨rfl, rfl, rfl, rfl, rfl⟩ rfl rfl rfl rfl rfl factA Try.func13 factB (of_decide_eq_true factC) factD
    (fun os started H enc _ => lifted os started H enc)

/-- The statement. -/
theorem proved : Rows.FnExactProgramOfFuncSaid := over
#print axioms proved
end Go.Proofs.Yteocnkiagifmfaa.lawProgramOfFunc
