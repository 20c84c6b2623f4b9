/- BranchWhile where it does not refuse: the program's own way. -/
import Derived.Test.YtfmfpknigafnoaaBranchSpec
import Derived.Test.YtfmfpknigafnoaaOps
namespace Go.Proofs.Ytfmfpknigafnoaa
open Go.RowKit
set_option linter.all false

def fcst (v : Value) : Fact := ⟨fun x _ => x = v, fun _ _ _ h _ => h⟩
def fsl (n : Nat) (xs : List Value) : Fact := ⟨fun x w => ∃ g, x = .slice (some ⟨g, 0, none⟩) n n ∧ Sl w g 0 xs, fun _ _ _ ⟨g, h, k⟩ hb => ⟨g, h, k.below' hb⟩⟩
def farg (s n : Nat) (xs : List Value) : Fact := ⟨fun x w => ∃ A c, x = .slice A n c ∧ Args s w A n xs, fun _ _ _ ⟨A, c, h, k⟩ hb => ⟨A, c, h, k.below hb⟩⟩
def fcmd (d : DCommand) : Fact := ⟨fun x w => ∃ V, x = .agg #[.int .i64 d.f0, .int .i64 d.f1, .int .i64 d.f2, V] ∧ RdCommand w ⟨d, V⟩, fun _ _ _ ⟨V, h, k⟩ hb => ⟨V, h, k.below hb⟩⟩
def fcms (n : Nat) (ds : List DCommand) : Fact := ⟨fun x w => ∃ g es, x = .slice (some ⟨g, 0, none⟩) n n ∧ Sl w g 0 (rows ECommand.vs es) ∧ es.map (·.d) = ds ∧ RdsCommand w es, fun _ _ _ ⟨g, es, h, k, m, r⟩ hb => ⟨g, es, h, k.below' hb, m, r.below hb⟩⟩
def fprg (n : Nat) (ds : List DCommand) : Fact := ⟨fun x w => ∃ A c es, x = .slice A n c ∧ Args 4 w A n (rows ECommand.vs es) ∧ es.map (·.d) = ds ∧ RdsCommand w es, fun _ _ _ ⟨A, c, es, h, k, m, r⟩ hb => ⟨A, c, es, h, k.below hb, m, r.below hb⟩⟩
def fthr (p q r : Fact) : Fact := ⟨fun x w => ∃ g a b c, x = .slice (some ⟨g, 0, none⟩) 3 3 ∧ Sl w g 0 [a, b, c] ∧ p.p a w ∧ q.p b w ∧ r.p c w, fun _ _ _ ⟨g, a, b, c, h, k, h1, h2, h3⟩ hb => ⟨g, a, b, c, h, k.below' hb, p.mono _ _ _ h1 hb, q.mono _ _ _ h2 hb, r.mono _ _ _ h3 hb⟩⟩
def fgrd (B : Nat) (ds : List DCommand) : Fact := ⟨fun x w => ∃ es hi, hi ≤ w.heap.size ∧ SGrid kndCommand B hi 87 85 2 x es w ∧ es.map (·.d) = ds, fun _ _ _ ⟨es, hi, h1, h2, h3⟩ hb => ⟨es, hi, Nat.le_trans h1 hb.size, h2.below hb, h3⟩⟩
def ftup (B : Nat) (ds : List DCommand) (k : Int) : Fact := ⟨fun x w => ∃ v, x = .tuple #[v, .int .i64 k] ∧ (fgrd B ds).p v w, fun _ _ _ ⟨v, h1, h2⟩ hb => ⟨v, h1, (fgrd B ds).mono _ _ _ h2 hb⟩⟩

def nil1 : List R2 := [⟨0, 0⟩]
def cons3 : List R2 := [⟨2, 0⟩, ⟨0, 0⟩, ⟨0, 0⟩]
/-- What the operations leave. -/
def brFacts (V0 V1 V2 Vf : Value) (f s : Int) (x0 : List R2) (x1 x2 : List DCommand) (n1 n2 B : Nat) : List Fact :=
  [fcst (.int .i64 f), fcst V0, fcmd (setD f x0), fcst (.int .i64 s), fcst (.agg #[.int .i64 2, .int .i64 0]), fcst (.agg #[.int .i64 0, .int .i64 0]), fcst (.agg #[.int .i64 0, .int .i64 0]), fsl 3 (rows R2.vs cons3), fcmd (setD s cons3), fcms 2 [setD f x0, setD s cons3],
   fcst Vf, fcst (.int .i64 f), farg 2 1 (rows R2.vs [⟨1, f⟩]), fcst (.int .i64 f), fcst (.agg #[.int .i64 0, .int .i64 0]), fsl 1 (rows R2.vs nil1), fcmd (setD f nil1), fcst (.int .i64 s), fcst (.agg #[.int .i64 0, .int .i64 0]), fsl 1 (rows R2.vs nil1), fcmd (setD s nil1),
   fcms 2 [setD f nil1, setD s nil1], fcst V1, fprg (2 + n1) (setD f nil1 :: setD s nil1 :: x1), fprg (1 + (2 + n1)) (loopD f (setD f nil1 :: setD s nil1 :: x1)),
   fcst Vf, fcst (.int .i64 s), farg 2 1 (rows R2.vs [⟨1, s⟩]), fcst (.int .i64 s), fcst (.agg #[.int .i64 0, .int .i64 0]), fsl 1 (rows R2.vs nil1), fcmd (setD s nil1), fcms 1 [setD s nil1], fcst V2, fprg (1 + n2) (setD s nil1 :: x2), fprg (1 + (1 + n2)) (loopD s (setD s nil1 :: x2)),
   fthr (fcms 2 [setD f x0, setD s cons3]) (fprg (1 + (2 + n1)) (loopD f (setD f nil1 :: setD s nil1 :: x1))) (fprg (1 + (1 + n2)) (loopD s (setD s nil1 :: x2))), fprg (2 + (1 + (2 + n1)) + (1 + (1 + n2))) (brW x0 x1 x2 f s),
   ftup B (fitW (brW x0 x1 x2 f s)).1 (fitW (brW x0 x1 x2 f s)).2, fgrd B (fitW (brW x0 x1 x2 f s)).1, fcst (.int .i64 (fitW (brW x0 x1 x2 f s)).2), fgrd B (fitW (brW x0 x1 x2 f s)).1, fcst (.int .i64 (fitW (brW x0 x1 x2 f s)).2)]

theorem full_ds {es : List ECommand} {xs : List DCommand} (h : es.map (·.d) = xs) (hf : Full es) : ∀ d ∈ xs, 1 ≤ d.f3.length := by
  intro d hd; rw [← h] at hd; obtain ⟨e, he, rfl⟩ := List.mem_map.1 hd; exact hf e he
theorem full_brW {x0 : List R2} {x1 x2 : List DCommand} {f s : Int} (h0 : 1 ≤ x0.length) (h1 : ∀ d ∈ x1, 1 ≤ d.f3.length) (h2 : ∀ d ∈ x2, 1 ≤ d.f3.length) : ∀ d ∈ brW x0 x1 x2 f s, 1 ≤ d.f3.length := by
  intro d hd
  simp only [brW, loopD, setD, List.mem_append, List.mem_cons, List.not_mem_nil, or_false] at hd
  rcases hd with (rfl | rfl) | (rfl | rfl | rfl | hd) | (rfl | rfl | hd)
  · exact h0
  · simp
  · simp
  · simp
  · simp
  · exact h1 d hd
  · simp
  · simp
  · exact h2 d hd
theorem ev {a : Act} {t : Tmp} {v : Value} (h : a.eval (.tmp t) = v) : a.tmps[t]?.getD undef = v := by
  rw [Act.eval] at h; simpa using h

set_option maxRecDepth 100000 in
set_option maxHeartbeats 4000000 in
theorem implBranchYes_any (b0 o0 n0 c0 : Nat) (x0 : List R2) (b1 o1 n1 c1 : Nat) (e1 : List ECommand) (x1 : List DCommand) (b2 o2 n2 c2 : Nat) (e2 : List ECommand) (x2 : List DCommand) (f s : Int) (w : World) (s0 : Sl w b0 o0 (rows R2.vs x0)) (h0 : x0.length = n0) (m0 : n0 ≤ 1048576)
    (s1 : Sl w b1 o1 (rows ECommand.vs e1)) (r1 : RdsCommand w e1) (d1 : e1.map (·.d) = x1) (h1 : x1.length = n1) (m1 : n1 ≤ 1048576) (hc1 : n1 ≤ c1) (t1 : sumCommand x1 ≤ 1048576) (wf1 : ∀ x ∈ x1, x.wf)
    (s2 : Sl w b2 o2 (rows ECommand.vs e2)) (r2 : RdsCommand w e2) (d2 : e2.map (·.d) = x2) (h2 : x2.length = n2) (m2 : n2 ≤ 1048576) (hc2 : n2 ≤ c2) (t2 : sumCommand x2 ≤ 1048576) (wf2 : ∀ x ∈ x2, x.wf)
    (g0 : validE x0 = true) (g1 : validWhile x1 = true) (g2 : validWhile x2 = true) (q0 : inB f 0 5 = true) (q1 : inB s 0 5 = true) (q2 : f ≠ s) :
    Calls Try.prog 14 #[.slice (some ⟨b0, o0, none⟩) n0 c0, .slice (some ⟨b1, o1, none⟩) n1 c1, .slice (some ⟨b2, o2, none⟩) n2 c2, .int .i64 f, .int .i64 s] w fun z w' => ∃ v es, z = .returned (.tuple #[v, .int .i64 (fitW (brW x0 x1 x2 f s)).2]) ∧ SGrid kndCommand w.heap.size w'.heap.size 87 85 2 v es w' ∧ es.map (·.d) = (fitW (brW x0 x1 x2 f s)).1 ∧ Below w.heap.size w w' := by
  have hs1 := validWhile_sum g1
  have hs2 := validWhile_sum g2
  have hl1 := validWhile_len g1
  have hl2 := validWhile_len g2
  have F1 := full_of d1 g1
  have F2 := full_of d2 g2
  rw [h1] at hl1
  rw [h2] at hl2
  have a0 := Args.of_sl (s := 2) (n := n0) s0 (by rw [rows_len R2.vs_len, h0])
  have hp0 := validE_pos g0
  have V1 := Lib.hid (implValidWhile_any b1 o1 n1 c1 e1 x1)
  have V2 := Lib.hid (implValidWhile_any b2 o2 n2 c2 e2 x2)
  have VV1 := Lib.hid fun W (hb : Below w.heap.size w W) => V1.out W (s1.below' hb) (r1.below hb) d1 h1 m1 hc1 t1 wf1
  have VV2 := Lib.hid fun W (hb : Below w.heap.size w W) => V2.out W (s2.below' hb) (r2.below hb) d2 h2 m2 hc2 t2 wf2
  rw [g1] at VV1
  rw [g2] at VV2
  have H0 := Lib.hid h0; have H1 := Lib.hid h1; have H2 := Lib.hid h2; have D1 := Lib.hid d1; have D2 := Lib.hid d2
  have G0 := Lib.hid g0
  have Q0 := Lib.hid q0; have Q1 := Lib.hid q1
  have e3 : (f == s) = false := by simpa using q2
  have HI := Lib.hid infoCommand
  have HI2 := Lib.hid infoExprW
  clear g0 g1 g2 q0 q1 q2 h0 h1 h2 d1 d2 V1 V2
  go_enter Try.func14, Try.ntmps14
  go_wp2_with fail
  refine (implValidExpr_is _ n0 c0 x0 true G0.out _ a0 m0).mono ?_
  rintro z w1 ⟨rfl, B1⟩
  go_wp2_with fail
  refine (VV1.out _ B1).mono ?_
  rintro z w2 ⟨rfl, k2⟩
  have B2 := below_step B1 k2
  go_wp2_with fail
  refine (VV2.out _ B2).mono ?_
  rintro z w3 ⟨rfl, k3⟩
  have B3 := below_step B2 k3
  clear k2 k3 B1 B2 VV1 VV2
  go_wp2_with fail
  refine (isWhileVariable_is f true Q0.out _).mono ?_
  rintro z w' ⟨rfl, rfl⟩
  go_wp2_with fail
  refine (isWhileVariable_is s true Q1.out _).mono ?_
  rintro z w' ⟨rfl, rfl⟩
  obtain ⟨w5, HW5, B35, y5⟩ := al1 w3 (.cells #[.int .i64 0, .int .i64 0] 85)
  have B5 := below_step B3 B35
  clear B35
  have n0' : w5.cell? ⟨w3.heap.size, 0, none⟩ = some (.int .i64 0) := by rw [cell_of_heap y5]; rfl
  have n1' : w5.cell? ⟨w3.heap.size, 1, none⟩ = some (.int .i64 0) := by rw [cell_of_heap y5]; rfl
  go_wp2_with fail
  rw [← HW5.out]

  have HB5 := Lib.hid B5
  have HFB : Hid (∀ d ∈ brW x0 x1 x2 f s, 1 ≤ d.f3.length) := full_brW hp0.1 (full_ds D1.out F1) (full_ds D2.out F2)
  refine region_facts (by kernel_rfl) (brFacts (.slice (some ⟨b0, o0, none⟩) n0 c0) (.slice (some ⟨b1, o1, none⟩) n1 c1) (.slice (some ⟨b2, o2, none⟩) n2 c2) (.func (.func 67) #[] #[]) f s x0 x1 x2 n1 n2 w5.heap.size) [41, 42, 43, 44, 45, 46, 47, 48, 49, 50, 51, 52, 53, 54, 55, 56, 57, 58, 59, 60, 61, 62, 63, 64, 65, 66, 67, 68, 69, 70, 71, 72, 73, 74, 75, 76, 77, 78, 79, 80, 81, 10, 11] (by kernel_rfl) ?_ ?_
  · refine ⟨?_, ?_, ?_, ?_, ?_, ?_, ?_, ?_, ?_, ?_, ?_, ?_, ?_, ?_, ?_, ?_, ?_, ?_, ?_, ?_, ?_, ?_, ?_, ?_, ?_, ?_, ?_, ?_, ?_, ?_, ?_, ?_, ?_, ?_, ?_, ?_, ?_, ?_, ?_, ?_, ?_, ?_, ?_, trivial⟩
    · intro a W hB hin haft K hK
      have h : a.eval (.tmp 3) = .int .i64 f := hin 3 (by decide)
      exact op_move _ rfl h (hK _ _ rfl (Below.refl _ _))
    · intro a W hB hin haft K hK
      have h : a.eval (.tmp 0) = .slice (some ⟨b0, o0, none⟩) n0 c0 := hin 0 (by decide)
      exact op_move _ rfl h (hK _ _ rfl (Below.refl _ _))
    · intro a W hB hin haft K hK
      have h41 : a.tmps[41]?.getD undef = .int .i64 f := ev (haft ⟨0, .data⟩ (by simp) rfl 41 rfl)
      have h42 : a.tmps[42]?.getD undef = .slice (some ⟨b0, o0, none⟩) n0 c0 := ev (haft ⟨1, .data⟩ (by simp) rfl 42 rfl)
      clear haft hin
      unfold Oper.wp
      go_simp
      refine (setTo_any f _ n0 c0 _).mono ?_
      rintro z w' ⟨rfl, hb⟩
      exact hK _ _ ⟨_, rfl, ⟨_, _, by simp only [setD]; rw [H0.out], by simp only [setD]; rw [H0.out]; exact a0.below (below_step (below_step B5 hB) hb)⟩, trivial⟩ hb
    · intro a W hB hin haft K hK
      have h : a.eval (.tmp 4) = .int .i64 s := hin 4 (by decide)
      exact op_move _ rfl h (hK _ _ rfl (Below.refl _ _))
    · intro a W hB hin haft K hK
      clear haft hin
      unfold Oper.wp
      go_simp
      exact hK _ _ rfl (Below.refl _ _)
    · intro a W hB hin haft K hK
      have h12 : a.tmps[12]?.getD undef = .pointer (some ⟨w3.heap.size, 0, none⟩) := ev (hin 12 (by decide))
      have k0 := cell_step (by exact n0') hB
      have k1 := cell_step (by exact n1') hB
      clear haft hin
      unfold Oper.wp
      go_simp
      exact hK _ _ rfl (Below.refl _ _)
    · intro a W hB hin haft K hK
      have h12 : a.tmps[12]?.getD undef = .pointer (some ⟨w3.heap.size, 0, none⟩) := ev (hin 12 (by decide))
      have k0 := cell_step (by exact n0') hB
      have k1 := cell_step (by exact n1') hB
      clear haft hin
      unfold Oper.wp
      go_simp
      exact hK _ _ rfl (Below.refl _ _)
    · intro a W hB hin haft K hK
      have h45 : a.tmps[45]?.getD undef = .agg #[.int .i64 2, .int .i64 0] := ev (haft ⟨4, .data⟩ (by simp) rfl 45 rfl)
      have h46 : a.tmps[46]?.getD undef = .agg #[.int .i64 0, .int .i64 0] := ev (haft ⟨5, .data⟩ (by simp) rfl 46 rfl)
      have h47 : a.tmps[47]?.getD undef = .agg #[.int .i64 0, .int .i64 0] := ev (haft ⟨6, .data⟩ (by simp) rfl 47 rfl)
      clear haft hin
      unfold Oper.wp
      go_simp
      exact hK _ _ ⟨_, rfl, sl_laid W _ _⟩ (laid_below _ _)
    · intro a W hB hin haft K hK
      have h44 : a.tmps[44]?.getD undef = .int .i64 s := ev (haft ⟨3, .data⟩ (by simp) rfl 44 rfl)
      obtain ⟨g, hg, hsl⟩ := haft ⟨7, .data⟩ (by simp) rfl 48 rfl
      have h48 := ev hg
      clear hg
      clear haft hin
      unfold Oper.wp
      go_simp
      refine (setTo_any s _ 3 3 _).mono ?_
      rintro z w' ⟨rfl, hb⟩
      exact hK _ _ ⟨_, rfl, ⟨_, _, rfl, Args.of_sl (hsl.below' hb) rfl⟩, trivial⟩ hb
    · intro a W hB hin haft K hK
      obtain ⟨V43, g43, r43⟩ := haft ⟨2, .data⟩ (by simp) rfl 43 rfl
      have h43 := ev g43
      clear g43
      obtain ⟨V49, g49, r49⟩ := haft ⟨8, .data⟩ (by simp) rfl 49 rfl
      have h49 := ev g49
      clear g49
      clear haft hin
      unfold Oper.wp
      go_simp
      refine hK _ _ ⟨_, [⟨_, V43⟩, ⟨_, V49⟩], rfl, sl_laid W _ _, rfl, fun e he => by
        rcases List.mem_cons.1 he with rfl | he
        · exact r43.below (laid_below _ _)
        rcases List.mem_cons.1 he with rfl | he
        · exact r49.below (laid_below _ _)
        cases he⟩ (laid_below _ _)
    · intro a W hB hin haft K hK
      have h : a.eval (.tmp 13) = .func (.func 67) #[] #[] := hin 13 (by decide)
      exact op_move _ rfl h (hK _ _ rfl (Below.refl _ _))
    · intro a W hB hin haft K hK
      have h : a.eval (.tmp 3) = .int .i64 f := hin 3 (by decide)
      exact op_move _ rfl h (hK _ _ rfl (Below.refl _ _))
    · intro a W hB hin haft K hK
      have h51 : a.tmps[51]?.getD undef = .func (.func 67) #[] #[] := ev (haft ⟨10, .data⟩ (by simp) rfl 51 rfl)
      have h52 : a.tmps[52]?.getD undef = .int .i64 f := ev (haft ⟨11, .data⟩ (by simp) rfl 52 rfl)
      clear haft hin
      unfold Oper.wp
      go_simp
      refine (variable_any f _).mono ?_
      rintro z w' ⟨⟨A, rfl, own⟩, hb⟩
      exact hK _ _ ⟨A, _, rfl, args_of_own own⟩ hb
    · intro a W hB hin haft K hK
      have h : a.eval (.tmp 3) = .int .i64 f := hin 3 (by decide)
      exact op_move _ rfl h (hK _ _ rfl (Below.refl _ _))
    · intro a W hB hin haft K hK
      have h12 : a.tmps[12]?.getD undef = .pointer (some ⟨w3.heap.size, 0, none⟩) := ev (hin 12 (by decide))
      have k0 := cell_step (by exact n0') hB
      have k1 := cell_step (by exact n1') hB
      clear haft hin
      unfold Oper.wp
      go_simp
      exact hK _ _ rfl (Below.refl _ _)
    · intro a W hB hin haft K hK
      have h55 : a.tmps[55]?.getD undef = .agg #[.int .i64 0, .int .i64 0] := ev (haft ⟨14, .data⟩ (by simp) rfl 55 rfl)
      clear haft hin
      unfold Oper.wp
      go_simp
      exact hK _ _ ⟨_, rfl, sl_laid W _ _⟩ (laid_below _ _)
    · intro a W hB hin haft K hK
      have h54 : a.tmps[54]?.getD undef = .int .i64 f := ev (haft ⟨13, .data⟩ (by simp) rfl 54 rfl)
      obtain ⟨g, hg, hsl⟩ := haft ⟨15, .data⟩ (by simp) rfl 56 rfl
      have h56 := ev hg
      clear hg
      clear haft hin
      unfold Oper.wp
      go_simp
      refine (setTo_any f _ 1 1 _).mono ?_
      rintro z w' ⟨rfl, hb⟩
      exact hK _ _ ⟨_, rfl, ⟨_, _, rfl, Args.of_sl (hsl.below' hb) rfl⟩, trivial⟩ hb
    · intro a W hB hin haft K hK
      have h : a.eval (.tmp 4) = .int .i64 s := hin 4 (by decide)
      exact op_move _ rfl h (hK _ _ rfl (Below.refl _ _))
    · intro a W hB hin haft K hK
      have h12 : a.tmps[12]?.getD undef = .pointer (some ⟨w3.heap.size, 0, none⟩) := ev (hin 12 (by decide))
      have k0 := cell_step (by exact n0') hB
      have k1 := cell_step (by exact n1') hB
      clear haft hin
      unfold Oper.wp
      go_simp
      exact hK _ _ rfl (Below.refl _ _)
    · intro a W hB hin haft K hK
      have h59 : a.tmps[59]?.getD undef = .agg #[.int .i64 0, .int .i64 0] := ev (haft ⟨18, .data⟩ (by simp) rfl 59 rfl)
      clear haft hin
      unfold Oper.wp
      go_simp
      exact hK _ _ ⟨_, rfl, sl_laid W _ _⟩ (laid_below _ _)
    · intro a W hB hin haft K hK
      have h58 : a.tmps[58]?.getD undef = .int .i64 s := ev (haft ⟨17, .data⟩ (by simp) rfl 58 rfl)
      obtain ⟨g, hg, hsl⟩ := haft ⟨19, .data⟩ (by simp) rfl 60 rfl
      have h60 := ev hg
      clear hg
      clear haft hin
      unfold Oper.wp
      go_simp
      refine (setTo_any s _ 1 1 _).mono ?_
      rintro z w' ⟨rfl, hb⟩
      exact hK _ _ ⟨_, rfl, ⟨_, _, rfl, Args.of_sl (hsl.below' hb) rfl⟩, trivial⟩ hb
    · intro a W hB hin haft K hK
      obtain ⟨V57, g57, r57⟩ := haft ⟨16, .data⟩ (by simp) rfl 57 rfl
      have h57 := ev g57
      clear g57
      obtain ⟨V61, g61, r61⟩ := haft ⟨20, .data⟩ (by simp) rfl 61 rfl
      have h61 := ev g61
      clear g61
      clear haft hin
      unfold Oper.wp
      go_simp
      refine hK _ _ ⟨_, [⟨_, V57⟩, ⟨_, V61⟩], rfl, sl_laid W _ _, rfl, fun e he => by
        rcases List.mem_cons.1 he with rfl | he
        · exact r57.below (laid_below _ _)
        rcases List.mem_cons.1 he with rfl | he
        · exact r61.below (laid_below _ _)
        cases he⟩ (laid_below _ _)
    · intro a W hB hin haft K hK
      have h : a.eval (.tmp 1) = .slice (some ⟨b1, o1, none⟩) n1 c1 := hin 1 (by decide)
      exact op_move _ rfl h (hK _ _ rfl (Below.refl _ _))
    · intro a W hB hin haft K hK
      obtain ⟨g, es, hg, hsl, hd, hr⟩ := haft ⟨21, .data⟩ (by simp) rfl 62 rfl
      have hx : a.eval (.tmp 63) = .slice (some ⟨b1, o1, none⟩) n1 c1 := haft ⟨22, .data⟩ (by simp) rfl 63 rfl
      have hyl : (rows ECommand.vs e1).length = n1 * 4 := by rw [rows_len (s := 4) (fun _ => rfl)]; have := congrArg List.length D1.out; rw [List.length_map, H1.out] at this; rw [this]
      have hes : es.length = 2 := by have := congrArg List.length hd; simpa using this
      refine op_append _ _ _ rfl Try.underlying26 HI.out rfl (by omega) hg hsl (by rw [rows_len (s := 4) (fun _ => rfl), hes]) hx (s1.below' (below_step B5 hB)) hyl (one_rows_Command r1) (by unfold maxLen; omega) (by omega) ?_
      intro A c' w' hA hb
      exact hK _ _ ⟨A, c', es ++ e1, rfl, by rw [rows_app]; exact hA, by rw [List.map_append, hd, D1.out]; rfl, fun e he => by
        rcases List.mem_append.1 he with he | he
        · exact (hr e he).below hb
        · exact (r1 e he).below (below_step (below_step B5 hB) hb)⟩ hb
    · intro a W hB hin haft K hK
      obtain ⟨A, c, hV, hA⟩ := haft ⟨12, .data⟩ (by simp) rfl 53 rfl
      have h53 := ev hV
      obtain ⟨A1, c1', es, hP, hA1, hd, hr⟩ := haft ⟨23, .data⟩ (by simp) rfl 64 rfl
      have h64 := ev hP
      obtain ⟨b', off', rfl, hsl⟩ := hA1.sl (k := 0) (by omega)
      clear hV hP
      clear haft hin
      unfold Oper.wp
      go_simp
      have hes : es.length = 2 + n1 := by have := hA1.1; rw [rows_len (s := 4) (fun _ => rfl)] at this; omega
      refine (enclosed_any _ 1 [⟨1, f⟩] ⟨A, c, rfl⟩ _ (2 + n1) c1' es _ (Src.of_sl hsl hA1.1) hr (by omega)).mono ?_
      rintro z w' ⟨v, rfl, own, hb⟩
      obtain ⟨A3, c3, rfl⟩ := own_form own
      exact hK _ _ ⟨A3, c3, _, rfl, args_of_own own, by have hl := congrArg List.length hd; rw [List.length_map, hes] at hl; rw [List.map_cons, hd, loopD, ← hl], fun e he => by
        rcases List.mem_cons.1 he with rfl | he
        · exact ⟨⟨A, c, rfl, hA.below hb⟩, trivial⟩
        · exact (hr e he).below hb⟩ hb
    · intro a W hB hin haft K hK
      have h : a.eval (.tmp 13) = .func (.func 67) #[] #[] := hin 13 (by decide)
      exact op_move _ rfl h (hK _ _ rfl (Below.refl _ _))
    · intro a W hB hin haft K hK
      have h : a.eval (.tmp 4) = .int .i64 s := hin 4 (by decide)
      exact op_move _ rfl h (hK _ _ rfl (Below.refl _ _))
    · intro a W hB hin haft K hK
      have h66 : a.tmps[66]?.getD undef = .func (.func 67) #[] #[] := ev (haft ⟨25, .data⟩ (by simp) rfl 66 rfl)
      have h67 : a.tmps[67]?.getD undef = .int .i64 s := ev (haft ⟨26, .data⟩ (by simp) rfl 67 rfl)
      clear haft hin
      unfold Oper.wp
      go_simp
      refine (variable_any s _).mono ?_
      rintro z w' ⟨⟨A, rfl, own⟩, hb⟩
      exact hK _ _ ⟨A, _, rfl, args_of_own own⟩ hb
    · intro a W hB hin haft K hK
      have h : a.eval (.tmp 4) = .int .i64 s := hin 4 (by decide)
      exact op_move _ rfl h (hK _ _ rfl (Below.refl _ _))
    · intro a W hB hin haft K hK
      have h12 : a.tmps[12]?.getD undef = .pointer (some ⟨w3.heap.size, 0, none⟩) := ev (hin 12 (by decide))
      have k0 := cell_step (by exact n0') hB
      have k1 := cell_step (by exact n1') hB
      clear haft hin
      unfold Oper.wp
      go_simp
      exact hK _ _ rfl (Below.refl _ _)
    · intro a W hB hin haft K hK
      have h70 : a.tmps[70]?.getD undef = .agg #[.int .i64 0, .int .i64 0] := ev (haft ⟨29, .data⟩ (by simp) rfl 70 rfl)
      clear haft hin
      unfold Oper.wp
      go_simp
      exact hK _ _ ⟨_, rfl, sl_laid W _ _⟩ (laid_below _ _)
    · intro a W hB hin haft K hK
      have h69 : a.tmps[69]?.getD undef = .int .i64 s := ev (haft ⟨28, .data⟩ (by simp) rfl 69 rfl)
      obtain ⟨g, hg, hsl⟩ := haft ⟨30, .data⟩ (by simp) rfl 71 rfl
      have h71 := ev hg
      clear hg
      clear haft hin
      unfold Oper.wp
      go_simp
      refine (setTo_any s _ 1 1 _).mono ?_
      rintro z w' ⟨rfl, hb⟩
      exact hK _ _ ⟨_, rfl, ⟨_, _, rfl, Args.of_sl (hsl.below' hb) rfl⟩, trivial⟩ hb
    · intro a W hB hin haft K hK
      obtain ⟨V72, g72, r72⟩ := haft ⟨31, .data⟩ (by simp) rfl 72 rfl
      have h72 := ev g72
      clear g72
      clear haft hin
      unfold Oper.wp
      go_simp
      refine hK _ _ ⟨_, [⟨_, V72⟩], rfl, sl_laid W _ _, rfl, fun e he => by
        rcases List.mem_cons.1 he with rfl | he
        · exact r72.below (laid_below _ _)
        cases he⟩ (laid_below _ _)
    · intro a W hB hin haft K hK
      have h : a.eval (.tmp 2) = .slice (some ⟨b2, o2, none⟩) n2 c2 := hin 2 (by decide)
      exact op_move _ rfl h (hK _ _ rfl (Below.refl _ _))
    · intro a W hB hin haft K hK
      obtain ⟨g, es, hg, hsl, hd, hr⟩ := haft ⟨32, .data⟩ (by simp) rfl 73 rfl
      have hx : a.eval (.tmp 74) = .slice (some ⟨b2, o2, none⟩) n2 c2 := haft ⟨33, .data⟩ (by simp) rfl 74 rfl
      have hyl : (rows ECommand.vs e2).length = n2 * 4 := by rw [rows_len (s := 4) (fun _ => rfl)]; have := congrArg List.length D2.out; rw [List.length_map, H2.out] at this; rw [this]
      have hes : es.length = 1 := by have := congrArg List.length hd; simpa using this
      refine op_append _ _ _ rfl Try.underlying26 HI.out rfl (by omega) hg hsl (by rw [rows_len (s := 4) (fun _ => rfl), hes]) hx (s2.below' (below_step B5 hB)) hyl (one_rows_Command r2) (by unfold maxLen; omega) (by omega) ?_
      intro A c' w' hA hb
      exact hK _ _ ⟨A, c', es ++ e2, rfl, by rw [rows_app]; exact hA, by rw [List.map_append, hd, D2.out]; rfl, fun e he => by
        rcases List.mem_append.1 he with he | he
        · exact (hr e he).below hb
        · exact (r2 e he).below (below_step (below_step B5 hB) hb)⟩ hb
    · intro a W hB hin haft K hK
      obtain ⟨A, c, hV, hA⟩ := haft ⟨27, .data⟩ (by simp) rfl 68 rfl
      have h68 := ev hV
      obtain ⟨A1, c1', es, hP, hA1, hd, hr⟩ := haft ⟨34, .data⟩ (by simp) rfl 75 rfl
      have h75 := ev hP
      obtain ⟨b', off', rfl, hsl⟩ := hA1.sl (k := 0) (by omega)
      clear hV hP
      clear haft hin
      unfold Oper.wp
      go_simp
      have hes : es.length = 1 + n2 := by have := hA1.1; rw [rows_len (s := 4) (fun _ => rfl)] at this; omega
      refine (enclosed_any _ 1 [⟨1, s⟩] ⟨A, c, rfl⟩ _ (1 + n2) c1' es _ (Src.of_sl hsl hA1.1) hr (by omega)).mono ?_
      rintro z w' ⟨v, rfl, own, hb⟩
      obtain ⟨A3, c3, rfl⟩ := own_form own
      exact hK _ _ ⟨A3, c3, _, rfl, args_of_own own, by have hl := congrArg List.length hd; rw [List.length_map, hes] at hl; rw [List.map_cons, hd, loopD, ← hl], fun e he => by
        rcases List.mem_cons.1 he with rfl | he
        · exact ⟨⟨A, c, rfl, hA.below hb⟩, trivial⟩
        · exact (hr e he).below hb⟩ hb
    · intro a W hB hin haft K hK
      have f50 := haft ⟨9, .data⟩ (by simp) rfl 50 rfl
      have f65 := haft ⟨24, .data⟩ (by simp) rfl 65 rfl
      have f76 := haft ⟨35, .data⟩ (by simp) rfl 76 rfl
      obtain ⟨g1, es1, e50, -⟩ := id f50
      obtain ⟨A2, c2', es2, e65, -⟩ := id f65
      obtain ⟨A3, c3', es3, e76, -⟩ := id f76
      have h50 := ev e50; have h65 := ev e65; have h76 := ev e76
      rw [e50] at f50; rw [e65] at f65; rw [e76] at f76
      clear e50 e65 e76
      clear haft hin
      unfold Oper.wp
      go_simp
      exact hK _ _ ⟨_, _, _, _, rfl, sl_laid W _ _, Fact.mono _ _ _ _ f50 (laid_below _ _), Fact.mono _ _ _ _ f65 (laid_below _ _), Fact.mono _ _ _ _ f76 (laid_below _ _)⟩ (laid_below _ _)
    · intro a W hB hin haft K hK
      obtain ⟨g, a1, a2, a3, hg, hsl, ⟨g1, es1, rfl, sl1, k1, r1'⟩, ⟨A2, c2', es2, rfl, hA2, k2, r2'⟩, ⟨A3, c3', es3, rfl, hA3, k3, r3'⟩⟩ := haft ⟨36, .data⟩ (by simp) rfl 77 rfl
      have h77 := ev hg
      clear hg
      have hes1 : es1.length = 2 := by have := congrArg List.length k1; simpa using this
      obtain ⟨bb2, of2, rfl, sl2⟩ := hA2.sl (k := 0) (by omega)
      obtain ⟨bb3, of3, rfl, sl3⟩ := hA3.sl (k := 0) (by omega)
      have HC := concatCommand_any g 0 3 [.slice (some ⟨g1, 0, none⟩) 2 2, .slice (some ⟨bb2, of2, none⟩) (1 + (2 + n1)) c2', .slice (some ⟨bb3, of3, none⟩) (1 + (1 + n2)) c3'] [2, 1 + (2 + n1), 1 + (1 + n2)] [rows ECommand.vs es1, rows ECommand.vs es2, rows ECommand.vs es3] W hsl
        ⟨rfl, rfl, fun j v n xs q1 q2 q3 => by
          match j, q1, q2, q3 with
          | 0, q1, q2, q3 =>
            simp at q1 q2 q3
            subst q1 q2 q3
            exact ⟨Src.of_sl sl1 (by rw [rows_len (s := 4) (fun _ => rfl), hes1]), one_rows_Command r1'⟩
          | 1, q1, q2, q3 =>
            simp at q1 q2 q3
            subst q1 q2 q3
            exact ⟨Src.of_sl sl2 hA2.1, one_rows_Command r2'⟩
          | 2, q1, q2, q3 =>
            simp at q1 q2 q3
            subst q1 q2 q3
            exact ⟨Src.of_sl sl3 hA3.1, one_rows_Command r3'⟩⟩ (by simp; omega) (by simp)
      have hsum : [2, 1 + (2 + n1), 1 + (1 + n2)].sum = 2 + (1 + (2 + n1)) + (1 + (1 + n2)) := by simp; omega
      have hfl : [rows ECommand.vs es1, rows ECommand.vs es2, rows ECommand.vs es3].flatten = rows ECommand.vs (es1 ++ (es2 ++ es3)) := by rw [rows_app, rows_app]; simp
      have hln : [2, 1 + (2 + n1), 1 + (1 + n2)].length = 3 := rfl
      rw [hsum, hfl, hln] at HC
      have HCC := Lib.hid HC
      clear HC hsum hfl hln
      clear haft hin
      unfold Oper.wp
      go_simp
      refine HCC.out.mono ?_
      rintro z w' ⟨v, rfl, own, hb, -⟩
      obtain ⟨A4, c4', rfl⟩ := own_form own
      exact hK _ _ ⟨A4, c4', _, rfl, args_of_own own, by rw [List.map_append, List.map_append, k1, k2, k3, brW]; rfl, fun e he => by
        rcases List.mem_append.1 he with he | he
        · exact (r1' e he).below hb
        rcases List.mem_append.1 he with he | he
        · exact (r2' e he).below hb
        · exact (r3' e he).below hb⟩ hb
    · intro a W hB hin haft K hK
      obtain ⟨A, c, es, hP, hA, hd, hr⟩ := haft ⟨37, .data⟩ (by simp) rfl 78 rfl
      have h78 := ev hP
      clear hP
      have hF : Full es := fun e he => HFB.out e.d (by rw [← hd]; exact List.mem_map_of_mem he)
      have hlb : (brW x0 x1 x2 f s).length = 2 + (1 + (2 + n1)) + (1 + (1 + n2)) := by
        have := H1.out; have := H2.out
        simp only [brW, loopD, List.length_append, List.length_cons, List.length_nil]
        omega
      have hss : sumCommand (brW x0 x1 x2 f s) ≤ 1048576 := by rw [sum_brW]; omega
      have HSW := Lib.hid (shortWhile_any A _ c es (brW x0 x1 x2 f s) W hA hr hF hd hlb (by omega) hss)
      clear hlb hss
      clear haft hin
      unfold Oper.wp
      go_simp
      refine HSW.out.mono ?_
      rintro z w' ⟨⟨v, es', rfl, hg, hd'⟩, hb⟩
      exact hK _ _ ⟨v, rfl, es', w'.heap.size, Nat.le_refl _, hg.widen hB.size (Nat.le_refl _), hd'⟩ hb
    · intro a W hB hin haft K hK
      obtain ⟨v, hv, hg⟩ := haft ⟨38, .data⟩ (by simp) rfl 79 rfl
      have h79 := ev hv
      clear hv
      clear haft hin
      unfold Oper.wp
      go_simp
      exact hK _ _ hg (Below.refl _ _)
    · intro a W hB hin haft K hK
      obtain ⟨v, hv, hg⟩ := haft ⟨38, .data⟩ (by simp) rfl 79 rfl
      have h79 := ev hv
      clear hv
      clear haft hin
      unfold Oper.wp
      go_simp
      exact hK _ _ rfl (Below.refl _ _)
    · intro a W hB hin haft K hK
      have hg := haft ⟨39, .data⟩ (by simp) rfl 80 rfl
      obtain ⟨v, hv⟩ : ∃ v, a.eval (.tmp 80) = v := ⟨_, rfl⟩
      rw [hv] at hg
      have h80 := ev hv
      clear hv
      clear haft hin
      unfold Oper.wp
      go_simp
      exact hK _ _ hg (Below.refl _ _)
    · intro a W hB hin haft K hK
      have h81 := ev (haft ⟨40, .data⟩ (by simp) rfl 81 rfl)
      clear haft hin
      unfold Oper.wp
      go_simp
      exact hK _ _ rfl (Below.refl _ _)
  · intro a W hB hdf hsz hin hf
    obtain ⟨es, hi, hhi, hgr, hd⟩ := hf 41 10 rfl
    have h11 := ev (hf 42 11 rfl)
    obtain ⟨v, hv⟩ : ∃ v, a.tmps[10]?.getD undef = v := ⟨_, rfl⟩
    have hgr2 : SGrid kndCommand w5.heap.size hi 87 85 2 v es W := by rw [← hv]; have := hgr; rw [Act.eval] at this; simpa using this
    clear hin hf hgr
    go_wp2
    refine bodyPost_ret (v := .tuple #[v, .int .i64 (fitW (brW x0 x1 x2 f s)).2]) (by simp [results, Try.results14, go_sem, hv, h11]) hdf ?_
    exact ⟨v, rfl, es, hgr2.widen HB5.out.size hhi, hd, below_step HB5.out hB⟩
end Go.Proofs.Ytfmfpknigafnoaa
