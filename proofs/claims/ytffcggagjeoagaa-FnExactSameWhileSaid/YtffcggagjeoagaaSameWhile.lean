/- Equality of while programs: slices.EqualFunc with sameCommand, and the reference's l22Same. -/
import Derived.Test.YtffcggagjeoagaaHelpCommand
import Derived.Test.YtffcggagjeoagaaExprEq
import Derived.Test.YtffcggagjeoagaaSeqExpr
namespace Go.Proofs.Ytffcggagjeoagaa
open Go.RowKit
set_option linter.all false

def sameWhile (a b : List DCommand) : Bool := decide (a = b)

set_option maxRecDepth 100000 in
theorem sameCommand_any (e g : ECommand) (w : World) (he : RdCommand w e) (hg : RdCommand w g) (hl : wlCommand e.d ≤ 4194304) (hm : wlCommand g.d ≤ 4194304) (v : Bool) (hv : decide (e.d = g.d) = v) :
    Calls Try.prog 79 #[.agg #[.int .i64 e.d.f0, .int .i64 e.d.f1, .int .i64 e.d.f2, e.u3], .agg #[.int .i64 g.d.f0, .int .i64 g.d.f1, .int .i64 g.d.f2, g.u3]] w fun z w' => z = .returned (.bool v) ∧ Below w.heap.size w w' := by
  subst hv
  obtain ⟨⟨f0, f1, f2, f3⟩, u3⟩ := e
  obtain ⟨⟨g0, g1, g2, g3⟩, v3⟩ := g
  obtain ⟨⟨A3, c3, hu3, ha3⟩, -⟩ := he
  obtain ⟨⟨B3, d3, hv3, hb3⟩, -⟩ := hg
  simp only [wlCommand] at hl hm hu3 ha3 hv3 hb3 ⊢
  subst hu3
  subst hv3
  obtain ⟨n3, hn3⟩ : ∃ n, n = f3.length := ⟨_, rfl⟩
  rw [← hn3] at ha3 hl ⊢
  obtain ⟨m3, hm3⟩ : ∃ n, n = g3.length := ⟨_, rfl⟩
  rw [← hm3] at hb3 hm ⊢
  clear hn3 hm3
  obtain ⟨w0, HW0, B0, x0, y0⟩ := al2 w (.cells #[.int .i64 f0, .int .i64 f1, .int .i64 f2, .slice A3 n3 c3] 93) (.cells #[.int .i64 g0, .int .i64 g1, .int .i64 g2, .slice B3 m3 d3] 93)
  have BL : Hid (Below w.heap.size w ((w.alloc (.cells #[.int .i64 f0, .int .i64 f1, .int .i64 f2, .slice A3 n3 c3] 93)).alloc (.cells #[.int .i64 g0, .int .i64 g1, .int .i64 g2, .slice B3 m3 d3] 93))) := by have := HW0.out; rw [← this]; exact B0
  clear x0 y0
  by_cases h0 : f0 = g0
  rotate_left
  · have NE := Lib.hid h0
    have e0 : (f0 == g0) = false := by simpa using h0
    clear h0
    go_enter Try.func79, Try.ntmps79
    go_wp2
    go_ret
    exact ⟨ret_bool (by simp [NE.out]), BL.out⟩
  subst h0
  by_cases h1 : f1 = g1
  rotate_left
  · have NE := Lib.hid h1
    have e1 : (f1 == g1) = false := by simpa using h1
    clear h1
    go_enter Try.func79, Try.ntmps79
    go_wp2
    go_ret
    exact ⟨ret_bool (by simp [NE.out]), BL.out⟩
  subst h1
  by_cases h2 : f2 = g2
  rotate_left
  · have NE := Lib.hid h2
    have e2 : (f2 == g2) = false := by simpa using h2
    clear h2
    go_enter Try.func79, Try.ntmps79
    go_wp2
    go_ret
    exact ⟨ret_bool (by simp [NE.out]), BL.out⟩
  subst h2
  obtain ⟨v, hv⟩ : ∃ v, decide (f3 = g3) = v := ⟨_, rfl⟩
  have HV := Lib.hid hv; clear hv
  go_enter Try.func79, Try.ntmps79
  go_wp2_with fail
  rw [← HW0.out]
  refine (equalExprs_is A3 B3 n3 c3 m3 d3 f3 g3 v HV.out _ (ha3.below B0) (hb3.below B0) (by omega) (by omega)).mono ?_
  rintro z w1 ⟨rfl, q, hq⟩
  have b1 := quiet_below hq
  clear hq
  have B1 := below_step B0 b1
  clear b1
  cases v
  all_goals
    go_wp2
    go_ret
    have h3 := HV.out
    exact ⟨ret_bool (by simpa using h3), B1⟩

/-- slices.EqualFunc at []Command, with whatever function value. -/
theorem dne {a b : List DCommand} {k : Nat} {x y : DCommand} (hx : a[k]? = some x) (hy : b[k]? = some y) (h : x ≠ y) : a ≠ b := by
  intro e; subst e; rw [hx] at hy; injection hy with hy; exact h hy

set_option maxRecDepth 100000 in
set_option maxHeartbeats 1000000 in
theorem equalFunc_Command (F : FuncId) (A B : Option Addr) (n m c d : Nat) (es gs : List ECommand) (w : World) (ha : Args 4 w A n (rows ECommand.vs es)) (hra : RdsCommand w es) (hb : Args 4 w B m (rows ECommand.vs gs)) (hrb : RdsCommand w gs) (hn : n ≤ 1048576) (hm : m ≤ 1048576) (hx : sumCommand (es.map (·.d)) ≤ 4194304) (hy : sumCommand (gs.map (·.d)) ≤ 4194304)
    (hE : ∀ (args : Array Value) (W : World), (callFunc F args).run Try.prog W = .ok (.enter F args) W)
    (hF : Hid (∀ e g W v, RdCommand W e → RdCommand W g → wlCommand e.d ≤ 4194304 → wlCommand g.d ≤ 4194304 → decide (e.d = g.d) = v → Calls Try.prog F #[.agg #[.int .i64 e.d.f0, .int .i64 e.d.f1, .int .i64 e.d.f2, e.u3], .agg #[.int .i64 g.d.f0, .int .i64 g.d.f1, .int .i64 g.d.f2, g.u3]] W fun z w' => z = .returned (.bool v) ∧ Below W.heap.size W w')) :
    Calls Try.prog 78 #[.slice A n c, .slice B m d, .func (.func F) #[] #[]] w fun z w' => z = .returned (.bool (decide (es.map (·.d) = gs.map (·.d)))) ∧ Below w.heap.size w w' := by
  have HA : Hid (es.length = n) := by have := ha.1; rw [rows_len (s := 4) (fun _ => rfl)] at this; unfold Hid; omega
  have HB : Hid (gs.length = m) := by have := hb.1; rw [rows_len (s := 4) (fun _ => rfl)] at this; unfold Hid; omega
  have HX1 := Lib.hid hx; have HY1 := Lib.hid hy; clear hx hy
  have HI := Lib.hid infoCommand
  by_cases hnm : n = m
  rotate_left
  · go_enter Try.func78, Try.ntmps78
    go_wp2
    go_ret
    refine ⟨ret_bool ?_, Below.refl _ _⟩
    have h2 := HA.out
    have h3 := HB.out
    symm
    rw [decide_eq_false_iff_not]
    intro e
    have := congrArg List.length e
    rw [List.length_map, List.length_map] at this
    omega
  subst hnm
  go_enter Try.func78, Try.ntmps78
  go_wp2
  go_loopw [17] (fun i wr => ∃ k : Nat, k ≤ n ∧ i = .int .i64 k ∧ Below w.heap.size w wr ∧ Hid ((es.map (·.d)).take k = (gs.map (·.d)).take k)) (fun i _ => n - (intOf i).toNat)
  case atStart => exact ⟨0, Nat.zero_le _, rfl, Below.refl _ _, rfl⟩
  case round =>
    obtain ⟨k, hk, rfl, hB, HR⟩ := hrel
    by_cases hlt : k < n
    rotate_left
    · go_wp2
      go_ret
      refine ⟨ret_bool ?_, hB⟩
      have h1 := HR.out
      have h2 := HA.out
      have h3 := HB.out
      obtain rfl : k = n := by omega
      rw [List.take_of_length_le (by rw [List.length_map]; omega), List.take_of_length_le (by rw [List.length_map]; omega)] at h1
      simp [h1]
    obtain ⟨b1, o1, rfl, hs1⟩ := ha.sl hlt
    obtain ⟨b2, o2, rfl, hs2⟩ := hb.sl hlt
    obtain ⟨e, HE⟩ := hget HA hlt
    obtain ⟨g, HG⟩ := hget HB hlt
    have HED : Hid ((es.map (·.d))[k]? = some e.d) := by unfold Hid; rw [List.getElem?_map, HE.out]; rfl
    have HGD : Hid ((gs.map (·.d))[k]? = some g.d) := by unfold Hid; rw [List.getElem?_map, HG.out]; rfl
    have hwl1 : wlCommand e.d ≤ 4194304 := Nat.le_trans (sumCommand_at HED.out) HX1.out
    have hwl2 : wlCommand g.d ≤ 4194304 := Nat.le_trans (sumCommand_at HGD.out) HY1.out
    have re := hra e (List.mem_of_getElem? HE.out)
    have rg := hrb g (List.mem_of_getElem? HG.out)
    have p0 : wr.cell? ⟨b1, o1 + k * 4, none⟩ = some (.int .i64 e.d.f0) := Sl.rec (f := ECommand.vs) (s := 4) (fun _ => rfl) (hs1.below' hB) HE.out (j := 0) rfl
    have p1 : wr.cell? ⟨b1, o1 + k * 4 + 1, none⟩ = some (.int .i64 e.d.f1) := Sl.rec (f := ECommand.vs) (s := 4) (fun _ => rfl) (hs1.below' hB) HE.out (j := 1) rfl
    have p2 : wr.cell? ⟨b1, o1 + k * 4 + 2, none⟩ = some (.int .i64 e.d.f2) := Sl.rec (f := ECommand.vs) (s := 4) (fun _ => rfl) (hs1.below' hB) HE.out (j := 2) rfl
    have p3 : wr.cell? ⟨b1, o1 + k * 4 + 3, none⟩ = some e.u3 := Sl.rec (f := ECommand.vs) (s := 4) (fun _ => rfl) (hs1.below' hB) HE.out (j := 3) rfl
    have q0 : wr.cell? ⟨b2, o2 + k * 4, none⟩ = some (.int .i64 g.d.f0) := Sl.rec (f := ECommand.vs) (s := 4) (fun _ => rfl) (hs2.below' hB) HG.out (j := 0) rfl
    have q1 : wr.cell? ⟨b2, o2 + k * 4 + 1, none⟩ = some (.int .i64 g.d.f1) := Sl.rec (f := ECommand.vs) (s := 4) (fun _ => rfl) (hs2.below' hB) HG.out (j := 1) rfl
    have q2 : wr.cell? ⟨b2, o2 + k * 4 + 2, none⟩ = some (.int .i64 g.d.f2) := Sl.rec (f := ECommand.vs) (s := 4) (fun _ => rfl) (hs2.below' hB) HG.out (j := 2) rfl
    have q3 : wr.cell? ⟨b2, o2 + k * 4 + 3, none⟩ = some g.u3 := Sl.rec (f := ECommand.vs) (s := 4) (fun _ => rfl) (hs2.below' hB) HG.out (j := 3) rfl
    have hb1 : b1 < wr.heap.size := Nat.lt_of_lt_of_le hs1.1 hB.size
    have hb2 : b2 < wr.heap.size := Nat.lt_of_lt_of_le hs2.1 hB.size
    obtain ⟨⟨A3, c3, e3, a3⟩, -⟩ := id re
    obtain ⟨⟨B3, d3, g3, b3⟩, -⟩ := id rg
    rw [e3] at p3
    rw [g3] at q3
    obtain ⟨w0, HW0, B0, -, -⟩ := al2 wr (.cells #[.int .i64 e.d.f0, .int .i64 e.d.f1, .int .i64 e.d.f2, .slice A3 e.d.f3.length c3] 93) (.cells #[.int .i64 g.d.f0, .int .i64 g.d.f1, .int .i64 g.d.f2, .slice B3 g.d.f3.length d3] 93)
    have HC : Hid (∀ v, decide (e.d = g.d) = v → Calls Try.prog F #[.agg #[.int .i64 e.d.f0, .int .i64 e.d.f1, .int .i64 e.d.f2, .slice A3 e.d.f3.length c3], .agg #[.int .i64 g.d.f0, .int .i64 g.d.f1, .int .i64 g.d.f2, .slice B3 g.d.f3.length d3]] w0 fun z w' => z = .returned (.bool v) ∧ Below w0.heap.size w0 w') := by
      intro v hv
      have := hF.out e g w0 v ((re.below hB).below B0) ((rg.below hB).below B0) hwl1 hwl2 hv
      rw [e3, g3] at this
      exact this
    clear a3 b3 hs1 hs2 e3 g3
    by_cases h : e.d = g.d
    · have E2 := Lib.hid h
      have E := Lib.hid (decide_eq_true h); clear h
      go_wp2_with fail
      rw [← HW0.out]
      refine (HC.out true E.out).mono ?_
      rintro z w1 ⟨rfl, hb3⟩
      have hB1 := below_step hB (below_step B0 hb3)
      clear hb3 p0 p1 p2 p3 q0 q1 q2 q3
      go_wp2
      go_roundw
      case rel => exact ⟨k + 1, by omega, by go_num, hB1, take_succ_eq HR.out HED.out HGD.out E2.out⟩
      case measure => simp [intOf]; omega
    · have E2 := Lib.hid h
      have E := Lib.hid (decide_eq_false h); clear h
      go_wp2_with fail
      rw [← HW0.out]
      refine (HC.out false E.out).mono ?_
      rintro z w1 ⟨rfl, hb3⟩
      have hB1 := below_step hB (below_step B0 hb3)
      clear hb3 p0 p1 p2 p3 q0 q1 q2 q3
      go_wp2
      go_ret
      exact ⟨ret_bool (by simp [dne HED.out HGD.out E2.out]), hB1⟩

set_option maxRecDepth 100000 in
set_option maxHeartbeats 1000000 in
theorem implSameWhile_any (b0 o0 n0 c0 : Nat) (e0 : List ECommand) (x0 : List DCommand) (b1 o1 n1 c1 : Nat) (e1 : List ECommand) (x1 : List DCommand) (w : World) (s0 : Sl w b0 o0 (rows ECommand.vs e0)) (r0 : RdsCommand w e0) (d0 : e0.map (·.d) = x0) (h0 : x0.length = n0) (m0 : n0 ≤ 1048576) (_ : n0 ≤ c0) (t0 : sumCommand x0 ≤ 1048576) (_ : ∀ x ∈ x0, x.wf)
    (s1 : Sl w b1 o1 (rows ECommand.vs e1)) (r1 : RdsCommand w e1) (d1 : e1.map (·.d) = x1) (h1 : x1.length = n1) (m1 : n1 ≤ 1048576) (_ : n1 ≤ c1) (t1 : sumCommand x1 ≤ 1048576) (_ : ∀ x ∈ x1, x.wf) :
    Calls Try.prog 38 #[.slice (some ⟨b0, o0, none⟩) n0 c0, .slice (some ⟨b1, o1, none⟩) n1 c1] w fun z w' => z = .returned (.bool (sameWhile x0 x1)) ∧ Below w.heap.size w w' := by
  have l0 : e0.length = n0 := by rw [← h0, ← d0, List.length_map]
  have l1 : e1.length = n1 := by rw [← h1, ← d1, List.length_map]
  have HD0 := Lib.hid d0; have HD1 := Lib.hid d1; clear d0 d1 h0 h1
  go_enter Try.func38, Try.ntmps38
  go_wp2_with fail
  refine (equalFunc_Command 79 _ _ n0 n1 c0 c1 e0 e1 _ (Args.of_sl s0 (by rw [rows_len (s := 4) (fun _ => rfl)]; omega)) r0 (Args.of_sl s1 (by rw [rows_len (s := 4) (fun _ => rfl)]; omega)) r1 m0 m1 (by rw [HD0.out]; omega) (by rw [HD1.out]; omega) (enters_of' Try.func79 (by kernel_rfl) rfl) (fun e g W v he hg hl hm hv => sameCommand_any e g W he hg hl hm v hv)).mono ?_
  rintro z w1 ⟨rfl, hb⟩
  go_wp2
  go_ret
  exact ⟨ret_bool (by unfold sameWhile; rw [HD0.out, HD1.out]), hb⟩

set_option maxRecDepth 100000 in
set_option maxHeartbeats 2000000 in
theorem l22Same_any (b0 o0 n0 c0 : Nat) (e0 : List ECommand) (x0 : List DCommand) (b1 o1 n1 c1 : Nat) (e1 : List ECommand) (x1 : List DCommand) (w : World) (s0 : Sl w b0 o0 (rows ECommand.vs e0)) (r0 : RdsCommand w e0) (d0 : e0.map (·.d) = x0) (h0 : x0.length = n0) (m0 : n0 ≤ 1048576) (t0 : sumCommand x0 ≤ 1048576)
    (s1 : Sl w b1 o1 (rows ECommand.vs e1)) (r1 : RdsCommand w e1) (d1 : e1.map (·.d) = x1) (h1 : x1.length = n1) (m1 : n1 ≤ 1048576) (t1 : sumCommand x1 ≤ 1048576) :
    Calls Try.prog 76 #[.slice (some ⟨b0, o0, none⟩) n0 c0, .slice (some ⟨b1, o1, none⟩) n1 c1] w fun z w' => z = .returned (.bool (sameWhile x0 x1)) ∧ Below w.heap.size w w' := by
  have H0 := Lib.hid h0; have H1 := Lib.hid h1
  have L0 : Hid (e0.length = n0) := by unfold Hid; rw [← h0, ← d0, List.length_map]
  have L1 : Hid (e1.length = n1) := by unfold Hid; rw [← h1, ← d1, List.length_map]
  have D0 := Lib.hid d0; have D1 := Lib.hid d1; have T0 := Lib.hid t0; have T1 := Lib.hid t1
  clear d0 d1 h0 h1 t0 t1
  by_cases hnm : n0 = n1
  rotate_left
  · go_enter Try.func76, Try.ntmps76
    go_wp2
    go_ret
    refine ⟨ret_bool ?_, Below.refl _ _⟩
    have h2 := H0.out
    have h3 := H1.out
    symm
    unfold sameWhile
    rw [decide_eq_false_iff_not]
    intro e
    subst e
    omega
  subst hnm
  go_enter Try.func76, Try.ntmps76
  go_wp2
  go_loopw [5] (fun i wr => ∃ k q : Nat, k ≤ n0 ∧ i = .int .i64 k ∧ wr = w.drewN q ∧ Hid (x0.take k = x1.take k)) (fun i _ => n0 - (intOf i).toNat)
  case atStart => exact ⟨0, 0, Nat.zero_le _, rfl, rfl, rfl⟩
  case round =>
    obtain ⟨k, q, hk, rfl, rfl, HR⟩ := hrel
    by_cases hlt : k < n0
    rotate_left
    · go_wp2
      go_ret
      refine ⟨ret_bool ?_, quiet_below rfl⟩
      have h1 := HR.out
      have h2 := H0.out
      have h3 := H1.out
      obtain rfl : k = n0 := by omega
      rw [List.take_of_length_le (by omega), List.take_of_length_le (by omega)] at h1
      simp [sameWhile, h1]
    obtain ⟨e, HE⟩ := hget L0 hlt
    obtain ⟨g, HG⟩ := hget L1 hlt
    have HED : Hid (x0[k]? = some e.d) := by unfold Hid; rw [← D0.out, List.getElem?_map, HE.out]; rfl
    have HGD : Hid (x1[k]? = some g.d) := by unfold Hid; rw [← D1.out, List.getElem?_map, HG.out]; rfl
    have hwl1 : e.d.f3.length ≤ 1048576 := Nat.le_trans (sumCommand_at HED.out) T0.out
    have hwl2 : g.d.f3.length ≤ 1048576 := Nat.le_trans (sumCommand_at HGD.out) T1.out
    have re := r0 e (List.mem_of_getElem? HE.out)
    have rg := r1 g (List.mem_of_getElem? HG.out)
    have p0 : w.cell? ⟨b0, o0 + k * 4, none⟩ = some (.int .i64 e.d.f0) := Sl.rec (f := ECommand.vs) (s := 4) (fun _ => rfl) s0 HE.out (j := 0) rfl
    have p1 : w.cell? ⟨b0, o0 + k * 4 + 1, none⟩ = some (.int .i64 e.d.f1) := Sl.rec (f := ECommand.vs) (s := 4) (fun _ => rfl) s0 HE.out (j := 1) rfl
    have p2 : w.cell? ⟨b0, o0 + k * 4 + 2, none⟩ = some (.int .i64 e.d.f2) := Sl.rec (f := ECommand.vs) (s := 4) (fun _ => rfl) s0 HE.out (j := 2) rfl
    have p3 : w.cell? ⟨b0, o0 + k * 4 + 3, none⟩ = some (e.u3) := Sl.rec (f := ECommand.vs) (s := 4) (fun _ => rfl) s0 HE.out (j := 3) rfl
    have q0 : w.cell? ⟨b1, o1 + k * 4, none⟩ = some (.int .i64 g.d.f0) := Sl.rec (f := ECommand.vs) (s := 4) (fun _ => rfl) s1 HG.out (j := 0) rfl
    have q1 : w.cell? ⟨b1, o1 + k * 4 + 1, none⟩ = some (.int .i64 g.d.f1) := Sl.rec (f := ECommand.vs) (s := 4) (fun _ => rfl) s1 HG.out (j := 1) rfl
    have q2 : w.cell? ⟨b1, o1 + k * 4 + 2, none⟩ = some (.int .i64 g.d.f2) := Sl.rec (f := ECommand.vs) (s := 4) (fun _ => rfl) s1 HG.out (j := 2) rfl
    have q3 : w.cell? ⟨b1, o1 + k * 4 + 3, none⟩ = some (g.u3) := Sl.rec (f := ECommand.vs) (s := 4) (fun _ => rfl) s1 HG.out (j := 3) rfl
    obtain ⟨⟨A3, c3, e3, a3⟩, -⟩ := re
    obtain ⟨⟨B3, d3, g3, b3⟩, -⟩ := rg
    rw [e3] at p3
    rw [g3] at q3
    clear e3 g3
    by_cases h0 : e.d.f0 = g.d.f0
    rotate_left
    · have E0 : (e.d.f0 != g.d.f0) = true := by simpa using h0
      have NE : Hid (e.d ≠ g.d) := fun h => h0 (by rw [h])
      clear h0
      go_wp2
      go_quiet (fail)
      go_wp2
      go_ret
      exact ⟨ret_bool (by unfold sameWhile; simp [dne HED.out HGD.out NE.out]), by first | exact quiet_below rfl | (rw [World.drewN_drewN]; exact quiet_below rfl)⟩
    have F0 : (e.d.f0 != g.d.f0) = false := by simpa using h0
    have G0 := Lib.hid h0; clear h0
    by_cases h1 : e.d.f1 = g.d.f1
    rotate_left
    · have E1 : (e.d.f1 != g.d.f1) = true := by simpa using h1
      have NE : Hid (e.d ≠ g.d) := fun h => h1 (by rw [h])
      clear h1
      go_wp2
      go_quiet (fail)
      go_wp2
      go_ret
      exact ⟨ret_bool (by unfold sameWhile; simp [dne HED.out HGD.out NE.out]), by first | exact quiet_below rfl | (rw [World.drewN_drewN]; exact quiet_below rfl)⟩
    have F1 : (e.d.f1 != g.d.f1) = false := by simpa using h1
    have G1 := Lib.hid h1; clear h1
    by_cases h2 : e.d.f2 = g.d.f2
    rotate_left
    · have E2 : (e.d.f2 != g.d.f2) = true := by simpa using h2
      have NE : Hid (e.d ≠ g.d) := fun h => h2 (by rw [h])
      clear h2
      go_wp2
      go_quiet (fail)
      go_wp2
      go_ret
      exact ⟨ret_bool (by unfold sameWhile; simp [dne HED.out HGD.out NE.out]), by first | exact quiet_below rfl | (rw [World.drewN_drewN]; exact quiet_below rfl)⟩
    have F2 : (e.d.f2 != g.d.f2) = false := by simpa using h2
    have G2 := Lib.hid h2; clear h2
    by_cases h : e.d.f3 = g.d.f3
    · have E2 : Hid (e.d = g.d) := by
        have h0 := G0.out; have h1 := G1.out; have h2 := G2.out
        unfold Hid
        cases e with | mk de ue => cases g with | mk dg ug => cases de; cases dg; simp_all
      have E := Lib.hid (decide_eq_true h); clear h
      clear G0 G1 G2
      go_wp2
      go_quiet ((go_at_call 115; exact quiet_q2 (sameExpr_is A3 B3 _ c3 _ d3 e.d.f3 g.d.f3 true E.out _ (by exact a3) (by exact b3) (by omega) (by omega))))
      go_wp2
      go_roundw
      case rel => exact ⟨k + 1, _, by omega, by go_num, rfl, take_succ_eq HR.out HED.out HGD.out E2.out⟩
      case measure => simp [intOf]; omega
    · have NE : Hid (e.d ≠ g.d) := fun h' => h (by rw [h'])
      have E := Lib.hid (decide_eq_false h); clear h
      clear G0 G1 G2
      go_wp2
      go_quiet ((go_at_call 115; exact quiet_q2 (sameExpr_is A3 B3 _ c3 _ d3 e.d.f3 g.d.f3 false E.out _ (by exact a3) (by exact b3) (by omega) (by omega))))
      go_wp2
      go_ret
      exact ⟨ret_bool (by unfold sameWhile; simp [dne HED.out HGD.out NE.out]), by first | exact quiet_below rfl | (rw [World.drewN_drewN]; exact quiet_below rfl)⟩

theorem specSameWhile_any (b0 o0 n0 c0 : Nat) (e0 : List ECommand) (x0 : List DCommand) (b1 o1 n1 c1 : Nat) (e1 : List ECommand) (x1 : List DCommand) (w : World) (s0 : Sl w b0 o0 (rows ECommand.vs e0)) (r0 : RdsCommand w e0) (d0 : e0.map (·.d) = x0) (h0 : x0.length = n0) (m0 : n0 ≤ 1048576) (_ : n0 ≤ c0) (t0 : sumCommand x0 ≤ 1048576) (_ : ∀ x ∈ x0, x.wf)
    (s1 : Sl w b1 o1 (rows ECommand.vs e1)) (r1 : RdsCommand w e1) (d1 : e1.map (·.d) = x1) (h1 : x1.length = n1) (m1 : n1 ≤ 1048576) (_ : n1 ≤ c1) (t1 : sumCommand x1 ≤ 1048576) (_ : ∀ x ∈ x1, x.wf) :
    Calls Try.prog 36 #[.slice (some ⟨b0, o0, none⟩) n0 c0, .slice (some ⟨b1, o1, none⟩) n1 c1] w fun z w' => z = .returned (.bool (sameWhile x0 x1)) ∧ Below w.heap.size w w' := by
  go_enter Try.func36, Try.ntmps36
  go_wp2_with fail
  refine (l22Same_any b0 o0 n0 c0 e0 x0 b1 o1 n1 c1 e1 x1 _ s0 r0 d0 h0 m0 t0 s1 r1 d1 h1 m1 t1).mono ?_
  rintro z w1 ⟨rfl, hb⟩
  go_wp2
  go_ret
  exact ⟨rfl, hb⟩
end Go.Proofs.Ytffcggagjeoagaa
