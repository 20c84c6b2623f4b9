/- The law FnExactStepCost returns true for every input, and each argument reads afterwards as before: the proof, part 4. No conditions. -/
import Derived.Test.YtdnkkmmkkfbhhaaStepCostZc
import Derived.Deep.DeepCutAuto
import Derived.Laws.CopyOwn
import Derived.Test.YtdnkkmmkkfbhhaaBitsLay
import Derived.Deep.RegionLaw
/- The assembler's methods here and emit. -/
namespace Go.Proofs.Ytdnkkmmkkfbhhaa
open Go.RowKit
set_option linter.all false

theorem op_appy {P : Program} {w : World} {o : Oper} {a : Act} {K : Act → World → Prop} {Q : Exit → Act → World → Prop} (s x : Operand) (t : TypeId)
    (ho : o.op = .call { callee := .builtin .append, args := #[s, x], argTypes := #[t, t] })
    {e : TypeId} {z : Value} {size bytes : Nat} (ht : P.underlying t = some (.slice e)) (hinfo : (P.info? e).map (fun i => (i.zero, i.size, i.bytes)) = some (some z, size, bytes)) (hzs : z.cells.size = size) (hsz : 0 < size)
    (base : Nat) {v : Value} {n : Nat} {xs : List Value} (hown : w.ownsRow base e size v n xs) (hbase : base ≤ w.heap.size) (hs : a.eval s = v)
    {g c m : Nat} {ys : List Value} (hsl : Sl w g 0 ys) (hyl : ys.length = m * size) (hx : a.eval x = .slice (some ⟨g, 0, none⟩) m c) (h1 : ∀ u ∈ ys, u.oneCell' = true) (h63 : n + m ≤ maxLen) (hbytes : (n + m) * bytes ≤ 140737488355328)
    (h : ∀ v' w', w'.ownsRow base e size v' (n + m) (xs ++ ys) → w.grownBy w' v.ownBlock → (v'.ownBlock = v.ownBlock ∨ v'.ownBlock = some w.heap.size) → K (a.put o.dst v') w') :
    o.wp P a w K Q := by
  obtain ⟨i, hi, hz, hsize, hby⟩ := info_parts hinfo
  obtain ⟨v', w', hr, h2, h3, h4, h5⟩ := run_append_own_at (P := P) w base t o.type e i z size bytes ht hi hz hsize hby hzs hsz v n xs hown ⟨g, 0, none⟩ m c ys hyl (fun j u hu => by rw [addr_add]; exact hsl.2 j u hu) h1 h63 hbytes hbase
  unfold Oper.wp execOp
  simp only [ho, resolve, invoke, builtin, Sem.run_bind, Sem.run_pure, Result.andThen_ok, List.map_toArray, List.map_cons, List.map_nil, hs, hx, hr]
  exact h v' w' h2 h3 h5
theorem grown_then {w w1 w2 : World} {row : Option Nat} (h : w.grownBy w1 row) (hb : Below w1.heap.size w1 w2) : w.grownBy w2 row :=
  ⟨hb.os.trans h.os, hb.tape.trans h.tape, hb.output.trans h.output, Nat.le_trans h.size hb.size, fun k hk hne => (hb.block k (Nat.lt_of_lt_of_le hk h.size)).trans (h.block k hk hne)⟩
theorem below_grow {w w1 w2 : World} {row : Option Nat} (hb : Below w.heap.size w w1) (h : w1.grownBy w2 row) : w.grownBy w2 row :=
  ⟨h.os.trans hb.os, h.tape.trans hb.tape, h.output.trans hb.output, Nat.le_trans hb.size h.size, fun k hk hne => (h.block k (Nat.lt_of_lt_of_le hk hb.size) hne).trans (hb.block k hk)⟩
/-- A slice literal, laid from block lo on. -/
def klay (lo n : Nat) (cs : Array Value) (T : TypeId) : Fact := ⟨fun x w => ∃ g, x = .slice (some ⟨g, 0, none⟩) n n ∧ lo ≤ g ∧ w.heap[g]? = some (.cells cs T (0, 0)), fun _ _ _ ⟨g, h1, h2, h3⟩ hb => ⟨g, h1, h2, (hb.block _ (heap_lt h3)).trans h3⟩⟩
theorem klay_grown {lo n : Nat} {cs : Array Value} {T : TypeId} {v : Value} {w w' : World} {row : Option Nat} (h : (klay lo n cs T).p v w) (hr : w.grownBy w' row) (hlo : ∀ k, row = some k → k < lo) : (klay lo n cs T).p v w' := by
  obtain ⟨g, h1, h2, h3⟩ := h
  exact ⟨g, h1, h2, grown_keep hr h3 (fun e => by have := hlo g e.symm; omega)⟩
/-- What an append onto the row of v left: from some world behind w0 on. -/
def kapp (w0 : World) (base : Nat) (T : TypeId) (size : Nat) (v : Value) (n : Nat) (xs : List Value) : Fact :=
  ⟨fun x w => ∃ B, Below w0.heap.size w0 B ∧ B.grownBy w v.ownBlock ∧ w.ownsRow base T size x n xs ∧ (x.ownBlock = v.ownBlock ∨ x.ownBlock = some B.heap.size), fun _ _ _ ⟨B, h1, h2, h3, h4⟩ hb => ⟨B, h1, grown_then h2 hb, own_below' h3 hb, h4⟩⟩
theorem drew_laid (w : World) (o : Obj) : Below w.heap.size w (w.drew.alloc o) ∧ (w.drew.alloc o).heap[w.heap.size]? = some o := ⟨((Below.refl _ _).drew).alloc (Nat.le_refl _) _, heap_alloc_new w.drew o⟩
theorem sl_block {w : World} {g : Nat} {cs : Array Value} {t : TypeId} {fr : Nat × Nat} (h : w.heap[g]? = some (.cells cs t fr)) : Sl w g 0 cs.toList := ⟨heap_lt h, fun j u hu => by rw [cell_of_heap h]; simpa using hu⟩
theorem SpotP.form {lo : Nat} {W : World} {u : Value} (h : SpotP lo W u) : ∃ A, u = .pointer A := by
  rcases h with h | ⟨s, h, _⟩
  · exact ⟨_, h⟩
  · exact ⟨_, h⟩
theorem infoInstrA : (Try.prog.info? 110).map (fun i => (i.zero, i.size, i.bytes)) = some (some (Value.agg #[.int .i64 0, .int .i64 0, .int .i64 0, .int .i64 0]), 4, 32) := by kernel_rfl
theorem infoFuncA : (Try.prog.info? 1).map (fun i => (i.zero, i.size, i.bytes)) = some (some Value.nilFunc, 1, 8) := by kernel_rfl

set_option maxRecDepth 100000 in
theorem sizeInstr_any (A : Option Addr) (n c : Nat) (w : World) : Calls Try.prog 66 #[.slice A n c] w fun e w' => e = .returned (.int .i64 n) ∧ w = w' := by
  go_enter Try.func66, Try.ntmps66
  go_wp2
  go_ret
  exact ⟨rfl, rfl⟩

set_option maxRecDepth 100000 in
set_option maxHeartbeats 400000 in
theorem here_any (lo ga n s : Nat) (w : World) (h : St lo ga n w) (hs : Spot lo w s) :
    Calls Try.prog 50 #[.pointer (some ⟨ga, 0, none⟩), .pointer (some ⟨s, 0, none⟩)] w (Done lo ga n w) := by
  obtain ⟨V, P, cs, ps, h⟩ := h
  obtain ⟨A, c, rfl⟩ := own_form h.list
  have v0 : w.cell? ⟨ga, 0, none⟩ = some (.slice A n c) := by rw [cell_of_heap h.var]; rfl
  obtain ⟨x, hx⟩ := hs.2
  have s0 : w.frozen? ⟨s, 0, none⟩ = false := frozen_of_heap hx
  have s1 : w.cell? ⟨s, 0, none⟩ = some (.int .i64 x) := by rw [cell_of_heap hx]; rfl
  have HR := Lib.hid (h.spot hs (n : Int))
  clear h hs hx
  go_enter Try.func50, Try.ntmps50
  go_wp2_with (go_at_call 66; refine (sizeInstr_any _ _ _ _).mono ?_; rintro e w1 ⟨rfl, rfl⟩)
  go_end0
  exact ⟨rfl, ⟨_, _, _, _, HR.out.1⟩, HR.out.2⟩

/-- What emit leaves. -/
def EmitPost (lo ga n : Nat) (ps : List PatchV) (w : World) (e : Ending) (w' : World) : Prop :=
  e = .returned (.tuple #[]) ∧ Ext lo ga w w' ∧ ∃ V' P' cs' p, AS lo ga (n + 1) (n + 1) V' P' cs' (ps ++ [p]) w' ∧ w.heap.size ≤ p.bt ∧ w.heap.size ≤ p.bo
theorem al4 (w : World) (o1 o2 o3 o4 : Obj) : ∃ w4, Hid (w4 = (((w.alloc o1).alloc o2).alloc o3).alloc o4) ∧ Below w.heap.size w w4 ∧ w4.heap[w.heap.size]? = some o1 ∧ w4.heap[w.heap.size + 1]? = some o2 ∧ w4.heap[w.heap.size + 1 + 1]? = some o3 ∧ w4.heap[w.heap.size + 1 + 1 + 1]? = some o4 ∧ w4.heap.size = w.heap.size + 1 + 1 + 1 + 1 := by
  obtain ⟨w3, h3, b3, x1, x2, x3, hz⟩ := al3 w o1 o2 o3
  refine ⟨w3.alloc o4, by rw [h3.out]; exact rfl, below_step b3 (laid_below _ _), ?_, ?_, ?_, ?_, by simp [hz]⟩
  · exact ((laid_below w3 o4).block _ (heap_lt x1)).trans x1
  · exact ((laid_below w3 o4).block _ (heap_lt x2)).trans x2
  · exact ((laid_below w3 o4).block _ (heap_lt x3)).trans x3
  · rw [← hz]; exact heap_alloc_new w3 o4

/- GEN -/
set_option maxRecDepth 100000 in
set_option maxHeartbeats 2000000 in
theorem emitX_any (lo ga n : Nat) (kind reg : Int) (u1 u2 V P : Value) (cs : List Value) (ps : List PatchV) (w : World) (h : AS lo ga n n V P cs ps w) (hu1 : SpotP lo w u1) (hu2 : SpotP lo w u2) (hn : n ≤ 1000000) :
    Calls Try.prog 68 #[.pointer (some ⟨ga, 0, none⟩), .int .i64 kind, .int .i64 reg, u1, u2] w (EmitPost lo ga n ps w) := by
  obtain ⟨A1, rfl⟩ := hu1.form
  obtain ⟨A2, rfl⟩ := hu2.form
  obtain ⟨A, c, rfl⟩ := own_form h.list
  obtain ⟨AP, cP, rfl⟩ := own_form h.pats
  have v0 : w.cell? ⟨ga, 0, none⟩ = some (.slice A n c) := by rw [cell_of_heap h.var]; rfl
  have H := Lib.hid h; have HU1 := Lib.hid hu1; have HU2 := Lib.hid hu2
  have v3 : (((w.alloc (.cells #[.pointer (some ⟨ga, 0, none⟩)] 70)).alloc (.cells #[.pointer A1] 86)).alloc (.cells #[.pointer A2] 86)).cell? ⟨ga, 0, none⟩ = some (.slice A n c) := by
    obtain ⟨w3, HW3, b3, -⟩ := al3 w (.cells #[.pointer (some ⟨ga, 0, none⟩)] 70) (.cells #[.pointer A1] 86) (.cells #[.pointer A2] 86)
    rw [← HW3.out]; exact cell_step (by exact v0) b3
  obtain ⟨w4, HW4, b4, x1, x2, x3, x4, z4⟩ := al4 w (.cells #[.pointer (some ⟨ga, 0, none⟩)] 70) (.cells #[.pointer A1] 86) (.cells #[.pointer A2] 86) (.cells #[.int .i64 n] 3)
  have X1 := Lib.hid x1; have X2 := Lib.hid x2; have X3 := Lib.hid x3; have X4 := Lib.hid x4; have B4 := Lib.hid b4
  have H4 := Lib.hid (h.below b4)
  have W9 : Hid (IntKind.i64.wrap ((n : Int) + 1) = (n : Int) + 1) := IntWalk.i64_in _ (by omega)
  have C0 : Hid (∀ W, w4.grownBy W (Value.slice A n c).ownBlock → W.cell? ⟨w.heap.size, 0, none⟩ = some (.pointer (some ⟨ga, 0, none⟩))) := fun W hI => by rw [cell_of_heap (grown_keep hI x1 (own_ne_block H4.out.list x1 (by decide)))]; rfl
  have C1 : Hid (∀ W, w4.grownBy W (Value.slice A n c).ownBlock → W.cell? ⟨ga, 0, none⟩ = some (.slice A n c)) := fun W hI => by rw [cell_of_heap (grown_keep hI H4.out.var (own_ne_block H4.out.list H4.out.var (by decide)))]; rfl
  have C2 : Hid (∀ W, w4.grownBy W (Value.slice A n c).ownBlock → W.cell? ⟨w.heap.size + 1 + 1 + 1, 0, none⟩ = some (.int .i64 n)) := fun W hI => by rw [cell_of_heap (grown_keep hI x4 (own_ne_block H4.out.list x4 (by decide)))]; rfl
  clear h hu1 hu2 x1 x2 x3 x4 z4 b4
  go_enter Try.func68, Try.ntmps68
  go_upto_region 2 with fail
  rw [← HW4.out]
  refine region_facts_lk (by kernel_rfl) rfl [kcst (.pointer (some ⟨ga, 0, none⟩)), kcst (.pointer (some ⟨ga, 0, none⟩)), kcst (.pointer (some ⟨ga, 0, none⟩)), kcst (.pointer (some ⟨ga, 0, none⟩)), kcst (.slice A n c), kcst (.int .i64 kind), kcst (.int .i64 reg), kcst (.int .i64 n), kcst (.int .i64 ((n : Int) + 1)), kcst (.agg #[.int .i64 kind, .int .i64 reg, .int .i64 ((n : Int) + 1), .int .i64 0]), klay w4.heap.size 1 #[.int .i64 kind, .int .i64 reg, .int .i64 ((n : Int) + 1), .int .i64 0] 110, kapp w4 lo 110 4 (.slice A n c) (n + 1) (cs ++ [.int .i64 kind, .int .i64 reg, .int .i64 ((n : Int) + 1), .int .i64 0]), kcst (.pointer (some ⟨ga, 0, none⟩)), kcst (.pointer (some ⟨ga, 0, none⟩))] [16, 17, 18, 19, 20, 21, 22, 23, 24, 25, 26, 27, 28, 29] 11 (Below w4.heap.size w4) (fun W => w4.grownBy W (Value.slice A n c).ownBlock) (fun W W2 => W.grownBy W2 (Value.slice A n c).ownBlock) (Below.refl _ _) (fun W h => grown_of_below h _) (fun W W2 h hb => below_step h hb) (fun W W2 h hb => grown_then h hb) ?_ (by kernel_rfl) (by kernel_rfl) ?_ ?_
  · rintro (_|_|_|_|_|_|_|_|_|_|_|_|_|_|j) f hj hf v W W2 hp hr
    · (injection hf with hf); (subst hf); exact hp
    · (injection hf with hf); (subst hf); exact hp
    · (injection hf with hf); (subst hf); exact hp
    · (injection hf with hf); (subst hf); exact hp
    · (injection hf with hf); (subst hf); exact hp
    · (injection hf with hf); (subst hf); exact hp
    · (injection hf with hf); (subst hf); exact hp
    · (injection hf with hf); (subst hf); exact hp
    · (injection hf with hf); (subst hf); exact hp
    · (injection hf with hf); (subst hf); exact hp
    · (injection hf with hf); (subst hf); exact klay_grown hp hr (fun k hk => (H4.out.list.lt k hk).2)
    · exact absurd rfl hj
    · (injection hf with hf); (subst hf); exact hp
    · (injection hf with hf); (subst hf); exact hp
    · simp at hf
  · refine ⟨?_, ?_, ?_, ?_, ?_, ?_, ?_, ?_, ?_, ?_, ?_, ?_, ?_, ?_, trivial⟩
    · refine ⟨fun _ => ?_, fun h => absurd h (by decide)⟩
      intro a3 W hI hin haft K hK
      have h5 : a3.tmps[5]?.getD undef = .pointer (some ⟨w.heap.size, 0, none⟩) := kev ((hin 5 (by decide)).trans rfl)
      have k1 := C0.out _ hI
      clear haft hin
      unfold Oper.wp
      go_simp
      exact hK _ _ rfl (Below.refl _ _)
    · refine ⟨fun _ => ?_, fun h => absurd h (by decide)⟩
      intro a3 W hI hin haft K hK
      have h5 : a3.tmps[5]?.getD undef = .pointer (some ⟨w.heap.size, 0, none⟩) := kev ((hin 5 (by decide)).trans rfl)
      have k1 := C0.out _ hI
      clear haft hin
      unfold Oper.wp
      go_simp
      exact hK _ _ rfl (Below.refl _ _)
    · refine ⟨fun _ => ?_, fun h => absurd h (by decide)⟩
      intro a3 W hI hin haft K hK
      have h17 : a3.tmps[17]?.getD undef = .pointer (some ⟨ga, 0, none⟩) := kev (haft ⟨1, .data⟩ (by simp) rfl 17 rfl)
      clear haft hin
      unfold Oper.wp
      go_simp
      exact hK _ _ rfl (Below.refl _ _)
    · refine ⟨fun _ => ?_, fun h => absurd h (by decide)⟩
      intro a3 W hI hin haft K hK
      have h18 : a3.tmps[18]?.getD undef = .pointer (some ⟨ga, 0, none⟩) := kev (haft ⟨2, .data⟩ (by simp) rfl 18 rfl)
      clear haft hin
      unfold Oper.wp
      go_simp
      exact hK _ _ rfl (Below.refl _ _)
    · refine ⟨fun _ => ?_, fun h => absurd h (by decide)⟩
      intro a3 W hI hin haft K hK
      have h19 : a3.tmps[19]?.getD undef = .pointer (some ⟨ga, 0, none⟩) := kev (haft ⟨3, .data⟩ (by simp) rfl 19 rfl)
      have k1 := C1.out _ hI
      clear haft hin
      unfold Oper.wp
      go_simp
      exact hK _ _ rfl (Below.refl _ _)
    · refine ⟨fun _ => ?_, fun h => absurd h (by decide)⟩
      intro a3 W hI hin haft K hK
      have h1 : a3.tmps[1]?.getD undef = .int .i64 kind := kev ((hin 1 (by decide)).trans rfl)
      clear haft hin
      unfold Oper.wp
      go_simp
      exact hK _ _ rfl (Below.refl _ _)
    · refine ⟨fun _ => ?_, fun h => absurd h (by decide)⟩
      intro a3 W hI hin haft K hK
      have h2 : a3.tmps[2]?.getD undef = .int .i64 reg := kev ((hin 2 (by decide)).trans rfl)
      clear haft hin
      unfold Oper.wp
      go_simp
      exact hK _ _ rfl (Below.refl _ _)
    · refine ⟨fun _ => ?_, fun h => absurd h (by decide)⟩
      intro a3 W hI hin haft K hK
      have h10 : a3.tmps[10]?.getD undef = .pointer (some ⟨w.heap.size + 1 + 1 + 1, 0, none⟩) := kev ((hin 10 (by decide)).trans rfl)
      have k1 := C2.out _ hI
      clear haft hin
      unfold Oper.wp
      go_simp
      exact hK _ _ rfl (Below.refl _ _)
    · refine ⟨fun _ => ?_, fun h => absurd h (by decide)⟩
      intro a3 W hI hin haft K hK
      have h23 : a3.tmps[23]?.getD undef = .int .i64 n := kev (haft ⟨7, .data⟩ (by simp) rfl 23 rfl)
      have w9 := W9.out
      clear haft hin
      unfold Oper.wp
      go_simp
      exact hK _ _ rfl (Below.refl _ _)
    · refine ⟨fun _ => ?_, fun h => absurd h (by decide)⟩
      intro a3 W hI hin haft K hK
      have h21 : a3.tmps[21]?.getD undef = .int .i64 kind := kev (haft ⟨5, .data⟩ (by simp) rfl 21 rfl)
      have h22 : a3.tmps[22]?.getD undef = .int .i64 reg := kev (haft ⟨6, .data⟩ (by simp) rfl 22 rfl)
      have h24 : a3.tmps[24]?.getD undef = .int .i64 ((n : Int) + 1) := kev (haft ⟨8, .data⟩ (by simp) rfl 24 rfl)
      clear haft hin
      unfold Oper.wp
      go_simp
      exact hK _ _ rfl (Below.refl _ _)
    · refine ⟨fun _ => ?_, fun h => absurd h (by decide)⟩
      intro a3 W hI hin haft K hK
      have h25 : a3.tmps[25]?.getD undef = .agg #[.int .i64 kind, .int .i64 reg, .int .i64 ((n : Int) + 1), .int .i64 0] := kev (haft ⟨9, .data⟩ (by simp) rfl 25 rfl)
      have HSZ := Lib.hid hI.size
      clear haft hin
      unfold Oper.wp
      go_simp
      exact hK _ _ ⟨_, rfl, HSZ.out, heap_alloc_new _ _⟩ (laid_below _ _)
    · refine ⟨fun h => absurd rfl h, fun _ => ?_⟩
      intro a3 W hI hin haft K hK
      have h20 : a3.eval (.tmp 20) = .slice A n c := haft ⟨4, .data⟩ (by simp) rfl 20 rfl
      obtain ⟨g, hg, hgs, hh⟩ := haft ⟨10, .data⟩ (by simp) rfl 26 rfl
      refine op_appy _ _ _ rfl Try.underlying51 infoInstrA rfl (by omega) lo (own_below' H4.out.list hI) (Nat.le_trans H4.out.lo1 hI.size) h20 (sl_block hh) rfl hg (by simp [Value.oneCell']) (by unfold maxLen; omega) (by omega) ?_
      intro V' w' own' hg' hw'
      exact hK _ _ ⟨W, hI, hg', own', hw'⟩ hg' (below_grow hI hg')
    · refine ⟨fun _ => ?_, fun h => absurd h (by decide)⟩
      intro a3 W hI hin haft K hK
      have h16 : a3.tmps[16]?.getD undef = .pointer (some ⟨ga, 0, none⟩) := kev (haft ⟨0, .data⟩ (by simp) rfl 16 rfl)
      clear haft hin
      unfold Oper.wp
      go_simp
      exact hK _ _ rfl (Below.refl _ _)
    · refine ⟨fun _ => ?_, fun h => absurd h (by decide)⟩
      intro a3 W hI hin haft K hK
      have h28 : a3.tmps[28]?.getD undef = .pointer (some ⟨ga, 0, none⟩) := kev (haft ⟨12, .data⟩ (by simp) rfl 28 rfl)
      clear haft hin
      unfold Oper.wp
      go_simp
      exact hK _ _ rfl (Below.refl _ _)
  · intro a W hI hdf hsz hin hf K hK
    have h29 : a.tmps[29]?.getD undef = .pointer (some ⟨ga, 0, none⟩) := kev (hf 13 29 rfl)
    obtain ⟨BW, hb1, hb2, hb3, hb4⟩ := hf 11 27 rfl
    obtain ⟨V6, hV6⟩ : ∃ v, a.eval (.tmp 27) = v := ⟨_, rfl⟩
    rw [hV6] at hb3 hb4
    obtain ⟨A6, c6, rfl⟩ := own_form hb3
    have h27 := kev hV6
    obtain ⟨R7, X7⟩ := (H4.out.below hb1).push hb2 hb3 (Nat.le_succ n)
    have q0 : W.frozen? ⟨ga, 0, none⟩ = false := frozen_of_heap (grown_keep hI H4.out.var (own_ne_block H4.out.list H4.out.var (by decide)))
    have q1 := C1.out _ hI
    have HK := Lib.hid hK
    have HD1 : Hid (a.defers = []) := hdf
    have HS1 : Hid (a.tmps.size = 40) := hsz
    have e5 : a.eval (.tmp 5) = .pointer (some ⟨w.heap.size, 0, none⟩) := hin 5 (by decide)
    have e8 : a.eval (.tmp 8) = .pointer (some ⟨w.heap.size + 1, 0, none⟩) := hin 8 (by decide)
    have e9 : a.eval (.tmp 9) = .pointer (some ⟨w.heap.size + 1 + 1, 0, none⟩) := hin 9 (by decide)
    have e10 : a.eval (.tmp 10) = .pointer (some ⟨w.heap.size + 1 + 1 + 1, 0, none⟩) := hin 10 (by decide)
    obtain ⟨w7, hw7⟩ : ∃ w7, W.setCell ⟨ga, 0, none⟩ (.slice A6 (n + 1) c6) = w7 := ⟨_, rfl⟩
    have E47 := (Ext.of_below H4.out.lt H4.out.lo1 hb1).trans X7
    rw [hw7] at R7 E47
    have HW7 := Lib.hid hw7
    clear hin hf hK hdf hsz hb1 hb2 hb3 hb4 X7 hV6 hw7
    unfold Oper.wp
    go_simp
    refine HK.out _ _ ?_
    rw [HW7.out]
    clear q0 q1 h27 h29 HK HW7
    have x1 := E47.kept _ _ _ _ X1.out (by decide) (by decide) (by decide) (.inl (by decide))
    have x2 := E47.kept _ _ _ _ X2.out (by decide) (by decide) (by decide) (.inl (by decide))
    have x3 := E47.kept _ _ _ _ X3.out (by decide) (by decide) (by decide) (.inl (by decide))
    have x4 := E47.kept _ _ _ _ X4.out (by decide) (by decide) (by decide) (.inl (by decide))
    have EW := Lib.hid ((Ext.of_below H.out.lt H.out.lo1 B4.out).trans E47)
    obtain ⟨p, hp⟩ : ∃ p : PatchV, p = ⟨w.heap.size + 1, w.heap.size, w.heap.size + 1 + 1 + 1, w.heap.size + 1 + 1⟩ := ⟨_, rfl⟩
    have PO : Hid (PatchOk lo ga (n + 1) p w7) := by subst hp; exact ⟨x1, ⟨n, Nat.lt_succ_self n, x4⟩, ⟨_, HU1.out.ext EW.out, x2⟩, ⟨_, HU2.out.ext EW.out, x3⟩⟩
    have HPV : Hid (p.v = .func (.func 74) #[] #[.pointer (some ⟨w.heap.size + 1, 0, none⟩), .pointer (some ⟨w.heap.size, 0, none⟩), .pointer (some ⟨w.heap.size + 1 + 1 + 1, 0, none⟩), .pointer (some ⟨w.heap.size + 1 + 1, 0, none⟩)]) := by subst hp; rfl
    have HPT : Hid (w.heap.size ≤ p.bt ∧ w.heap.size ≤ p.bo) := by subst hp; exact ⟨Nat.le_succ _, by show w.heap.size ≤ w.heap.size + 1 + 1; omega⟩
    have H7 := Lib.hid R7
    have D0 : Hid (∀ W, w7.grownBy W (Value.slice AP n cP).ownBlock → W.cell? ⟨w.heap.size, 0, none⟩ = some (.pointer (some ⟨ga, 0, none⟩))) := fun W hI => by rw [cell_of_heap (grown_keep hI x1 (own_ne_block R7.pats x1 (by decide)))]; rfl
    have D1 : Hid (∀ W, w7.grownBy W (Value.slice AP n cP).ownBlock → W.cell? ⟨ga, 1, none⟩ = some (.slice AP n cP)) := fun W hI => by rw [cell_of_heap (grown_keep hI R7.var (own_ne_block R7.pats R7.var (by decide)))]; rfl
    clear hp x1 x2 x3 x4 R7 E47
    go_wp2_with fail
    refine region_facts_lk (by kernel_rfl) rfl [kcst (.pointer (some ⟨ga, 0, none⟩)), kcst (.pointer (some ⟨ga, 0, none⟩)), kcst (.pointer (some ⟨ga, 0, none⟩)), kcst (.pointer (some ⟨ga, 1, none⟩)), kcst (.slice AP n cP), kcst (.func (.func 74) #[] #[.pointer (some ⟨w.heap.size + 1, 0, none⟩), .pointer (some ⟨w.heap.size, 0, none⟩), .pointer (some ⟨w.heap.size + 1 + 1 + 1, 0, none⟩), .pointer (some ⟨w.heap.size + 1 + 1, 0, none⟩)]), klay w7.heap.size 1 #[.func (.func 74) #[] #[.pointer (some ⟨w.heap.size + 1, 0, none⟩), .pointer (some ⟨w.heap.size, 0, none⟩), .pointer (some ⟨w.heap.size + 1 + 1 + 1, 0, none⟩), .pointer (some ⟨w.heap.size + 1 + 1, 0, none⟩)]] 1, kapp w7 lo 1 1 (.slice AP n cP) (n + 1) (ps.map PatchV.v ++ [.func (.func 74) #[] #[.pointer (some ⟨w.heap.size + 1, 0, none⟩), .pointer (some ⟨w.heap.size, 0, none⟩), .pointer (some ⟨w.heap.size + 1 + 1 + 1, 0, none⟩), .pointer (some ⟨w.heap.size + 1 + 1, 0, none⟩)]]), kcst (.pointer (some ⟨ga, 0, none⟩)), kcst (.pointer (some ⟨ga, 1, none⟩))] [30, 31, 32, 33, 34, 35, 36, 37, 38, 39] 7 (Below w7.heap.size w7) (fun W => w7.grownBy W (Value.slice AP n cP).ownBlock) (fun W W2 => W.grownBy W2 (Value.slice AP n cP).ownBlock) (Below.refl _ _) (fun W h => grown_of_below h _) (fun W W2 h hb => below_step h hb) (fun W W2 h hb => grown_then h hb) ?_ (by rw [HS1.out]; kernel_rfl) (by kernel_rfl) ?_ ?_
    · rintro (_|_|_|_|_|_|_|_|_|_|j) f hj hf v W W2 hp hr
      · (injection hf with hf); (subst hf); exact hp
      · (injection hf with hf); (subst hf); exact hp
      · (injection hf with hf); (subst hf); exact hp
      · (injection hf with hf); (subst hf); exact hp
      · (injection hf with hf); (subst hf); exact hp
      · (injection hf with hf); (subst hf); exact hp
      · (injection hf with hf); (subst hf); exact klay_grown hp hr (fun k hk => (H7.out.pats.lt k hk).2)
      · exact absurd rfl hj
      · (injection hf with hf); (subst hf); exact hp
      · (injection hf with hf); (subst hf); exact hp
      · simp at hf
    · refine ⟨?_, ?_, ?_, ?_, ?_, ?_, ?_, ?_, ?_, ?_, trivial⟩
      · refine ⟨fun _ => ?_, fun h => absurd h (by decide)⟩
        intro a3 W hI hin haft K hK
        have h5 : a3.tmps[5]?.getD undef = .pointer (some ⟨w.heap.size, 0, none⟩) := kev ((hin 5 (by decide)).trans e5)
        have k1 := D0.out _ hI
        clear haft hin
        unfold Oper.wp
        go_simp
        exact hK _ _ rfl (Below.refl _ _)
      · refine ⟨fun _ => ?_, fun h => absurd h (by decide)⟩
        intro a3 W hI hin haft K hK
        have h5 : a3.tmps[5]?.getD undef = .pointer (some ⟨w.heap.size, 0, none⟩) := kev ((hin 5 (by decide)).trans e5)
        have k1 := D0.out _ hI
        clear haft hin
        unfold Oper.wp
        go_simp
        exact hK _ _ rfl (Below.refl _ _)
      · refine ⟨fun _ => ?_, fun h => absurd h (by decide)⟩
        intro a3 W hI hin haft K hK
        have h31 : a3.tmps[31]?.getD undef = .pointer (some ⟨ga, 0, none⟩) := kev (haft ⟨1, .data⟩ (by simp) rfl 31 rfl)
        clear haft hin
        unfold Oper.wp
        go_simp
        exact hK _ _ rfl (Below.refl _ _)
      · refine ⟨fun _ => ?_, fun h => absurd h (by decide)⟩
        intro a3 W hI hin haft K hK
        have h32 : a3.tmps[32]?.getD undef = .pointer (some ⟨ga, 0, none⟩) := kev (haft ⟨2, .data⟩ (by simp) rfl 32 rfl)
        clear haft hin
        unfold Oper.wp
        go_simp
        exact hK _ _ rfl (Below.refl _ _)
      · refine ⟨fun _ => ?_, fun h => absurd h (by decide)⟩
        intro a3 W hI hin haft K hK
        have h33 : a3.tmps[33]?.getD undef = .pointer (some ⟨ga, 1, none⟩) := kev (haft ⟨3, .data⟩ (by simp) rfl 33 rfl)
        have k1 := D1.out _ hI
        clear haft hin
        unfold Oper.wp
        go_simp
        exact hK _ _ rfl (Below.refl _ _)
      · refine ⟨fun _ => ?_, fun h => absurd h (by decide)⟩
        intro a3 W hI hin haft K hK
        have h8 : a3.tmps[8]?.getD undef = .pointer (some ⟨w.heap.size + 1, 0, none⟩) := kev ((hin 8 (by decide)).trans e8)
        have h5 : a3.tmps[5]?.getD undef = .pointer (some ⟨w.heap.size, 0, none⟩) := kev ((hin 5 (by decide)).trans e5)
        have h10 : a3.tmps[10]?.getD undef = .pointer (some ⟨w.heap.size + 1 + 1 + 1, 0, none⟩) := kev ((hin 10 (by decide)).trans e10)
        have h9 : a3.tmps[9]?.getD undef = .pointer (some ⟨w.heap.size + 1 + 1, 0, none⟩) := kev ((hin 9 (by decide)).trans e9)
        clear haft hin
        unfold Oper.wp
        go_simp
        exact hK _ _ rfl (Below.refl _ _)
      · refine ⟨fun _ => ?_, fun h => absurd h (by decide)⟩
        intro a3 W hI hin haft K hK
        have h35 : a3.tmps[35]?.getD undef = .func (.func 74) #[] #[.pointer (some ⟨w.heap.size + 1, 0, none⟩), .pointer (some ⟨w.heap.size, 0, none⟩), .pointer (some ⟨w.heap.size + 1 + 1 + 1, 0, none⟩), .pointer (some ⟨w.heap.size + 1 + 1, 0, none⟩)] := kev (haft ⟨5, .data⟩ (by simp) rfl 35 rfl)
        have HSZ := Lib.hid hI.size
        clear haft hin
        unfold Oper.wp
        go_simp
        exact hK _ _ ⟨_, rfl, HSZ.out, heap_alloc_new _ _⟩ (laid_below _ _)
      · refine ⟨fun h => absurd rfl h, fun _ => ?_⟩
        intro a3 W hI hin haft K hK
        have h34 : a3.eval (.tmp 34) = .slice AP n cP := haft ⟨4, .data⟩ (by simp) rfl 34 rfl
        obtain ⟨g, hg, hgs, hh⟩ := haft ⟨6, .data⟩ (by simp) rfl 36 rfl
        refine op_appy _ _ _ rfl Try.underlying83 infoFuncA rfl (by omega) lo (own_below' H7.out.pats hI) (Nat.le_trans H7.out.lo1 hI.size) h34 (sl_block hh) rfl hg (by simp [Value.oneCell']) (by unfold maxLen; omega) (by omega) ?_
        intro V' w' own' hg' hw'
        exact hK _ _ ⟨W, hI, hg', own', hw'⟩ hg' (below_grow hI hg')
      · refine ⟨fun _ => ?_, fun h => absurd h (by decide)⟩
        intro a3 W hI hin haft K hK
        have h30 : a3.tmps[30]?.getD undef = .pointer (some ⟨ga, 0, none⟩) := kev (haft ⟨0, .data⟩ (by simp) rfl 30 rfl)
        clear haft hin
        unfold Oper.wp
        go_simp
        exact hK _ _ rfl (Below.refl _ _)
      · refine ⟨fun _ => ?_, fun h => absurd h (by decide)⟩
        intro a3 W hI hin haft K hK
        have h38 : a3.tmps[38]?.getD undef = .pointer (some ⟨ga, 0, none⟩) := kev (haft ⟨8, .data⟩ (by simp) rfl 38 rfl)
        clear haft hin
        unfold Oper.wp
        go_simp
        exact hK _ _ rfl (Below.refl _ _)
    · intro a4 W hI hdf2 hsz2 hin hf K hK
      have h39 : a4.tmps[39]?.getD undef = .pointer (some ⟨ga, 1, none⟩) := kev (hf 9 39 rfl)
      obtain ⟨BW, hb1, hb2, hb3, hb4⟩ := hf 7 37 rfl
      obtain ⟨V9, hV9⟩ : ∃ v, a4.eval (.tmp 37) = v := ⟨_, rfl⟩
      rw [hV9] at hb3 hb4
      obtain ⟨A9, c9, rfl⟩ := own_form hb3
      have h37 := kev hV9
      obtain ⟨R9, X9⟩ := (H7.out.below hb1).pushP (PO.out.ext (Ext.of_below H7.out.lt H7.out.lo1 hb1) (Nat.le_refl _)) hb2 (by rw [HPV.out]; exact hb3) hb4
      have q0 : W.frozen? ⟨ga, 1, none⟩ = false := frozen_of_heap (grown_keep hI H7.out.var (own_ne_block H7.out.pats H7.out.var (by decide)))
      have q1 := D1.out _ hI
      have HK := Lib.hid hK; have HDF := Lib.hid (hdf2.trans HD1.out); have HR := Lib.hid R9; have HX := Lib.hid ((Ext.of_below H7.out.lt H7.out.lo1 hb1).trans X9)
      clear hin hf hK hdf2 hsz2 hb1 hb2 hb3 hb4 R9 X9 hV9
      unfold Oper.wp
      go_simp
      refine HK.out _ _ ?_
      refine bodyPost_end (results_none rfl _ _ _) HDF.out ?_
      exact ⟨rfl, EW.out.trans HX.out, _, _, _, p, HR.out, HPT.out.1, HPT.out.2⟩

end Go.Proofs.Ytdnkkmmkkfbhhaa

/- The builtin copy on rows of records; the row behind it is a variable's. Plain laws. -/
namespace Go.Proofs.Ytdnkkmmkkfbhhaa
open Go.RowKit
set_option linter.all false

section
variable {P : Program}
theorem run_copy_rows (w : World) (dT sT ty elem : TypeId) (g o dLen dCap : Nat) (a : Addr) (sLen sCap s m : Nat) (cur : Array Value) (t : TypeId) (cs : List Value)
    (hu : P.underlying dT = some (.slice elem)) (hs : (P.info? elem).map (·.size) = some s)
    (hg : w.heap[g]? = some (.cells cur t (0, 0))) (hm : Nat.min sLen dLen = m) (hn : cs.length = m * s)
    (hsrc : ∀ j v, cs[j]? = some v → w.cell? (a.add j) = some v) (hfit : o + cs.length ≤ cur.size) (h1 : ∀ v ∈ cs, v.oneCell' = true) :
    (Builtin.copy_ #[dT, sT] ty #[.slice (some ⟨g, o, none⟩) dLen dCap, .slice (some a) sLen sCap]).run P w =
      .ok (goInt m) (w.setRow g (cur.toList.take o ++ cs ++ cur.toList.drop (o + cs.length)).toArray) := by
  have hl := run_loadCells_list (P := P) w a cs hsrc
  have hst := run_storeCells_at P g o t cs 0 cur w hg (by simpa using hfit) h1
  cases hq : P.info? elem with
  | none => simp [hq] at hs
  | some i =>
    have hi : i.size = s := by simpa [hq] using hs
    simp [Builtin.copy_, run_underlying hu, Builtin.lenOf, Builtin.firstCells, sizeOf, typeInfo, hq, hi, hm, ← hn, hl, hst]
theorem wpList_copy_rows {w : World} {ops : Array Oper} {rest : List Oper} {o : Oper} {a : Act} {Q : Exit → Act → World → Prop} (hgd : o.guard = none) (d s : Operand) (dT sT : TypeId)
    (ho : o.op = .call { callee := .builtin .copy, args := #[d, s], argTypes := #[dT, sT] }) (elem : TypeId) (hu : P.underlying dT = some (.slice elem)) {z : Nat} (hsz : (P.info? elem).map (·.size) = some z)
    (g off dLen dCap : Nat) (ad : Addr) (sLen sCap : Nat) (hd : a.eval d = .slice (some ⟨g, off, none⟩) dLen dCap) (hs : a.eval s = .slice (some ad) sLen sCap)
    (cur : List Value) (t : TypeId) (hg : w.heap[g]? = some (.cells cur.toArray t (0, 0))) (m : Nat) (hm : Nat.min sLen dLen = m) (cs : List Value) (hn : cs.length = m * z)
    (hsrc : ∀ j v, cs[j]? = some v → w.cell? (ad.add j) = some v) (hfit : off + cs.length ≤ cur.length) (h1 : ∀ v ∈ cs, v.oneCell' = true) (B : Nat) (w0 : World) (hb : Below B w0 w) (hBg : B ≤ g)
    (h : ∀ w', Hid (w'.heap[g]? = some (.cells (cur.take off ++ cs ++ cur.drop (off + cs.length)).toArray t (0, 0))) → Below B w0 w' → wpList P ops Q rest (a.put o.dst (goInt m)) w') : wpList P ops Q (o :: rest) a w := by
  refine wpList_plain hgd fun K hK => ?_
  have hrun := run_copy_rows (P := P) w dT sT o.type elem g off dLen dCap ad sLen sCap z m cur.toArray t cs hu hsz hg hm hn hsrc (by simpa using hfit) h1
  unfold Oper.wp
  simp [execOp, ho, resolve, invoke, builtin, hd, hs, hrun, Result.andThen]
  refine hK _ _ (h _ ?_ (below_setRow hb hBg _))
  have := setRow_heap w g _ (cur.take off ++ (cs ++ cur.drop (off + cs.length))).toArray t _ hg
  simpa [Hid] using this
theorem step_copy_rows {w : World} {ops : Array Oper} {o : Oper} {a : Act} {K : Act → World → Prop} {Q : Exit → Act → World → Prop} {E : Prop} (hgd : o.guard = none) (d s : Operand) (dT sT : TypeId)
    (ho : o.op = .call { callee := .builtin .copy, args := #[d, s], argTypes := #[dT, sT] }) (elem : TypeId) (hu : P.underlying dT = some (.slice elem)) {z : Nat} (hsz : (P.info? elem).map (·.size) = some z)
    (g off dLen dCap : Nat) (ad : Addr) (sLen sCap : Nat) (hd : a.eval d = .slice (some ⟨g, off, none⟩) dLen dCap) (hs : a.eval s = .slice (some ad) sLen sCap)
    (cur : List Value) (t : TypeId) (hg : w.heap[g]? = some (.cells cur.toArray t (0, 0))) (m : Nat) (hm : Nat.min sLen dLen = m) (cs : List Value) (hn : cs.length = m * z)
    (hsrc : ∀ j v, cs[j]? = some v → w.cell? (ad.add j) = some v) (hfit : off + cs.length ≤ cur.length) (h1 : ∀ v ∈ cs, v.oneCell' = true) (B : Nat) (w0 : World) (hb : Below B w0 w) (hBg : B ≤ g)
    (h : ∀ w', Hid (w'.heap[g]? = some (.cells (cur.take off ++ cs ++ cur.drop (off + cs.length)).toArray t (0, 0))) → Below B w0 w' → K (a.put o.dst (goInt m)) w') :
    if Region.wanted o (yielded ops a.tmps) = true then Oper.wp P o a w K Q else E := by
  have hw : Region.wanted o (yielded ops a.tmps) = true := by simp [Region.wanted, hgd]
  rw [if_pos hw]
  have hrun := run_copy_rows (P := P) w dT sT o.type elem g off dLen dCap ad sLen sCap z m cur.toArray t cs hu hsz hg hm hn hsrc (by simpa using hfit) h1
  unfold Oper.wp
  simp [execOp, ho, resolve, invoke, builtin, hd, hs, hrun, Result.andThen]
  refine h _ ?_ (below_setRow hb hBg _)
  have := setRow_heap w g _ (cur.take off ++ (cs ++ cur.drop (off + cs.length))).toArray t _ hg
  simpa [Hid] using this
end
/-- 'x[l:]': one address, whether room is left or not. -/
theorem run_slice_tailR {P : Program} (t e : TypeId) {z : Value} {s bytes : Nat} (ht : P.underlying t = some (.slice e)) (hinfo : (P.info? e).map (fun i => (i.zero, i.size, i.bytes)) = some (some z, s, bytes))
    (b off n c l : Nat) (i : Int) (hi : i = l) (hh : l ≤ n) (hc : n ≤ c) :
    ∃ o', (n - l = 0 ∨ o' = off + l * s) ∧ ∀ W, (Instr.slice t (.slice (some ⟨b, off, none⟩) n c) (some (.int .i64 i)) none none).run P W = .ok (.slice (some ⟨b, o', none⟩) (n - l) (c - l)) W := by
  obtain ⟨ti, hti, hz, hsize, hb⟩ := info_parts hinfo
  have he : P.elem t = e := by simp [Program.elem, ht]
  refine ⟨if c = l then off else off + l * s, ?_, fun W => ?_⟩
  · by_cases h0 : c = l
    · exact .inl (by omega)
    · exact .inr (by rw [if_neg h0])
  · rw [run_slice_l W t (some ⟨b, off, none⟩) n c (by rw [he]; exact ht) .i64 i (by omega) (by omega)]
    subst hi
    have hsz : ∀ W, (sizeOf (P.elem t)).run P W = .ok s W := by intro W; rw [he]; simp [sizeOf, typeInfo, hti, hsize]
    rw [hsz]
    simp only [Result.andThen, sliced, Int.toNat_natCast]
    by_cases h0 : c = l
    · simp [h0]
    · simp only [if_neg h0, Option.map_some]
      rw [addr_add]

/-- A row known by its block is owned. -/
theorem own_of_block {w : World} {base g n cap : Nat} {t : TypeId} {s : Nat} {xs : List Value} (h : w.heap[g]? = some (.cells xs.toArray t (0, 0))) (hb : base ≤ g) (hs : xs.length = cap * s) (hn : n ≤ cap) (hm : cap ≤ maxLen) : w.ownsRow base t s (.slice (some ⟨g, 0, none⟩) n cap) n (xs.take (n * s)) := by
  refine ⟨?_, .inr ⟨g, cap, xs.toArray, rfl, hb, h, hn, hm, by simpa using hs, by simp⟩⟩
  rw [List.length_take, hs]
  have : n * s ≤ cap * s := Nat.mul_le_mul_right _ hn
  omega
theorem made_zero2 (m : Nat) : madeCells (Value.cells (.agg #[.int .i64 0, .int .i64 0])) (m * 2) = (rows R2.vs (List.replicate m (⟨0, 0⟩ : R2))).toArray := by
  apply Array.ext
  · rw [size_madeCells]; simp [rows_len R2.vs_len]
  · intro i h1 h2
    have hi : i < m * 2 := by rw [size_madeCells] at h1; exact h1
    have e1 : (madeCells (Value.cells (.agg #[.int .i64 0, .int .i64 0])) (m * 2))[i] = .int .i64 0 := by
      have hm : i % 2 = 0 ∨ i % 2 = 1 := by omega
      rcases hm with hm | hm <;> simp [madeCells, Value.cells, hm]
    have e2 : (rows R2.vs (List.replicate m (⟨0, 0⟩ : R2)))[i]? = some (.int .i64 0) := by
      have hq : i / 2 < m := by omega
      have hx : (List.replicate m (⟨0, 0⟩ : R2))[i / 2]? = some ⟨0, 0⟩ := by simp [hq]
      have hr := rows_at R2.vs_len hx (j := i % 2) (by omega)
      rw [show i / 2 * 2 + i % 2 = i by omega] at hr
      rw [hr]
      have hm : i % 2 = 0 ∨ i % 2 = 1 := by omega
      rcases hm with hm | hm <;> simp [R2.vs, hm]
    rw [e1]
    simp only [List.getElem_toArray]
    have := List.getElem?_eq_some_iff.1 e2
    exact this.2.symm
end Go.Proofs.Ytdnkkmmkkfbhhaa

/- slices.Repeat of one element: elements are pieces (function values). -/
namespace Go.Proofs.Ytdnkkmmkkfbhhaa
open Go.RowKit
set_option linter.all false

def oneV (x : Value) : List Value := [x]
theorem rows_oneV (xs : List Value) : rows oneV xs = xs := by unfold rows oneV; induction xs <;> simp_all
theorem infoPiece : (Try.prog.info? 95).map (fun i => (i.zero, i.size, i.bytes)) = some (some Value.nilFunc, 1, 8) := by kernel_rfl
theorem oneV_len (x : Value) : (oneV x).length = 1 := rfl
theorem one_rows_Pc (k : Nat) (app : Value) (h : app.oneCell' = true) : ∀ u ∈ rows oneV (List.replicate k app), u.oneCell' = true := by rw [rows_oneV]; intro u hu; rw [List.eq_of_mem_replicate hu]; exact h
theorem made_zeroPc (m : Nat) : madeCells (Value.cells Value.nilFunc) (m * 1) = (rows oneV (List.replicate m Value.nilFunc)).toArray := by
  apply Array.ext
  · rw [size_madeCells]; simp [rows_len oneV_len]
  · intro i h1 h2
    have hi : i < m := by have hs := h1; rw [size_madeCells] at hs; omega
    have e1 : (madeCells (Value.cells Value.nilFunc) (m * 1))[i] = .nilFunc := by have hm : i % 1 = 0 := Nat.mod_one i; simp [madeCells, Value.cells, hm]
    have e2 : (rows oneV (List.replicate m Value.nilFunc))[i]? = some .nilFunc := by
      have hx : (List.replicate m Value.nilFunc)[i]? = some Value.nilFunc := by simp [hi]
      have hr := rows_at oneV_len hx (j := 0) (by omega)
      rw [show i * 1 + 0 = i by omega] at hr
      rw [hr]; rfl
    rw [e1]
    simp only [List.getElem_toArray]
    exact (List.getElem?_eq_some_iff.1 e2).2.symm

theorem mulOnePc_any (m : Nat) (w : World) (hm : m ≤ 1048576) : Calls Try.prog 75 #[.int .u64 1, .int .u64 (m : Int)] w fun e w' => e = .returned (.tuple #[.int .u64 0, .int .u64 (m : Int)]) ∧ w = w' := by
  have h := Any.bits_Mul Try.layMul 1 m (by omega) (by omega) w
  refine h.mono ?_
  rintro e w' ⟨rfl, rfl⟩
  have h1 : 1 * m / 18446744073709551616 = 0 := by omega
  have h2 : 1 * m % 18446744073709551616 = m := by omega
  rw [h1, h2]
  exact ⟨rfl, rfl⟩

/-- n times app, the rest zeros. -/
def partPc (app : Value) (n m : Nat) : List Value := rows oneV (List.replicate n app ++ List.replicate (m - n) Value.nilFunc)
theorem partPc_len (app : Value) (n m : Nat) (h : n ≤ m) : (partPc app n m).length = m * 1 := by
  unfold partPc; rw [rows_len oneV_len]; simp; omega
theorem partPc_copy' (app : Value) (n k m : Nat) (h : n + k ≤ m) : (partPc app n m).take (n * 1) ++ rows oneV (List.replicate k app) ++ (partPc app n m).drop (n * 1 + (rows oneV (List.replicate k app)).length) = partPc app (n + k) m := by
  unfold partPc
  have hl : (rows oneV (List.replicate k app)).length = k * 1 := by rw [rows_len oneV_len]; simp
  rw [hl, show n * 1 + k * 1 = (n + k) * 1 by omega, rows_take oneV_len, rows_drop oneV_len, ← rows_app, ← rows_app]
  congr 1
  rw [List.take_append_of_le_length (by simp), List.take_of_length_le (by simp)]
  rw [List.drop_append, List.drop_of_length_le (by simp)]
  simp only [List.length_replicate, List.nil_append, List.drop_replicate]
  rw [List.replicate_append_replicate]
  congr 2
  omega
theorem partPc_copy (app : Value) (n k m : Nat) (h : n + k ≤ m) : (partPc app n m).take n ++ rows oneV (List.replicate k app) ++ (partPc app n m).drop (n + (rows oneV (List.replicate k app)).length) = partPc app (n + k) m := by
  have := partPc_copy' app n k m h
  rwa [Nat.mul_one] at this
theorem partPc_at (app : Value) (n m : Nat) {w : World} {g : Nat} (h : w.heap[g]? = some (.cells (partPc app n m).toArray 95 (0, 0))) (k : Nat) (hk : k ≤ n) : ∀ j v, (rows oneV (List.replicate k app))[j]? = some v → w.cell? ((⟨g, 0, none⟩ : Addr).add j) = some v := by
  intro j v hv
  rw [addr_add, Nat.zero_add]
  have hj : j < k * 1 := by have := (List.getElem?_eq_some_iff.1 hv).1; rw [rows_len oneV_len] at this; simpa using this
  have h2 : (partPc app n m)[j]? = some v := by
    unfold partPc
    rw [rows_app, List.getElem?_append_left (by rw [rows_len oneV_len]; simp; omega)]
    have : List.replicate n app = List.replicate k app ++ List.replicate (n - k) app := by rw [List.replicate_append_replicate]; congr 1; omega
    rw [this, rows_app, List.getElem?_append_left (by rw [rows_len oneV_len]; simp; omega)]
    exact hv
  rw [cell_of_heap h]
  simpa using h2

set_option maxRecDepth 100000 in
set_option maxHeartbeats 1000000 in
theorem repeatPc_any (b off c m : Nat) (app : Value) (w : World) (hs : Sl w b off (rows oneV [app])) (happ : app.oneCell' = true) (hm : m ≤ 1048576) :
    Calls Try.prog 69 #[.slice (some ⟨b, off, none⟩) 1 c, .int .i64 m] w fun e w' => ∃ v, e = .returned v ∧ w'.ownsRow w.heap.size 95 1 v m (rows oneV (List.replicate m app)) ∧ Below w.heap.size w w' := by
  have hp0 : rows oneV (List.replicate m Value.nilFunc) = partPc app 0 m := by unfold partPc; simp
  have hmk := fun W => run_make_rows (P := Try.prog) 93 95 _ 1 8 Try.underlying93 infoPiece .i64 .i64 m (by omega) (by omega) W
  simp only [made_zeroPc, hp0] at hmk
  clear hp0
  have HMU := Lib.hid (mulOnePc_any m)
  have HI : Hid ((Try.prog.info? 95).map (·.size) = some 1) := by unfold Hid; obtain ⟨i, h1, _, h3, _⟩ := info_parts infoPiece; rw [h1]; simp [h3]
  obtain ⟨k1, HK, hk1, hk2, hk3⟩ : ∃ k1, Hid (Nat.min 1 m = k1) ∧ k1 ≤ 1 ∧ k1 ≤ m ∧ (0 < m → 0 < k1) := ⟨Nat.min 1 m, rfl, Nat.min_le_left _ _, Nat.min_le_right _ _, fun h => by show 0 < min 1 m; omega⟩
  have HLN : Hid (∀ k, (rows oneV (List.replicate k app)).length = k * 1) := by intro k; rw [rows_len oneV_len]; simp
  have HPL : Hid (∀ k, k ≤ m → (partPc app k m).length = m * 1) := fun k h => partPc_len app k m h
  have HONE : Hid (∀ k, ∀ u ∈ rows oneV (List.replicate k app), u.oneCell' = true) := fun k => one_rows_Pc k app happ
  clear happ
  have HSRC : Hid (∀ W : World, Below w.heap.size w W → ∀ j v, (rows oneV (List.replicate k1 app))[j]? = some v → W.cell? ((⟨b, off, none⟩ : Addr).add j) = some v) := by
    intro W hW j v hv
    rw [addr_add]
    refine (hs.below' hW).at ?_
    have h01 : k1 = 0 ∨ k1 = 1 := by omega
    rcases h01 with rfl | rfl
    · simp [rows] at hv
    · exact hv
  have hb0 := laid_below w (.cells (partPc app 0 m).toArray 95)
  go_enter Try.func69, Try.ntmps69
  go_wp2_with fail
  refine (HMU.out _ hm).mono ?_
  rintro e w1 ⟨rfl, hw1⟩
  subst hw1
  clear HMU
  go_wp2_with (refine wpList_copy_rows (o := ⟨some 33, _, _, _, _, _⟩) rfl (.tmp 31) (.tmp 32) 93 93 rfl 95 Try.underlying93 HI.out w.heap.size 0 m m ⟨b, off, none⟩ 1 c rfl rfl (partPc app 0 m) 95 (heap_alloc_new _ _) k1 HK.out (rows oneV (List.replicate k1 app)) (HLN.out k1) (HSRC.out _ hb0) (by rw [HLN.out, HPL.out 0 (by omega)]; omega) (HONE.out k1) w.heap.size w hb0 (Nat.le_refl _) ?_; intro w2 HG2 hB2; clear hmk)
  rw [partPc_copy app 0 k1 m (by omega), Nat.zero_add] at HG2
  go_loopw [8] (fun i wr => ∃ n, n ≤ m ∧ (0 < m → 0 < n) ∧ i = .int .i64 (n : Nat) ∧ Below w.heap.size w wr ∧ Hid (wr.heap[w.heap.size]? = some (.cells (partPc app n m).toArray 95 (0, 0)))) (fun i _ => m - (intOf i).toNat)
  case atStart => exact ⟨k1, hk2, hk3, rfl, hB2, HG2⟩
  case round =>
    obtain ⟨n, hn, hn0, rfl, hB, HG⟩ := hrel
    clear HG2 hB2 hk3
    by_cases hlt : n < m
    · have hn1 : 0 < n := hn0 (by omega)
      obtain ⟨o', ho', hsl⟩ := run_slice_tailR (P := Try.prog) 93 95 Try.underlying93 infoPiece w.heap.size 0 m m n (n : Int) rfl (by omega) (by omega)
      have ho2 : o' = n := by omega
      rw [ho2] at hsl
      clear ho2 ho' hn0
      obtain ⟨k2, HK2, hk4, hk5, hk6⟩ : ∃ k2, Hid (Nat.min n (m - n) = k2) ∧ k2 ≤ n ∧ n + k2 ≤ m ∧ 0 < k2 := ⟨Nat.min n (m - n), rfl, Nat.min_le_left _ _, by have : Nat.min n (m - n) ≤ m - n := Nat.min_le_right _ _; omega, by show 0 < min n (m - n); omega⟩
      have e1 : (n : Int) ≤ (m : Int) := by omega
      have e2 : 0 ≤ (n : Int) := by omega
      have w9 : IntKind.i64.wrap ((n : Int) + (k2 : Int)) = (n : Int) + (k2 : Int) := IntWalk.i64_in _ (by omega)
      go_wp2
      go_region_held3 (fun _ => True) (trivial) ((refine step_copy_rows (by rfl) _ _ _ _ (by rfl) 95 Try.underlying93 HI.out w.heap.size n (m - n) (m - n) ⟨w.heap.size, 0, none⟩ n m (by rfl) (by rfl) (partPc app n m) 95 (by exact HG.out) k2 HK2.out (rows oneV (List.replicate k2 app)) (HLN.out k2) (by exact partPc_at app n m HG.out k2 hk4) (by rw [HLN.out, HPL.out n (by omega)]; omega) (HONE.out k2) w.heap.size w (by exact hB.drew) (Nat.le_refl _) ?_; intro w3 HG3 hB3))
      all_goals
        rw [partPc_copy app n k2 m hk5] at HG3
        clear w9
        go_wp2
        go_roundw
        case rel => exact ⟨n + k2, hk5, by omega, by go_num, hB3, HG3⟩
        case measure => simp [intOf]; omega
    · obtain rfl : m = n := by omega
      have hown := own_of_block (s := 1) (n := m) HG.out (Nat.le_refl w.heap.size) (HPL.out m (Nat.le_refl _)) (Nat.le_refl _) (by unfold maxLen; omega)
      have hpm : partPc app m m = rows oneV (List.replicate m app) := by unfold partPc; simp
      rw [List.take_of_length_le (by rw [HPL.out m (Nat.le_refl _)]; exact Nat.le_refl _), hpm] at hown
      go_wp2
      go_ret
      exact ⟨_, rfl, hown, hB⟩
end Go.Proofs.Ytdnkkmmkkfbhhaa

/- The pieces of a chain: loop and incs. -/
namespace Go.Proofs.Ytdnkkmmkkfbhhaa
open Go.RowKit
set_option linter.all false

theorem emit_any (lo ga n : Nat) (kind reg : Int) (u1 u2 : Value) (w : World) (h : St lo ga n w) (hu1 : SpotP lo w u1) (hu2 : SpotP lo w u2) (hn : n ≤ 1000000) :
    Calls Try.prog 68 #[.pointer (some ⟨ga, 0, none⟩), .int .i64 kind, .int .i64 reg, u1, u2] w (Done lo ga (n + 1) w) := by
  obtain ⟨V, P, cs, ps, h⟩ := h
  refine (emitX_any lo ga n kind reg u1 u2 V P cs ps w h hu1 hu2 hn).mono ?_
  rintro e w' ⟨rfl, hx, V', P', cs', p, h', -, -⟩
  exact ⟨rfl, ⟨_, _, _, _, h'⟩, hx⟩
/-- A variable of a number. -/
def BoxI (W : World) (b : Nat) (x : Int) : Prop := W.heap[b]? = some (.cells #[.int .i64 x] 2 (0, 0))
theorem BoxI.ext {lo ga b : Nat} {x : Int} {W W' : World} (h : BoxI W b x) (e : Ext lo ga W W') : BoxI W' b x := e.kept _ _ _ _ h (by decide) (by decide) (by decide) (.inl (by decide))
theorem BoxI.below {b : Nat} {x : Int} {W W' : World} (h : BoxI W b x) (e : Below W.heap.size W W') : BoxI W' b x := (e.block _ (heap_lt h)).trans h
theorem BoxI.cell {b : Nat} {x : Int} {W : World} (h : BoxI W b x) : W.cell? ⟨b, 0, none⟩ = some (.int .i64 x) := by rw [cell_of_heap h]; rfl

set_option maxRecDepth 100000 in
set_option maxHeartbeats 2000000 in
theorem loop1_any (lo ga n bf bt bk k : Nat) (from_ to_ : Int) (u : Value) (w : World) (h : St lo ga n w) (hu : SpotP lo w u) (hn : n + (k + 1) ≤ 100000) (hk : 1 ≤ k) (hbf : BoxI w bf from_) (hbt : BoxI w bt to_) (hbk : BoxI w bk k) :
    Calls Try.prog 67 #[.pointer (some ⟨ga, 0, none⟩), u, .pointer (some ⟨bf, 0, none⟩), .pointer (some ⟨bk, 0, none⟩), .pointer (some ⟨bt, 0, none⟩)] w (Done lo ga (n + (k + 1)) w) := by
  obtain ⟨A, rfl⟩ := hu.form
  obtain ⟨w1, HW1, b1, x1⟩ := al1 w (.cells #[.int .i64 0] 88)
  have E1 := Lib.hid (Ext.of_below h.lt h.lo1 b1)
  have S1 := Lib.hid (h.below b1)
  have SP1 : Hid (Spot lo w1 w.heap.size) := ⟨h.lo1, 0, x1⟩
  have U1 := Lib.hid (hu.below b1)
  have F1 := Lib.hid (hbf.below b1); have T1 := Lib.hid (hbt.below b1); have K1 := Lib.hid (hbk.below b1)
  clear x1 b1 h hu hbf hbt hbk
  go_enter Try.func67, Try.ntmps67
  go_wp2_with fail
  rw [← HW1.out]
  refine (here_any lo ga n _ w1 S1.out SP1.out).mono ?_
  rintro e w2 ⟨rfl, s2, e2⟩
  have S2 := Lib.hid s2; have E2 := Lib.hid e2
  have f2 := (F1.out.ext E2.out).cell
  clear s2 e2
  go_wp2_with fail
  refine (emit_any lo ga n 1 from_ (.pointer none) (.pointer A) w2 S2.out (.inl rfl) (U1.out.ext E2.out) (by omega)).mono ?_
  rintro e w3 ⟨rfl, s3, e3⟩
  have S3 := Lib.hid s3; have E3 := Lib.hid (E2.out.trans e3)
  clear s3 e3 f2
  go_wp2
  go_loopw [8] (fun i wr => ∃ j : Nat, 1 ≤ j ∧ j ≤ k ∧ i = .int .i64 j ∧ Hid (St lo ga (n + j) wr) ∧ Hid (Ext lo ga w1 wr)) (fun i _ => k - (intOf i).toNat)
  case atStart => exact ⟨1, Nat.le_refl _, hk, rfl, S3, E3⟩
  case round =>
    obtain ⟨j, hj1, hj2, rfl, SR, ER⟩ := hrel
    have rk := (K1.out.ext ER.out).cell
    have rt := (T1.out.ext ER.out).cell
    by_cases hlt : j < k
    · go_wp2_with fail
      refine (emit_any lo ga (n + j) 0 to_ (.pointer none) (.pointer none) _ SR.out (.inl rfl) (.inl rfl) (by omega)).mono ?_
      rintro e w4 ⟨rfl, s4, e4⟩
      have S4 := Lib.hid s4; have E4 := Lib.hid (ER.out.trans e4)
      clear s4 e4 rk rt
      go_wp2
      go_roundw
      case rel => exact ⟨j + 1, by omega, by omega, by go_num, S4, E4⟩
      case measure => simp [intOf]; omega
    · obtain rfl : k = j := by omega
      go_wp2_with fail
      refine (emit_any lo ga (n + k) 0 to_ (.pointer (some ⟨w.heap.size, 0, none⟩)) (.pointer none) _ SR.out (.inr ⟨_, rfl, SP1.out.ext ER.out⟩) (.inl rfl) (by omega)).mono ?_
      rintro e w4 ⟨rfl, s4, e4⟩
      have S4 := Lib.hid s4; have E4 := Lib.hid e4
      clear s4 e4
      go_wp2
      go_end0
      exact ⟨rfl, S4.out, (E1.out.trans ER.out).trans E4.out⟩

/-- A value that is a piece of L instructions. -/
def PieceV (lo ga : Nat) (v : Value) (L : Nat) (W : World) : Prop := ∃ p : Pc, v = p.v ∧ p.len = L ∧ PieceOk lo ga W p
theorem PieceV.below {lo ga L : Nat} {v : Value} {W W' : World} (h : PieceV lo ga v L W) (hb : Below W.heap.size W W') : PieceV lo ga v L W' := by
  obtain ⟨p, h1, h2, h3⟩ := h; exact ⟨p, h1, h2, h3.below hb⟩
theorem PieceV.form {lo ga L : Nat} {v : Value} {W : World} (h : PieceV lo ga v L W) : ∃ F caps, v = .func (.func F) #[] caps := by
  obtain ⟨p, h1, h2, h3⟩ := h; exact ⟨p.F, p.caps, h1⟩
def LoopPost (lo ga k : Nat) (w : World) (e : Ending) (w' : World) : Prop := (∃ v, e = .returned v ∧ PieceV lo ga v (k + 1) w') ∧ Below w.heap.size w w'

set_option maxRecDepth 100000 in
set_option maxHeartbeats 400000 in
theorem loop_any (lo ga k : Nat) (from_ to_ : Int) (w : World) (hk : 1 ≤ k) (hl : lo ≤ w.heap.size) (hg : ga < w.heap.size) :
    Calls Try.prog 54 #[.int .i64 from_, .int .i64 to_, .int .i64 k] w (LoopPost lo ga k w) := by
  obtain ⟨w3, HW3, b3, x1, x2, x3, z3⟩ := al3 w (.cells #[.int .i64 from_] 2) (.cells #[.int .i64 to_] 2) (.cells #[.int .i64 k] 2)
  have HP : Hid (PieceV lo ga (.func (.func 67) #[] #[.pointer (some ⟨w.heap.size, 0, none⟩), .pointer (some ⟨w.heap.size + 1 + 1, 0, none⟩), .pointer (some ⟨w.heap.size + 1, 0, none⟩)]) (k + 1) w3) :=
    ⟨⟨67, #[.pointer (some ⟨w.heap.size, 0, none⟩), .pointer (some ⟨w.heap.size + 1 + 1, 0, none⟩), .pointer (some ⟨w.heap.size + 1, 0, none⟩)], k + 1⟩, rfl, rfl,
      by omega, by omega, enters_of' (P := Try.prog) Try.func67 (by kernel_rfl) rfl,
      fun W n u e s hn hu => loop1_any lo ga n _ _ _ k from_ to_ u W s hu hn hk (BoxI.ext x1 e) (BoxI.ext x2 e) (BoxI.ext x3 e)⟩
  have HB := Lib.hid b3
  clear x1 x2 x3 z3 b3
  go_enter Try.func54, Try.ntmps54
  go_wp2
  rw [← HW3.out]
  go_ret
  exact ⟨⟨_, rfl, HP.out⟩, HB.out⟩

set_option maxRecDepth 100000 in
set_option maxHeartbeats 400000 in
theorem incs1_any (lo ga n br : Nat) (reg : Int) (u : Value) (w : World) (h : St lo ga n w) (hu : SpotP lo w u) (hn : n + 1 ≤ 100000) (hbr : BoxI w br reg) :
    Calls Try.prog 70 #[.pointer (some ⟨ga, 0, none⟩), u, .pointer (some ⟨br, 0, none⟩)] w (Done lo ga (n + 1) w) := by
  obtain ⟨A, rfl⟩ := hu.form
  have r0 := hbr.cell
  have HS := Lib.hid h; have HU := Lib.hid hu
  clear h hu hbr
  go_enter Try.func70, Try.ntmps70
  go_wp2_with fail
  refine (emit_any lo ga n 0 reg (.pointer A) (.pointer none) w HS.out HU.out (.inl rfl) (by omega)).mono ?_
  rintro e w4 ⟨rfl, s4, e4⟩
  have S4 := Lib.hid s4; have E4 := Lib.hid e4
  clear s4 e4
  go_wp2
  go_end0
  exact ⟨rfl, S4.out, E4.out⟩

def IncsPost (lo ga k : Nat) (w : World) (e : Ending) (w' : World) : Prop := (∃ A c, e = .returned (.slice A k c) ∧ PiecesV lo ga (.slice A k c) k k w') ∧ Below w.heap.size w w'
set_option maxRecDepth 100000 in
set_option maxHeartbeats 400000 in
theorem incs_any (lo ga k : Nat) (reg : Int) (w : World) (hk : k ≤ 1000) (hl : lo ≤ w.heap.size) (hg : ga < w.heap.size) :
    Calls Try.prog 55 #[.int .i64 reg, .int .i64 k] w (IncsPost lo ga k w) := by
  obtain ⟨w2, HW2, b2, x1, x2⟩ := al2 w (.cells #[.int .i64 reg] 2) (.cells #[.func (.func 70) #[] #[.pointer (some ⟨w.heap.size, 0, none⟩)]] 95)
  have HP : Hid (PieceOk lo ga w2 ⟨70, #[.pointer (some ⟨w.heap.size, 0, none⟩)], 1⟩) :=
    ⟨Nat.le_trans hl b2.size, Nat.lt_of_lt_of_le hg b2.size, enters_of' (P := Try.prog) Try.func70 (by kernel_rfl) rfl,
      fun W n u e s hn hu => incs1_any lo ga n _ reg u W s hu hn (BoxI.ext x1 e)⟩
  have HS : Hid (Sl w2 (w.heap.size + 1) 0 (rows oneV [.func (.func 70) #[] #[.pointer (some ⟨w.heap.size, 0, none⟩)]])) := sl_block x2
  have HB := Lib.hid b2
  clear x1 x2 b2
  go_enter Try.func55, Try.ntmps55
  go_wp2_with fail
  rw [← HW2.out]
  refine (repeatPc_any _ 0 _ k _ w2 HS.out rfl (by omega)).mono ?_
  rintro e w3 ⟨v, rfl, own, hb⟩
  obtain ⟨A, c, rfl⟩ := own_form own
  have HP3 := HP.out.below hb
  rw [rows_oneV] at own
  have OWN := Lib.hid own
  have HB3 := Lib.hid (below_step HB.out hb)
  clear own hb
  go_wp2
  go_ret
  refine ⟨⟨A, c, rfl, List.replicate k ⟨70, #[.pointer (some ⟨w.heap.size, 0, none⟩)], 1⟩, by simp, by simp [lens], ⟨_, by rw [List.map_replicate]; exact OWN.out⟩, fun p hp => ?_⟩, HB3.out⟩
  rw [List.eq_of_mem_replicate hp]
  exact HP3
end Go.Proofs.Ytdnkkmmkkfbhhaa

/- The assembler's methods chain and split. -/
namespace Go.Proofs.Ytdnkkmmkkfbhhaa
open Go.RowKit
set_option linter.all false

/-- A row of pointers to spots. -/
def spotPtr (s : Nat) : Value := .pointer (some ⟨s, 0, none⟩)
def SpotsV (lo b : Nat) (v : Value) (k : Nat) (W : World) : Prop := ∃ xs : List Nat, xs.length = k ∧ W.ownsRow b 86 1 v k (xs.map spotPtr) ∧ ∀ s ∈ xs, Spot lo W s
theorem SpotsV.ext {lo ga b k : Nat} {v : Value} {W W' : World} (h : SpotsV lo b v k W) (e : Ext lo ga W W') : SpotsV lo b v k W' := by
  obtain ⟨xs, h1, h2, h3⟩ := h
  exact ⟨xs, h1, own_ext h2 e (by decide) (by decide) (by decide) (.inl (by decide)), fun s hs => (h3 s hs).ext e⟩
theorem SpotsV.below {lo b k : Nat} {v : Value} {W W' : World} (h : SpotsV lo b v k W) (e : Below W.heap.size W W') : SpotsV lo b v k W' := by
  obtain ⟨xs, h1, h2, h3⟩ := h
  exact ⟨xs, h1, own_below' h2 e, fun s hs => (h3 s hs).below e⟩
theorem SpotsV.at {lo b k c i : Nat} {A : Option Addr} {W : World} (h : SpotsV lo b (.slice A k c) k W) (hi : i < k) : ∃ g s, A = some ⟨g, 0, none⟩ ∧ W.cell? ⟨g, i, none⟩ = some (.pointer (some ⟨s, 0, none⟩)) ∧ Spot lo W s := by
  obtain ⟨xs, h1, h2, h3⟩ := h
  obtain ⟨g, rfl, _, _⟩ := own_addr0 h2 (by omega)
  have hx : xs[i]? = some (xs[i]'(by omega)) := List.getElem?_eq_getElem (by omega)
  have := (sl_of_own h2).at (j := i) (u := spotPtr (xs[i]'(by omega))) (by rw [List.getElem?_map, hx]; rfl)
  rw [Nat.zero_add] at this
  exact ⟨g, _, rfl, this, h3 _ (List.mem_of_getElem? hx)⟩
theorem infoPSpot : (Try.prog.info? 86).map (fun i => (i.zero, i.size, i.bytes)) = some (some (Value.pointer none), 1, 8) := by kernel_rfl
theorem AS.rowgrow {lo ga n k b m : Nat} {V P v : Value} {cs xs : List Value} {ps : List PatchV} {W W1 : World} (h : AS lo ga n k V P cs ps W) (ho : W.ownsRow b 86 1 v m xs) (hav : ∀ p ∈ ps, some p.bt ≠ v.ownBlock ∧ some p.bo ≠ v.ownBlock) (hg : W.grownBy W1 v.ownBlock) : AS lo ga n k V P cs ps W1 := by
  have hs : ∀ u, SpotP lo W u → SpotP lo W1 u := by
    intro u hu
    rcases hu with hu | ⟨s, hu, hl, x, hx⟩
    · exact .inl hu
    · exact .inr ⟨s, hu, hl, x, grown_keep hg hx (own_ne_block ho hx (by decide))⟩
  refine ⟨h.lo0, grown_keep hg h.var (own_ne_block ho h.var (by decide)), own_grown h.list hg (own_ne_own h.list ho (by decide)), own_grown h.pats hg (own_ne_own h.pats ho (by decide)), fun p hp => ?_⟩
  obtain ⟨a, ⟨k, hk, h1⟩, ⟨u, hu, h2⟩, ⟨z, hz, h3⟩⟩ := h.ok p hp
  exact ⟨grown_keep hg a (own_ne_block ho a (by decide)), ⟨k, hk, grown_keep hg h1 (own_ne_block ho h1 (by decide))⟩, ⟨u, hs u hu, grown_keep hg h2 (hav p hp).1⟩, ⟨z, hs z hz, grown_keep hg h3 (hav p hp).2⟩⟩
theorem Pc.at {b n c i : Nat} {e : TypeId} {A : Option Addr} {ps : List Pc} {W : World} (h : W.ownsRow b e 1 (.slice A n c) n (ps.map Pc.v)) (hl : ps.length = n) (hi : i < n) : ∃ g p, A = some ⟨g, 0, none⟩ ∧ W.cell? ⟨g, i, none⟩ = some (.func (.func p.F) #[] p.caps) ∧ Hid (ps[i]? = some p) := by
  obtain ⟨g, rfl, _, _⟩ := own_addr0 h (by omega)
  have hx : ps[i]? = some (ps[i]'(by omega)) := List.getElem?_eq_getElem (by omega)
  have := (sl_of_own h).at (j := i) (u := (ps[i]'(by omega)).v) (by rw [List.getElem?_map, hx]; rfl)
  rw [Nat.zero_add] at this
  exact ⟨g, _, rfl, this, hx⟩

set_option maxRecDepth 100000 in
set_option maxHeartbeats 2000000 in
theorem chain_any (lo ga n m L : Nat) (v u : Value) (w : World) (h : St lo ga n w) (hu : SpotP lo w u) (hv : PiecesV lo ga v m L w) (hn : n + L ≤ 100000) (hm : m ≤ 1000) :
    Calls Try.prog 53 #[.pointer (some ⟨ga, 0, none⟩), u, v] w (Done lo ga (n + L) w) := by
  obtain ⟨A0, rfl⟩ := hu.form
  obtain ⟨ps, hl, hL, ⟨b, own⟩, hok⟩ := hv
  obtain ⟨A, c, rfl⟩ := own_form own
  have HS := Lib.hid h; have HU := Lib.hid hu; have HL := Lib.hid hl; have HLL := Lib.hid hL; have OWN := Lib.hid own; have HOK := Lib.hid hok
  have HLT := Lib.hid h.lt; have HLO := Lib.hid h.lo1
  clear h hu hl hL own hok
  have w9 : IntKind.i64.wrap ((m : Int) - 1) = (m : Int) - 1 := IntWalk.i64_in _ (by omega)
  go_enter Try.func53, Try.ntmps53
  go_wp2
  go_loopw [11] (fun i wr => ∃ k : Nat, k ≤ m ∧ i = .int .i64 k ∧ Hid (St lo ga (n + lens (ps.take k)) wr) ∧ Hid (Ext lo ga w wr)) (fun i _ => m - (intOf i).toNat)
  case atStart => exact ⟨0, Nat.zero_le _, rfl, HS, Ext.refl _ _ _⟩
  case round =>
    obtain ⟨k, hk, rfl, SR, ER⟩ := hrel
    by_cases hlt : k < m
    · obtain ⟨g, p, rfl, q0, HX⟩ := Pc.at (own_ext OWN.out ER.out (by decide) (by decide) (by decide) (.inl (by decide))) HL.out hlt
      have PO := Lib.hid ((HOK.out p (List.mem_of_getElem? HX.out)).ext ER.out)
      have LT := Lib.hid (lens_take HX.out)
      have hle : Hid (n + lens (ps.take k) + p.len ≤ 100000) := by have h1 := lens_le ps (k + 1); have h2 := LT.out; have h3 := HLL.out; unfold Hid; omega
      have hE := PO.out.ent
      by_cases hlast : k + 1 < m
      · have i1 : (k : Int) < (m : Int) - 1 := by omega
        obtain ⟨w1, HW1, b1, x1⟩ := al1 wr (.cells #[.int .i64 0] 88)
        have E1 := Lib.hid (Ext.of_below SR.out.lt SR.out.lo1 b1)
        have SP : Hid (Spot lo w1 wr.heap.size) := ⟨SR.out.lo1, 0, x1⟩
        have S1 := Lib.hid (SR.out.below b1)
        have q1 := cell_step q0 b1
        rw [HW1.out] at q1
        clear x1 b1
        go_wp2_with fail
        rw [← HW1.out]
        refine (PO.out.run w1 _ _ E1.out S1.out hle.out (.inr ⟨_, rfl, SP.out⟩)).mono ?_
        rintro e w2 ⟨rfl, s2, e2⟩
        have S2 := Lib.hid s2; have E2 := Lib.hid e2
        clear s2 e2 q0 q1 hE
        go_wp2_with fail
        refine (here_any lo ga _ _ w2 S2.out (SP.out.ext E2.out)).mono ?_
        rintro e w3 ⟨rfl, s3, e3⟩
        have S3 : Hid (St lo ga (n + lens (ps.take (k + 1))) w3) := by have := LT.out; unfold Hid; rw [this, ← Nat.add_assoc]; exact s3
        have E3 := Lib.hid (((ER.out.trans E1.out).trans E2.out).trans e3)
        clear s3 e3
        go_wp2
        go_roundw
        case rel => exact ⟨k + 1, by omega, by go_num, S3, E3⟩
        case measure => simp [intOf]; omega
      · have i1 : ¬ (k : Int) < (m : Int) - 1 := by omega
        go_wp2_with fail
        refine (PO.out.run wr _ _ (Ext.refl _ _ _) SR.out hle.out (HU.out.ext ER.out)).mono ?_
        rintro e w2 ⟨rfl, s2, e2⟩
        have S3 : Hid (St lo ga (n + lens (ps.take (k + 1))) w2) := by have := LT.out; unfold Hid; rw [this, ← Nat.add_assoc]; exact s2
        have E3 := Lib.hid (ER.out.trans e2)
        clear s2 e2 q0 hE
        go_wp2
        go_roundw
        case rel => exact ⟨k + 1, by omega, by go_num, S3, E3⟩
        case measure => simp [intOf]; omega
    · obtain rfl : m = k := by omega
      go_wp2
      go_end0
      have h1 := SR.out
      rw [List.take_of_length_le (by have := HL.out; omega), HLL.out] at h1
      exact ⟨rfl, h1, ER.out⟩

/-- The starts of a split so far. -/
def Avoid (ps : List PatchV) (v : Value) : Prop := ∀ p ∈ ps, some p.bt ≠ v.ownBlock ∧ some p.bo ≠ v.ownBlock
set_option maxRecDepth 100000 in
set_option maxHeartbeats 2000000 in
theorem split_any (lo ga n m L : Nat) (from_ to_ : Int) (v : Value) (w : World) (h : St lo ga n w) (hv : ThunksV lo ga v m L w) (hn : n + (m + 1 + L) ≤ 100000) (hm : m ≤ 1000) :
    Calls Try.prog 57 #[.pointer (some ⟨ga, 0, none⟩), .int .i64 from_, .int .i64 to_, v] w (Done lo ga (n + (m + 1 + L)) w) := by
  obtain ⟨A, c, rfl⟩ : ∃ A c, v = .slice A m c := by obtain ⟨ps, hl, hL, ⟨b, own⟩, hq, hok⟩ := hv; exact own_form own
  have HV := Lib.hid hv
  have HLT := Lib.hid h.lt; have HLO := Lib.hid h.lo1
  obtain ⟨w1, HW1, b1, x1⟩ := al1 w (.cells #[.int .i64 0] 88)
  have E1 := Lib.hid (Ext.of_below h.lt h.lo1 b1)
  have S1 := Lib.hid (h.below b1)
  have SP1 : Hid (Spot lo w1 w.heap.size) := ⟨h.lo1, 0, x1⟩
  have BS1 : Hid (w.heap.size ≤ w1.heap.size) := b1.size
  clear x1 b1 h hv
  go_enter Try.func57, Try.ntmps57
  go_wp2_with fail
  rw [← HW1.out]
  refine (here_any lo ga n _ w1 S1.out SP1.out).mono ?_
  rintro e w2 ⟨rfl, s2, e2⟩
  obtain ⟨V2, P2, cs2, ps2, s2⟩ := s2
  obtain ⟨w3, HW3, b3, x3⟩ := al1 w2 (.cells #[] 86)
  have OE : Hid (SpotsV lo w1.heap.size (.slice (some ⟨w2.heap.size, 0, none⟩) 0 0) 0 w3) := ⟨[], rfl, by rw [HW3.out]; exact own_base (own_empty w2 86 1) e2.size, by simp⟩
  have S3 := Lib.hid (s2.below b3)
  have E3 := Lib.hid (e2.trans (Ext.of_below s2.lt s2.lo1 b3))
  have AV : Hid (Avoid ps2 (.slice (some ⟨w2.heap.size, 0, none⟩) 0 0)) := by
    intro p hp
    obtain ⟨a, ⟨k, hk, h1⟩, ⟨u, hu, h2⟩, ⟨z, hz, h3⟩⟩ := s2.ok p hp
    have h4 := heap_lt h2; have h5 := heap_lt h3
    simp only [Value.ownBlock]
    exact ⟨fun e => by injection e with e; omega, fun e => by injection e with e; omega⟩
  clear s2 e2 x3 b3
  go_wp2_with fail
  rw [← HW3.out]
  go_loopw [9, 21] (fun sv i wr => ∃ (k : Nat) (V P : Value) (cs : List Value) (ps : List PatchV) (B : Option Addr) (d : Nat), k ≤ m ∧ i = .int .i64 k ∧ sv = .slice B k d ∧ Hid (SpotsV lo w1.heap.size (.slice B k d) k wr) ∧ Hid (AS lo ga (n + k) (n + k) V P cs ps wr) ∧ Hid (Avoid ps (.slice B k d)) ∧ Hid (Ext lo ga w1 wr)) (fun _ i _ => m - (intOf i).toNat)
  case atStart => exact ⟨0, V2, P2, cs2, ps2, _, _, Nat.zero_le _, rfl, rfl, OE, S3, AV, E3⟩
  case round =>
    obtain ⟨k, V, P, cs, ps, B, d, hk, rfl, rfl, SV, SR, AVR, ER⟩ := hrel
    by_cases hlt : k < m
    · obtain ⟨w4, HW4, b4, x4, y4⟩ := al2 wr (.cells #[.int .i64 0] 88) (.cells #[.pointer (some ⟨wr.heap.size, 0, none⟩)] 86)
      have SP4 : Hid (Spot lo w4 wr.heap.size) := ⟨SR.out.lo1, 0, x4⟩
      have SV4 := Lib.hid (SV.out.below b4)
      obtain ⟨xs, hx1, hx2, hx3⟩ := SV4.out
      have S4 := Lib.hid (SR.out.below b4)
      have E4 := Lib.hid (ER.out.trans (Ext.of_below SR.out.lt SR.out.lo1 b4))
      have src4 : Src 1 w4 (.slice (some ⟨wr.heap.size + 1, 0, none⟩) 1 1) 1 [.pointer (some ⟨wr.heap.size, 0, none⟩)] := Src.of_sl (sl_block y4) rfl
      have HX1 := Lib.hid hx1; have HX3 := Lib.hid hx3; have HX2 := Lib.hid hx2
      have hbs : w1.heap.size ≤ w4.heap.size := E4.out.size
      clear x4 y4 b4 hx1 hx3
      go_wp2_with (at_builtin; rw [← HW4.out]; refine wpList_appy rfl _ _ _ rfl Try.underlying71 infoPSpot rfl (by omega) w1.heap.size hx2 hbs rfl src4 rfl (by simp [Value.oneCell']) (by unfold maxLen; omega) (by omega) ?_; intro v5 w5 own5 hg5 hw5; obtain ⟨B5, d5, rfl⟩ := own_form own5; have S5 := Lib.hid (S4.out.rowgrow HX2.out AVR.out hg5); have SP5 : Hid (Spot lo w5 wr.heap.size) := (by (obtain ⟨hl5, x5, hx5⟩ := SP4.out); exact ⟨hl5, x5, grown_keep hg5 hx5 (own_ne_block HX2.out hx5 (by decide))⟩); have E5 := Lib.hid (E4.out.after S1.out.lt S1.out.lo1 ((Below.refl _ _).grown hg5 hbs (fun q hq => (HX2.out.lt q hq).1))); have SX5 : Hid (∀ s ∈ xs ++ [wr.heap.size], Spot lo w5 s) := (by (intro s hs); (rcases List.mem_append.1 hs with hs | hs); (obtain ⟨hl5, x5, hx5⟩ := HX3.out s hs); (exact ⟨hl5, x5, grown_keep hg5 hx5 (own_ne_block HX2.out hx5 (by decide))⟩); (rw [List.mem_singleton] at hs); (rw [hs]; exact SP5.out)); have SV5 : Hid (SpotsV lo w1.heap.size (.slice B5 (k + 1) d5) (k + 1) w5) := ⟨xs ++ [wr.heap.size], by rw [List.length_append, HX1.out]; rfl, by rw [List.map_append]; exact own5, SX5.out⟩; have AV5 : Hid (Avoid ps (.slice B5 (k + 1) d5)) := (by (intro p hp); (rcases hw5 with hw5 | hw5); (rw [hw5]; exact AVR.out p hp); (rw [hw5]); (obtain ⟨a, ⟨k7, hk7, h1⟩, ⟨u, hu, h2⟩, ⟨z, hz, h3⟩⟩ := S4.out.ok p hp); (have h4 := heap_lt h2); (have h5 := heap_lt h3); (exact ⟨fun e => by injection e with e; omega, fun e => by injection e with e; omega⟩)); have OL5 : Hid (∀ q, (Value.slice B5 (k + 1) d5).ownBlock = some q → q < w5.heap.size) := (fun q hq => (own5.lt q hq).2); clear own5 hg5 hw5 src4 hx2)
      refine (emitX_any lo ga (n + k) 1 from_ (.pointer none) (.pointer (some ⟨wr.heap.size, 0, none⟩)) V P cs ps w5 S5.out (.inl rfl) (.inr ⟨_, rfl, SP5.out⟩) (by omega)).mono ?_
      rintro e w6 ⟨rfl, e6, V6, P6, cs6, p6, s6, hp1, hp2⟩
      have S6 := Lib.hid s6
      have SV6 := Lib.hid (SV5.out.ext e6)
      have E6 := Lib.hid (E5.out.trans e6)
      have AV6 : Hid (Avoid (ps ++ [p6]) (.slice B5 (k + 1) d5)) := by
        intro p hp
        rcases List.mem_append.1 hp with hp | hp
        · exact AV5.out p hp
        · rw [List.mem_singleton] at hp; subst hp
          have := OL5.out
          exact ⟨fun e => by have := this _ e.symm; omega, fun e => by have := this _ e.symm; omega⟩
      clear s6 e6 hp1 hp2 hbs
      go_wp2
      go_roundw
      case rel => exact ⟨k + 1, V6, P6, cs6, _, _, _, by omega, by go_num, rfl, SV6, S6, AV6, E6⟩
      case measure => simp [intOf]; omega
    · obtain rfl : m = k := by omega
      clear OE S3 E3 AV
      go_wp2_with fail
      refine (emit_any lo ga (n + m) 0 to_ (.pointer (some ⟨w.heap.size, 0, none⟩)) (.pointer none) _ ⟨_, _, _, _, SR.out⟩ (.inr ⟨_, rfl, SP1.out.ext ER.out⟩) (.inl rfl) (by omega)).mono ?_
      rintro e w5 ⟨rfl, s5, e5⟩
      have S5 := Lib.hid s5
      have SV5 := Lib.hid (SV.out.ext e5)
      have E5 := Lib.hid (E1.out.trans (ER.out.trans e5))
      obtain ⟨ps9, hl, hL, ⟨b9, own9⟩, hq9, hok⟩ := HV.out.ext E5.out
      have HL := Lib.hid hl; have HLL := Lib.hid hL; have OWN := Lib.hid own9; have HQ := Lib.hid hq9; have HOK := Lib.hid hok
      clear s5 e5 SV SR AVR ER hl hL own9 hq9 hok
      go_wp2
      go_loopw [40] (fun i wr => ∃ k : Nat, k ≤ m ∧ i = .int .i64 k ∧ Hid (St lo ga (n + m + 1 + lens (ps9.take k)) wr) ∧ Hid (Ext lo ga w5 wr)) (fun i _ => m - (intOf i).toNat)
      case atStart => exact ⟨0, Nat.zero_le _, rfl, S5, Ext.refl _ _ _⟩
      case round =>
        obtain ⟨k, hk, rfl, SR, ER⟩ := hrel
        by_cases hlt : k < m
        · obtain ⟨g, p, rfl, q0, HX⟩ := Pc.at (own_ext OWN.out ER.out (by decide) (by decide) (by decide) (.inr HQ.out)) HL.out hlt
          obtain ⟨g2, s, hB, q2, sp⟩ := (SV5.out.ext ER.out).at hlt
          subst hB
          have SP := Lib.hid sp
          have PO := Lib.hid ((HOK.out p (List.mem_of_getElem? HX.out)).ext ER.out)
          have LT := Lib.hid (lens_take HX.out)
          have hle : Hid (n + m + 1 + lens (ps9.take k) + p.len ≤ 100000) := by have h1 := lens_le ps9 (k + 1); have h2 := LT.out; have h3 := HLL.out; unfold Hid; omega
          have hE := PO.out.ent
          clear sp
          go_wp2_with fail
          refine (here_any lo ga _ _ _ SR.out SP.out).mono ?_
          rintro e w7 ⟨rfl, s7, e7⟩
          have S7 := Lib.hid s7; have E7 := Lib.hid e7
          clear s7 e7 q0 q2
          go_wp2_with fail
          have hrun := PO.out.run w7 _ E7.out S7.out hle.out
          rw [Array.empty_append] at hrun
          refine hrun.mono ?_
          clear hrun
          rintro e w8 ⟨rfl, s8, e8⟩
          have S8 : Hid (St lo ga (n + m + 1 + lens (ps9.take (k + 1))) w8) := by have := LT.out; unfold Hid; rw [this, ← Nat.add_assoc]; exact s8
          have E8 := Lib.hid ((ER.out.trans E7.out).trans e8)
          clear s8 e8 hE
          go_wp2
          go_roundw
          case rel => exact ⟨k + 1, by omega, by go_num, S8, E8⟩
          case measure => simp [intOf]; omega
        · obtain rfl : m = k := by omega
          go_wp2
          go_end0
          have h1 := SR.out
          rw [List.take_of_length_le (by have := HL.out; omega), HLL.out] at h1
          exact ⟨rfl, by rw [show n + (m + 1 + L) = n + m + 1 + L by omega]; exact h1, E5.out.trans ER.out⟩
end Go.Proofs.Ytdnkkmmkkfbhhaa

/- Slices of pieces, for regions walked by facts: a literal, an append. -/
namespace Go.Proofs.Ytdnkkmmkkfbhhaa
open Go.RowKit
set_option linter.all false

theorem op_appendO {P : Program} {o : Oper} {a : Act} {w : World} {K : Act → World → Prop} {Q : Exit → Act → World → Prop} (s x : Operand) (t : TypeId)
    (ho : o.op = .call { callee := .builtin .append, args := #[s, x], argTypes := #[t, t] })
    {e : TypeId} {z : Value} {size bytes : Nat} (ht : P.underlying t = some (.slice e)) (hinfo : (P.info? e).map (fun i => (i.zero, i.size, i.bytes)) = some (some z, size, bytes)) (hzs : z.cells.size = size) (hsz : 0 < size)
    {b1 g n : Nat} {xs : List Value} (hs : a.eval s = .slice (some ⟨g, 0, none⟩) n n) (hg : w.ownsRow b1 e size (.slice (some ⟨g, 0, none⟩) n n) n xs)
    {b2 m : Nat} {u : Value} {ys : List Value} (hx : a.eval x = u) (hy : w.ownsRow b2 e size u m ys) (h1 : ∀ u ∈ ys, u.oneCell' = true) (h63 : n + m ≤ maxLen) (hbytes : (n + m) * bytes ≤ 140737488355328)
    (h : ∀ v' w', (∃ b, w'.ownsRow b e size v' (n + m) (xs ++ ys)) → Below w.heap.size w w' → K (a.put o.dst v') w') : o.wp P a w K Q := by
  obtain ⟨i, hi, hz, hsize, hby⟩ := info_parts hinfo
  have hxl := hg.1
  have hyl := hy.1
  by_cases hm : m = 0
  · subst hm
    have hyn : ys = [] := List.eq_nil_of_length_eq_zero (by simpa using hyl)
    subst hyn
    rcases hy.2 with ⟨rfl, _⟩ | ⟨gb, cap, cur, rfl, hb, hh, r⟩
    · have hr := run_append_nothing (P := P) (w := w) b1 t o.type e i size ht hi _ n xs hg 0
      unfold Oper.wp execOp
      simp only [ho, resolve, invoke, builtin, Sem.run_bind, Sem.run_pure, Result.andThen_ok, List.map_toArray, List.map_cons, List.map_nil, hs, hx, hr]
      exact h _ w ⟨b1, by simpa using hg⟩ (Below.refl _ _)
    · have hrun := run_append_room_cells (P := P) w t o.type e i ht hi g 0 n n ⟨gb, 0, none⟩ 0 cap [] (by simp) (by simp) (by simp) (by omega) (by simp) (by simp)
      unfold Oper.wp
      simp [execOp, ho, resolve, invoke, builtin, hs, hx, hrun, Result.andThen]
      exact h (.slice (some ⟨g, 0, none⟩) n n) w ⟨b1, by simpa using hg⟩ (Below.refl _ _)
  · obtain ⟨A, c, rfl⟩ := own_form hy
    obtain ⟨g2, rfl, _, _⟩ := own_addr0 hy (by omega)
    obtain ⟨v', w', hrun, r1, r2⟩ := run_append_arg_grows (P := P) w t o.type e i z size bytes ht hi hz hsize hby hzs hsz ⟨g, 0, none⟩ n n xs hxl (fun j u hu => by rw [addr_add]; exact (sl_of_own hg).2 j u hu) ⟨g2, 0, none⟩ m c ys hyl (fun j u hu => by rw [addr_add]; exact (sl_of_own hy).2 j u hu) (by omega) h63 hbytes
    unfold Oper.wp
    simp [execOp, ho, resolve, invoke, builtin, hs, hx, hrun, Result.andThen]
    exact h v' w' ⟨_, r1⟩ ⟨r2.os, r2.tape, r2.output, r2.size, fun k hk => r2.block k hk (by simp)⟩

theorem lens_app (a b : List Pc) : lens (a ++ b) = lens a + lens b := by simp [lens]
/-- A slice literal of pieces. -/
structure LitV (lo ga : Nat) (v : Value) (n L : Nat) (W : World) : Prop where
  pv : PiecesV lo ga v n L W
  form : ∃ g, v = .slice (some ⟨g, 0, none⟩) n n
theorem LitV.below {lo ga n L : Nat} {v : Value} {W W' : World} (h : LitV lo ga v n L W) (hb : Below W.heap.size W W') : LitV lo ga v n L W' := ⟨h.pv.below hb, h.form⟩
theorem LitV.mk1 {lo ga L : Nat} {p : Pc} {W : World} (hp : PieceOk lo ga W p) (hl : p.len = L) : LitV lo ga (.slice (some ⟨W.heap.size, 0, none⟩) 1 1) 1 L (W.alloc (.cells #[p.v] 95)) := by
  refine ⟨⟨[p], rfl, by simp [lens, hl], ⟨_, own_laid W 95 1 1 #[p.v] rfl (by unfold maxLen; omega)⟩, ?_⟩, _, rfl⟩
  intro q hq
  rw [List.mem_singleton] at hq; rw [hq]
  exact hp.below (laid_below _ _)
theorem LitV.mk3 {lo ga L : Nat} {p q r : Pc} {W : World} (hp : PieceOk lo ga W p) (hq : PieceOk lo ga W q) (hr : PieceOk lo ga W r) (hl : p.len + q.len + r.len = L) : LitV lo ga (.slice (some ⟨W.heap.size, 0, none⟩) 3 3) 3 L (W.alloc (.cells #[p.v, q.v, r.v] 95)) := by
  refine ⟨⟨[p, q, r], rfl, by simp [lens]; omega, ⟨_, own_laid W 95 1 3 #[p.v, q.v, r.v] rfl (by unfold maxLen; omega)⟩, ?_⟩, _, rfl⟩
  intro x hx
  simp only [List.mem_cons, List.not_mem_nil, or_false] at hx
  rcases hx with rfl | rfl | rfl
  · exact hp.below (laid_below _ _)
  · exact hq.below (laid_below _ _)
  · exact hr.below (laid_below _ _)
theorem one_pcs (ps : List Pc) : ∀ u ∈ ps.map Pc.v, u.oneCell' = true := by
  intro u hu
  obtain ⟨p, _, rfl⟩ := List.mem_map.1 hu
  rfl
def kpv (lo ga L : Nat) : Fact := ⟨fun x w => PieceV lo ga x L w, fun _ _ _ h hb => h.below hb⟩
def klit (lo ga n L : Nat) : Fact := ⟨fun x w => LitV lo ga x n L w, fun _ _ _ h hb => h.below hb⟩
def kpcs (lo ga n L : Nat) : Fact := ⟨fun x w => PiecesV lo ga x n L w, fun _ _ _ h hb => h.below hb⟩
/-- The append of pieces behind a literal. -/
theorem op_pcs {o : Oper} {a : Act} {w : World} {K : Act → World → Prop} {Q : Exit → Act → World → Prop} (s x : Operand)
    (ho : o.op = .call { callee := .builtin .append, args := #[s, x], argTypes := #[93, 93] }) {lo ga n L m M : Nat}
    (hs : LitV lo ga (a.eval s) n L w) (hx : PiecesV lo ga (a.eval x) m M w) (hn : n + m ≤ 1000)
    (h : ∀ v' w', PiecesV lo ga v' (n + m) (L + M) w' → Below w.heap.size w w' → K (a.put o.dst v') w') : o.wp Try.prog a w K Q := by
  obtain ⟨⟨ps, h1, h2, ⟨b, h3⟩, h4⟩, g, hg⟩ := hs
  obtain ⟨qs, k1, k2, ⟨c, k3⟩, k4⟩ := hx
  rw [hg] at h3
  refine op_appendO s x _ ho Try.underlying93 infoPiece rfl (by omega) hg h3 rfl k3 (one_pcs qs) (by unfold maxLen; omega) (by omega) ?_
  intro v' w' hv hb
  refine h v' w' ⟨ps ++ qs, by rw [List.length_append, h1, k1], by rw [lens_app, h2, k2], by rw [List.map_append]; exact hv, ?_⟩ hb
  intro p hp
  rcases List.mem_append.1 hp with hp | hp
  · exact (h4 p hp).below hb
  · exact (k4 p hp).below hb
end Go.Proofs.Ytdnkkmmkkfbhhaa

/- The closure of a second split's chain: leftSplit$1. -/
namespace Go.Proofs.Ytdnkkmmkkfbhhaa
open Go.RowKit
set_option linter.all false

set_option maxRecDepth 100000 in
set_option maxHeartbeats 2000000 in
theorem left1_any (lo ga n bA bT bS bX s x : Nat) (u : Value) (w : World) (h : St lo ga n w) (hu : SpotP lo w u)
    (hA : w.heap[bA]? = some (.cells #[.pointer (some ⟨ga, 0, none⟩)] 70 (0, 0))) (hT : w.heap[bT]? = some (.cells #[u] 86 (0, 0))) (hS : BoxI w bS s) (hX : BoxI w bX x) (hs : 1 ≤ s) (hs6 : s ≤ 6) (hx : x ≤ 6) (hn : n + (s + 5 + x) ≤ 100000) :
    Calls Try.prog 71 #[.pointer (some ⟨bA, 0, none⟩), .pointer (some ⟨bT, 0, none⟩), .pointer (some ⟨bS, 0, none⟩), .pointer (some ⟨bX, 0, none⟩)] w (Done lo ga (n + (s + 5 + x)) w) := by
  obtain ⟨AU, rfl⟩ := hu.form
  have c0 : w.cell? ⟨bA, 0, none⟩ = some (.pointer (some ⟨ga, 0, none⟩)) := by rw [cell_of_heap hA]; rfl
  have c1 : w.cell? ⟨bT, 0, none⟩ = some (.pointer AU) := by rw [cell_of_heap hT]; rfl
  have c2 := hS.cell
  have c3 := hX.cell
  have HS := Lib.hid h; have HU := Lib.hid hu; have HLT := Lib.hid h.lt; have HLO := Lib.hid h.lo1
  clear h hu hA hT hS hX
  go_enter Try.func71, Try.ntmps71
  go_wp2_with fail
  refine region_facts_l (by kernel_rfl) rfl [kcst (.pointer (some ⟨ga, 0, none⟩)), kcst (.pointer AU), kpv lo ga (1 + 1), kcst (.int .i64 s), kpv lo ga (s + 1), kpv lo ga (1 + 1), klit lo ga 3 ((1 + 1) + (s + 1) + (1 + 1)), kcst (.int .i64 x), kpcs lo ga x x, kpcs lo ga (3 + x) ((1 + 1) + (s + 1) + (1 + 1) + x)] [4, 5, 6, 7, 8, 9, 10, 11, 12, 13] (by kernel_rfl) (by kernel_rfl) ?_ ?_
  · refine ⟨?_, ?_, ?_, ?_, ?_, ?_, ?_, ?_, ?_, ?_, trivial⟩
    · intro a W hB hin haft K hK
      have h0 : a.tmps[0]?.getD undef = .pointer (some ⟨bA, 0, none⟩) := kev (hin 0 (by decide))
      have k1 := cell_step (by exact c0) hB
      clear haft hin
      unfold Oper.wp
      go_simp
      exact hK _ _ rfl (Below.refl _ _)
    · intro a W hB hin haft K hK
      have h1 : a.tmps[1]?.getD undef = .pointer (some ⟨bT, 0, none⟩) := kev (hin 1 (by decide))
      have k1 := cell_step (by exact c1) hB
      clear haft hin
      unfold Oper.wp
      go_simp
      exact hK _ _ rfl (Below.refl _ _)
    · intro a W hB hin haft K hK
      clear haft hin
      unfold Oper.wp
      go_simp
      refine (loop_any lo ga 1 2 0 W (by omega) (Nat.le_trans HLO.out hB.size) (Nat.lt_of_lt_of_le HLT.out hB.size)).mono ?_
      rintro e2 w' ⟨⟨u2, rfl, hr⟩, hb⟩
      exact hK _ _ hr hb
    · intro a W hB hin haft K hK
      have h2 : a.tmps[2]?.getD undef = .pointer (some ⟨bS, 0, none⟩) := kev (hin 2 (by decide))
      have k1 := cell_step (by exact c2) hB
      clear haft hin
      unfold Oper.wp
      go_simp
      exact hK _ _ rfl (Below.refl _ _)
    · intro a W hB hin haft K hK
      have h7 : a.tmps[7]?.getD undef = .int .i64 s := kev (haft ⟨3, .data⟩ (by simp) rfl 7 rfl)
      clear haft hin
      unfold Oper.wp
      go_simp
      refine (loop_any lo ga s 1 2 W (by omega) (Nat.le_trans HLO.out hB.size) (Nat.lt_of_lt_of_le HLT.out hB.size)).mono ?_
      rintro e2 w' ⟨⟨u2, rfl, hr⟩, hb⟩
      exact hK _ _ hr hb
    · intro a W hB hin haft K hK
      clear haft hin
      unfold Oper.wp
      go_simp
      refine (loop_any lo ga 1 2 1 W (by omega) (Nat.le_trans HLO.out hB.size) (Nat.lt_of_lt_of_le HLT.out hB.size)).mono ?_
      rintro e2 w' ⟨⟨u2, rfl, hr⟩, hb⟩
      exact hK _ _ hr hb
    · intro a W hB hin haft K hK
      obtain ⟨p6, hv6, hl6, ho6⟩ : PieceV lo ga (a.eval (.tmp 6)) (1 + 1) W := haft ⟨2, .data⟩ (by simp) rfl 6 rfl
      have h6 := kev hv6
      obtain ⟨p8, hv8, hl8, ho8⟩ : PieceV lo ga (a.eval (.tmp 8)) (s + 1) W := haft ⟨4, .data⟩ (by simp) rfl 8 rfl
      have h8 := kev hv8
      obtain ⟨p9, hv9, hl9, ho9⟩ : PieceV lo ga (a.eval (.tmp 9)) (1 + 1) W := haft ⟨5, .data⟩ (by simp) rfl 9 rfl
      have h9 := kev hv9
      have HHL := Lib.hid hK
      have HO6 := Lib.hid ho6; have HL6 := Lib.hid hl6
      have HO8 := Lib.hid ho8; have HL8 := Lib.hid hl8
      have HO9 := Lib.hid ho9; have HL9 := Lib.hid hl9
      clear haft hin hK hv6 hl6 ho6 hv8 hl8 ho8 hv9 hl9 ho9
      unfold Oper.wp
      go_simp
      exact HHL.out _ _ (LitV.mk3 HO6.out HO8.out HO9.out (by have h1 := HL6.out; have h2 := HL8.out; have h3 := HL9.out; omega)) (laid_below _ _)
    · intro a W hB hin haft K hK
      have h3 : a.tmps[3]?.getD undef = .pointer (some ⟨bX, 0, none⟩) := kev (hin 3 (by decide))
      have k1 := cell_step (by exact c3) hB
      clear haft hin
      unfold Oper.wp
      go_simp
      exact hK _ _ rfl (Below.refl _ _)
    · intro a W hB hin haft K hK
      have h11 : a.tmps[11]?.getD undef = .int .i64 x := kev (haft ⟨7, .data⟩ (by simp) rfl 11 rfl)
      clear haft hin
      unfold Oper.wp
      go_simp
      refine (incs_any lo ga x 1 W (by omega) (Nat.le_trans HLO.out hB.size) (Nat.lt_of_lt_of_le HLT.out hB.size)).mono ?_
      rintro e2 w' ⟨⟨A2, c2, rfl, hr⟩, hb⟩
      exact hK _ _ hr hb
    · intro a W hB hin haft K hK
      have s1 : LitV lo ga (a.eval (.tmp 10)) 3 ((1 + 1) + (s + 1) + (1 + 1)) W := haft ⟨6, .data⟩ (by simp) rfl 10 rfl
      have s2 : PiecesV lo ga (a.eval (.tmp 12)) (x) (x) W := haft ⟨8, .data⟩ (by simp) rfl 12 rfl
      refine op_pcs _ _ rfl s1 s2 (by omega) ?_
      intro v' w' hv hb
      exact hK _ _ hv hb
  · intro a W hB hdf hsz hin hf K hK
    have h4 : a.tmps[4]?.getD undef = .pointer (some ⟨ga, 0, none⟩) := kev (hf 0 4 rfl)
    have h5 : a.tmps[5]?.getD undef = .pointer AU := kev (hf 1 5 rfl)
    have s2 : PiecesV lo ga (a.eval (.tmp 13)) (3 + x) ((1 + 1) + (s + 1) + (1 + 1) + x) W := hf 9 13 rfl
    obtain ⟨v2, hv2⟩ : ∃ v2, a.eval (.tmp 13) = v2 := ⟨_, rfl⟩
    rw [hv2] at s2
    have h13 := kev hv2
    have HK := Lib.hid hK; have S2 := Lib.hid s2; have HDF := Lib.hid hdf; have HBB := Lib.hid hB
    clear hin hf hsz hv2 hK s2 hdf hB
    unfold Oper.wp
    go_simp
    refine (chain_any lo ga n _ _ v2 _ W (HS.out.below HBB.out) (HU.out.below HBB.out) S2.out (by omega) (by omega)).mono ?_
    rintro e2 w' ⟨rfl, s9, x9⟩
    refine HK.out _ _ ?_
    go_wp2
    refine bodyPost_end (results_none rfl _ _ _) HDF.out ?_
    exact ⟨rfl, by rw [show n + (s + 5 + x) = n + ((1 + 1) + (s + 1) + (1 + 1) + x) by omega]; exact s9, (Ext.of_below HLT.out HLO.out HBB.out).trans x9⟩

end Go.Proofs.Ytdnkkmmkkfbhhaa

/- The second split of a rule that moves to the left: leftSplit. -/
namespace Go.Proofs.Ytdnkkmmkkfbhhaa
open Go.RowKit
set_option linter.all false

def leftSum (s : Nat) : Nat → Nat
  | 0 => 0
  | k + 1 => leftSum s k + (s + 5 + k)
/-- The number of instructions of a second split. -/
def leftLen (s : Nat) : Nat := s + 1 + leftSum s s
theorem leftSum_le {s k m : Nat} (h : k ≤ m) : leftSum s k ≤ leftSum s m := by
  induction m with
  | zero => rw [Nat.le_zero.1 h]; exact Nat.le_refl _
  | succ m ih =>
    by_cases hk : k = m + 1
    · rw [hk]; exact Nat.le_refl _
    · exact Nat.le_trans (ih (by omega)) (Nat.le_add_right _ _)
/-- A growing list of closures; each one's variables are told by T. -/
structure Ths (b : Nat) (v : Value) (k L : Nat) (T : Nat → Pc → World → Prop) (ps : List Pc) (W : World) : Prop where
  len : ps.length = k
  sum : lens ps = L
  own : W.ownsRow b 1 1 v k (ps.map Pc.v)
  all : ∀ (j : Nat) p, ps[j]? = some p → T j p W
theorem Ths.push {b k L : Nat} {v v' : Value} {T : Nat → Pc → World → Prop} {ps : List Pc} {W W' : World} {p : Pc} (h : Ths b v k L T ps W) (own' : W'.ownsRow b 1 1 v' (k + 1) (ps.map Pc.v ++ [p.v])) (hT : ∀ j q, T j q W → T j q W') (hp : T k p W') : Ths b v' (k + 1) (L + p.len) T (ps ++ [p]) W' := by
  refine ⟨by rw [List.length_append, h.len]; rfl, by rw [lens_app, h.sum]; simp [lens], by rw [List.map_append]; exact own', ?_⟩
  intro j q hq
  rcases snoc_at hq with ⟨_, h1⟩ | ⟨h1, h2⟩
  · exact hT j q (h.all j q h1)
  · rw [h1, h2, h.len]; exact hp
theorem Ths.below {b k L : Nat} {v : Value} {T : Nat → Pc → World → Prop} {ps : List Pc} {W W' : World} (h : Ths b v k L T ps W) (hb : Below W.heap.size W W') (hT : ∀ j q, T j q W → T j q W') : Ths b v k L T ps W' :=
  ⟨h.len, h.sum, own_below' h.own hb, fun j p hp => hT j p (h.all j p hp)⟩

/-- The variables of leftSplit. -/
structure LBx (g ga s : Nat) (A0 : Option Addr) (W : World) : Prop where
  s : BoxI W g s
  a : W.heap[g + 1]? = some (.cells #[.pointer (some ⟨ga, 0, none⟩)] 70 (0, 0))
  t : W.heap[g + 1 + 1]? = some (.cells #[.pointer A0] 86 (0, 0))
theorem LBx.below {g ga s : Nat} {A0 : Option Addr} {W W' : World} (h : LBx g ga s A0 W) (hb : Below W.heap.size W W') : LBx g ga s A0 W' :=
  ⟨h.s.below hb, (hb.block _ (heap_lt h.a)).trans h.a, (hb.block _ (heap_lt h.t)).trans h.t⟩
theorem LBx.grown {g ga s b n : Nat} {A0 : Option Addr} {W W' : World} {v : Value} {xs : List Value} (h : LBx g ga s A0 W) (ho : W.ownsRow b 1 1 v n xs) (hg : W.grownBy W' v.ownBlock) : LBx g ga s A0 W' :=
  ⟨grown_keep hg h.s (own_ne_block ho h.s (by decide)), grown_keep hg h.a (own_ne_block ho h.a (by decide)), grown_keep hg h.t (own_ne_block ho h.t (by decide))⟩
/-- The closure of chain j. -/
def LT (g s : Nat) (j : Nat) (p : Pc) (W : World) : Prop := ∃ bx, p = ⟨71, #[.pointer (some ⟨g + 1, 0, none⟩), .pointer (some ⟨g + 1 + 1, 0, none⟩), .pointer (some ⟨g, 0, none⟩), .pointer (some ⟨bx, 0, none⟩)], s + 5 + j⟩ ∧ BoxI W bx j
theorem LT.below {g s j : Nat} {p : Pc} {W W' : World} (h : LT g s j p W) (hb : Below W.heap.size W W') : LT g s j p W' := by
  obtain ⟨bx, h1, h2⟩ := h; exact ⟨bx, h1, h2.below hb⟩
theorem LT.grown {g s j b n : Nat} {p : Pc} {W W' : World} {v : Value} {xs : List Value} (h : LT g s j p W) (ho : W.ownsRow b 1 1 v n xs) (hg : W.grownBy W' v.ownBlock) : LT g s j p W' := by
  obtain ⟨bx, h1, h2⟩ := h; exact ⟨bx, h1, grown_keep hg h2 (own_ne_block ho h2 (by decide))⟩

set_option maxRecDepth 100000 in
set_option maxHeartbeats 2000000 in
theorem left_any (lo ga n s : Nat) (u : Value) (w : World) (h : St lo ga n w) (hu : SpotP lo w u) (hs : 1 ≤ s) (hs6 : s ≤ 6) (hn : n + leftLen s ≤ 100000) :
    Calls Try.prog 56 #[.int .i64 s, .pointer (some ⟨ga, 0, none⟩), u] w (Done lo ga (n + leftLen s) w) := by
  obtain ⟨A0, rfl⟩ := hu.form
  obtain ⟨w4, HW4, b4, x1, x2, x3, x4, z4⟩ := al4 w (.cells #[.int .i64 s] 2) (.cells #[.pointer (some ⟨ga, 0, none⟩)] 70) (.cells #[.pointer A0] 86) (.cells #[] 1)
  have L4 : Hid (LBx w.heap.size ga s A0 w4) := ⟨x1, x2, x3⟩
  have T4 : Hid (Ths w.heap.size (.slice (some ⟨w.heap.size + 1 + 1 + 1, 0, none⟩) 0 0) 0 (leftSum s 0) (LT w.heap.size s) [] w4) := ⟨rfl, rfl, own_of_block (xs := []) (n := 0) (cap := 0) (s := 1) x4 (by omega) rfl (Nat.le_refl _) (by unfold maxLen; omega), by simp⟩
  have B4 := Lib.hid b4
  have HS := Lib.hid h; have HU := Lib.hid hu
  have c0 := L4.out.s.cell
  clear x1 x2 x3 x4 z4 b4 h hu
  rw [HW4.out] at c0
  go_enter Try.func56, Try.ntmps56
  go_wp2_with fail
  rw [← HW4.out]
  clear c0
  go_loopw [6, 10] (fun cv i wr => ∃ (k : Nat) (A : Option Addr) (c : Nat) (ps : List Pc), k ≤ s ∧ i = .int .i64 k ∧ cv = .slice A k c ∧ Hid (Ths w.heap.size (.slice A k c) k (leftSum s k) (LT w.heap.size s) ps wr) ∧ Hid (LBx w.heap.size ga s A0 wr) ∧ Hid (Below w.heap.size w wr)) (fun _ i _ => s - (intOf i).toNat)
  case atStart => exact ⟨0, _, _, [], Nat.zero_le _, rfl, rfl, T4, L4, B4⟩
  case round =>
    obtain ⟨k, A, c, ps, hk, rfl, rfl, TR, LR, BR⟩ := hrel
    have c0 := LR.out.s.cell
    by_cases hlt : k < s
    · obtain ⟨w5, HW5, b5, x5, y5⟩ := al2 wr (.cells #[.int .i64 k] 2) (.cells #[.func (.func 71) #[] #[.pointer (some ⟨w.heap.size + 1, 0, none⟩), .pointer (some ⟨w.heap.size + 1 + 1, 0, none⟩), .pointer (some ⟨w.heap.size, 0, none⟩), .pointer (some ⟨wr.heap.size, 0, none⟩)]] 1)
      have T5 := Lib.hid (TR.out.below b5 (fun j q h => h.below b5))
      have L5 := Lib.hid (LR.out.below b5)
      have B5 := Lib.hid (BR.out.trans (b5.mono BR.out.size))
      have OW5 := T5.out.own
      have src5 : Src 1 w5 (.slice (some ⟨wr.heap.size + 1, 0, none⟩) 1 1) 1 [.func (.func 71) #[] #[.pointer (some ⟨w.heap.size + 1, 0, none⟩), .pointer (some ⟨w.heap.size + 1 + 1, 0, none⟩), .pointer (some ⟨w.heap.size, 0, none⟩), .pointer (some ⟨wr.heap.size, 0, none⟩)]] := Src.of_sl (sl_block y5) rfl
      have X5 := Lib.hid x5
      have hbs : w.heap.size ≤ w5.heap.size := B5.out.size
      clear x5 y5 b5
      go_wp2_with (at_builtin; rw [← HW5.out]; refine wpList_appx rfl _ _ _ rfl Try.underlying83 infoFuncA rfl (by omega) w.heap.size OW5 hbs rfl src5 rfl (by simp [Value.oneCell']) (by unfold maxLen; omega) (by omega) ?_; intro v6 w6 own6 hg6 hnil6; clear hnil6; have T6 := Lib.hid (T5.out.push (p := ⟨71, #[.pointer (some ⟨w.heap.size + 1, 0, none⟩), .pointer (some ⟨w.heap.size + 1 + 1, 0, none⟩), .pointer (some ⟨w.heap.size, 0, none⟩), .pointer (some ⟨wr.heap.size, 0, none⟩)], s + 5 + k⟩) own6 (fun j q h => h.grown T5.out.own hg6) ⟨_, rfl, grown_keep hg6 X5.out (own_ne_block T5.out.own X5.out (by decide))⟩); have L6 := Lib.hid (L5.out.grown T5.out.own hg6); have B6 := Lib.hid (B5.out.grown hg6 hbs (fun q hq => (T5.out.own.lt q hq).1)); obtain ⟨A6, c6, rfl⟩ := own_form own6; clear own6 hg6 src5 OW5 hbs)
      go_roundw
      case rel => exact ⟨k + 1, _, _, _, by omega, by go_num, rfl, T6, L6, B6⟩
      case measure => simp [intOf]; omega
    · obtain rfl : s = k := by omega
      have c1 : wr.cell? ⟨w.heap.size + 1, 0, none⟩ = some (.pointer (some ⟨ga, 0, none⟩)) := by rw [cell_of_heap LR.out.a]; rfl
      have TV : Hid (ThunksV lo ga (.slice A s c) s (leftSum s s) wr) := by
        refine ⟨ps, TR.out.len, TR.out.sum, ⟨_, TR.out.own⟩, ?_, ?_⟩
        · rintro q hq ⟨V, P, hv, hp⟩
          obtain ⟨V2, P2, cs2, ps2, hs2⟩ := HS.out
          rw [BR.out.block _ hs2.lt, hs2.var] at hv
          simp only [Option.some.injEq, Obj.cells.injEq, Array.mk.injEq, List.cons.injEq, and_true] at hv
          rw [← hv.2] at hp
          have h1 := (TR.out.own.lt q hq).1
          have h2 := (hs2.pats.lt q hp).2
          omega
        · intro p hp
          obtain ⟨j, hj⟩ := List.mem_iff_getElem?.1 hp
          obtain ⟨bx, rfl, hbx⟩ := TR.out.all j p hj
          have hjs : j < s := by have := (List.getElem?_eq_some_iff.1 hj).1; have := TR.out.len; omega
          refine ⟨Nat.le_trans HS.out.lo1 BR.out.size, Nat.lt_of_lt_of_le HS.out.lt BR.out.size, enters_of' (P := Try.prog) Try.func71 (by kernel_rfl) rfl, ?_⟩
          intro W m e hm hmn
          rw [Array.empty_append]
          exact left1_any lo ga m _ _ _ bx s j (.pointer A0) W hm ((HU.out.below BR.out).ext e) (e.kept _ _ _ _ LR.out.a (by decide) (by decide) (by decide) (.inl (by decide))) (e.kept _ _ _ _ LR.out.t (by decide) (by decide) (by decide) (.inl (by decide))) (LR.out.s.ext e) (hbx.ext e) hs hs6 (by omega) hmn
      have SR := Lib.hid (HS.out.below BR.out)
      go_wp2_with fail
      refine (split_any lo ga n s (leftSum s s) 0 2 _ wr SR.out TV.out hn (by omega)).mono ?_
      rintro e w7 ⟨rfl, s7, x7⟩
      have S7 := Lib.hid s7
      have E7 := Lib.hid ((Ext.of_below HS.out.lt HS.out.lo1 BR.out).trans x7)
      clear s7 x7 c0 c1
      go_wp2
      go_end0
      exact ⟨rfl, S7.out, E7.out⟩
end Go.Proofs.Ytdnkkmmkkfbhhaa
