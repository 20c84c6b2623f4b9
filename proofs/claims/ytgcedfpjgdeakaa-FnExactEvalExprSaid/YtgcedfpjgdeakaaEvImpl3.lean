/- EvalExpr of the program: the whole. -/
import Derived.Test.YtgcedfpjgdeakaaEvImpl2
namespace Go.Proofs.Ytgcedfpjgdeakaa
open Go.RowKit
set_option linter.all false

theorem door_plain {P : Program} {fn : Func} {R : Ending → World → Prop} {a : Act} {w : World} {v : Value} (hd : a.defers = []) (hr : (results fn a.tmps).run P w = .ok v w) (h : R (.returned v) w) : bodyPostD P fn R Exit.ret a w := by
  show Leaves P fn a.tmps R a.defers .returning w
  rw [hd]
  exact ⟨v, hr, h⟩
/-- Behind a deferred call that has returned. -/
theorem leaves_nil {P : Program} {fn : Func} {R : Ending → World → Prop} {tmps : Array Value} {w : World} {v : Value} (hr : (results fn tmps).run P w = .ok v w) (h : R (.returned v) w) : Leaves P fn tmps R [] .returning w := ⟨v, hr, h⟩

theorem bndEvalExpr0 (e : List R2) (st : List (List Bool)) (h1 : e.length ≤ 1048576) (h2 : st.length ≤ 1048576) (h3 : sumLen st ≤ 1048576) : (evalExpr e st).1.length ≤ 1048576 := evalExpr_len e st
def evVal : Option T → List Bool × Int
  | some t => (t.enc, 0)
  | none => ([], 5)
theorem evOut_val' (σ : List T) (x : E) : evOut (evS σ x.enc) = evVal (x.val σ) := by rw [evOut_val]; cases x.val σ <;> rfl
def EvAns (o : List Bool × Int) (w : World) : Ending → World → Prop := fun e w' => ∃ v, e = .returned (.tuple #[v, .int .i64 o.2]) ∧ w'.ownsRow w.heap.size 4 1 v o.1.length (o.1.map .bool) ∧ Below w.heap.size w w'
theorem EvAns.none {w w' : World} {k : Int} (hb : Below w.heap.size w w') : EvAns ([], k) w (.returned (.tuple #[.slice none 0 0, .int .i64 k])) w' := ⟨_, rfl, World.ownsRow_nil _ _ _ _, hb⟩
theorem two_boxes (w : World) : ∃ wa wb, Hid (wa = w.alloc (.cells #[.slice none 0 0] 26)) ∧ Hid (wb = wa.alloc (.cells #[.int .i64 0] 2)) ∧ Below w.heap.size w wb ∧ wb.heap[w.heap.size]? = some (.cells #[.slice none 0 0] 26) ∧ wb.heap[w.heap.size + 1]? = some (.cells #[.int .i64 0] 2) := by
  obtain ⟨wa, HWA, ba, xa⟩ := al1 w (.cells #[.slice none 0 0] 26)
  obtain ⟨wb, HWB, bb, xb⟩ := al1 wa (.cells #[.int .i64 0] 2)
  refine ⟨wa, wb, HWA, HWB, below_step ba bb, (bb.block _ (heap_lt xa)).trans xa, ?_⟩
  have hz : wa.heap.size = w.heap.size + 1 := by rw [HWA.out]; simp
  rw [← hz]; exact xb
/-- The two variables of the results behind a call that leaves them. -/
structure Bx (w W : World) (a b : Value) : Prop where
  x : W.heap[w.heap.size]? = some (.cells #[a] 26 (0, 0))
  y : W.heap[w.heap.size + 1]? = some (.cells #[b] 2 (0, 0))
  be : Below w.heap.size w W
theorem Bx.step {w W W' : World} {a b : Value} (h : Bx w W a b) (hb : Below W.heap.size W W') : Bx w W' a b :=
  ⟨(hb.block _ (heap_lt h.x)).trans h.x, (hb.block _ (heap_lt h.y)).trans h.y, below_step h.be hb⟩
theorem Bx.set {w W : World} {a b : Value} (h : Bx w W a b) (u v : Value) : Bx w ((W.setCell ⟨w.heap.size, 0, none⟩ u).setCell ⟨w.heap.size + 1, 0, none⟩ v) u v :=
  ⟨heap_set_other (heap_set h.x (i := 0) u) ⟨w.heap.size + 1, 0, none⟩ (by dsimp only; omega) _, heap_set (heap_set_other h.y ⟨w.heap.size, 0, none⟩ (by dsimp only; omega) _) (i := 0) v,
   (h.be.setCell (p := ⟨w.heap.size, 0, none⟩) (Nat.le_refl _) _).setCell (p := ⟨w.heap.size + 1, 0, none⟩) (by simp) _⟩

set_option maxRecDepth 100000 in
set_option maxHeartbeats 4000000 in
theorem evalExpr_bad (A : Option Addr) (n c g off m c2 : Nat) (xs : List R2) (vs : List Value) (st : List (List Bool)) (w : World) (hb : storeOk st = false) (hs : Sl w g off vs) (hv : Srcc w vs st) (hm : st.length = m) (hl : m ≤ 1048576) (hbd : ∀ t ∈ st, t.length ≤ 4194304) :
    Calls Try.prog 10 #[.slice A n c, .slice (some ⟨g, off, none⟩) m c2] w (EvAns ([], 1) w) := by
  obtain ⟨wa, wb, HWA, HWB, BB, xa, xb⟩ := two_boxes w
  have BX : Hid (Bx w wb (.slice none 0 0) (.int .i64 0)) := ⟨xa, xb, BB⟩
  have HC := Lib.hid (storeTrees_no g off m c2 vs st hb wb (hs.below' BB) (hv.below BB) hm hl hbd)
  have hmf : ∀ (fn : Fn) (first cap : Array Value) (w : World), (Instr.makeFunc fn first cap).run Try.prog w = .ok (.func fn first cap) w := fun _ _ _ _ => rfl
  have k0 : wb.cell? ⟨w.heap.size, 0, none⟩ = some (.slice none 0 0) := by rw [cell_of_heap BX.out.x]; rfl
  have k1 : wb.cell? ⟨w.heap.size + 1, 0, none⟩ = some (.int .i64 0) := by rw [cell_of_heap BX.out.y]; rfl
  have f0 : wb.frozen? ⟨w.heap.size, 0, none⟩ = false := frozen_of_heap BX.out.x
  have f1 : wb.frozen? ⟨w.heap.size + 1, 0, none⟩ = false := frozen_of_heap BX.out.y
  have BX9 := Lib.hid (BX.out.set (.slice none 0 0) (.int .i64 1))
  have C0 : Hid (((wb.setCell ⟨w.heap.size, 0, none⟩ (.slice none 0 0)).setCell ⟨w.heap.size + 1, 0, none⟩ (.int .i64 1)).cell? ⟨w.heap.size, 0, none⟩ = some (.slice none 0 0)) := by unfold Hid; rw [cell_of_heap BX9.out.x]; rfl
  have C1 : Hid (((wb.setCell ⟨w.heap.size, 0, none⟩ (.slice none 0 0)).setCell ⟨w.heap.size + 1, 0, none⟩ (.int .i64 1)).cell? ⟨w.heap.size + 1, 0, none⟩ = some (.int .i64 1)) := by unfold Hid; rw [cell_of_heap BX9.out.y]; rfl
  clear xa xb BB hs hv hm hl hbd hb
  go_enter_defers Try.func10, Try.ntmps10
  go_wp2_with fail
  rw [← HWA.out, ← HWB.out]
  refine HC.out.mono ?_
  rintro e w' ⟨rfl, rfl⟩
  go_wp2_with fail
  have c0 := C0.out; have c1 := C1.out
  exact door_plain rfl (by simp [results, Try.results10, go_sem, c0, c1]) (EvAns.none BX9.out.be)

set_option maxRecDepth 100000 in
set_option maxHeartbeats 4000000 in
theorem evalExpr_not (A : Option Addr) (n c g off m c2 : Nat) (xs : List R2) (vs : List Value) (st : List (List Bool)) (w : World) (σ : List T) (hb : storeOk st = true) (hσ : st = σ.map T.enc) (hσn : ∀ t ∈ σ, t.nodes ≤ 2000) (he : validE xs = false) (ha : Args 2 w A n (rows R2.vs xs)) (hn : n ≤ 1048576) (hs : Sl w g off vs) (hv : Srcc w vs st) (hm : st.length = m) :
    Calls Try.prog 10 #[.slice A n c, .slice (some ⟨g, off, none⟩) m c2] w (EvAns ([], 1) w) := by
  obtain ⟨wa, wb, HWA, HWB, BB, xa, xb⟩ := two_boxes w
  have BX : Hid (Bx w wb (.slice none 0 0) (.int .i64 0)) := ⟨xa, xb, BB⟩
  have HC := Lib.hid (storeTrees_yes g off m c2 vs st σ hb hσ wb (hs.below' BB) (hv.below BB) hm hσn)
  have HA := Lib.hid (ha.below BB)
  have HE := Lib.hid he
  have hmf : ∀ (fn : Fn) (first cap : Array Value) (w : World), (Instr.makeFunc fn first cap).run Try.prog w = .ok (.func fn first cap) w := fun _ _ _ _ => rfl
  have k0 : wb.cell? ⟨w.heap.size, 0, none⟩ = some (.slice none 0 0) := by rw [cell_of_heap BX.out.x]; rfl
  have k1 : wb.cell? ⟨w.heap.size + 1, 0, none⟩ = some (.int .i64 0) := by rw [cell_of_heap BX.out.y]; rfl
  have f0 : wb.frozen? ⟨w.heap.size, 0, none⟩ = false := frozen_of_heap BX.out.x
  have f1 : wb.frozen? ⟨w.heap.size + 1, 0, none⟩ = false := frozen_of_heap BX.out.y
  clear xa xb BB hs hv hm hb hσ hσn ha he
  go_enter_defers Try.func10, Try.ntmps10
  go_wp2_with fail
  rw [← HWA.out, ← HWB.out]
  refine HC.out.mono ?_
  rintro e w1 ⟨g', c', ps, rfl, hst, b1⟩
  have HA1 := Lib.hid (HA.out.below b1)
  have BX1 := Lib.hid (BX.out.step b1)
  clear b1 hst k0 k1 f0 f1
  go_wp2_with fail
  refine (implValidExpr_is A n c xs false HE.out w1 HA1.out hn).mono ?_
  rintro e w2 ⟨rfl, b2⟩
  have BX2 := Lib.hid (BX1.out.step b2)
  clear b2
  have k0 : w2.cell? ⟨w.heap.size, 0, none⟩ = some (.slice none 0 0) := by rw [cell_of_heap BX2.out.x]; rfl
  have k1 : w2.cell? ⟨w.heap.size + 1, 0, none⟩ = some (.int .i64 0) := by rw [cell_of_heap BX2.out.y]; rfl
  have f0 : w2.frozen? ⟨w.heap.size, 0, none⟩ = false := frozen_of_heap BX2.out.x
  have f1 : w2.frozen? ⟨w.heap.size + 1, 0, none⟩ = false := frozen_of_heap BX2.out.y
  have BX9 := Lib.hid (BX2.out.set (.slice none 0 0) (.int .i64 1))
  have C0 : Hid (((w2.setCell ⟨w.heap.size, 0, none⟩ (.slice none 0 0)).setCell ⟨w.heap.size + 1, 0, none⟩ (.int .i64 1)).cell? ⟨w.heap.size, 0, none⟩ = some (.slice none 0 0)) := by unfold Hid; rw [cell_of_heap BX9.out.x]; rfl
  have C1 : Hid (((w2.setCell ⟨w.heap.size, 0, none⟩ (.slice none 0 0)).setCell ⟨w.heap.size + 1, 0, none⟩ (.int .i64 1)).cell? ⟨w.heap.size + 1, 0, none⟩ = some (.int .i64 1)) := by unfold Hid; rw [cell_of_heap BX9.out.y]; rfl
  go_wp2_with fail
  have c0 := C0.out; have c1 := C1.out
  exact door_plain rfl (by simp [results, Try.results10, go_sem, c0, c1]) (EvAns.none BX9.out.be)

set_option maxRecDepth 100000 in
set_option maxHeartbeats 4000000 in
theorem evalExpr_runs (A : Option Addr) (n c g off m c2 : Nat) (xs : List R2) (vs : List Value) (st : List (List Bool)) (w : World) (σ : List T) (x : E) (hb : storeOk st = true) (hσ : st = σ.map T.enc) (hσl : σ.length = 6) (hσn : ∀ t ∈ σ, t.nodes ≤ 2000) (he : validE xs = true) (hx : xs = x.enc) (hok : x.ok) (ha : Args 2 w A n (rows R2.vs xs)) (hn : n ≤ 40) (hs : Sl w g off vs) (hv : Srcc w vs st) (hm : st.length = m) :
    Calls Try.prog 10 #[.slice A n c, .slice (some ⟨g, off, none⟩) m c2] w (EvAns (evVal (x.val σ)) w) := by
  obtain ⟨wa, wb, HWA, HWB, BB, xa, xb⟩ := two_boxes w
  have BX : Hid (Bx w wb (.slice none 0 0) (.int .i64 0)) := ⟨xa, xb, BB⟩
  have HC := Lib.hid (storeTrees_yes g off m c2 vs st σ hb hσ wb (hs.below' BB) (hv.below BB) hm hσn)
  have HA := Lib.hid (ha.below BB)
  have HE := Lib.hid he
  have hm6 : m = 6 := by rw [← hm, hσ, List.length_map, hσl]
  have HVN := Lib.hid (E.val_nodes hσn x)
  have HEV := Lib.hid (fun g' c' ps (W : World) h1 h2 => exprValue_any A n c g' 0 m c' xs σ ps hn hσn (hσl.trans hm6.symm) hm6 x 0 [] W (by rw [List.drop_zero, List.append_nil]; exact hx) hok h1 h2)
  have hmf : ∀ (fn : Fn) (first cap : Array Value) (w : World), (Instr.makeFunc fn first cap).run Try.prog w = .ok (.func fn first cap) w := fun _ _ _ _ => rfl
  have k0 : wb.cell? ⟨w.heap.size, 0, none⟩ = some (.slice none 0 0) := by rw [cell_of_heap BX.out.x]; rfl
  have k1 : wb.cell? ⟨w.heap.size + 1, 0, none⟩ = some (.int .i64 0) := by rw [cell_of_heap BX.out.y]; rfl
  have f0 : wb.frozen? ⟨w.heap.size, 0, none⟩ = false := frozen_of_heap BX.out.x
  have f1 : wb.frozen? ⟨w.heap.size + 1, 0, none⟩ = false := frozen_of_heap BX.out.y
  clear xa xb BB hs hv hm hb hσ hσn ha he hx hm6
  go_enter_defers Try.func10, Try.ntmps10
  go_wp2_with fail
  rw [← HWA.out, ← HWB.out]
  refine HC.out.mono ?_
  rintro e w1 ⟨g', c', ps, rfl, hst, b1⟩
  have HA1 := Lib.hid (HA.out.below b1)
  have HST1 := Lib.hid hst
  have BX1 := Lib.hid (BX.out.step b1)
  clear b1 hst k0 k1 f0 f1
  go_wp2_with fail
  refine (implValidExpr_is A n c xs true HE.out w1 HA1.out (by omega)).mono ?_
  rintro e w2 ⟨rfl, b2⟩
  have BX2 := Lib.hid (BX1.out.step b2)
  have HA2 := Lib.hid (HA1.out.below b2)
  have HST2 := Lib.hid (HST1.out.step b2)
  clear b2
  have HEV2 := HEV.out g' c' ps w2 HA2.out HST2.out
  rw [show ((0 : Nat) : Int) = 0 from rfl] at HEV2
  have HEV2 := Lib.hid HEV2
  go_wp2_with fail
  refine HEV2.out.mono ?_
  rintro e w3 ⟨b3, (⟨t, p, hvt, rfl, ht⟩ | ⟨hvt, rfl⟩)⟩
  · have BX3 := Lib.hid (BX2.out.step b3)
    have HT := Lib.hid ht
    have HVT := Lib.hid hvt
    have hnt := HVN.out t hvt
    clear b3 ht hvt
    go_wp2_with fail
    refine (list_any t p w3 HT.out (by omega)).mono ?_
    rintro e w4 ⟨v, rfl, own, b4⟩
    have BX4 := Lib.hid (BX3.out.step b4)
    obtain ⟨A4, c4, rfl⟩ := own_form own
    have hbz := (BX3.out.be.size)
    have hsz3 := heap_lt BX3.out.y
    have HOWN : Hid (((w4.setCell ⟨w.heap.size, 0, none⟩ (.slice A4 t.nodes c4)).setCell ⟨w.heap.size + 1, 0, none⟩ (.int .i64 0)).ownsRow w.heap.size 4 1 (.slice A4 t.nodes c4) t.nodes (t.enc.map .bool)) := by
      have hne : ∀ i, some (⟨i, 0, none⟩ : Addr).block ≠ (Value.slice A4 t.nodes c4).ownBlock ∨ w3.heap.size ≤ i := by
        intro i
        by_cases h : w3.heap.size ≤ i
        · exact .inr h
        · refine .inl fun e => ?_
          have := (own.lt _ e.symm).1
          dsimp only at this
          omega
      refine own_setCell (own_setCell (own_base own hbz) ?_ _) ?_ _
      · rcases hne w.heap.size with h | h
        · exact h
        · omega
      · rcases hne (w.heap.size + 1) with h | h
        · exact h
        · omega
    have FIN : Hid (∀ W, W = ((w4.setCell ⟨w.heap.size, 0, none⟩ (.slice A4 t.nodes c4)).setCell ⟨w.heap.size + 1, 0, none⟩ (.int .i64 0)) → Below w.heap.size w W → EvAns (evVal (x.val σ)) w (.returned (.tuple #[.slice A4 t.nodes c4, .int .i64 0])) W) := by
      intro W hW hbe
      rw [HVT.out, hW]
      rw [hW] at hbe
      exact ⟨_, rfl, by show World.ownsRow _ _ _ _ _ t.enc.length _; rw [T.length_enc]; exact HOWN.out, hbe⟩
    obtain ⟨nt, hnt9⟩ : ∃ nt, t.nodes = nt := ⟨_, rfl⟩
    rw [hnt9] at FIN HOWN ⊢
    clear own b4 hnt9
    have k0 : w4.cell? ⟨w.heap.size, 0, none⟩ = some (.slice none 0 0) := by rw [cell_of_heap BX4.out.x]; rfl
    have k1 : w4.cell? ⟨w.heap.size + 1, 0, none⟩ = some (.int .i64 0) := by rw [cell_of_heap BX4.out.y]; rfl
    have f0 : w4.frozen? ⟨w.heap.size, 0, none⟩ = false := frozen_of_heap BX4.out.x
    have f1 : w4.frozen? ⟨w.heap.size + 1, 0, none⟩ = false := frozen_of_heap BX4.out.y
    have BX9 := Lib.hid (BX4.out.set (.slice A4 nt c4) (.int .i64 0))
    have C0 : Hid (((w4.setCell ⟨w.heap.size, 0, none⟩ (.slice A4 nt c4)).setCell ⟨w.heap.size + 1, 0, none⟩ (.int .i64 0)).cell? ⟨w.heap.size, 0, none⟩ = some (.slice A4 nt c4)) := by unfold Hid; rw [cell_of_heap BX9.out.x]; rfl
    have C1 : Hid (((w4.setCell ⟨w.heap.size, 0, none⟩ (.slice A4 nt c4)).setCell ⟨w.heap.size + 1, 0, none⟩ (.int .i64 0)).cell? ⟨w.heap.size + 1, 0, none⟩ = some (.int .i64 0)) := by unfold Hid; rw [cell_of_heap BX9.out.y]; rfl
    go_wp2_with fail
    have c0 := C0.out; have c1 := C1.out
    refine leaves_cons (f := 34) (args := #[.pointer (some ⟨w.heap.size, 0, none⟩), .pointer (some ⟨w.heap.size + 1, 0, none⟩)]) (by simp) (by simp [go_sem]) ?_
    refine (catch_idle ⟨w.heap.size, 0, none⟩ ⟨w.heap.size + 1, 0, none⟩ _).mono ?_
    rintro e u' w'' ⟨rfl, rfl, rfl⟩
    exact leaves_nil (by simp [results, Try.results10, go_sem, c0, c1]) (FIN.out _ rfl BX9.out.be)
  · have BX3 := Lib.hid (BX2.out.step b3)
    have FIN : Hid (∀ W, Below w.heap.size w W → EvAns (evVal (x.val σ)) w (.returned (.tuple #[.slice none 0 0, .int .i64 5])) W) := by
      intro W hbe
      rw [hvt]
      exact EvAns.none hbe
    clear b3 hvt
    have k0 : w3.cell? ⟨w.heap.size, 0, none⟩ = some (.slice none 0 0) := by rw [cell_of_heap BX3.out.x]; rfl
    have k1 : w3.cell? ⟨w.heap.size + 1, 0, none⟩ = some (.int .i64 0) := by rw [cell_of_heap BX3.out.y]; rfl
    have f0 : w3.frozen? ⟨w.heap.size, 0, none⟩ = false := frozen_of_heap BX3.out.x
    have f1 : w3.frozen? ⟨w.heap.size + 1, 0, none⟩ = false := frozen_of_heap BX3.out.y
    have BX9 := Lib.hid (BX3.out.set (.slice none 0 0) (.int .i64 5))
    have C0 : Hid (((w3.setCell ⟨w.heap.size, 0, none⟩ (.slice none 0 0)).setCell ⟨w.heap.size + 1, 0, none⟩ (.int .i64 5)).cell? ⟨w.heap.size, 0, none⟩ = some (.slice none 0 0)) := by unfold Hid; rw [cell_of_heap BX9.out.x]; rfl
    have C1 : Hid (((w3.setCell ⟨w.heap.size, 0, none⟩ (.slice none 0 0)).setCell ⟨w.heap.size + 1, 0, none⟩ (.int .i64 5)).cell? ⟨w.heap.size + 1, 0, none⟩ = some (.int .i64 5)) := by unfold Hid; rw [cell_of_heap BX9.out.y]; rfl
    go_wp2_with fail
    have c0 := C0.out; have c1 := C1.out
    unfold fullP
    refine leaves_cons (f := 34) (args := #[.pointer (some ⟨w.heap.size, 0, none⟩), .pointer (some ⟨w.heap.size + 1, 0, none⟩)]) (by simp) (by simp [go_sem]) ?_
    refine (catch_panicking ⟨w.heap.size, 0, none⟩ ⟨w.heap.size + 1, 0, none⟩ [] _ _ _ _ _ k0 k1 f0 f1 (by intro e; injection e with e; omega)).mono ?_
    rintro e u' w'' ⟨rfl, rfl, rfl⟩
    exact leaves_nil (by simp [results, Try.results10, go_sem, c0, c1]) (FIN.out _ BX9.out.be)

theorem implEvalExpr_any (b off n c : Nat) (xs : List R2) (g o m c2 : Nat) (vs : List Value) (st : List (List Bool)) (w : World) (hs1 : Sl w b off (rows R2.vs xs)) (hl1 : xs.length = n) (hn1 : n ≤ 1048576) (hc1 : n ≤ c) (hf1 : ∀ x ∈ xs, x.wf)
    (hs2 : Sl w g o vs) (hv : Srcc w vs st) (hl2 : st.length = m) (hn2 : m ≤ 1048576) (hsum : sumLen st ≤ 1048576) (hf2 : ∀ t ∈ st, ∀ x ∈ t, True) :
    Calls Try.prog 10 #[.slice (some ⟨b, off, none⟩) n c, .slice (some ⟨g, o, none⟩) m c2] w (EvAns (evalExpr xs st) w) := by
  have ha := Args.of_sl (n := n) (s := 2) hs1 (by rw [rows_len R2.vs_len, hl1])
  have hbd : ∀ t ∈ st, t.length ≤ 4194304 := fun t ht => by have := sumLen_mem ht; omega
  cases h1 : storeOk st with
  | false =>
    rw [evalExpr_no (by rw [h1, Bool.and_false])]
    exact evalExpr_bad _ n c g o m c2 xs vs st w h1 hs2 hv hl2 hn2 hbd
  | true =>
    obtain ⟨σ, e1, e2, e3, e4⟩ := storeOk_trees h1
    cases h2 : validE xs with
    | false =>
      rw [evalExpr_no (by rw [h2, Bool.false_and])]
      exact evalExpr_not _ n c g o m c2 xs vs st w σ h1 e1 e3 h2 ha hn1 hs2 hv hl2
    | true =>
      obtain ⟨x, hx, hok, hlen, _⟩ := validE_parse h2
      rw [evalExpr_yes h2 h1 e4, hx, evOut_val']
      exact evalExpr_runs _ n c g o m c2 xs vs st w σ x h1 e1 e2 e3 h2 hx hok ha (by omega) hs2 hv hl2

theorem l22Expr_b (b off n c : Nat) (xs : List R2) (v : Bool) (hv : validE xs = v) (w : World) (ha : Args 2 w (some ⟨b, off, none⟩) n (rows R2.vs xs)) (hn : n ≤ 1048576) :
    Calls Try.prog 27 #[.slice (some ⟨b, off, none⟩) n c] w fun e w' => e = .returned (.bool v) ∧ w = w' := l22Expr_is _ n c xs v hv w ha hn

set_option maxRecDepth 100000 in
set_option maxHeartbeats 2000000 in
theorem specEvalExpr_any (b off n c : Nat) (xs : List R2) (g o m c2 : Nat) (vs : List Value) (st : List (List Bool)) (w : World) (hs1 : Sl w b off (rows R2.vs xs)) (hl1 : xs.length = n) (hn1 : n ≤ 1048576) (hc1 : n ≤ c) (hf1 : ∀ x ∈ xs, x.wf)
    (hs2 : Sl w g o vs) (hv : Srcc w vs st) (hl2 : st.length = m) (hn2 : m ≤ 1048576) (hsum : sumLen st ≤ 1048576) (hf2 : ∀ t ∈ st, ∀ x ∈ t, True) :
    Calls Try.prog 7 #[.slice (some ⟨b, off, none⟩) n c, .slice (some ⟨g, o, none⟩) m c2] w (EvAns (evalExpr xs st) w) := by
  have HA := Lib.hid (Args.of_sl (n := n) (s := 2) hs1 (by rw [rows_len R2.vs_len, hl1]))
  have hbd : ∀ t ∈ st, t.length ≤ 4194304 := fun t ht => by have := sumLen_mem ht; omega
  have HV := Lib.hid hv
  have HS2 := Lib.hid hs2
  cases h2 : validE xs with
  | false =>
    have FIN : Hid (EvAns (evalExpr xs st) w (.returned (.tuple #[.slice none 0 0, .int .i64 1])) w) := by unfold Hid; rw [evalExpr_no (by rw [h2, Bool.false_and])]; exact EvAns.none (Below.refl _ _)
    have H2 := Lib.hid h2
    clear h2 hs1 hs2 hv hbd hl1 hl2 hsum hf1 hf2 hc1
    go_enter Try.func7, Try.ntmps7
    go_wp2_with fail
    refine (l22Expr_b b off n c xs false H2.out _ HA.out hn1).mono ?_
    rintro e w' ⟨rfl, rfl⟩
    go_wp2_with fail
    go_ret2
    exact FIN.out
  | true =>
    cases h1 : storeOk st with
    | false =>
      have FIN : Hid (EvAns (evalExpr xs st) w (.returned (.tuple #[.slice none 0 0, .int .i64 1])) w) := by unfold Hid; rw [evalExpr_no (by rw [h1, Bool.and_false])]; exact EvAns.none (Below.refl _ _)
      have H2 := Lib.hid h2
      have HST := Lib.hid (l22Store_is g o m c2 vs st false h1 w hs2 hv hl2 hn2 hbd)
      clear h2 hs1 hs2 hv hbd hl1 hl2 hsum hf1 hf2 hc1 h1
      go_enter Try.func7, Try.ntmps7
      go_wp2_with fail
      refine (l22Expr_b b off n c xs true H2.out _ HA.out hn1).mono ?_
      rintro e w' ⟨rfl, rfl⟩
      go_wp2_with fail
      refine HST.out.mono ?_
      rintro e w' ⟨rfl, rfl⟩
      go_wp2_with fail
      go_ret2
      exact FIN.out
    | true =>
      obtain ⟨σ, e1, e2, e3, e4⟩ := storeOk_trees h1
      obtain ⟨x, hx, hok, hlen, _⟩ := validE_parse h2
      have HY : Hid (evalExpr xs st = evOut (evS σ xs)) := evalExpr_yes h2 h1 e4
      have H2 := Lib.hid h2
      have HST := Lib.hid (l22Store_is g o m c2 vs st true h1 w hs2 hv hl2 hn2 hbd)
      have HEV := Lib.hid (l22Eval_any (some ⟨b, off, none⟩) n c g o m c2 xs x vs σ w hx hok (by omega) HA.out (by rw [← hl2, e1, List.length_map]) (by rw [← hl2, e1, List.length_map, e2]) hs2 (by rw [← e1]; exact hv) e3)
      clear h2 hs1 hs2 hv hbd hl1 hl2 hsum hf1 hf2 hc1 h1 e1 e2 e3 e4 hx hok
      go_enter Try.func7, Try.ntmps7
      go_wp2_with fail
      refine (l22Expr_b b off n c xs true H2.out _ HA.out hn1).mono ?_
      rintro e w' ⟨rfl, rfl⟩
      go_wp2_with fail
      refine HST.out.mono ?_
      rintro e w' ⟨rfl, rfl⟩
      go_wp2_with fail
      refine HEV.out.mono ?_
      rintro e w1 ⟨b1, (⟨t, v, hvt, rfl, own⟩ | ⟨hvt, rfl⟩)⟩
      · obtain ⟨A4, c4, rfl⟩ := own_form own
        have FIN : Hid (EvAns (evalExpr xs st) w (.returned (.tuple #[.slice A4 t.nodes c4, .int .i64 0])) w1) := by
          unfold Hid
          rw [HY.out, hvt]
          exact ⟨_, rfl, by show World.ownsRow _ _ _ _ _ t.enc.length _; rw [T.length_enc]; exact own, b1⟩
        obtain ⟨nt, hnt⟩ : ∃ nt, t.nodes = nt := ⟨_, rfl⟩
        rw [hnt] at FIN ⊢
        clear own b1 hvt hnt
        go_wp2_with fail
        go_ret2
        exact FIN.out
      · have FIN : Hid (EvAns (evalExpr xs st) w (.returned (.tuple #[.slice none 0 0, .int .i64 5])) w1) := by
          unfold Hid
          rw [HY.out, hvt]
          exact EvAns.none b1
        clear b1 hvt
        go_wp2_with fail
        go_ret2
        exact FIN.out
end Go.Proofs.Ytgcedfpjgdeakaa
