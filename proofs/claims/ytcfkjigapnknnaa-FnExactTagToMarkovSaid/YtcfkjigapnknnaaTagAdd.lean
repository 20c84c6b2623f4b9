/- Tag systems: the closure that adds a rule, and what a walk with it carries. -/
import Derived.Test.YtcfkjigapnknnaaTagWords
import Derived.Test.YtcfkjigapnknnaaRwValid
namespace Go.Proofs.Ytcfkjigapnknnaa
open Go.RowKit
set_option linter.all false

/-- The list of rules in its variable gl, the record t in its box bx. -/
structure TSt (bx : Nat) (cs : Array Value) (lo gl : Nat) (V : Value) (es : List EMarkovRule) (xs : List DMarkovRule) (w0 W : World) : Prop where
  row : MkRow lo V es xs W
  var : W.heap[gl]? = some (.cells #[V] 58 (0, 0))
  box : W.heap[bx]? = some (.cells cs 61 (0, 0))
  frame : Below w0.heap.size w0 W
  lo0 : w0.heap.size ≤ lo
  lo1 : lo ≤ W.heap.size
  gl0 : w0.heap.size ≤ gl
theorem TSt.below {bx : Nat} {cs : Array Value} {lo gl : Nat} {V : Value} {es : List EMarkovRule} {xs : List DMarkovRule} {w0 W W' : World} (h : TSt bx cs lo gl V es xs w0 W) (hb : Below W.heap.size W W') : TSt bx cs lo gl V es xs w0 W' :=
  ⟨h.row.below hb, (hb.block _ (heap_lt h.var)).trans h.var, (hb.block _ (heap_lt h.box)).trans h.box, below_step h.frame hb, h.lo0, Nat.le_trans h.lo1 hb.size, h.gl0⟩
/-- A rule was added: of the old blocks the list's own and the variable's may have turned. -/
def AddTo (lo gl : Nat) (w w' : World) : Prop := ∃ (V V' : Value) (n : Nat) (cs : List Value) (w1 : World), w.ownsRow lo 117 3 V n cs ∧ w.grownBy w1 V.ownBlock ∧ w1.heap[gl]? = some (.cells #[V] 58 (0, 0)) ∧ w' = w1.setCell ⟨gl, 0, none⟩ V'
theorem AddTo.words {lo gl l2 : Nat} {w w' : World} {V : Value} {us : List Value} {ts : List (List Int)} (h : AddTo lo gl w w') (hw : WdRow l2 V us ts w) : WdRow l2 V us ts w' := by
  obtain ⟨V0, V', n, cs, w1, ho, hg, hv, rfl⟩ := h
  exact (hw.kept ho hg (by decide) (by decide)).setvar hv (by decide) (by decide) V'

set_option maxRecDepth 100000 in
set_option maxHeartbeats 1000000 in
theorem tagAdd_any (bx : Nat) (cs : Array Value) (lo gl : Nat) (V u0 u1 : Value) (es : List EMarkovRule) (xs : List DMarkovRule) (f0 f1 : List Int) (w0 Wp Wa w : World) (h : TSt bx cs lo gl V es xs w0 Wp) (ha : Below Wp.heap.size Wp Wa) (q0 : Wd Wp.heap.size u0 f0 Wa) (hb : Below Wa.heap.size Wa w) (q1 : Wd Wa.heap.size u1 f1 w) (hn : xs.length ≤ 1000) :
    Calls Try.prog 130 #[u0, u1, .pointer (some ⟨gl, 0, none⟩)] w fun e w' => e = .returned (.tuple #[]) ∧ (∃ V' es', TSt bx cs lo gl V' es' (xs ++ [⟨f0, f1, false⟩]) w0 w') ∧ AddTo lo gl w w' := by
  have hab := below_step ha hb
  have hw := h.below hab
  have hlen := hw.row.len
  obtain ⟨m, hm⟩ : ∃ m, xs.length = m := ⟨_, rfl⟩
  rw [hm] at hn hlen
  have hown := hw.row.acc.own
  rw [hlen] at hown
  have HLEN := Lib.hid hlen
  obtain ⟨A, c, rfl⟩ := own_form hown
  have hq0 := q0
  have hq1 := q1
  obtain ⟨-, g0, c0, rfl, -, -⟩ := q0
  obtain ⟨-, g1, c1, rfl, -, -⟩ := q1
  obtain ⟨n0, hn0⟩ : ∃ n, f0.length = n := ⟨_, rfl⟩
  obtain ⟨n1, hn1⟩ : ∃ n, f1.length = n := ⟨_, rfl⟩
  have H := Lib.hid h; have HQ0 := Lib.hid hq0; have HQ1 := Lib.hid hq1; have HN0 := Lib.hid hn0; have HN1 := Lib.hid hn1
  rw [hn0, hn1]
  have v0 : w.cell? ⟨gl, 0, none⟩ = some (.slice A m c) := by rw [cell_of_heap hw.var]; rfl
  have f0' : w.frozen? ⟨gl, 0, none⟩ = false := frozen_of_heap hw.var
  have HV := Lib.hid hw.var; have HB := Lib.hid hw.box; have HF := Lib.hid hw.frame
  have lo1 := hw.lo1
  have lo0 := h.lo0
  have gl0 := h.gl0
  obtain ⟨wc, HWC, BC, yc⟩ := al1 w (.cells #[.slice (some ⟨g0, 0, none⟩) n0 c0, .slice (some ⟨g1, 0, none⟩) n1 c1, .bool false] 117)
  have slc : Src 3 wc (.slice (some ⟨w.heap.size, 0, none⟩) 1 1) 1 [.slice (some ⟨g0, 0, none⟩) n0 c0, .slice (some ⟨g1, 0, none⟩) n1 c1, .bool false] := Src.of_sl ⟨heap_lt yc, fun q v hq => by rw [cell_of_heap yc]; simpa using hq⟩ rfl
  have ownc := own_below' hown BC
  have hloc : lo ≤ wc.heap.size := Nat.le_trans lo1 BC.size
  have hvc : wc.heap[gl]? = some (.cells #[.slice A m c] 58 (0, 0)) := (BC.block _ (heap_lt HV.out)).trans HV.out
  have HOWN := Lib.hid hown
  clear yc hw h hq0 hq1 hn0 hn1 hm hlen hown
  go_enter Try.func130, Try.ntmps130
  go_wp2_with (at_builtin; rw [← HWC.out]; refine wpList_appx rfl _ _ _ rfl Try.underlying58 infoMarkovRule rfl (by omega) lo ownc hloc rfl slc rfl (one_all rfl) (by unfold maxLen; omega) (by omega) ?_; intro V4 w4 own4 hg4 hnil4; clear hnil4; have hv4 := grown_keep hg4 hvc (own_ne_block ownc hvc (by decide)); have cv4 : w4.cell? ⟨gl, 0, none⟩ = some (.slice A m c) := (by rw [cell_of_heap hv4]; rfl); have fv4 : w4.frozen? ⟨gl, 0, none⟩ = false := frozen_of_heap hv4; have HV4 := Lib.hid hv4; clear hv4; obtain ⟨A4, c4, rfl⟩ := own_form own4)
  go_end0
  have hbox4 := grown_keep hg4 ((BC.block _ (heap_lt HB.out)).trans HB.out) (own_ne_block ownc ((BC.block _ (heap_lt HB.out)).trans HB.out) (by decide))
  have hne : bx ≠ gl := heap_ne HB.out HV.out (by decide)
  have hsz : (w4.setCell ⟨gl, 0, none⟩ (.slice A4 (m + 1) c4)).heap.size = w4.heap.size := by simp [World.setCell]
  refine ⟨rfl, ⟨.slice A4 (m + 1) c4, es ++ [⟨⟨f0, f1, false⟩, .slice (some ⟨g0, 0, none⟩) n0 c0, .slice (some ⟨g1, 0, none⟩) n1 c1⟩], ?_, heap_set HV4.out _, heap_set_other hbox4 ⟨gl, 0, none⟩ hne _, ?_, lo0, ?_, gl0⟩, ?_⟩
  · refine MkRow.setvar ?_ HV4.out (by decide) (by decide) _
    exact H.out.row.push (V' := .slice A4 (m + 1) c4) (u0 := .slice (some ⟨g0, 0, none⟩) n0 c0) (u1 := .slice (some ⟨g1, 0, none⟩) n1 c1) H.out.lo1 ha (by have := HQ0.out; rwa [HN0.out] at this) hb (by have := HQ1.out; rwa [HN1.out] at this) BC hg4 (by rw [HLEN.out]; exact own4)
  · exact (grown_below (below_step HF.out BC) ownc lo0 hg4).setCell (p := ⟨gl, 0, none⟩) gl0 _
  · rw [hsz]; exact Nat.le_trans hloc hg4.size
  · refine ⟨.slice A m c, .slice A4 (m + 1) c4, m, rows EMarkovRule.vs es, w4, HOWN.out, ⟨hg4.os.trans BC.os, hg4.tape.trans BC.tape, hg4.output.trans BC.output, Nat.le_trans BC.size hg4.size, fun k hk hn => ?_⟩, HV4.out, rfl⟩
    exact (hg4.block k (Nat.lt_of_lt_of_le hk BC.size) hn).trans (BC.block k hk)
end Go.Proofs.Ytcfkjigapnknnaa
