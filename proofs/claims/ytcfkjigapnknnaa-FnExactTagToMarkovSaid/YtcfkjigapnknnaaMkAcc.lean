/- A row of Markov rules of the call's own that grows. Plain lemmas. -/
import Derived.Test.YtcfkjigapnknnaaHelpMarkovRule
namespace Go.Proofs.Ytcfkjigapnknnaa
open Go.RowKit
set_option linter.all false

/-- The rules so far: a row of the call's own, whose rules hold words of the call's own. -/
structure MkAcc (lo : Nat) (V : Value) (es : List EMarkovRule) (W : World) : Prop where
  own : W.ownsRow lo 117 3 V es.length (rows EMarkovRule.vs es)
  inn : Inn 1 2 lo W.heap.size (es.flatMap kndMarkovRule.us) (es.flatMap kndMarkovRule.its) W
theorem MkAcc.below {lo : Nat} {V : Value} {es : List EMarkovRule} {W W' : World} (h : MkAcc lo V es W) (hb : Below W.heap.size W W') : MkAcc lo V es W' :=
  ⟨own_below' h.own hb, (h.inn.below hb).wide hb.size⟩
theorem MkAcc.push {lo : Nat} {V V' : Value} {es : List EMarkovRule} {e : EMarkovRule} {W Wa Wb Wc W' : World} (h : MkAcc lo V es W) (hlo : lo ≤ W.heap.size)
    (ha : Below W.heap.size W Wa) (o0 : Wa.ownsRow W.heap.size 2 1 e.u0 e.d.f0.length (e.d.f0.map (Value.int .i64)))
    (hb : Below Wa.heap.size Wa Wb) (o1 : Wb.ownsRow Wa.heap.size 2 1 e.u1 e.d.f1.length (e.d.f1.map (Value.int .i64)))
    (hc : Below Wb.heap.size Wb Wc) (hg : Wc.grownBy W' V.ownBlock) (own' : W'.ownsRow lo 117 3 V' (es.length + 1) (rows EMarkovRule.vs es ++ EMarkovRule.vs e)) : MkAcc lo V' (es ++ [e]) W' := by
  refine ⟨?_, ?_⟩
  · rw [List.length_append, rows_app, rows_one]; exact own'
  · have i1 := (h.inn.below ha).snoc (it := (e.d.f0.length, e.d.f0.map (Value.int .i64))) (hi' := Wa.heap.size) o0 (Nat.le_refl _) hlo (Nat.le_refl _) ha.size
    have i2 := (i1.below hb).snoc (it := (e.d.f1.length, e.d.f1.map (Value.int .i64))) (hi' := Wb.heap.size) o1 (Nat.le_refl _) (Nat.le_trans hlo ha.size) (Nat.le_refl _) hb.size
    have i3 := i2.below hc
    have oc := own_below' (own_below' (own_below' h.own ha) hb) hc
    have i4 := i3.kept oc hg (by decide)
    have i5 := i4.wide (hi' := W'.heap.size) (Nat.le_trans hc.size hg.size)
    rw [List.append_assoc, List.append_assoc] at i5
    have e1 : [e].flatMap kndMarkovRule.its = [(e.d.f0.length, e.d.f0.map (Value.int .i64))] ++ [(e.d.f1.length, e.d.f1.map (Value.int .i64))] := by
      show [(e.d.f0.length, rows oneI e.d.f0), (e.d.f1.length, rows oneI e.d.f1)] = _
      rw [rows_oneI, rows_oneI]; rfl
    have e2 : [e].flatMap kndMarkovRule.us = [e.u0] ++ [e.u1] := rfl
    rw [List.flatMap_append, List.flatMap_append, e1, e2]
    exact i5
/-- The rules as a result. -/
theorem MkAcc.grid {lo : Nat} {V : Value} {es : List EMarkovRule} {W : World} (h : MkAcc lo V es W) : SGrid kndMarkovRule lo W.heap.size 117 2 1 V es W := by
  refine ⟨h.own, h.inn, fun k hk => (h.own.lt k hk).2⟩
end Go.Proofs.Ytcfkjigapnknnaa
