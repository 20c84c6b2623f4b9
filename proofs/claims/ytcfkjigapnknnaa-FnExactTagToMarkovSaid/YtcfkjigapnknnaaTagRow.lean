/- Growing rows of Markov rules and of words: plain lemmas. -/
import Derived.Test.YtcfkjigapnknnaaMkAcc
import Derived.Test.YtcfkjigapnknnaaTagMk0
import Derived.Test.YtcfkjigapnknnaaWordsN
import Derived.Test.YtcfkjigapnknnaaHelpInt64SS
namespace Go.Proofs.Ytcfkjigapnknnaa
open Go.RowKit
set_option linter.all false

/-- A word of the call's own, which has an address. -/
def Wd (b : Nat) (u : Value) (f : List Int) (W : World) : Prop := W.ownsRow b 2 1 u f.length (f.map (Value.int .i64)) ∧ ∃ g c, u = .slice (some ⟨g, 0, none⟩) f.length c ∧ f.length ≤ c ∧ g < W.heap.size
theorem Wd.below {b : Nat} {u : Value} {f : List Int} {W W' : World} (h : Wd b u f W) (hb : Below W.heap.size W W') : Wd b u f W' := by
  obtain ⟨o, g, c, e, hl, hg⟩ := h
  exact ⟨own_below' o hb, g, c, e, hl, Nat.lt_of_lt_of_le hg hb.size⟩
theorem Wd.of_own {b n : Nat} {u : Value} {f : List Int} {W : World} (h : W.ownsRow b 2 1 u n (f.map (Value.int .i64))) (hne : u ≠ .slice none 0 0) : Wd b u f W := by
  have hn : f.length = n := by have := h.1; simpa using this
  subst hn
  obtain ⟨g, d, e, hd⟩ := own_adr h hne
  refine ⟨h, g, d, e, hd, ?_⟩
  have := h.lt g (by rw [e]; rfl)
  exact this.2
theorem Wd.laid (w : World) (f : List Int) (cs : Array Value) (hc : cs.toList = f.map (Value.int .i64)) (hf : f.length ≤ 1048576) : Wd w.heap.size (.slice (some ⟨w.heap.size, 0, none⟩) f.length f.length) f (w.alloc (.cells cs 2)) := by
  have h := own_laid w 2 1 f.length cs (by rw [← Array.length_toList, hc]; simp) (by unfold maxLen; omega)
  rw [hc] at h
  exact ⟨h, _, _, rfl, Nat.le_refl _, by simp⟩

/-- The rules so far. -/
structure MkRow (lo : Nat) (V : Value) (es : List EMarkovRule) (xs : List DMarkovRule) (W : World) : Prop where
  acc : MkAcc lo V es W
  adr : ∀ e ∈ es, adrMarkovRule W.heap.size e
  map : es.map (·.d) = xs
theorem MkRow.below {lo : Nat} {V : Value} {es : List EMarkovRule} {xs : List DMarkovRule} {W W' : World} (h : MkRow lo V es xs W) (hb : Below W.heap.size W W') : MkRow lo V es xs W' :=
  ⟨h.acc.below hb, fun e he => (h.adr e he).mono hb.size, h.map⟩
theorem MkRow.len {lo : Nat} {V : Value} {es : List EMarkovRule} {xs : List DMarkovRule} {W : World} (h : MkRow lo V es xs W) : es.length = xs.length := by rw [← h.map, List.length_map]
theorem MkRow.push {lo : Nat} {V V' u0 u1 : Value} {es : List EMarkovRule} {xs : List DMarkovRule} {f0 f1 : List Int} {f2 : Bool} {W Wa Wb Wc W' : World} (h : MkRow lo V es xs W) (hlo : lo ≤ W.heap.size)
    (ha : Below W.heap.size W Wa) (q0 : Wd W.heap.size u0 f0 Wa) (hb : Below Wa.heap.size Wa Wb) (q1 : Wd Wa.heap.size u1 f1 Wb) (hc : Below Wb.heap.size Wb Wc) (hg : Wc.grownBy W' V.ownBlock)
    (own' : W'.ownsRow lo 117 3 V' (es.length + 1) (rows EMarkovRule.vs es ++ [u0, u1, .bool f2])) : MkRow lo V' (es ++ [⟨⟨f0, f1, f2⟩, u0, u1⟩]) (xs ++ [⟨f0, f1, f2⟩]) W' := by
  refine ⟨h.acc.push hlo ha (e := ⟨⟨f0, f1, f2⟩, u0, u1⟩) q0.1 hb q1.1 hc hg own', ?_, by rw [List.map_append, h.map]; rfl⟩
  obtain ⟨_, g0, c0, e0, l0, t0⟩ := q0
  obtain ⟨_, g1, c1, e1, l1, t1⟩ := q1
  have s1 := ha.size; have s2 := hb.size; have s3 := hc.size; have s4 := hg.size
  refine adrsMarkovRule_snoc (m := W.heap.size) h.adr (by omega) ?_
  exact ⟨⟨g0, c0, by omega, e0, l0⟩, ⟨g1, c1, by omega, e1, l1⟩, trivial⟩
theorem MkRow.rcs {lo : Nat} {V : Value} {es : List EMarkovRule} {xs : List DMarkovRule} {W : World} (h : MkRow lo V es xs W) : RcsMarkovRule W es := rcsMarkovRule_of h.acc.grid h.adr (Nat.le_refl _)
theorem Inn.setvar {s lo hi : Nat} {e t : TypeId} {vs : List Value} {its : List (Nat × List Value)} {w : World} {g i : Nat} {cs : Array Value} {fr : Nat × Nat} (h : Inn s e lo hi vs its w) (hg : w.heap[g]? = some (.cells cs t fr)) (hne : e ≠ t) (u : Value) : Inn s e lo hi vs its (w.setCell ⟨g, i, none⟩ u) :=
  ⟨h.len, fun j v it h1 h2 => own_setCell (h.own j v it h1 h2) (fun e1 => own_ne_block (h.own j v it h1 h2) hg hne e1) u, h.top, h.apart⟩
theorem MkRow.setvar {lo : Nat} {V : Value} {es : List EMarkovRule} {xs : List DMarkovRule} {W : World} {g i : Nat} {cs : Array Value} {fr : Nat × Nat} {t : TypeId} (h : MkRow lo V es xs W) (hg : W.heap[g]? = some (.cells cs t fr)) (h1 : 2 ≠ t) (h2 : 117 ≠ t) (u : Value) : MkRow lo V es xs (W.setCell ⟨g, i, none⟩ u) := by
  have hs : (W.setCell ⟨g, i, none⟩ u).heap.size = W.heap.size := by simp [World.setCell]
  refine ⟨⟨own_setCell h.acc.own (fun e1 => own_ne_block h.acc.own hg h2 e1) u, ?_⟩, ?_, h.map⟩
  · rw [hs]; exact h.acc.inn.setvar hg h1 u
  · rw [hs]; exact h.adr
theorem MkRow.nil (w : World) : MkRow w.heap.size (.slice (some ⟨w.heap.size, 0, none⟩) 0 0) [] [] (w.alloc (.cells #[] 117)) :=
  ⟨⟨own_empty w _ 3, Inn.nil _ _ _ _ _⟩, (fun e h => by cases h), rfl⟩

/-- The words so far. -/
structure WdRow (lo : Nat) (V : Value) (us : List Value) (ts : List (List Int)) (W : World) : Prop where
  own : W.ownsRow lo 25 1 V us.length us
  inn : Inn 1 2 lo W.heap.size us (itsOf oneI ts) W
theorem WdRow.below {lo : Nat} {V : Value} {us : List Value} {ts : List (List Int)} {W W' : World} (h : WdRow lo V us ts W) (hb : Below W.heap.size W W') : WdRow lo V us ts W' :=
  ⟨own_below' h.own hb, (h.inn.below hb).wide hb.size⟩
theorem WdRow.len {lo : Nat} {V : Value} {us : List Value} {ts : List (List Int)} {W : World} (h : WdRow lo V us ts W) : us.length = ts.length := by rw [h.inn.len]; simp [itsOf]
theorem WdRow.push {lo : Nat} {V V' u : Value} {us : List Value} {ts : List (List Int)} {t : List Int} {W Wa W' : World} (h : WdRow lo V us ts W) (hlo : lo ≤ W.heap.size)
    (ha : Below W.heap.size W Wa) (o : Wa.ownsRow W.heap.size 2 1 u t.length (t.map (Value.int .i64))) (hg : Wa.grownBy W' V.ownBlock) (own' : W'.ownsRow lo 25 1 V' (us.length + 1) (us ++ [u])) : WdRow lo V' (us ++ [u]) (ts ++ [t]) W' := by
  refine ⟨by rw [List.length_append]; exact own', ?_⟩
  have i1 := (h.inn.below ha).snoc (it := (t.length, rows oneI t)) (hi' := Wa.heap.size) (by rw [rows_oneI]; exact o) (Nat.le_refl _) hlo (Nat.le_refl _) ha.size
  have i2 := (i1.kept (own_below' h.own ha) hg (by decide)).wide (hi' := W'.heap.size) hg.size
  have e1 : itsOf oneI (ts ++ [t]) = itsOf oneI ts ++ [(t.length, rows oneI t)] := by simp [itsOf]
  rw [e1]
  exact i2
theorem WdRow.nil (w : World) : WdRow w.heap.size (.slice (some ⟨w.heap.size, 0, none⟩) 0 0) [] [] (w.alloc (.cells #[] 25)) :=
  ⟨own_empty w _ 1, Inn.nil _ _ _ _ _⟩
/-- What other rows and variables turn into, the words stay. -/
theorem WdRow.kept {lo : Nat} {V : Value} {us : List Value} {ts : List (List Int)} {W W' : World} {b s0 n : Nat} {t : TypeId} {V2 : Value} {cs : List Value} (h : WdRow lo V us ts W) (ho : W.ownsRow b t s0 V2 n cs) (hg : W.grownBy W' V2.ownBlock) (h1 : 2 ≠ t) (h2 : 25 ≠ t) : WdRow lo V us ts W' :=
  ⟨h.own.kept hg (own_apart_ty h.own ho h2), (h.inn.kept ho hg h1).wide hg.size⟩
theorem WdRow.setvar {lo : Nat} {V : Value} {us : List Value} {ts : List (List Int)} {W : World} {g i : Nat} {cs : Array Value} {fr : Nat × Nat} {t : TypeId} (h : WdRow lo V us ts W) (hg : W.heap[g]? = some (.cells cs t fr)) (h1 : 2 ≠ t) (h2 : 25 ≠ t) (u : Value) : WdRow lo V us ts (W.setCell ⟨g, i, none⟩ u) := by
  have hs : (W.setCell ⟨g, i, none⟩ u).heap.size = W.heap.size := by simp [World.setCell]
  refine ⟨own_setCell h.own (fun e1 => own_ne_block h.own hg h2 e1) u, ?_⟩
  rw [hs]; exact h.inn.setvar hg h1 u
theorem WdRow.src {lo : Nat} {V : Value} {us : List Value} {ts : List (List Int)} {W : World} (h : WdRow lo V us ts W) {k : Nat} {t : List Int} (ht : ts[k]? = some t) : ∃ u, us[k]? = some u ∧ Src 1 W u t.length (t.map (Value.int .i64)) := by
  have hk := (List.getElem?_eq_some_iff.1 ht).1
  have hu : us[k]? = some (us[k]'(by rw [h.len]; exact hk)) := List.getElem?_eq_getElem _
  have := h.inn.srcs.2 k _ _ hu ht
  rw [rows_oneI] at this
  exact ⟨_, hu, this⟩
end Go.Proofs.Ytcfkjigapnknnaa
