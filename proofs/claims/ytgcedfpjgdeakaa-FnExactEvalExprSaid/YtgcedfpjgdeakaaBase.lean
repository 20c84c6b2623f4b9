/- Common words for the walks of this seat: slices that read as lists of cells. Plain lemmas, no conditions. -/
import Derived.Test.YtgcedfpjgdeakaaRows
import Derived.WalkKit
import Derived.WalkSpells
import Derived.WalkLawsBesides
import Derived.Lib.Hide
import Derived.Deep.QuietTactic
import Derived.BigQuiet
import Derived.Outline
import Derived.Deep.OwnRows
import Derived.Deep.RegionHeld3
import Derived.Deep.AppendLies
import Derived.Laws.EntriesVeiled
namespace Go.Proofs.Ytgcedfpjgdeakaa
open Go.RowKit

/-- The cells from (b, off) on read as xs; the block is there. -/
def Sl (w : World) (b off : Nat) (xs : List Value) : Prop :=
  b < w.heap.size ∧ ∀ j u, xs[j]? = some u → w.cell? ⟨b, off + j, none⟩ = some u

theorem Sl.lt {w : World} {b off : Nat} {xs : List Value} (h : Sl w b off xs) : b < w.heap.size := h.1
theorem Sl.at {w : World} {b off : Nat} {xs : List Value} (h : Sl w b off xs) {j : Nat} {u : Value} (hu : xs[j]? = some u) : w.cell? ⟨b, off + j, none⟩ = some u := h.2 j u hu
theorem Sl.bools {w : World} {b off : Nat} {xs : List Bool} (h : Sl w b off (xs.map Value.bool)) {j : Nat} (hj : j < xs.length) : w.cell? ⟨b, off + j, none⟩ = some (.bool xs[j]) :=
  h.2 j _ (by simp [hj])
theorem Sl.ints {w : World} {b off : Nat} {k : IntKind} {xs : List Int} (h : Sl w b off (xs.map (Value.int k))) {j : Nat} (hj : j < xs.length) : w.cell? ⟨b, off + j, none⟩ = some (.int k xs[j]) :=
  h.2 j _ (by simp [hj])
theorem Sl.drewN {w : World} {b off : Nat} {xs : List Value} (h : Sl w b off xs) (n : Nat) : Sl (w.drewN n) b off xs := h
theorem Sl.below {w w' : World} {B b off : Nat} {xs : List Value} (h : Sl w b off xs) (hb : Below B w w') (hB : b < B) : Sl w' b off xs :=
  ⟨Nat.lt_of_lt_of_le h.1 hb.size, fun j u hu => (hb.cell (p := ⟨b, off + j, none⟩) hB).trans (h.2 j u hu)⟩
theorem Sl.below' {w w' : World} {b off : Nat} {xs : List Value} (h : Sl w b off xs) (hb : Below w.heap.size w w') : Sl w' b off xs := h.below hb h.1

theorem below_drewN {B : Nat} {a w : World} (h : Below B a w) (n : Nat) : Below B a (w.drewN n) := ⟨h.os, h.tape, h.output, h.size, h.block⟩

/-- A slice that came in: empty (whatever its address), or cells that read as xs. -/
def Arg (w : World) (A : Option Addr) (n : Nat) (xs : List Value) : Prop :=
  xs.length = n ∧ (n = 0 ∨ ∃ b off, A = some ⟨b, off, none⟩ ∧ Sl w b off xs)
theorem Arg.below {w w' : World} {A : Option Addr} {n : Nat} {xs : List Value} (h : Arg w A n xs) (hb : Below w.heap.size w w') : Arg w' A n xs := by
  refine ⟨h.1, ?_⟩
  rcases h.2 with h0 | ⟨b, off, rfl, hs⟩
  · exact .inl h0
  · exact .inr ⟨b, off, rfl, hs.below' hb⟩
theorem Arg.sl {w : World} {A : Option Addr} {n : Nat} {xs : List Value} (h : Arg w A n xs) {k : Nat} (hk : k < n) : ∃ b off, A = some ⟨b, off, none⟩ ∧ Sl w b off xs := by
  rcases h.2 with h0 | h0
  · omega
  · exact h0
theorem Arg.of_sl {w : World} {b off n : Nat} {xs : List Value} (h : Sl w b off xs) (hn : xs.length = n) : Arg w (some ⟨b, off, none⟩) n xs := ⟨hn, .inr ⟨b, off, rfl, h⟩⟩
theorem Arg.of_nil (w : World) (A : Option Addr) : Arg w A 0 [] := ⟨rfl, .inl rfl⟩

/-- What a call owns reads as its cells. -/
theorem sl_of_own {w : World} {base : Nat} {e : TypeId} {size g n cap : Nat} {xs : List Value} (h : w.ownsRow base e size (.slice (some ⟨g, 0, none⟩) n cap) n xs) : Sl w g 0 xs := by
  refine ⟨(h.lt g rfl).2, fun j u hu => ?_⟩
  have := h.cells (g := g) rfl j u hu
  unfold Addr.add at this
  split at this
  · rename_i h0; subst h0; simpa using this
  · simpa using this
theorem arg_of_own {w : World} {base : Nat} {e : TypeId} {A : Option Addr} {n cap : Nat} {xs : List Value} (h : w.ownsRow base e 1 (.slice A n cap) n xs) : Arg w A n xs := by
  refine ⟨by have := h.1; omega, ?_⟩
  rcases h.2 with ⟨h', h0⟩ | ⟨g, cap', cur, hv, _⟩
  · exact .inl h0
  · obtain ⟨rfl, rfl⟩ : A = some ⟨g, 0, none⟩ ∧ cap = cap' := by simpa using hv
    exact .inr ⟨g, 0, rfl, sl_of_own h⟩
/-- A row known by its cells is owned. -/
theorem own_of_rowIs {w : World} {base : Nat} {e : TypeId} {g n : Nat} {f : Nat → Value} {xs : List Value} (h : w.rowIs g e n f) (hb : base ≤ g) (hm : n ≤ maxLen) (hl : xs.length = n) (hf : ∀ j u, xs[j]? = some u → f j = u) :
    w.ownsRow base e 1 (.slice (some ⟨g, 0, none⟩) n n) n xs := by
  obtain ⟨cur, hh, hs, hc⟩ := h
  refine ⟨by omega, .inr ⟨g, n, cur, rfl, hb, hh, Nat.le_refl _, hm, by omega, ?_⟩⟩
  apply List.ext_getElem?
  intro j
  by_cases hj : j < n
  · rw [List.getElem?_take, if_pos (by omega)]
    have hx : xs[j]? = some (xs[j]'(by omega)) := List.getElem?_eq_getElem (by omega)
    rw [hx]
    have := hc j hj
    rw [hf j _ hx] at this
    simpa using this
  · rw [List.getElem?_eq_none (by simp; omega), List.getElem?_eq_none (by omega)]
theorem own_below {w w' : World} {base B : Nat} {e : TypeId} {size n : Nat} {v : Value} {xs : List Value} (h : w.ownsRow base e size v n xs) (hb : Below B w w') (hB : ∀ g, v.ownBlock = some g → g < B) : w'.ownsRow base e size v n xs := by
  refine ⟨h.1, ?_⟩
  rcases h.2 with hn | ⟨g, cap, cur, rfl, h1, hg, rest⟩
  · exact .inl hn
  · exact .inr ⟨g, cap, cur, rfl, h1, (hb.block g (hB g rfl)).trans hg, rest⟩
theorem own_below' {w w' : World} {base : Nat} {e : TypeId} {size n : Nat} {v : Value} {xs : List Value} (h : w.ownsRow base e size v n xs) (hb : Below w.heap.size w w') : w'.ownsRow base e size v n xs :=
  own_below h hb fun g hg => (h.lt g hg).2
theorem own_base {w : World} {base base' : Nat} {e : TypeId} {size n : Nat} {v : Value} {xs : List Value} (h : w.ownsRow base e size v n xs) (hb : base' ≤ base) : w.ownsRow base' e size v n xs := by
  refine ⟨h.1, ?_⟩
  rcases h.2 with hn | ⟨g, cap, cur, rfl, h1, rest⟩
  · exact .inl hn
  · exact .inr ⟨g, cap, cur, rfl, Nat.le_trans hb h1, rest⟩

theorem map_at {α : Type} (f : α → Value) (xs : List α) {k : Nat} (h : k < xs.length) : ∃ x, Hid (xs[k]? = some x) ∧ (xs.map f)[k]? = some (f x) :=
  ⟨xs[k], List.getElem?_eq_getElem h, by simp [h]⟩
theorem upd_at {α : Type} (f : α → Value) (xs : List α) (k i : Nat) (x : α) (hx : xs[k]? = some x) (z : Value) :
    (if i = k then f x else if i < k then (xs.map f).getD i undef else z) = if i < k + 1 then (xs.map f).getD i undef else z := by
  by_cases e : i = k
  · subst e; simp [hx]
  · rw [if_neg e]
    by_cases e2 : i < k
    · rw [if_pos e2, if_pos (by omega)]
    · rw [if_neg e2, if_neg (by omega)]

/-- The marks that the laws write: f (k), f (k + 1), .. -/
def marks (f : Int → Value) (k : Int) (n : Nat) : List Value := (List.range n).map fun j : Nat => f (k + (j : Int))
theorem length_marks (f : Int → Value) (k : Int) (n : Nat) : (marks f k n).length = n := by simp [marks]
theorem marks_at (f : Int → Value) (k : Int) (n j : Nat) (h : j < n) : (marks f k n)[j]? = some (f (k + j)) := by simp [marks, h]
theorem marks_set (f : Int → Value) (k : Int) (xs : List Value) (i : Nat) (h : i < xs.length) : (marks f k i ++ xs.drop i).set i (f (k + i)) = marks f k (i + 1) ++ xs.drop (i + 1) := by
  rw [List.set_append_right i (f (k + i)) (by simp [length_marks]), length_marks, Nat.sub_self, List.drop_eq_getElem_cons h, List.set_cons_zero]
  simp [marks, List.range_succ]

theorem take_succ_eq {α : Type} {xs ys : List α} {k : Nat} {x y : α} (h : xs.take k = ys.take k) (hx : xs[k]? = some x) (hy : ys[k]? = some y) (e : x = y) : xs.take (k + 1) = ys.take (k + 1) := by
  rw [List.take_add_one, List.take_add_one, h, hx, hy, e]
theorem ne_of_at {α : Type} {xs ys : List α} {k : Nat} {x y : α} (hx : xs[k]? = some x) (hy : ys[k]? = some y) (e : x ≠ y) : xs ≠ ys := by
  rintro rfl; rw [hx] at hy; injection hy with h; exact e h

theorem quiet_below {w w' : World} {q : Nat} (h : w' = w.drewN q) : Below w.heap.size w w' := by rw [h]; exact below_drewN (Below.refl _ _) q
theorem below_step {w w1 w2 : World} (h : Below w.heap.size w w1) (k : Below w1.heap.size w1 w2) : Below w.heap.size w w2 := h.trans (k.mono h.size)
theorem own_form {w : World} {base : Nat} {e : TypeId} {size n : Nat} {v : Value} {xs : List Value} (h : w.ownsRow base e size v n xs) : ∃ A c, v = .slice A n c := by
  rcases h.2 with ⟨rfl, rfl⟩ | ⟨g, cap, cur, rfl, _⟩
  · exact ⟨_, _, rfl⟩
  · exact ⟨_, _, rfl⟩
/-- Two rows of which one was made before the other's base lie apart. -/
theorem own_apart {w1 w2 : World} {b1 b2 : Nat} {e1 e2 : TypeId} {s1 s2 n1 n2 : Nat} {v1 v2 : Value} {x1 x2 : List Value} (h1 : w1.ownsRow b1 e1 s1 v1 n1 x1) (h2 : w2.ownsRow b2 e2 s2 v2 n2 x2) (hlt : w1.heap.size ≤ b2) :
    v1.ownBlock = none ∨ v1.ownBlock ≠ v2.ownBlock := by
  cases hv : v1.ownBlock with
  | none => exact .inl rfl
  | some k =>
    refine .inr fun e => ?_
    have a1 := (h1.lt k hv).2
    have a2 := (h2.lt k e.symm).1
    omega
theorem own_apart' {w1 w2 : World} {b1 b2 : Nat} {e1 e2 : TypeId} {s1 s2 n1 n2 : Nat} {v1 v2 : Value} {x1 x2 : List Value} (h1 : w1.ownsRow b1 e1 s1 v1 n1 x1) (h2 : w2.ownsRow b2 e2 s2 v2 n2 x2) (hlt : w1.heap.size ≤ b2) :
    v2.ownBlock = none ∨ v2.ownBlock ≠ v1.ownBlock := by
  cases hv : v2.ownBlock with
  | none => exact .inl rfl
  | some k =>
    refine .inr fun e => ?_
    have a1 := (h1.lt k e.symm).2
    have a2 := (h2.lt k hv).1
    omega
theorem grown_below {w0 w w' : World} {base : Nat} {e : TypeId} {size n : Nat} {v : Value} {xs : List Value} (h : Below w0.heap.size w0 w) (ho : w.ownsRow base e size v n xs) (hb : w0.heap.size ≤ base) (hg : w.grownBy w' v.ownBlock) : Below w0.heap.size w0 w' :=
  h.grown hg h.size fun k hk => by have := (ho.lt k hk).1; omega

/-- Numbers that fit int64. -/
def Wf64 (x : Int) : Prop := -9223372036854775808 ≤ x ∧ x ≤ 9223372036854775807
def Wf64s (xs : List Int) : Prop := ∀ x ∈ xs, Wf64 x
theorem wf64_of {x : Int} (h : (Lit.int .i64 x).wf = true) : Wf64 x := by
  have h2 : IntKind.i64.min ≤ x ∧ x ≤ IntKind.i64.max := by simpa [Lit.wf] using h
  have e1 : IntKind.i64.min = -9223372036854775808 := by decide
  have e2 : IntKind.i64.max = 9223372036854775807 := by decide
  rw [e1, e2] at h2
  exact h2
theorem wf64s_of {xs : List Int} (h : ∀ x ∈ xs, (Lit.int .i64 x).wf = true) : Wf64s xs := fun x hx => wf64_of (h x hx)

/-- A callee that leaves the world alone, inside a quiet region. -/
theorem quiet_eq {P : Program} {f : FuncId} {args : Array Value} {w : World} {n : Nat} {v : Value}
    (h : Calls P f args (w.drewN n) fun e w' => e = .returned v ∧ w.drewN n = w') : Calls P f args (w.drewN n) fun e w'' => e = .returned v ∧ ∃ m, w'' = w.drewN m :=
  h.mono fun _ _ ⟨he, hm⟩ => ⟨he, n, hm.symm⟩
theorem quiet_eq2 {P : Program} {f : FuncId} {args : Array Value} {w : World} {a n : Nat} {v : Value}
    (h : Calls P f args (w.drewN (a + n)) fun e w' => e = .returned v ∧ w.drewN (a + n) = w') : Calls P f args (w.drewN (a + n)) fun e w'' => e = .returned v ∧ ∃ m, w'' = w.drewN (a + m) :=
  h.mono fun _ _ ⟨he, hm⟩ => ⟨he, n, hm.symm⟩
theorem quiet_q {P : Program} {f : FuncId} {args : Array Value} {w : World} {n : Nat} {v : Value}
    (h : Calls P f args (w.drewN n) fun e w' => e = .returned v ∧ ∃ m, w' = (w.drewN n).drewN m) : Calls P f args (w.drewN n) fun e w'' => e = .returned v ∧ ∃ m, w'' = w.drewN m :=
  h.mono fun _ _ ⟨he, m, hm⟩ => ⟨he, n + m, by rw [hm, World.drewN_drewN]⟩
theorem quiet_q2 {P : Program} {f : FuncId} {args : Array Value} {w : World} {a n : Nat} {v : Value}
    (h : Calls P f args (w.drewN (a + n)) fun e w' => e = .returned v ∧ ∃ m, w' = (w.drewN (a + n)).drewN m) : Calls P f args (w.drewN (a + n)) fun e w'' => e = .returned v ∧ ∃ m, w'' = w.drewN (a + m) :=
  h.mono fun _ _ ⟨he, m, hm⟩ => ⟨he, n + m, by rw [hm, World.drewN_drewN, Nat.add_assoc]⟩

section
variable {P : Program} {w : World}
/-- 'out = append(out, x ..)' onto a row of the call's own, the new elements just laid in a block of their own: the world before that block is wr, the call began in w0. -/
theorem wp_app {o : Oper} {a : Act} {K : Act → World → Prop} {Q : Exit → Act → World → Prop} (s x : Operand) (t : TypeId)
    (ho : o.op = .call { callee := .builtin .append, args := #[s, x], argTypes := #[t, t] })
    {e : TypeId} {z : Value} {size bytes : Nat} (ht : P.underlying t = some (.slice e)) (hinfo : (P.info? e).map (fun i => (i.zero, i.size, i.bytes)) = some (some z, size, bytes)) (hzs : z.cells.size = size) (hsz : 0 < size)
    (w0 wr : World) {v : Value} {n : Nat} {xs : List Value} (hown : wr.ownsRow w0.heap.size e size v n xs) (hB : Below w0.heap.size w0 wr) (hs : a.eval s = v)
    (m : Nat) (cs : Array Value) (hx : a.eval x = .slice (some ⟨wr.heap.size, 0, none⟩) m m) (hW : Below wr.heap.size wr w) (hnews : w.heap[wr.heap.size]? = some (.cells cs e (0, 0)))
    (hl : cs.toList.length = m * size) (h1 : ∀ u ∈ cs.toList, u.oneCell' = true) (hm : 0 < m) (h63 : n + m ≤ maxLen) (hbytes : (n + m) * bytes ≤ 140737488355328)
    (h : ∀ g cap w', w'.ownsRow w0.heap.size e size (.slice (some ⟨g, 0, none⟩) (n + m) cap) (n + m) (xs ++ cs.toList) → Below w0.heap.size w0 w' → K (a.put o.dst (.slice (some ⟨g, 0, none⟩) (n + m) cap)) w') : o.wp P a w K Q := by
  obtain ⟨i, hi, hz, hsize, hby⟩ := info_parts hinfo
  have hBw : Below w0.heap.size w0 w := hB.trans (hW.mono hB.size)
  have ho1 := own_below' hown hW
  refine wp_append_lies w s x t ho w0.heap.size e i z size bytes ht hi hz hsize hby hzs hsz v n xs hs ho1 ⟨wr.heap.size, 0, none⟩ m m cs.toList hx hl (World.news_of_block hnews) h1 hm h63 hbytes hBw.size w.heap.size rfl ?_
  intro g cap w' h2 h3 h4 h5
  exact h g cap w' h2 (hBw.grown h3 hBw.size fun k hk => (ho1.lt k hk).1)
theorem wpList_app {ops : Array Oper} {rest : List Oper} {o : Oper} {a : Act} {Q : Exit → Act → World → Prop} (hgd : o.guard = none) (s x : Operand) (t : TypeId)
    (ho : o.op = .call { callee := .builtin .append, args := #[s, x], argTypes := #[t, t] })
    {e : TypeId} {z : Value} {size bytes : Nat} (ht : P.underlying t = some (.slice e)) (hinfo : (P.info? e).map (fun i => (i.zero, i.size, i.bytes)) = some (some z, size, bytes)) (hzs : z.cells.size = size) (hsz : 0 < size)
    (w0 wr : World) {v : Value} {n : Nat} {xs : List Value} (hown : wr.ownsRow w0.heap.size e size v n xs) (hB : Below w0.heap.size w0 wr) (hs : a.eval s = v)
    (m : Nat) (cs : Array Value) (hx : a.eval x = .slice (some ⟨wr.heap.size, 0, none⟩) m m) (hW : Below wr.heap.size wr w) (hnews : w.heap[wr.heap.size]? = some (.cells cs e (0, 0)))
    (hl : cs.toList.length = m * size) (h1 : ∀ u ∈ cs.toList, u.oneCell' = true) (hm : 0 < m) (h63 : n + m ≤ maxLen) (hbytes : (n + m) * bytes ≤ 140737488355328)
    (h : ∀ g cap w', w'.ownsRow w0.heap.size e size (.slice (some ⟨g, 0, none⟩) (n + m) cap) (n + m) (xs ++ cs.toList) → Below w0.heap.size w0 w' → wpList P ops Q rest (a.put o.dst (.slice (some ⟨g, 0, none⟩) (n + m) cap)) w') : wpList P ops Q (o :: rest) a w :=
  wpList_plain hgd fun _ hK => wp_app s x t ho ht hinfo hzs hsz w0 wr hown hB hs m cs hx hW hnews hl h1 hm h63 hbytes fun g cap w' h2 h3 => hK _ _ (h g cap w' h2 h3)
theorem step_app {ops : Array Oper} {o : Oper} {a : Act} {K : Act → World → Prop} {Q : Exit → Act → World → Prop} {E : Prop} (hgd : o.guard = none) (s x : Operand) (t : TypeId)
    (ho : o.op = .call { callee := .builtin .append, args := #[s, x], argTypes := #[t, t] })
    {e : TypeId} {z : Value} {size bytes : Nat} (ht : P.underlying t = some (.slice e)) (hinfo : (P.info? e).map (fun i => (i.zero, i.size, i.bytes)) = some (some z, size, bytes)) (hzs : z.cells.size = size) (hsz : 0 < size)
    (w0 wr : World) {v : Value} {n : Nat} {xs : List Value} (hown : wr.ownsRow w0.heap.size e size v n xs) (hB : Below w0.heap.size w0 wr) (hs : a.eval s = v)
    (m : Nat) (cs : Array Value) (hx : a.eval x = .slice (some ⟨wr.heap.size, 0, none⟩) m m) (hW : Below wr.heap.size wr w) (hnews : w.heap[wr.heap.size]? = some (.cells cs e (0, 0)))
    (hl : cs.toList.length = m * size) (h1 : ∀ u ∈ cs.toList, u.oneCell' = true) (hm : 0 < m) (h63 : n + m ≤ maxLen) (hbytes : (n + m) * bytes ≤ 140737488355328)
    (h : ∀ g cap w', w'.ownsRow w0.heap.size e size (.slice (some ⟨g, 0, none⟩) (n + m) cap) (n + m) (xs ++ cs.toList) → Below w0.heap.size w0 w' → K (a.put o.dst (.slice (some ⟨g, 0, none⟩) (n + m) cap)) w') :
    if Region.wanted o (yielded ops a.tmps) = true then Oper.wp P o a w K Q else E := by
  have hw : Region.wanted o (yielded ops a.tmps) = true := by simp [Region.wanted, hgd]
  rw [if_pos hw]
  exact wp_app s x t ho ht hinfo hzs hsz w0 wr hown hB hs m cs hx hW hnews hl h1 hm h63 hbytes h
end
section
variable {P : Program} {w : World}
/-- The same, and of the blocks that were there in wr only the row's own may have turned. -/
theorem wp_appg {o : Oper} {a : Act} {K : Act → World → Prop} {Q : Exit → Act → World → Prop} (s x : Operand) (t : TypeId)
    (ho : o.op = .call { callee := .builtin .append, args := #[s, x], argTypes := #[t, t] })
    {e : TypeId} {z : Value} {size bytes : Nat} (ht : P.underlying t = some (.slice e)) (hinfo : (P.info? e).map (fun i => (i.zero, i.size, i.bytes)) = some (some z, size, bytes)) (hzs : z.cells.size = size) (hsz : 0 < size)
    (base : Nat) (wr : World) {v : Value} {n : Nat} {xs : List Value} (hown : wr.ownsRow base e size v n xs) (hbase : base ≤ wr.heap.size) (hs : a.eval s = v)
    (m : Nat) (cs : Array Value) (hx : a.eval x = .slice (some ⟨wr.heap.size, 0, none⟩) m m) (hW : Below wr.heap.size wr w) (hnews : w.heap[wr.heap.size]? = some (.cells cs e (0, 0)))
    (hl : cs.toList.length = m * size) (h1 : ∀ u ∈ cs.toList, u.oneCell' = true) (hm : 0 < m) (h63 : n + m ≤ maxLen) (hbytes : (n + m) * bytes ≤ 140737488355328)
    (h : ∀ g cap w', w'.ownsRow base e size (.slice (some ⟨g, 0, none⟩) (n + m) cap) (n + m) (xs ++ cs.toList) → wr.grownBy w' v.ownBlock → K (a.put o.dst (.slice (some ⟨g, 0, none⟩) (n + m) cap)) w') : o.wp P a w K Q := by
  obtain ⟨i, hi, hz, hsize, hby⟩ := info_parts hinfo
  have ho1 := own_below' hown hW
  refine wp_append_lies w s x t ho base e i z size bytes ht hi hz hsize hby hzs hsz v n xs hs ho1 ⟨wr.heap.size, 0, none⟩ m m cs.toList hx hl (World.news_of_block hnews) h1 hm h63 hbytes (Nat.le_trans hbase hW.size) w.heap.size rfl ?_
  intro g cap w' h2 h3 h4 h5
  exact h g cap w' h2 ⟨h3.os.trans hW.os, h3.tape.trans hW.tape, h3.output.trans hW.output, Nat.le_trans hW.size h3.size, fun k hk hne => (h3.block k (Nat.lt_of_lt_of_le hk hW.size) hne).trans (hW.block k hk)⟩
theorem wpList_appg {ops : Array Oper} {rest : List Oper} {o : Oper} {a : Act} {Q : Exit → Act → World → Prop} (hgd : o.guard = none) (s x : Operand) (t : TypeId)
    (ho : o.op = .call { callee := .builtin .append, args := #[s, x], argTypes := #[t, t] })
    {e : TypeId} {z : Value} {size bytes : Nat} (ht : P.underlying t = some (.slice e)) (hinfo : (P.info? e).map (fun i => (i.zero, i.size, i.bytes)) = some (some z, size, bytes)) (hzs : z.cells.size = size) (hsz : 0 < size)
    (base : Nat) (wr : World) {v : Value} {n : Nat} {xs : List Value} (hown : wr.ownsRow base e size v n xs) (hbase : base ≤ wr.heap.size) (hs : a.eval s = v)
    (m : Nat) (cs : Array Value) (hx : a.eval x = .slice (some ⟨wr.heap.size, 0, none⟩) m m) (hW : Below wr.heap.size wr w) (hnews : w.heap[wr.heap.size]? = some (.cells cs e (0, 0)))
    (hl : cs.toList.length = m * size) (h1 : ∀ u ∈ cs.toList, u.oneCell' = true) (hm : 0 < m) (h63 : n + m ≤ maxLen) (hbytes : (n + m) * bytes ≤ 140737488355328)
    (h : ∀ g cap w', w'.ownsRow base e size (.slice (some ⟨g, 0, none⟩) (n + m) cap) (n + m) (xs ++ cs.toList) → wr.grownBy w' v.ownBlock → wpList P ops Q rest (a.put o.dst (.slice (some ⟨g, 0, none⟩) (n + m) cap)) w') : wpList P ops Q (o :: rest) a w :=
  wpList_plain hgd fun _ hK => wp_appg s x t ho ht hinfo hzs hsz base wr hown hbase hs m cs hx hW hnews hl h1 hm h63 hbytes fun g cap w' h2 h3 => hK _ _ (h g cap w' h2 h3)
end

theorem cell_of_heap {w : World} {g i : Nat} {cs : Array Value} {t : TypeId} {fr : Nat × Nat} (h : w.heap[g]? = some (.cells cs t fr)) : w.cell? ⟨g, i, none⟩ = cs[i]? := by
  simp [World.cell?, h]
theorem frozen_of_heap {w : World} {g i : Nat} {cs : Array Value} {t : TypeId} (h : w.heap[g]? = some (.cells cs t (0, 0))) : w.frozen? ⟨g, i, none⟩ = false := by
  simp [World.frozen?, h]
theorem heap_lt {w : World} {g : Nat} {o : Obj} (h : w.heap[g]? = some o) : g < w.heap.size := (Array.getElem?_eq_some_iff.1 h).1
theorem heap_ne {w : World} {g g' : Nat} {cs cs' : Array Value} {t t' : TypeId} {fr fr' : Nat × Nat} (h : w.heap[g]? = some (.cells cs t fr)) (h' : w.heap[g']? = some (.cells cs' t' fr')) (hne : t ≠ t') : g ≠ g' := by
  rintro rfl
  rw [h] at h'
  injection h' with h'
  injection h' with _ ht
  exact hne ht
theorem own_ne_block {w : World} {base : Nat} {e : TypeId} {size n : Nat} {v : Value} {xs : List Value} (h : w.ownsRow base e size v n xs) {g : Nat} {cs : Array Value} {t : TypeId} {fr : Nat × Nat} (hg : w.heap[g]? = some (.cells cs t fr)) (hne : e ≠ t) : some g ≠ v.ownBlock := by
  rcases h.2 with ⟨rfl, _⟩ | ⟨g', cap, cur, rfl, _, hh, _⟩
  · simp [Value.ownBlock]
  · intro he
    have : g = g' := by simpa [Value.ownBlock] using he
    subst this
    exact heap_ne hh hg hne rfl
theorem heap_set {w : World} {g i : Nat} {cs : Array Value} {t : TypeId} {fr : Nat × Nat} (h : w.heap[g]? = some (.cells cs t fr)) (u : Value) : (w.setCell ⟨g, i, none⟩ u).heap[g]? = some (.cells (cs.setIfInBounds i u) t fr) := by
  simp [World.setCell, Array.getElem?_modify, h]
theorem heap_set_other {w : World} {g : Nat} {o : Obj} (h : w.heap[g]? = some o) (p : Addr) (hne : g ≠ p.block) (u : Value) : (w.setCell p u).heap[g]? = some o := (Below.heap_setCell w p u g hne).trans h
theorem own_setCell {w : World} {base : Nat} {e : TypeId} {size n : Nat} {v : Value} {xs : List Value} (h : w.ownsRow base e size v n xs) {p : Addr} (hne : some p.block ≠ v.ownBlock) (u : Value) : (w.setCell p u).ownsRow base e size v n xs := by
  refine ⟨h.1, ?_⟩
  rcases h.2 with h2 | ⟨g, cap, cur, rfl, hg, hh, r⟩
  · exact .inl h2
  · exact .inr ⟨g, cap, cur, rfl, hg, heap_set_other hh p (fun e => hne (by rw [e]; rfl)) u, r⟩
theorem grown_setCell {w w' : World} {g : Nat} (h : w.grownBy w' (some g)) (i : Nat) (u : Value) : w.grownBy (w'.setCell ⟨g, i, none⟩ u) (some g) :=
  ⟨h.os, h.tape, h.output, by simpa [World.setCell] using h.size, fun k hk hne => (Below.heap_setCell w' ⟨g, i, none⟩ u k (fun e => hne (by rw [e]))).trans (h.block k hk hne)⟩
theorem grown_of_below {w w' : World} (h : Below w.heap.size w w') (row : Option Nat) : w.grownBy w' row := ⟨h.os, h.tape, h.output, h.size, fun k hk _ => h.block k hk⟩
theorem grown_keep {w w' : World} {row : Option Nat} (h : w.grownBy w' row) {g : Nat} {o : Obj} (hg : w.heap[g]? = some o) (hne : some g ≠ row) : w'.heap[g]? = some o := (h.block g (heap_lt hg) hne).trans hg
theorem grown_drewN {w w' : World} {row : Option Nat} (h : w.grownBy w' row) (n : Nat) : w.grownBy (w'.drewN n) row := ⟨h.os, h.tape, h.output, h.size, h.block⟩

theorem var_facts {w : World} {g : Nat} {u : Value} {t : TypeId} (h : w.heap[g]? = some (.cells #[u] t (0, 0))) : w.cell? ⟨g, 0, none⟩ = some u ∧ w.frozen? ⟨g, 0, none⟩ = false ∧ Hid (w.heap[g]? = some (.cells #[u] t (0, 0))) :=
  ⟨by rw [cell_of_heap h]; rfl, frozen_of_heap h, h⟩
theorem var_keep {w w1 : World} {base : Nat} {e : TypeId} {size n : Nat} {v : Value} {xs : List Value} (hg1 : w.grownBy w1 v.ownBlock) (hown : w.ownsRow base e size v n xs) {g : Nat} {u : Value} {t : TypeId}
    (h : w.heap[g]? = some (.cells #[u] t (0, 0))) (hne : e ≠ t) : w1.cell? ⟨g, 0, none⟩ = some u ∧ w1.frozen? ⟨g, 0, none⟩ = false ∧ Hid (w1.heap[g]? = some (.cells #[u] t (0, 0))) :=
  var_facts (grown_keep hg1 h (own_ne_block hown h hne))

/-- 'make([]T, 0, n)', T of one cell. -/
theorem run_make_cap {P : Program} (t e : TypeId) (z : Value) (bytes : Nat) (ht : P.underlying t = some (.slice e)) (hinfo : (P.info? e).map (fun i => (i.zero, i.size, i.bytes)) = some (some z, 1, bytes)) (hz1 : z.cells = #[z])
    (kl kc : IntKind) (n : Nat) (hbytes : bytes * n ≤ 281474976710656) (h63 : n ≤ 9223372036854775807) (w : World) :
    (Instr.makeSlice t (.int kl 0) (.int kc (n : Int))).run P w = .ok (.slice (some ⟨w.heap.size, 0, none⟩) 0 n) (w.alloc (.cells (madeCells #[z] n) e)) := by
  obtain ⟨i, hi, hz, hsize, hb⟩ := info_parts hinfo
  have hb' : (i.bytes : Int) * (n : Int) ≤ 281474976710656 := by
    have h : ((i.bytes * n : Nat) : Int) ≤ 281474976710656 := by rw [hb]; omega
    rwa [Int.natCast_mul] at h
  have hr := run_make (P := P) w t e i z ht hi hz kl kc 0 n (by omega) (by omega) hb' (by omega)
  simp only [Int.toNat_natCast, hsize, Nat.mul_one, hz1] at hr
  exact hr

theorem laid_below (w : World) (o : Obj) : Below w.heap.size w (w.alloc o) := (Below.refl _ _).alloc (Nat.le_refl _) _
theorem laid_drew (w : World) (o : Obj) : Below w.heap.size w (w.alloc o).drew := (laid_below w o).drew

theorem ret_int {k : IntKind} {a b : Int} (h : a = b) : Ending.returned (.int k a) = .returned (.int k b) := by rw [h]
theorem ret_bool {a b : Bool} (h : a = b) : Ending.returned (.bool a) = .returned (.bool b) := by rw [h]

end Go.Proofs.Ytgcedfpjgdeakaa
