/- The law FnExactReadLoop returns true for every input, and each argument reads afterwards as before: the proof, part 1. No conditions. -/
import Derived.Test.YtgcedfpjgdeakaaDoorRows
import Derived.WalkKit
import Derived.WalkSpells
import Derived.WalkLawsBesides
import Derived.JoinedOf
import Derived.Lib.Hide
import Derived.Deep.QuietTactic
import Derived.BigQuiet
import Derived.Outline
import Derived.Deep.OwnRows
import Derived.Deep.RegionHeld3
import Derived.Deep.AppendLies
import Derived.Laws.EntriesVeiled
import Derived.Lib.AppendZeros
import Derived.StillTailTactics
/- Facts of the whole program that each law's row asks for: proved once a seat. No conditions. -/
namespace Go.Proofs.YtgcedfpjgdeakaaDoor.pf
open Go.RowKit

theorem band {a b : Bool} (h : a = true) (k : b = true) : (a && b) = true := by rw [h, k]; rfl
theorem beqOf {α : Type} [BEq α] [ReflBEq α] {a b : α} (h : b = a) : (a == b) = true := by rw [h]; exact BEq.rfl
theorem laid : laidOutB Tryd.pinned.checked.prog = true := by kernel_rfl
theorem mapsRow : mapsRowed Tryd.pinned.checked.prog = true := by kernel_rfl
theorem stops : (Tryd.pinned.checked.prog.stops == []) = true := by kernel_rfl
theorem stopKnobs : (Tryd.pinned.checked.prog.stopKnobs == []) = true := by kernel_rfl
theorem plainKeys : Tryd.pinned.checked.prog.plainKeys = true := by kernel_rfl
theorem heard : Tryd.pinned.checked.prog.stopsHeard = true := by kernel_rfl
theorem enter : Tryd.pinned.checked.prog.mayEnter = true := by kernel_rfl
theorem lifts : Tryd.pinned.checked.prog.liftsFinal = false := by kernel_rfl
theorem make : Tryd.pinned.checked.prog.make = some .cut := by kernel_rfl
end Go.Proofs.YtgcedfpjgdeakaaDoor.pf

/- Common words for the walks of this seat: slices that read as lists of cells. Plain lemmas, no conditions. -/
namespace Go.Proofs.YtgcedfpjgdeakaaDoor
open Go.RowKit

/-- The cells from (b, off) on read as xs; the block is there. -/
def Sl (w : World) (b off : Nat) (xs : List Value) : Prop :=
  b < w.heap.size ∧ ∀ j u, xs[j]? = some u → w.cell? ⟨b, off + j, none⟩ = some u

theorem Sl.lt {w : World} {b off : Nat} {xs : List Value} (h : Sl w b off xs) : b < w.heap.size := h.1
theorem Sl.at {w : World} {b off : Nat} {xs : List Value} (h : Sl w b off xs) {j : Nat} {u : Value} (hu : xs[j]? = some u) : w.cell? ⟨b, off + j, none⟩ = some u := h.2 j u hu
theorem Sl.bools {w : World} {b off : Nat} {xs : List Bool} (h : Sl w b off (xs.map Value.bool)) {j : Nat} (hj : j < xs.length) : w.cell? ⟨b, off + j, none⟩ = some (.bool xs[j]) :=
  h.2 j _ (by simp [hj])
theorem Sl.ints {w : World} {b off : Nat} {k : IntKind} {xs : List Int} (h : Sl w b off (xs.map (Value.int k))) {j : Nat} (hj : j < xs.length) : w.cell? ⟨b, off + j, none⟩ = some (.int k xs[j]) :=
  h.2 j _ (by simp [hj])
theorem Sl.drewN {w : World} {b off : Nat} {xs : List Value} (h : Sl w b off xs) (n : Nat) : Sl (w.drewN n) b off xs := h
theorem Sl.below {w w' : World} {B b off : Nat} {xs : List Value} (h : Sl w b off xs) (hb : Below B w w') (hB : b < B) : Sl w' b off xs :=
  ⟨Nat.lt_of_lt_of_le h.1 hb.size, fun j u hu => (hb.cell (p := ⟨b, off + j, none⟩) hB).trans (h.2 j u hu)⟩
theorem Sl.below' {w w' : World} {b off : Nat} {xs : List Value} (h : Sl w b off xs) (hb : Below w.heap.size w w') : Sl w' b off xs := h.below hb h.1

theorem below_drewN {B : Nat} {a w : World} (h : Below B a w) (n : Nat) : Below B a (w.drewN n) := ⟨h.os, h.tape, h.output, h.size, h.block⟩

/-- A slice that came in: empty (whatever its address), or cells that read as xs. -/
def Arg (w : World) (A : Option Addr) (n : Nat) (xs : List Value) : Prop :=
  xs.length = n ∧ (n = 0 ∨ ∃ b off, A = some ⟨b, off, none⟩ ∧ Sl w b off xs)
theorem Arg.below {w w' : World} {A : Option Addr} {n : Nat} {xs : List Value} (h : Arg w A n xs) (hb : Below w.heap.size w w') : Arg w' A n xs := by
  refine ⟨h.1, ?_⟩
  rcases h.2 with h0 | ⟨b, off, rfl, hs⟩
  · exact .inl h0
  · exact .inr ⟨b, off, rfl, hs.below' hb⟩
theorem Arg.sl {w : World} {A : Option Addr} {n : Nat} {xs : List Value} (h : Arg w A n xs) {k : Nat} (hk : k < n) : ∃ b off, A = some ⟨b, off, none⟩ ∧ Sl w b off xs := by
  rcases h.2 with h0 | h0
  · omega
  · exact h0
theorem Arg.of_sl {w : World} {b off n : Nat} {xs : List Value} (h : Sl w b off xs) (hn : xs.length = n) : Arg w (some ⟨b, off, none⟩) n xs := ⟨hn, .inr ⟨b, off, rfl, h⟩⟩
theorem Arg.of_nil (w : World) (A : Option Addr) : Arg w A 0 [] := ⟨rfl, .inl rfl⟩

/-- What a call owns reads as its cells. -/
theorem sl_of_own {w : World} {base : Nat} {e : TypeId} {size g n cap : Nat} {xs : List Value} (h : w.ownsRow base e size (.slice (some ⟨g, 0, none⟩) n cap) n xs) : Sl w g 0 xs := by
  refine ⟨(h.lt g rfl).2, fun j u hu => ?_⟩
  have := h.cells (g := g) rfl j u hu
  unfold Addr.add at this
  split at this
  · rename_i h0; subst h0; simpa using this
  · simpa using this
theorem arg_of_own {w : World} {base : Nat} {e : TypeId} {A : Option Addr} {n cap : Nat} {xs : List Value} (h : w.ownsRow base e 1 (.slice A n cap) n xs) : Arg w A n xs := by
  refine ⟨by have := h.1; omega, ?_⟩
  rcases h.2 with ⟨h', h0⟩ | ⟨g, cap', cur, hv, _⟩
  · exact .inl h0
  · obtain ⟨rfl, rfl⟩ : A = some ⟨g, 0, none⟩ ∧ cap = cap' := by simpa using hv
    exact .inr ⟨g, 0, rfl, sl_of_own h⟩
/-- A row known by its cells is owned. -/
theorem own_of_rowIs {w : World} {base : Nat} {e : TypeId} {g n : Nat} {f : Nat → Value} {xs : List Value} (h : w.rowIs g e n f) (hb : base ≤ g) (hm : n ≤ maxLen) (hl : xs.length = n) (hf : ∀ j u, xs[j]? = some u → f j = u) :
    w.ownsRow base e 1 (.slice (some ⟨g, 0, none⟩) n n) n xs := by
  obtain ⟨cur, hh, hs, hc⟩ := h
  refine ⟨by omega, .inr ⟨g, n, cur, rfl, hb, hh, Nat.le_refl _, hm, by omega, ?_⟩⟩
  apply List.ext_getElem?
  intro j
  by_cases hj : j < n
  · rw [List.getElem?_take, if_pos (by omega)]
    have hx : xs[j]? = some (xs[j]'(by omega)) := List.getElem?_eq_getElem (by omega)
    rw [hx]
    have := hc j hj
    rw [hf j _ hx] at this
    simpa using this
  · rw [List.getElem?_eq_none (by simp; omega), List.getElem?_eq_none (by omega)]
theorem own_below {w w' : World} {base B : Nat} {e : TypeId} {size n : Nat} {v : Value} {xs : List Value} (h : w.ownsRow base e size v n xs) (hb : Below B w w') (hB : ∀ g, v.ownBlock = some g → g < B) : w'.ownsRow base e size v n xs := by
  refine ⟨h.1, ?_⟩
  rcases h.2 with hn | ⟨g, cap, cur, rfl, h1, hg, rest⟩
  · exact .inl hn
  · exact .inr ⟨g, cap, cur, rfl, h1, (hb.block g (hB g rfl)).trans hg, rest⟩
theorem own_below' {w w' : World} {base : Nat} {e : TypeId} {size n : Nat} {v : Value} {xs : List Value} (h : w.ownsRow base e size v n xs) (hb : Below w.heap.size w w') : w'.ownsRow base e size v n xs :=
  own_below h hb fun g hg => (h.lt g hg).2
theorem own_base {w : World} {base base' : Nat} {e : TypeId} {size n : Nat} {v : Value} {xs : List Value} (h : w.ownsRow base e size v n xs) (hb : base' ≤ base) : w.ownsRow base' e size v n xs := by
  refine ⟨h.1, ?_⟩
  rcases h.2 with hn | ⟨g, cap, cur, rfl, h1, rest⟩
  · exact .inl hn
  · exact .inr ⟨g, cap, cur, rfl, Nat.le_trans hb h1, rest⟩

theorem map_at {α : Type} (f : α → Value) (xs : List α) {k : Nat} (h : k < xs.length) : ∃ x, Hid (xs[k]? = some x) ∧ (xs.map f)[k]? = some (f x) :=
  ⟨xs[k], List.getElem?_eq_getElem h, by simp [h]⟩
theorem upd_at {α : Type} (f : α → Value) (xs : List α) (k i : Nat) (x : α) (hx : xs[k]? = some x) (z : Value) :
    (if i = k then f x else if i < k then (xs.map f).getD i undef else z) = if i < k + 1 then (xs.map f).getD i undef else z := by
  by_cases e : i = k
  · subst e; simp [hx]
  · rw [if_neg e]
    by_cases e2 : i < k
    · rw [if_pos e2, if_pos (by omega)]
    · rw [if_neg e2, if_neg (by omega)]

/-- The marks that the laws write: f (k), f (k + 1), .. -/
def marks (f : Int → Value) (k : Int) (n : Nat) : List Value := (List.range n).map fun j : Nat => f (k + (j : Int))
theorem length_marks (f : Int → Value) (k : Int) (n : Nat) : (marks f k n).length = n := by simp [marks]
theorem marks_at (f : Int → Value) (k : Int) (n j : Nat) (h : j < n) : (marks f k n)[j]? = some (f (k + j)) := by simp [marks, h]
theorem marks_set (f : Int → Value) (k : Int) (xs : List Value) (i : Nat) (h : i < xs.length) : (marks f k i ++ xs.drop i).set i (f (k + i)) = marks f k (i + 1) ++ xs.drop (i + 1) := by
  rw [List.set_append_right i (f (k + i)) (by simp [length_marks]), length_marks, Nat.sub_self, List.drop_eq_getElem_cons h, List.set_cons_zero]
  simp [marks, List.range_succ]

theorem take_succ_eq {α : Type} {xs ys : List α} {k : Nat} {x y : α} (h : xs.take k = ys.take k) (hx : xs[k]? = some x) (hy : ys[k]? = some y) (e : x = y) : xs.take (k + 1) = ys.take (k + 1) := by
  rw [List.take_add_one, List.take_add_one, h, hx, hy, e]
theorem ne_of_at {α : Type} {xs ys : List α} {k : Nat} {x y : α} (hx : xs[k]? = some x) (hy : ys[k]? = some y) (e : x ≠ y) : xs ≠ ys := by
  rintro rfl; rw [hx] at hy; injection hy with h; exact e h

theorem quiet_below {w w' : World} {q : Nat} (h : w' = w.drewN q) : Below w.heap.size w w' := by rw [h]; exact below_drewN (Below.refl _ _) q
theorem below_step {w w1 w2 : World} (h : Below w.heap.size w w1) (k : Below w1.heap.size w1 w2) : Below w.heap.size w w2 := h.trans (k.mono h.size)
theorem own_form {w : World} {base : Nat} {e : TypeId} {size n : Nat} {v : Value} {xs : List Value} (h : w.ownsRow base e size v n xs) : ∃ A c, v = .slice A n c := by
  rcases h.2 with ⟨rfl, rfl⟩ | ⟨g, cap, cur, rfl, _⟩
  · exact ⟨_, _, rfl⟩
  · exact ⟨_, _, rfl⟩
/-- Two rows of which one was made before the other's base lie apart. -/
theorem own_apart {w1 w2 : World} {b1 b2 : Nat} {e1 e2 : TypeId} {s1 s2 n1 n2 : Nat} {v1 v2 : Value} {x1 x2 : List Value} (h1 : w1.ownsRow b1 e1 s1 v1 n1 x1) (h2 : w2.ownsRow b2 e2 s2 v2 n2 x2) (hlt : w1.heap.size ≤ b2) :
    v1.ownBlock = none ∨ v1.ownBlock ≠ v2.ownBlock := by
  cases hv : v1.ownBlock with
  | none => exact .inl rfl
  | some k =>
    refine .inr fun e => ?_
    have a1 := (h1.lt k hv).2
    have a2 := (h2.lt k e.symm).1
    omega
theorem own_apart' {w1 w2 : World} {b1 b2 : Nat} {e1 e2 : TypeId} {s1 s2 n1 n2 : Nat} {v1 v2 : Value} {x1 x2 : List Value} (h1 : w1.ownsRow b1 e1 s1 v1 n1 x1) (h2 : w2.ownsRow b2 e2 s2 v2 n2 x2) (hlt : w1.heap.size ≤ b2) :
    v2.ownBlock = none ∨ v2.ownBlock ≠ v1.ownBlock := by
  cases hv : v2.ownBlock with
  | none => exact .inl rfl
  | some k =>
    refine .inr fun e => ?_
    have a1 := (h1.lt k e.symm).2
    have a2 := (h2.lt k hv).1
    omega
theorem grown_below {w0 w w' : World} {base : Nat} {e : TypeId} {size n : Nat} {v : Value} {xs : List Value} (h : Below w0.heap.size w0 w) (ho : w.ownsRow base e size v n xs) (hb : w0.heap.size ≤ base) (hg : w.grownBy w' v.ownBlock) : Below w0.heap.size w0 w' :=
  h.grown hg h.size fun k hk => by have := (ho.lt k hk).1; omega

/-- Numbers that fit int64. -/
def Wf64 (x : Int) : Prop := -9223372036854775808 ≤ x ∧ x ≤ 9223372036854775807
def Wf64s (xs : List Int) : Prop := ∀ x ∈ xs, Wf64 x
theorem wf64_of {x : Int} (h : (Lit.int .i64 x).wf = true) : Wf64 x := by
  have h2 : IntKind.i64.min ≤ x ∧ x ≤ IntKind.i64.max := by simpa [Lit.wf] using h
  have e1 : IntKind.i64.min = -9223372036854775808 := by decide
  have e2 : IntKind.i64.max = 9223372036854775807 := by decide
  rw [e1, e2] at h2
  exact h2
theorem wf64s_of {xs : List Int} (h : ∀ x ∈ xs, (Lit.int .i64 x).wf = true) : Wf64s xs := fun x hx => wf64_of (h x hx)

/-- A callee that leaves the world alone, inside a quiet region. -/
theorem quiet_eq {P : Program} {f : FuncId} {args : Array Value} {w : World} {n : Nat} {v : Value}
    (h : Calls P f args (w.drewN n) fun e w' => e = .returned v ∧ w.drewN n = w') : Calls P f args (w.drewN n) fun e w'' => e = .returned v ∧ ∃ m, w'' = w.drewN m :=
  h.mono fun _ _ ⟨he, hm⟩ => ⟨he, n, hm.symm⟩
theorem quiet_eq2 {P : Program} {f : FuncId} {args : Array Value} {w : World} {a n : Nat} {v : Value}
    (h : Calls P f args (w.drewN (a + n)) fun e w' => e = .returned v ∧ w.drewN (a + n) = w') : Calls P f args (w.drewN (a + n)) fun e w'' => e = .returned v ∧ ∃ m, w'' = w.drewN (a + m) :=
  h.mono fun _ _ ⟨he, hm⟩ => ⟨he, n, hm.symm⟩
theorem quiet_q {P : Program} {f : FuncId} {args : Array Value} {w : World} {n : Nat} {v : Value}
    (h : Calls P f args (w.drewN n) fun e w' => e = .returned v ∧ ∃ m, w' = (w.drewN n).drewN m) : Calls P f args (w.drewN n) fun e w'' => e = .returned v ∧ ∃ m, w'' = w.drewN m :=
  h.mono fun _ _ ⟨he, m, hm⟩ => ⟨he, n + m, by rw [hm, World.drewN_drewN]⟩
theorem quiet_q2 {P : Program} {f : FuncId} {args : Array Value} {w : World} {a n : Nat} {v : Value}
    (h : Calls P f args (w.drewN (a + n)) fun e w' => e = .returned v ∧ ∃ m, w' = (w.drewN (a + n)).drewN m) : Calls P f args (w.drewN (a + n)) fun e w'' => e = .returned v ∧ ∃ m, w'' = w.drewN (a + m) :=
  h.mono fun _ _ ⟨he, m, hm⟩ => ⟨he, n + m, by rw [hm, World.drewN_drewN, Nat.add_assoc]⟩

section
variable {P : Program} {w : World}
/-- 'out = append(out, x ..)' onto a row of the call's own, the new elements just laid in a block of their own: the world before that block is wr, the call began in w0. -/
theorem wp_app {o : Oper} {a : Act} {K : Act → World → Prop} {Q : Exit → Act → World → Prop} (s x : Operand) (t : TypeId)
    (ho : o.op = .call { callee := .builtin .append, args := #[s, x], argTypes := #[t, t] })
    {e : TypeId} {z : Value} {size bytes : Nat} (ht : P.underlying t = some (.slice e)) (hinfo : (P.info? e).map (fun i => (i.zero, i.size, i.bytes)) = some (some z, size, bytes)) (hzs : z.cells.size = size) (hsz : 0 < size)
    (w0 wr : World) {v : Value} {n : Nat} {xs : List Value} (hown : wr.ownsRow w0.heap.size e size v n xs) (hB : Below w0.heap.size w0 wr) (hs : a.eval s = v)
    (m : Nat) (cs : Array Value) (hx : a.eval x = .slice (some ⟨wr.heap.size, 0, none⟩) m m) (hW : Below wr.heap.size wr w) (hnews : w.heap[wr.heap.size]? = some (.cells cs e (0, 0)))
    (hl : cs.toList.length = m * size) (h1 : ∀ u ∈ cs.toList, u.oneCell' = true) (hm : 0 < m) (h63 : n + m ≤ maxLen) (hbytes : (n + m) * bytes ≤ 140737488355328)
    (h : ∀ g cap w', w'.ownsRow w0.heap.size e size (.slice (some ⟨g, 0, none⟩) (n + m) cap) (n + m) (xs ++ cs.toList) → Below w0.heap.size w0 w' → K (a.put o.dst (.slice (some ⟨g, 0, none⟩) (n + m) cap)) w') : o.wp P a w K Q := by
  obtain ⟨i, hi, hz, hsize, hby⟩ := info_parts hinfo
  have hBw : Below w0.heap.size w0 w := hB.trans (hW.mono hB.size)
  have ho1 := own_below' hown hW
  refine wp_append_lies w s x t ho w0.heap.size e i z size bytes ht hi hz hsize hby hzs hsz v n xs hs ho1 ⟨wr.heap.size, 0, none⟩ m m cs.toList hx hl (World.news_of_block hnews) h1 hm h63 hbytes hBw.size w.heap.size rfl ?_
  intro g cap w' h2 h3 h4 h5
  exact h g cap w' h2 (hBw.grown h3 hBw.size fun k hk => (ho1.lt k hk).1)
theorem wpList_app {ops : Array Oper} {rest : List Oper} {o : Oper} {a : Act} {Q : Exit → Act → World → Prop} (hgd : o.guard = none) (s x : Operand) (t : TypeId)
    (ho : o.op = .call { callee := .builtin .append, args := #[s, x], argTypes := #[t, t] })
    {e : TypeId} {z : Value} {size bytes : Nat} (ht : P.underlying t = some (.slice e)) (hinfo : (P.info? e).map (fun i => (i.zero, i.size, i.bytes)) = some (some z, size, bytes)) (hzs : z.cells.size = size) (hsz : 0 < size)
    (w0 wr : World) {v : Value} {n : Nat} {xs : List Value} (hown : wr.ownsRow w0.heap.size e size v n xs) (hB : Below w0.heap.size w0 wr) (hs : a.eval s = v)
    (m : Nat) (cs : Array Value) (hx : a.eval x = .slice (some ⟨wr.heap.size, 0, none⟩) m m) (hW : Below wr.heap.size wr w) (hnews : w.heap[wr.heap.size]? = some (.cells cs e (0, 0)))
    (hl : cs.toList.length = m * size) (h1 : ∀ u ∈ cs.toList, u.oneCell' = true) (hm : 0 < m) (h63 : n + m ≤ maxLen) (hbytes : (n + m) * bytes ≤ 140737488355328)
    (h : ∀ g cap w', w'.ownsRow w0.heap.size e size (.slice (some ⟨g, 0, none⟩) (n + m) cap) (n + m) (xs ++ cs.toList) → Below w0.heap.size w0 w' → wpList P ops Q rest (a.put o.dst (.slice (some ⟨g, 0, none⟩) (n + m) cap)) w') : wpList P ops Q (o :: rest) a w :=
  wpList_plain hgd fun _ hK => wp_app s x t ho ht hinfo hzs hsz w0 wr hown hB hs m cs hx hW hnews hl h1 hm h63 hbytes fun g cap w' h2 h3 => hK _ _ (h g cap w' h2 h3)
theorem step_app {ops : Array Oper} {o : Oper} {a : Act} {K : Act → World → Prop} {Q : Exit → Act → World → Prop} {E : Prop} (hgd : o.guard = none) (s x : Operand) (t : TypeId)
    (ho : o.op = .call { callee := .builtin .append, args := #[s, x], argTypes := #[t, t] })
    {e : TypeId} {z : Value} {size bytes : Nat} (ht : P.underlying t = some (.slice e)) (hinfo : (P.info? e).map (fun i => (i.zero, i.size, i.bytes)) = some (some z, size, bytes)) (hzs : z.cells.size = size) (hsz : 0 < size)
    (w0 wr : World) {v : Value} {n : Nat} {xs : List Value} (hown : wr.ownsRow w0.heap.size e size v n xs) (hB : Below w0.heap.size w0 wr) (hs : a.eval s = v)
    (m : Nat) (cs : Array Value) (hx : a.eval x = .slice (some ⟨wr.heap.size, 0, none⟩) m m) (hW : Below wr.heap.size wr w) (hnews : w.heap[wr.heap.size]? = some (.cells cs e (0, 0)))
    (hl : cs.toList.length = m * size) (h1 : ∀ u ∈ cs.toList, u.oneCell' = true) (hm : 0 < m) (h63 : n + m ≤ maxLen) (hbytes : (n + m) * bytes ≤ 140737488355328)
    (h : ∀ g cap w', w'.ownsRow w0.heap.size e size (.slice (some ⟨g, 0, none⟩) (n + m) cap) (n + m) (xs ++ cs.toList) → Below w0.heap.size w0 w' → K (a.put o.dst (.slice (some ⟨g, 0, none⟩) (n + m) cap)) w') :
    if Region.wanted o (yielded ops a.tmps) = true then Oper.wp P o a w K Q else E := by
  have hw : Region.wanted o (yielded ops a.tmps) = true := by simp [Region.wanted, hgd]
  rw [if_pos hw]
  exact wp_app s x t ho ht hinfo hzs hsz w0 wr hown hB hs m cs hx hW hnews hl h1 hm h63 hbytes h
end
section
variable {P : Program} {w : World}
/-- The same, and of the blocks that were there in wr only the row's own may have turned. -/
theorem wp_appg {o : Oper} {a : Act} {K : Act → World → Prop} {Q : Exit → Act → World → Prop} (s x : Operand) (t : TypeId)
    (ho : o.op = .call { callee := .builtin .append, args := #[s, x], argTypes := #[t, t] })
    {e : TypeId} {z : Value} {size bytes : Nat} (ht : P.underlying t = some (.slice e)) (hinfo : (P.info? e).map (fun i => (i.zero, i.size, i.bytes)) = some (some z, size, bytes)) (hzs : z.cells.size = size) (hsz : 0 < size)
    (base : Nat) (wr : World) {v : Value} {n : Nat} {xs : List Value} (hown : wr.ownsRow base e size v n xs) (hbase : base ≤ wr.heap.size) (hs : a.eval s = v)
    (m : Nat) (cs : Array Value) (hx : a.eval x = .slice (some ⟨wr.heap.size, 0, none⟩) m m) (hW : Below wr.heap.size wr w) (hnews : w.heap[wr.heap.size]? = some (.cells cs e (0, 0)))
    (hl : cs.toList.length = m * size) (h1 : ∀ u ∈ cs.toList, u.oneCell' = true) (hm : 0 < m) (h63 : n + m ≤ maxLen) (hbytes : (n + m) * bytes ≤ 140737488355328)
    (h : ∀ g cap w', w'.ownsRow base e size (.slice (some ⟨g, 0, none⟩) (n + m) cap) (n + m) (xs ++ cs.toList) → wr.grownBy w' v.ownBlock → K (a.put o.dst (.slice (some ⟨g, 0, none⟩) (n + m) cap)) w') : o.wp P a w K Q := by
  obtain ⟨i, hi, hz, hsize, hby⟩ := info_parts hinfo
  have ho1 := own_below' hown hW
  refine wp_append_lies w s x t ho base e i z size bytes ht hi hz hsize hby hzs hsz v n xs hs ho1 ⟨wr.heap.size, 0, none⟩ m m cs.toList hx hl (World.news_of_block hnews) h1 hm h63 hbytes (Nat.le_trans hbase hW.size) w.heap.size rfl ?_
  intro g cap w' h2 h3 h4 h5
  exact h g cap w' h2 ⟨h3.os.trans hW.os, h3.tape.trans hW.tape, h3.output.trans hW.output, Nat.le_trans hW.size h3.size, fun k hk hne => (h3.block k (Nat.lt_of_lt_of_le hk hW.size) hne).trans (hW.block k hk)⟩
theorem wpList_appg {ops : Array Oper} {rest : List Oper} {o : Oper} {a : Act} {Q : Exit → Act → World → Prop} (hgd : o.guard = none) (s x : Operand) (t : TypeId)
    (ho : o.op = .call { callee := .builtin .append, args := #[s, x], argTypes := #[t, t] })
    {e : TypeId} {z : Value} {size bytes : Nat} (ht : P.underlying t = some (.slice e)) (hinfo : (P.info? e).map (fun i => (i.zero, i.size, i.bytes)) = some (some z, size, bytes)) (hzs : z.cells.size = size) (hsz : 0 < size)
    (base : Nat) (wr : World) {v : Value} {n : Nat} {xs : List Value} (hown : wr.ownsRow base e size v n xs) (hbase : base ≤ wr.heap.size) (hs : a.eval s = v)
    (m : Nat) (cs : Array Value) (hx : a.eval x = .slice (some ⟨wr.heap.size, 0, none⟩) m m) (hW : Below wr.heap.size wr w) (hnews : w.heap[wr.heap.size]? = some (.cells cs e (0, 0)))
    (hl : cs.toList.length = m * size) (h1 : ∀ u ∈ cs.toList, u.oneCell' = true) (hm : 0 < m) (h63 : n + m ≤ maxLen) (hbytes : (n + m) * bytes ≤ 140737488355328)
    (h : ∀ g cap w', w'.ownsRow base e size (.slice (some ⟨g, 0, none⟩) (n + m) cap) (n + m) (xs ++ cs.toList) → wr.grownBy w' v.ownBlock → wpList P ops Q rest (a.put o.dst (.slice (some ⟨g, 0, none⟩) (n + m) cap)) w') : wpList P ops Q (o :: rest) a w :=
  wpList_plain hgd fun _ hK => wp_appg s x t ho ht hinfo hzs hsz base wr hown hbase hs m cs hx hW hnews hl h1 hm h63 hbytes fun g cap w' h2 h3 => hK _ _ (h g cap w' h2 h3)
end

theorem cell_of_heap {w : World} {g i : Nat} {cs : Array Value} {t : TypeId} {fr : Nat × Nat} (h : w.heap[g]? = some (.cells cs t fr)) : w.cell? ⟨g, i, none⟩ = cs[i]? := by
  simp [World.cell?, h]
theorem frozen_of_heap {w : World} {g i : Nat} {cs : Array Value} {t : TypeId} (h : w.heap[g]? = some (.cells cs t (0, 0))) : w.frozen? ⟨g, i, none⟩ = false := by
  simp [World.frozen?, h]
theorem heap_lt {w : World} {g : Nat} {o : Obj} (h : w.heap[g]? = some o) : g < w.heap.size := (Array.getElem?_eq_some_iff.1 h).1
theorem heap_ne {w : World} {g g' : Nat} {cs cs' : Array Value} {t t' : TypeId} {fr fr' : Nat × Nat} (h : w.heap[g]? = some (.cells cs t fr)) (h' : w.heap[g']? = some (.cells cs' t' fr')) (hne : t ≠ t') : g ≠ g' := by
  rintro rfl
  rw [h] at h'
  injection h' with h'
  injection h' with _ ht
  exact hne ht
theorem own_ne_block {w : World} {base : Nat} {e : TypeId} {size n : Nat} {v : Value} {xs : List Value} (h : w.ownsRow base e size v n xs) {g : Nat} {cs : Array Value} {t : TypeId} {fr : Nat × Nat} (hg : w.heap[g]? = some (.cells cs t fr)) (hne : e ≠ t) : some g ≠ v.ownBlock := by
  rcases h.2 with ⟨rfl, _⟩ | ⟨g', cap, cur, rfl, _, hh, _⟩
  · simp [Value.ownBlock]
  · intro he
    have : g = g' := by simpa [Value.ownBlock] using he
    subst this
    exact heap_ne hh hg hne rfl
theorem heap_set {w : World} {g i : Nat} {cs : Array Value} {t : TypeId} {fr : Nat × Nat} (h : w.heap[g]? = some (.cells cs t fr)) (u : Value) : (w.setCell ⟨g, i, none⟩ u).heap[g]? = some (.cells (cs.setIfInBounds i u) t fr) := by
  simp [World.setCell, Array.getElem?_modify, h]
theorem heap_set_other {w : World} {g : Nat} {o : Obj} (h : w.heap[g]? = some o) (p : Addr) (hne : g ≠ p.block) (u : Value) : (w.setCell p u).heap[g]? = some o := (Below.heap_setCell w p u g hne).trans h
theorem own_setCell {w : World} {base : Nat} {e : TypeId} {size n : Nat} {v : Value} {xs : List Value} (h : w.ownsRow base e size v n xs) {p : Addr} (hne : some p.block ≠ v.ownBlock) (u : Value) : (w.setCell p u).ownsRow base e size v n xs := by
  refine ⟨h.1, ?_⟩
  rcases h.2 with h2 | ⟨g, cap, cur, rfl, hg, hh, r⟩
  · exact .inl h2
  · exact .inr ⟨g, cap, cur, rfl, hg, heap_set_other hh p (fun e => hne (by rw [e]; rfl)) u, r⟩
theorem grown_setCell {w w' : World} {g : Nat} (h : w.grownBy w' (some g)) (i : Nat) (u : Value) : w.grownBy (w'.setCell ⟨g, i, none⟩ u) (some g) :=
  ⟨h.os, h.tape, h.output, by simpa [World.setCell] using h.size, fun k hk hne => (Below.heap_setCell w' ⟨g, i, none⟩ u k (fun e => hne (by rw [e]))).trans (h.block k hk hne)⟩
theorem grown_of_below {w w' : World} (h : Below w.heap.size w w') (row : Option Nat) : w.grownBy w' row := ⟨h.os, h.tape, h.output, h.size, fun k hk _ => h.block k hk⟩
theorem grown_keep {w w' : World} {row : Option Nat} (h : w.grownBy w' row) {g : Nat} {o : Obj} (hg : w.heap[g]? = some o) (hne : some g ≠ row) : w'.heap[g]? = some o := (h.block g (heap_lt hg) hne).trans hg
theorem grown_drewN {w w' : World} {row : Option Nat} (h : w.grownBy w' row) (n : Nat) : w.grownBy (w'.drewN n) row := ⟨h.os, h.tape, h.output, h.size, h.block⟩

theorem var_facts {w : World} {g : Nat} {u : Value} {t : TypeId} (h : w.heap[g]? = some (.cells #[u] t (0, 0))) : w.cell? ⟨g, 0, none⟩ = some u ∧ w.frozen? ⟨g, 0, none⟩ = false ∧ Hid (w.heap[g]? = some (.cells #[u] t (0, 0))) :=
  ⟨by rw [cell_of_heap h]; rfl, frozen_of_heap h, h⟩
theorem var_keep {w w1 : World} {base : Nat} {e : TypeId} {size n : Nat} {v : Value} {xs : List Value} (hg1 : w.grownBy w1 v.ownBlock) (hown : w.ownsRow base e size v n xs) {g : Nat} {u : Value} {t : TypeId}
    (h : w.heap[g]? = some (.cells #[u] t (0, 0))) (hne : e ≠ t) : w1.cell? ⟨g, 0, none⟩ = some u ∧ w1.frozen? ⟨g, 0, none⟩ = false ∧ Hid (w1.heap[g]? = some (.cells #[u] t (0, 0))) :=
  var_facts (grown_keep hg1 h (own_ne_block hown h hne))

/-- 'make([]T, 0, n)', T of one cell. -/
theorem run_make_cap {P : Program} (t e : TypeId) (z : Value) (bytes : Nat) (ht : P.underlying t = some (.slice e)) (hinfo : (P.info? e).map (fun i => (i.zero, i.size, i.bytes)) = some (some z, 1, bytes)) (hz1 : z.cells = #[z])
    (kl kc : IntKind) (n : Nat) (hbytes : bytes * n ≤ 281474976710656) (h63 : n ≤ 9223372036854775807) (w : World) :
    (Instr.makeSlice t (.int kl 0) (.int kc (n : Int))).run P w = .ok (.slice (some ⟨w.heap.size, 0, none⟩) 0 n) (w.alloc (.cells (madeCells #[z] n) e)) := by
  obtain ⟨i, hi, hz, hsize, hb⟩ := info_parts hinfo
  have hb' : (i.bytes : Int) * (n : Int) ≤ 281474976710656 := by
    have h : ((i.bytes * n : Nat) : Int) ≤ 281474976710656 := by rw [hb]; omega
    rwa [Int.natCast_mul] at h
  have hr := run_make (P := P) w t e i z ht hi hz kl kc 0 n (by omega) (by omega) hb' (by omega)
  simp only [Int.toNat_natCast, hsize, Nat.mul_one, hz1] at hr
  exact hr

theorem laid_below (w : World) (o : Obj) : Below w.heap.size w (w.alloc o) := (Below.refl _ _).alloc (Nat.le_refl _) _
theorem laid_drew (w : World) (o : Obj) : Below w.heap.size w (w.alloc o).drew := (laid_below w o).drew

theorem ret_int {k : IntKind} {a b : Int} (h : a = b) : Ending.returned (.int k a) = .returned (.int k b) := by rw [h]
theorem ret_bool {a b : Bool} (h : a = b) : Ending.returned (.bool a) = .returned (.bool b) := by rw [h]

end Go.Proofs.YtgcedfpjgdeakaaDoor

/- Small functions on numbers and lists of numbers: within, l00In, size, allWithin, rising, l00Rises. -/
namespace Go.Proofs.YtgcedfpjgdeakaaDoor
open Go.RowKit
set_option linter.all false

def inB (n lo hi : Int) : Bool := decide (lo ≤ n) && decide (n ≤ hi)
theorem inB_iff (n lo hi : Int) : inB n lo hi = true ↔ lo ≤ n ∧ n ≤ hi := by simp [inB]
theorem inB_false (n lo hi : Int) : inB n lo hi = false ↔ n < lo ∨ hi < n := by simp [inB]; omega

theorem within_any (n lo hi : Int) (w : World) : Calls Tryd.prog 56 #[.int .i64 n, .int .i64 lo, .int .i64 hi] w fun e w' => e = .returned (.bool (inB n lo hi)) ∧ w = w' := by
  unfold inB
  by_cases h1 : lo ≤ n
  · by_cases h2 : n ≤ hi
    · go_enter Tryd.func56, Tryd.ntmps56
      go_wp2
      go_ret
      exact ⟨ret_bool (by simp [h1, h2]), rfl⟩
    · go_enter Tryd.func56, Tryd.ntmps56
      go_wp2
      go_ret
      exact ⟨ret_bool (by simp [h1, h2]), rfl⟩
  · go_enter Tryd.func56, Tryd.ntmps56
    go_wp2
    go_ret
    exact ⟨ret_bool (by simp; omega), rfl⟩

theorem within_is (n lo hi : Int) (v : Bool) (h : inB n lo hi = v) (w : World) : Calls Tryd.prog 56 #[.int .i64 n, .int .i64 lo, .int .i64 hi] w fun e w' => e = .returned (.bool v) ∧ w = w' := by
  subst h; exact within_any n lo hi w

theorem l00In_any (n lo hi : Int) (w : World) : Calls Tryd.prog 46 #[.int .i64 n, .int .i64 lo, .int .i64 hi] w fun e w' => e = .returned (.bool (inB n lo hi)) ∧ w = w' := by
  unfold inB
  by_cases h1 : lo ≤ n
  · by_cases h2 : n ≤ hi
    all_goals
      go_enter Tryd.func46, Tryd.ntmps46
      go_wp2
      go_ret
      exact ⟨ret_bool (by simp [h1, h2]), rfl⟩
  · go_enter Tryd.func46, Tryd.ntmps46
    go_wp2
    go_ret
    exact ⟨ret_bool (by simp; omega), rfl⟩

theorem getD_at {α : Type} {xs : List α} {k : Nat} {x d : α} (h : xs[k]? = some x) : xs.getD k d = x := by rw [List.getD_eq_getElem?_getD, h]; rfl
theorem getD_mem {xs : List Int} {k : Nat} {x : Int} (h : xs[k]? = some x) : x ∈ xs := List.mem_of_getElem? h

/-- Strictly rising. -/
def upB (xs : List Int) : Bool := (List.range (xs.length - 1)).all fun j => decide (xs.getD j 0 < xs.getD (j + 1) 0)
theorem upB_iff (xs : List Int) : upB xs = true ↔ ∀ j, j + 1 < xs.length → xs.getD j 0 < xs.getD (j + 1) 0 := by
  unfold upB
  rw [List.all_eq_true]
  constructor
  · intro h j hj
    simpa using h j (by simp; omega)
  · intro h j hj
    simpa using h j (by simp at hj; omega)
theorem upB_no {xs : List Int} {j : Nat} {x y : Int} (hx : xs[j]? = some x) (hy : xs[j + 1]? = some y) (h : y ≤ x) : upB xs = false := by
  rw [Bool.eq_false_iff]
  intro hu
  have := (upB_iff xs).1 hu j ((List.getElem?_eq_some_iff.1 hy).1)
  rw [getD_at hx, getD_at hy] at this
  omega
theorem all_no {xs : List Int} {p : Int → Bool} {j : Nat} {x : Int} (hx : xs[j]? = some x) (h : p x = false) : xs.all p = false := by
  rw [Bool.eq_false_iff]
  intro hu
  have := List.all_eq_true.1 hu x (getD_mem hx)
  rw [h] at this; cases this

theorem l00In_is (n lo hi : Int) (v : Bool) (h : inB n lo hi = v) (w : World) : Calls Tryd.prog 46 #[.int .i64 n, .int .i64 lo, .int .i64 hi] w fun e w' => e = .returned (.bool v) ∧ w = w' := by
  subst h; exact l00In_any n lo hi w

/-- In bounds and strictly rising. -/
def risesB (xs : List Int) (lo hi : Int) : Bool := xs.all (inB · lo hi) && upB xs

set_option maxHeartbeats 400000 in
theorem allWithin_any (b off n c : Nat) (xs : List Int) (lo hi : Int) (w : World) (hs : Sl w b off (xs.map (.int .i64))) (hl : xs.length = n) (hn : n ≤ 4194304) :
    Calls Tryd.prog 104 #[.slice (some ⟨b, off, none⟩) n c, .int .i64 lo, .int .i64 hi] w fun e w' => e = .returned (.bool (xs.all (inB · lo hi))) ∧ w = w' := by
  have HL := Lib.hid hl; clear hl
  go_enter Tryd.func104, Tryd.ntmps104
  go_wp2
  go_loop [11] (fun i => ∃ k : Nat, k ≤ n ∧ i = .int .i64 k ∧ Hid (∀ j x, j < k → xs[j]? = some x → inB x lo hi = true)) (fun i => n - (intOf i).toNat)
  case atStart => exact ⟨0, Nat.zero_le _, rfl, by intro j x hj; omega⟩
  case round =>
    obtain ⟨k, hk, rfl, HR⟩ := hrel
    by_cases hlt : k < n
    · obtain ⟨y, HY, hy⟩ := map_at (Value.int .i64) xs (k := k) (by have := HL.out; omega)
      have hcb := hs.at hy
      clear hy hs
      rcases Bool.eq_false_or_eq_true (inB y lo hi) with hb | hb
      rotate_left
      · have HB := Lib.hid hb
        clear hb
        go_wp2_with (go_at_call 56; refine (within_is y lo hi _ HB.out _).mono ?_; rintro e w' ⟨rfl, rfl⟩)
        go_ret
        exact ⟨ret_bool (all_no HY.out HB.out).symm, rfl⟩
      · have HB := Lib.hid hb
        clear hb
        go_wp2_with (go_at_call 56; refine (within_is y lo hi _ HB.out _).mono ?_; rintro e w' ⟨rfl, rfl⟩)
        go_round
        case rel => exact ⟨k + 1, by omega, by go_num, by
          intro j x hj hx
          by_cases ej : j = k
          · subst ej
            have h2 := HY.out
            rw [hx] at h2; injection h2 with h2; subst h2; exact HB.out
          · exact HR.out j x (by omega) hx⟩
        case measure => simp [intOf]; omega
    · go_wp2
      go_ret
      refine ⟨ret_bool ?_, rfl⟩
      symm
      have hl := HL.out
      rw [List.all_eq_true]
      intro x hx
      obtain ⟨j, hj⟩ := List.getElem?_of_mem hx
      exact HR.out j x (by have := (List.getElem?_eq_some_iff.1 hj).1; omega) hj

theorem size_int64_any (A : Option Addr) (n c : Nat) (w : World) : Calls Tryd.prog 103 #[.slice A n c] w fun e w' => e = .returned (.int .i64 n) ∧ w = w' := by
  go_enter Tryd.func103, Tryd.ntmps103
  go_wp2
  go_ret
  exact ⟨rfl, rfl⟩

end Go.Proofs.YtgcedfpjgdeakaaDoor

/- Records of two, three and four numbers as rows of cells, and slices of elements of any size: plain lemmas, no conditions. -/
namespace Go.Proofs.YtgcedfpjgdeakaaDoor
open Go.RowKit
set_option linter.all false

structure R2 where
  a : Int
  b : Int

structure R3 where
  a : Int
  b : Int
  c : Int

structure R4 where
  a : Int
  b : Int
  c : Int
  d : Int

theorem R2.ext' {x y : R2} (h1 : x.a = y.a) (h2 : x.b = y.b) : x = y := by cases x; cases y; simp_all
theorem R3.ext' {x y : R3} (h1 : x.a = y.a) (h2 : x.b = y.b) (h3 : x.c = y.c) : x = y := by cases x; cases y; simp_all
theorem R4.ext' {x y : R4} (h1 : x.a = y.a) (h2 : x.b = y.b) (h3 : x.c = y.c) (h4 : x.d = y.d) : x = y := by cases x; cases y; simp_all
instance : DecidableEq R2 := fun x y => decidable_of_iff (x.a = y.a ∧ x.b = y.b) ⟨fun h => R2.ext' h.1 h.2, fun h => by rw [h]; exact ⟨rfl, rfl⟩⟩
instance : DecidableEq R3 := fun x y => decidable_of_iff (x.a = y.a ∧ x.b = y.b ∧ x.c = y.c) ⟨fun h => R3.ext' h.1 h.2.1 h.2.2, fun h => by rw [h]; exact ⟨rfl, rfl, rfl⟩⟩
instance : DecidableEq R4 := fun x y => decidable_of_iff (x.a = y.a ∧ x.b = y.b ∧ x.c = y.c ∧ x.d = y.d) ⟨fun h => R4.ext' h.1 h.2.1 h.2.2.1 h.2.2.2, fun h => by rw [h]; exact ⟨rfl, rfl, rfl, rfl⟩⟩
def R2.vs (x : R2) : List Value := [.int .i64 x.a, .int .i64 x.b]
def R3.vs (x : R3) : List Value := [.int .i64 x.a, .int .i64 x.b, .int .i64 x.c]
def R4.vs (x : R4) : List Value := [.int .i64 x.a, .int .i64 x.b, .int .i64 x.c, .int .i64 x.d]
def R2.wf (x : R2) : Prop := Wf64 x.a ∧ Wf64 x.b
def R3.wf (x : R3) : Prop := Wf64 x.a ∧ Wf64 x.b ∧ Wf64 x.c
def R4.wf (x : R4) : Prop := Wf64 x.a ∧ Wf64 x.b ∧ Wf64 x.c ∧ Wf64 x.d
theorem R2.vs_len (x : R2) : x.vs.length = 2 := rfl
theorem R3.vs_len (x : R3) : x.vs.length = 3 := rfl
theorem R4.vs_len (x : R4) : x.vs.length = 4 := rfl

section
variable {α : Type}
/-- The cells of a list of records. -/
def rows (f : α → List Value) (xs : List α) : List Value := xs.flatMap f
theorem rows_nil (f : α → List Value) : rows f [] = [] := rfl
theorem rows_app (f : α → List Value) (xs ys : List α) : rows f (xs ++ ys) = rows f xs ++ rows f ys := by simp [rows]
theorem rows_one (f : α → List Value) (x : α) : rows f [x] = f x := by simp [rows]
theorem rows_len {f : α → List Value} {s : Nat} (hs : ∀ x, (f x).length = s) (xs : List α) : (rows f xs).length = xs.length * s := by
  induction xs with
  | nil => simp [rows]
  | cons x xs ih =>
    have : rows f (x :: xs) = f x ++ rows f xs := by simp [rows]
    rw [this, List.length_append, ih, hs, List.length_cons, Nat.succ_mul, Nat.add_comm]
theorem rows_at {f : α → List Value} {s : Nat} (hs : ∀ x, (f x).length = s) {xs : List α} {k : Nat} {x : α} (h : xs[k]? = some x) {j : Nat} (hj : j < s) : (rows f xs)[k * s + j]? = (f x)[j]? := by
  obtain ⟨hk, hx⟩ := List.getElem?_eq_some_iff.1 h
  have e : xs = xs.take k ++ (x :: xs.drop (k + 1)) := by
    conv => lhs; rw [← List.take_append_drop k xs, List.drop_eq_getElem_cons hk, hx]
  have l1 : (rows f (xs.take k)).length = k * s := by rw [rows_len hs, List.length_take, Nat.min_eq_left (by omega)]
  conv => lhs; rw [e, rows_app]
  rw [List.getElem?_append_right (by omega), l1, Nat.add_sub_cancel_left]
  have : rows f (x :: xs.drop (k + 1)) = f x ++ rows f (xs.drop (k + 1)) := by simp [rows]
  rw [this, List.getElem?_append_left (by rw [hs]; exact hj)]
theorem rows_drop {f : α → List Value} {s : Nat} (hs : ∀ x, (f x).length = s) (xs : List α) (k : Nat) : (rows f xs).drop (k * s) = rows f (xs.drop k) := by
  by_cases h : k ≤ xs.length
  · conv => lhs; rw [← List.take_append_drop k xs, rows_app]
    rw [List.drop_append_of_le_length (by rw [rows_len hs, List.length_take, Nat.min_eq_left h]; exact Nat.le_refl _)]
    rw [List.drop_of_length_le (by rw [rows_len hs, List.length_take, Nat.min_eq_left h]; exact Nat.le_refl _), List.nil_append]
  · rw [List.drop_of_length_le (by rw [rows_len hs]; exact Nat.mul_le_mul_right _ (by omega)), List.drop_of_length_le (by omega)]; rfl
theorem rows_take {f : α → List Value} {s : Nat} (hs : ∀ x, (f x).length = s) (xs : List α) (k : Nat) : (rows f xs).take (k * s) = rows f (xs.take k) := by
  by_cases h : k ≤ xs.length
  · conv => lhs; rw [← List.take_append_drop k xs, rows_app]
    rw [List.take_append_of_le_length (by rw [rows_len hs, List.length_take, Nat.min_eq_left h]; exact Nat.le_refl _)]
    rw [List.take_of_length_le (by rw [rows_len hs, List.length_take, Nat.min_eq_left h]; exact Nat.le_refl _)]
  · rw [List.take_of_length_le (by rw [rows_len hs]; exact Nat.mul_le_mul_right _ (by omega)), List.take_of_length_le (by omega)]
end

/-- A slice of elements of s cells that came in. -/
def Args (s : Nat) (w : World) (A : Option Addr) (n : Nat) (xs : List Value) : Prop :=
  xs.length = n * s ∧ (n = 0 ∨ ∃ b off, A = some ⟨b, off, none⟩ ∧ Sl w b off xs)
theorem Args.below {s : Nat} {w w' : World} {A : Option Addr} {n : Nat} {xs : List Value} (h : Args s w A n xs) (hb : Below w.heap.size w w') : Args s w' A n xs := by
  refine ⟨h.1, ?_⟩
  rcases h.2 with h0 | ⟨b, off, rfl, hs⟩
  · exact .inl h0
  · exact .inr ⟨b, off, rfl, hs.below' hb⟩
theorem Args.sl {s : Nat} {w : World} {A : Option Addr} {n : Nat} {xs : List Value} (h : Args s w A n xs) {k : Nat} (hk : k < n) : ∃ b off, A = some ⟨b, off, none⟩ ∧ Sl w b off xs := by
  rcases h.2 with h0 | h0
  · omega
  · exact h0
theorem Args.of_sl {s : Nat} {w : World} {b off n : Nat} {xs : List Value} (h : Sl w b off xs) (hn : xs.length = n * s) : Args s w (some ⟨b, off, none⟩) n xs := ⟨hn, .inr ⟨b, off, rfl, h⟩⟩
theorem Args.of_nil (s : Nat) (w : World) (A : Option Addr) : Args s w A 0 [] := ⟨by simp, .inl rfl⟩
theorem args_of_own {s : Nat} {w : World} {base : Nat} {e : TypeId} {A : Option Addr} {n cap : Nat} {xs : List Value} (h : w.ownsRow base e s (.slice A n cap) n xs) : Args s w A n xs := by
  refine ⟨h.1, ?_⟩
  rcases h.2 with ⟨h', h0⟩ | ⟨g, cap', cur, hv, _⟩
  · exact .inl h0
  · obtain ⟨rfl, rfl⟩ : A = some ⟨g, 0, none⟩ ∧ cap = cap' := by simpa using hv
    exact .inr ⟨g, 0, rfl, sl_of_own h⟩
/-- One record's cells. -/
theorem Sl.rec {α : Type} {f : α → List Value} {s : Nat} (hs : ∀ x, (f x).length = s) {w : World} {b off : Nat} {xs : List α} (h : Sl w b off (rows f xs)) {k : Nat} {x : α} (hx : xs[k]? = some x) {j : Nat} {u : Value} (hu : (f x)[j]? = some u) :
    w.cell? ⟨b, off + k * s + j, none⟩ = some u := by
  have hj : j < s := by rw [← hs x]; exact (List.getElem?_eq_some_iff.1 hu).1
  rw [Nat.add_assoc]
  exact h.at (by rw [rows_at hs hx hj]; exact hu)
theorem Sl.rec2 {w : World} {b off : Nat} {xs : List R2} (h : Sl w b off (rows R2.vs xs)) {k : Nat} {x : R2} (hx : xs[k]? = some x) :
    w.cell? ⟨b, off + k * 2, none⟩ = some (.int .i64 x.a) ∧ w.cell? ⟨b, off + k * 2 + 1, none⟩ = some (.int .i64 x.b) :=
  ⟨h.rec R2.vs_len hx (j := 0) rfl, h.rec R2.vs_len hx (j := 1) rfl⟩
theorem Sl.rec3 {w : World} {b off : Nat} {xs : List R3} (h : Sl w b off (rows R3.vs xs)) {k : Nat} {x : R3} (hx : xs[k]? = some x) :
    w.cell? ⟨b, off + k * 3, none⟩ = some (.int .i64 x.a) ∧ w.cell? ⟨b, off + k * 3 + 1, none⟩ = some (.int .i64 x.b) ∧ w.cell? ⟨b, off + k * 3 + 2, none⟩ = some (.int .i64 x.c) :=
  ⟨h.rec R3.vs_len hx (j := 0) rfl, h.rec R3.vs_len hx (j := 1) rfl, h.rec R3.vs_len hx (j := 2) rfl⟩
theorem Sl.rec4 {w : World} {b off : Nat} {xs : List R4} (h : Sl w b off (rows R4.vs xs)) {k : Nat} {x : R4} (hx : xs[k]? = some x) :
    w.cell? ⟨b, off + k * 4, none⟩ = some (.int .i64 x.a) ∧ w.cell? ⟨b, off + k * 4 + 1, none⟩ = some (.int .i64 x.b) ∧ w.cell? ⟨b, off + k * 4 + 2, none⟩ = some (.int .i64 x.c) ∧ w.cell? ⟨b, off + k * 4 + 3, none⟩ = some (.int .i64 x.d) :=
  ⟨h.rec R4.vs_len hx (j := 0) rfl, h.rec R4.vs_len hx (j := 1) rfl, h.rec R4.vs_len hx (j := 2) rfl, h.rec R4.vs_len hx (j := 3) rfl⟩
theorem hget {α : Type} {xs : List α} {n k : Nat} (H : Hid (xs.length = n)) (h : k < n) : ∃ x, Hid (xs[k]? = some x) := ⟨_, List.getElem?_eq_getElem (by have := H.out; omega)⟩
/-- A part of a slice of records. -/
theorem Sl.part {α : Type} {f : α → List Value} {s : Nat} (hs : ∀ x, (f x).length = s) {w : World} {b off : Nat} {xs : List α} (h : Sl w b off (rows f xs)) (i j : Nat) : Sl w b (off + i * s) (rows f ((xs.drop i).take j)) := by
  refine ⟨h.1, fun k u hu => ?_⟩
  rw [Nat.add_assoc]
  refine h.at ?_
  rw [← rows_take hs, ← rows_drop hs, List.getElem?_take] at hu
  split at hu
  · rw [List.getElem?_drop] at hu; exact hu
  · cases hu

theorem run_make_rows {P : Program} (t e : TypeId) (z : Value) (s bytes : Nat) (ht : P.underlying t = some (.slice e)) (hinfo : (P.info? e).map (fun i => (i.zero, i.size, i.bytes)) = some (some z, s, bytes))
    (kl kc : IntKind) (n : Nat) (hbytes : bytes * n ≤ 281474976710656) (h63 : n ≤ 9223372036854775807) (w : World) :
    (Instr.makeSlice t (.int kl (n : Int)) (.int kc (n : Int))).run P w = .ok (.slice (some ⟨w.heap.size, 0, none⟩) n n) (w.alloc (.cells (madeCells z.cells (n * s)) e)) := by
  obtain ⟨i, hi, hz, hsize, hb⟩ := info_parts hinfo
  have hb' : (i.bytes : Int) * (n : Int) ≤ 281474976710656 := by
    have h : ((i.bytes * n : Nat) : Int) ≤ 281474976710656 := by rw [hb]; omega
    rwa [Int.natCast_mul] at h
  have hr := run_make (P := P) w t e i z ht hi hz kl kc n n (by omega) (by omega) hb' (by omega)
  simp only [Int.toNat_natCast, hsize] at hr
  exact hr

/-- A row that was made: each cell is something. -/
theorem rowIs_mades (w : World) (zs : Array Value) (n : Nat) (t : TypeId) : ∃ f, (w.alloc (.cells (madeCells zs n) t)).rowIs w.heap.size t n f :=
  ⟨fun i => (madeCells zs n).getD i undef, madeCells zs n, Go.Deep.blk_alloc_new _ _, size_madeCells _ _, fun i hi => by
    have : i < (madeCells zs n).size := by rw [size_madeCells]; exact hi
    simp [Array.getD, this]⟩
/-- The cells up to k are told; the rest holds something. -/
def RowUp (w : World) (g : Nat) (t : TypeId) (n : Nat) (xs : List Value) (k : Nat) : Prop := ∃ f, w.rowIs g t n f ∧ ∀ j u, j < k → xs[j]? = some u → f j = u
theorem RowUp.zero {w : World} {g : Nat} {t : TypeId} {n : Nat} {f : Nat → Value} (h : w.rowIs g t n f) (xs : List Value) : RowUp w g t n xs 0 := ⟨f, h, by intro j u hj; omega⟩
theorem RowUp.cell {w : World} {g : Nat} {t : TypeId} {n k : Nat} {xs : List Value} (h : RowUp w g t n xs k) {i : Nat} (hi : i < n) : ∃ u, w.cell? ⟨g, i, none⟩ = some u := by
  obtain ⟨f, h1, _⟩ := h; exact ⟨_, h1.cell hi⟩
theorem RowUp.frozen {w : World} {g : Nat} {t : TypeId} {n k : Nat} {xs : List Value} (h : RowUp w g t n xs k) (i : Nat) : w.frozen? ⟨g, i, none⟩ = false := by
  obtain ⟨f, h1, _⟩ := h; exact h1.frozen i
theorem RowUp.set {w : World} {g : Nat} {t : TypeId} {n k : Nat} {xs : List Value} (h : RowUp w g t n xs k) {u : Value} (hu : xs[k]? = some u) : RowUp (w.setCell ⟨g, k, none⟩ u) g t n xs (k + 1) := by
  obtain ⟨f, h1, h2⟩ := h
  refine ⟨_, h1.set k u, fun j v hj hv => ?_⟩
  by_cases e : j = k
  · subst e; rw [hu] at hv; injection hv with hv; simp [hv]
  · simp only [if_neg e]; exact h2 j v (by omega) hv
theorem RowUp.below {w w' : World} {B g : Nat} {t : TypeId} {n k : Nat} {xs : List Value} (h : RowUp w g t n xs k) (hb : Below B w w') (hg : g < B) : RowUp w' g t n xs k := by
  obtain ⟨f, h1, h2⟩ := h
  exact ⟨f, h1.of_block (hb.block g hg), h2⟩
theorem RowUp.set2 {w : World} {g : Nat} {t : TypeId} {n k : Nat} {xs : List R2} (h : RowUp w g t n (rows R2.vs xs) (k * 2)) {x : R2} (hx : xs[k]? = some x) :
    RowUp ((w.setCell ⟨g, k * 2, none⟩ (.int .i64 x.a)).setCell ⟨g, k * 2 + 1, none⟩ (.int .i64 x.b)) g t n (rows R2.vs xs) ((k + 1) * 2) := by
  rw [show (k + 1) * 2 = k * 2 + 2 by omega]
  exact ((h.set (u := .int .i64 x.a) (by have := rows_at R2.vs_len hx (j := 0) (by omega); exact this)).set (u := .int .i64 x.b) (by have := rows_at R2.vs_len hx (j := 1) (by omega); exact this))
theorem below_set2 {w w1 : World} {g k : Nat} {x : R2} (h : Below g w w1) : Below g w ((w1.setCell ⟨g, k * 2, none⟩ (.int .i64 x.a)).setCell ⟨g, k * 2 + 1, none⟩ (.int .i64 x.b)) :=
  h.setCell (p := ⟨g, k * 2, none⟩) (Nat.le_refl _) (.int .i64 x.a) |>.setCell (p := ⟨g, k * 2 + 1, none⟩) (Nat.le_refl _) (.int .i64 x.b)
theorem RowUp.set3 {w : World} {g : Nat} {t : TypeId} {n k : Nat} {xs : List R3} (h : RowUp w g t n (rows R3.vs xs) (k * 3)) {x : R3} (hx : xs[k]? = some x) :
    RowUp (((w.setCell ⟨g, k * 3, none⟩ (.int .i64 x.a)).setCell ⟨g, k * 3 + 1, none⟩ (.int .i64 x.b)).setCell ⟨g, k * 3 + 2, none⟩ (.int .i64 x.c)) g t n (rows R3.vs xs) ((k + 1) * 3) := by
  rw [show (k + 1) * 3 = k * 3 + 3 by omega]
  exact (((h.set (u := .int .i64 x.a) (by have := rows_at R3.vs_len hx (j := 0) (by omega); exact this)).set (u := .int .i64 x.b) (by have := rows_at R3.vs_len hx (j := 1) (by omega); exact this)).set (u := .int .i64 x.c) (by have := rows_at R3.vs_len hx (j := 2) (by omega); exact this))
theorem below_set3 {w w1 : World} {g k : Nat} {x : R3} (h : Below g w w1) : Below g w (((w1.setCell ⟨g, k * 3, none⟩ (.int .i64 x.a)).setCell ⟨g, k * 3 + 1, none⟩ (.int .i64 x.b)).setCell ⟨g, k * 3 + 2, none⟩ (.int .i64 x.c)) :=
  h.setCell (p := ⟨g, k * 3, none⟩) (Nat.le_refl _) (.int .i64 x.a) |>.setCell (p := ⟨g, k * 3 + 1, none⟩) (Nat.le_refl _) (.int .i64 x.b) |>.setCell (p := ⟨g, k * 3 + 2, none⟩) (Nat.le_refl _) (.int .i64 x.c)
theorem RowUp.set4 {w : World} {g : Nat} {t : TypeId} {n k : Nat} {xs : List R4} (h : RowUp w g t n (rows R4.vs xs) (k * 4)) {x : R4} (hx : xs[k]? = some x) :
    RowUp ((((w.setCell ⟨g, k * 4, none⟩ (.int .i64 x.a)).setCell ⟨g, k * 4 + 1, none⟩ (.int .i64 x.b)).setCell ⟨g, k * 4 + 2, none⟩ (.int .i64 x.c)).setCell ⟨g, k * 4 + 3, none⟩ (.int .i64 x.d)) g t n (rows R4.vs xs) ((k + 1) * 4) := by
  rw [show (k + 1) * 4 = k * 4 + 4 by omega]
  exact ((((h.set (u := .int .i64 x.a) (by have := rows_at R4.vs_len hx (j := 0) (by omega); exact this)).set (u := .int .i64 x.b) (by have := rows_at R4.vs_len hx (j := 1) (by omega); exact this)).set (u := .int .i64 x.c) (by have := rows_at R4.vs_len hx (j := 2) (by omega); exact this)).set (u := .int .i64 x.d) (by have := rows_at R4.vs_len hx (j := 3) (by omega); exact this))
theorem below_set4 {w w1 : World} {g k : Nat} {x : R4} (h : Below g w w1) : Below g w ((((w1.setCell ⟨g, k * 4, none⟩ (.int .i64 x.a)).setCell ⟨g, k * 4 + 1, none⟩ (.int .i64 x.b)).setCell ⟨g, k * 4 + 2, none⟩ (.int .i64 x.c)).setCell ⟨g, k * 4 + 3, none⟩ (.int .i64 x.d)) :=
  h.setCell (p := ⟨g, k * 4, none⟩) (Nat.le_refl _) (.int .i64 x.a) |>.setCell (p := ⟨g, k * 4 + 1, none⟩) (Nat.le_refl _) (.int .i64 x.b) |>.setCell (p := ⟨g, k * 4 + 2, none⟩) (Nat.le_refl _) (.int .i64 x.c) |>.setCell (p := ⟨g, k * 4 + 3, none⟩) (Nat.le_refl _) (.int .i64 x.d)
theorem RowUp.lt {w : World} {g : Nat} {t : TypeId} {n k : Nat} {xs : List Value} (h : RowUp w g t n xs k) : g < w.heap.size := by
  obtain ⟨f, h1, _⟩ := h; exact h1.lt
theorem RowUp.own {w : World} {g base : Nat} {t : TypeId} {n s : Nat} {xs : List Value} (h : RowUp w g t (n * s) xs (n * s)) (hb : base ≤ g) (hm : n ≤ maxLen) (hl : xs.length = n * s) : w.ownsRow base t s (.slice (some ⟨g, 0, none⟩) n n) n xs := by
  obtain ⟨f, ⟨cur, hh, hs, hc⟩, h2⟩ := h
  refine ⟨hl, .inr ⟨g, n, cur, rfl, hb, hh, Nat.le_refl _, hm, hs, ?_⟩⟩
  apply List.ext_getElem?
  intro j
  by_cases hj : j < n * s
  · rw [List.getElem?_take, if_pos hj]
    have hx : xs[j]? = some (xs[j]'(by omega)) := List.getElem?_eq_getElem (by omega)
    rw [hx]
    have := hc j hj
    rw [h2 j _ hj hx] at this
    simpa using this
  · rw [List.getElem?_eq_none (by simp; omega), List.getElem?_eq_none (by omega)]

/-- The marks on records of s cells are the marks on their cells. -/
theorem marks_set' (f : Int → Value) (k : Int) (xs : List Value) (i : Nat) (h : i < xs.length) (v : Value) (hv : v = f (k + i)) : (marks f k i ++ xs.drop i).set i v = marks f k (i + 1) ++ xs.drop (i + 1) := by
  rw [hv]; exact marks_set f k xs i h
theorem own_some {w : World} {base : Nat} {e : TypeId} {size g n cap : Nat} {xs : List Value} (h : w.ownsRow base e size (.slice (some ⟨g, 0, none⟩) n cap) n xs) {j : Nat} (hj : j < n * size) : ∃ u, w.cell? ⟨g, j, none⟩ = some u := by
  rw [h.cellAt j hj]
  exact ⟨_, List.getElem?_eq_getElem (by have := h.1; omega)⟩
theorem own_mark1 {w wr : World} {base : Nat} {e : TypeId} {size g n cap : Nat} {xs : List Value} {k0 : Int} {j : Nat} (h : wr.ownsRow base e size (.slice (some ⟨g, 0, none⟩) n cap) n (marks (.int .i64) k0 j ++ xs.drop j)) (hg : w.grownBy wr (some g)) (hl : xs.length = n * size) (hj : j < n * size) {x : Int} (hx : x = k0 + j) :
    (wr.setCell ⟨g, j, none⟩ (.int .i64 x)).ownsRow base e size (.slice (some ⟨g, 0, none⟩) n cap) n (marks (.int .i64) k0 (j + 1) ++ xs.drop (j + 1)) ∧ w.grownBy (wr.setCell ⟨g, j, none⟩ (.int .i64 x)) (some g) := by
  have h1 := h.stored j (.int .i64 x)
  rw [marks_set' _ _ _ _ (by omega) _ (by rw [hx])] at h1
  exact ⟨h1.1, hg.trans h1.2⟩
theorem own_mark2 {w wr : World} {base : Nat} {e : TypeId} {g n cap : Nat} {xs : List Value} {k0 : Int} {k : Nat} (h : wr.ownsRow base e 2 (.slice (some ⟨g, 0, none⟩) n cap) n (marks (.int .i64) k0 (k * 2) ++ xs.drop (k * 2))) (hg : w.grownBy wr (some g)) (hl : xs.length = n * 2) (hk : k < n) :
    ((wr.setCell ⟨g, k * 2, none⟩ (.int .i64 (k0 + (k : Int) * 2))).setCell ⟨g, k * 2 + 1, none⟩ (.int .i64 (k0 + (k : Int) * 2 + 1))).ownsRow base e 2 (.slice (some ⟨g, 0, none⟩) n cap) n (marks (.int .i64) k0 ((k + 1) * 2) ++ xs.drop ((k + 1) * 2)) ∧ w.grownBy ((wr.setCell ⟨g, k * 2, none⟩ (.int .i64 (k0 + (k : Int) * 2))).setCell ⟨g, k * 2 + 1, none⟩ (.int .i64 (k0 + (k : Int) * 2 + 1))) (some g) := by
  rw [show (k + 1) * 2 = k * 2 + 2 by omega]
  have h0 := own_mark1 (j := k * 2) h hg hl (by omega) (x := k0 + (k : Int) * 2) (by omega)
  have h1 := own_mark1 (j := k * 2 + 1) h0.1 h0.2 hl (by omega) (x := k0 + (k : Int) * 2 + 1) (by omega)
  exact h1
theorem own_mark3 {w wr : World} {base : Nat} {e : TypeId} {g n cap : Nat} {xs : List Value} {k0 : Int} {k : Nat} (h : wr.ownsRow base e 3 (.slice (some ⟨g, 0, none⟩) n cap) n (marks (.int .i64) k0 (k * 3) ++ xs.drop (k * 3))) (hg : w.grownBy wr (some g)) (hl : xs.length = n * 3) (hk : k < n) :
    (((wr.setCell ⟨g, k * 3, none⟩ (.int .i64 (k0 + (k : Int) * 3))).setCell ⟨g, k * 3 + 1, none⟩ (.int .i64 (k0 + (k : Int) * 3 + 1))).setCell ⟨g, k * 3 + 2, none⟩ (.int .i64 (k0 + (k : Int) * 3 + 1 + 1))).ownsRow base e 3 (.slice (some ⟨g, 0, none⟩) n cap) n (marks (.int .i64) k0 ((k + 1) * 3) ++ xs.drop ((k + 1) * 3)) ∧ w.grownBy (((wr.setCell ⟨g, k * 3, none⟩ (.int .i64 (k0 + (k : Int) * 3))).setCell ⟨g, k * 3 + 1, none⟩ (.int .i64 (k0 + (k : Int) * 3 + 1))).setCell ⟨g, k * 3 + 2, none⟩ (.int .i64 (k0 + (k : Int) * 3 + 1 + 1))) (some g) := by
  rw [show (k + 1) * 3 = k * 3 + 3 by omega]
  have h0 := own_mark1 (j := k * 3) h hg hl (by omega) (x := k0 + (k : Int) * 3) (by omega)
  have h1 := own_mark1 (j := k * 3 + 1) h0.1 h0.2 hl (by omega) (x := k0 + (k : Int) * 3 + 1) (by omega)
  have h2 := own_mark1 (j := k * 3 + 2) h1.1 h1.2 hl (by omega) (x := k0 + (k : Int) * 3 + 1 + 1) (by omega)
  exact h2
theorem own_mark4 {w wr : World} {base : Nat} {e : TypeId} {g n cap : Nat} {xs : List Value} {k0 : Int} {k : Nat} (h : wr.ownsRow base e 4 (.slice (some ⟨g, 0, none⟩) n cap) n (marks (.int .i64) k0 (k * 4) ++ xs.drop (k * 4))) (hg : w.grownBy wr (some g)) (hl : xs.length = n * 4) (hk : k < n) :
    ((((wr.setCell ⟨g, k * 4, none⟩ (.int .i64 (k0 + (k : Int) * 4))).setCell ⟨g, k * 4 + 1, none⟩ (.int .i64 (k0 + (k : Int) * 4 + 1))).setCell ⟨g, k * 4 + 2, none⟩ (.int .i64 (k0 + (k : Int) * 4 + 1 + 1))).setCell ⟨g, k * 4 + 3, none⟩ (.int .i64 (k0 + (k : Int) * 4 + 1 + 1 + 1))).ownsRow base e 4 (.slice (some ⟨g, 0, none⟩) n cap) n (marks (.int .i64) k0 ((k + 1) * 4) ++ xs.drop ((k + 1) * 4)) ∧ w.grownBy ((((wr.setCell ⟨g, k * 4, none⟩ (.int .i64 (k0 + (k : Int) * 4))).setCell ⟨g, k * 4 + 1, none⟩ (.int .i64 (k0 + (k : Int) * 4 + 1))).setCell ⟨g, k * 4 + 2, none⟩ (.int .i64 (k0 + (k : Int) * 4 + 1 + 1))).setCell ⟨g, k * 4 + 3, none⟩ (.int .i64 (k0 + (k : Int) * 4 + 1 + 1 + 1))) (some g) := by
  rw [show (k + 1) * 4 = k * 4 + 4 by omega]
  have h0 := own_mark1 (j := k * 4) h hg hl (by omega) (x := k0 + (k : Int) * 4) (by omega)
  have h1 := own_mark1 (j := k * 4 + 1) h0.1 h0.2 hl (by omega) (x := k0 + (k : Int) * 4 + 1) (by omega)
  have h2 := own_mark1 (j := k * 4 + 2) h1.1 h1.2 hl (by omega) (x := k0 + (k : Int) * 4 + 1 + 1) (by omega)
  have h3 := own_mark1 (j := k * 4 + 3) h2.1 h2.2 hl (by omega) (x := k0 + (k : Int) * 4 + 1 + 1 + 1) (by omega)
  exact h3
/-- 'x[l:h]': one address, whether room is left or not. -/
theorem run_slice_part {P : Program} (t e : TypeId) {z : Value} {s bytes : Nat} (ht : P.underlying t = some (.slice e)) (hinfo : (P.info? e).map (fun i => (i.zero, i.size, i.bytes)) = some (some z, s, bytes))
    (b off n c l m : Nat) (i j : Int) (hi : i = l) (hj : j = (l + m : Nat)) (hh : l + m ≤ c) :
    ∃ o', (m = 0 ∨ o' = off + l * s) ∧ ∀ W, (Instr.slice t (.slice (some ⟨b, off, none⟩) n c) (some (.int .i64 i)) (some (.int .i64 j)) none).run P W = .ok (.slice (some ⟨b, o', none⟩) m (c - l)) W := by
  obtain ⟨ti, hti, hz, hsize, hb⟩ := info_parts hinfo
  have he : P.elem t = e := by simp [Program.elem, ht]
  refine ⟨if c = l then off else off + l * s, ?_, fun W => ?_⟩
  · by_cases h0 : c = l
    · exact .inl (by omega)
    · exact .inr (by rw [if_neg h0])
  · rw [run_slice_lh W t (some ⟨b, off, none⟩) n c (by rw [he]; exact ht) .i64 .i64 i j (by omega) (by omega) (by omega)]
    subst hi hj
    have hsz : ∀ W, (sizeOf (P.elem t)).run P W = .ok s W := by intro W; rw [he]; simp [sizeOf, typeInfo, hti, hsize]
    rw [hsz]
    simp only [Result.andThen, sliced, Int.toNat_natCast, Nat.add_sub_cancel_left]
    by_cases h0 : c = l
    · simp [h0]
    · simp only [if_neg h0, Option.map_some]
      have : (⟨b, off, none⟩ : Addr).add (l * s) = ⟨b, off + l * s, none⟩ := by
        unfold Addr.add
        split
        · rename_i h; simp [h]
        · rfl
      rw [this]
/-- Which part it is. -/
theorem args_part {α : Type} {f : α → List Value} {s : Nat} (hs : ∀ x, (f x).length = s) {w : World} {b off o' : Nat} {xs : List α} (h : Sl w b off (rows f xs)) (i m : Nat) (ho : m = 0 ∨ o' = off + i * s) (hl : i + m ≤ xs.length) : Args s w (some ⟨b, o', none⟩) m (rows f ((xs.drop i).take m)) := by
  have hlen : (rows f ((xs.drop i).take m)).length = m * s := by rw [rows_len hs, List.length_take, List.length_drop, Nat.min_eq_left (by omega)]
  rcases ho with h0 | rfl
  · exact ⟨hlen, .inl h0⟩
  · exact Args.of_sl (h.part hs i m) hlen
end Go.Proofs.YtgcedfpjgdeakaaDoor

/- Appending a whole slice onto a row of the call's own. -/
namespace Go.Proofs.YtgcedfpjgdeakaaDoor
open Go.RowKit
set_option linter.all false

/-- The value v is a slice that reads as the cells xs, 'size' cells an element: nil, or cells that are there. -/
def Src (size : Nat) (w : World) (v : Value) (n : Nat) (xs : List Value) : Prop :=
  xs.length = n * size ∧ ((v = .slice none 0 0 ∧ n = 0) ∨ ∃ b off c, v = .slice (some ⟨b, off, none⟩) n c ∧ Sl w b off xs)
theorem Src.below {size n : Nat} {w w' : World} {v : Value} {xs : List Value} (h : Src size w v n xs) (hb : Below w.heap.size w w') : Src size w' v n xs := by
  refine ⟨h.1, ?_⟩
  rcases h.2 with h0 | ⟨b, off, c, rfl, hs⟩
  · exact .inl h0
  · exact .inr ⟨b, off, c, rfl, hs.below' hb⟩
theorem Src.back {size n : Nat} {B : Nat} {w w' : World} {v : Value} {xs : List Value} (h : Src size w v n xs) (hb : Below B w w') (hB : ∀ b off c, v = .slice (some ⟨b, off, none⟩) n c → b < B) : Src size w' v n xs := by
  refine ⟨h.1, ?_⟩
  rcases h.2 with h0 | ⟨b, off, c, rfl, hs⟩
  · exact .inl h0
  · exact .inr ⟨b, off, c, rfl, hs.below hb (hB b off c rfl)⟩
theorem Src.form {size n : Nat} {w : World} {v : Value} {xs : List Value} (h : Src size w v n xs) : ∃ A c, v = .slice A n c := by
  rcases h.2 with ⟨rfl, rfl⟩ | ⟨b, off, c, rfl, _⟩
  · exact ⟨_, _, rfl⟩
  · exact ⟨_, _, rfl⟩
theorem Src.of_sl {size n b off c : Nat} {w : World} {xs : List Value} (h : Sl w b off xs) (hl : xs.length = n * size) : Src size w (.slice (some ⟨b, off, none⟩) n c) n xs := ⟨hl, .inr ⟨b, off, c, rfl, h⟩⟩
theorem Src.of_own {w : World} {base : Nat} {e : TypeId} {size n : Nat} {v : Value} {xs : List Value} (h : w.ownsRow base e size v n xs) : Src size w v n xs := by
  refine ⟨h.1, ?_⟩
  rcases h.2 with h0 | ⟨g, cap, cur, rfl, _⟩
  · exact .inl h0
  · exact .inr ⟨g, 0, cap, rfl, sl_of_own h⟩
theorem Src.arg {n : Nat} {w : World} {A : Option Addr} {c : Nat} {xs : List Value} (h : Src 1 w (.slice A n c) n xs) : Arg w A n xs := by
  refine ⟨by have := h.1; omega, ?_⟩
  rcases h.2 with ⟨_, h0⟩ | ⟨b, off, c', hv, hs⟩
  · exact .inl h0
  · injection hv with h1 h2 h3; exact .inr ⟨b, off, h1, hs⟩

theorem addr_add {b off j : Nat} : (⟨b, off, none⟩ : Addr).add j = ⟨b, off + j, none⟩ := by
  unfold Addr.add
  split
  · rename_i h; subst h; rfl
  · rfl

section
variable {P : Program} {w : World}
theorem run_append_nothing (base : Nat) (t ty e : TypeId) (i : TypeInfo) (size : Nat) (ht : P.underlying t = some (.slice e)) (hi : P.info? e = some i)
    (v : Value) (n : Nat) (xs : List Value) (hown : w.ownsRow base e size v n xs) (c : Nat) : (Builtin.append_ #[t, t] ty #[v, .slice none 0 c]).run P w = .ok v w := by
  rcases hown.2 with ⟨rfl, rfl⟩ | ⟨g, cap, cur, rfl, _, _, hnc, _⟩
  · simp [Builtin.append_, run_underlying ht, sizeOf, typeInfo, hi, Builtin.lenOf, Builtin.firstCells]
  · simp [Builtin.append_, run_underlying ht, sizeOf, typeInfo, hi, Builtin.lenOf, Builtin.firstCells, hnc, storeCells]

theorem wp_appx {o : Oper} {a : Act} {K : Act → World → Prop} {Q : Exit → Act → World → Prop} (s x : Operand) (t : TypeId)
    (ho : o.op = .call { callee := .builtin .append, args := #[s, x], argTypes := #[t, t] })
    {e : TypeId} {z : Value} {size bytes : Nat} (ht : P.underlying t = some (.slice e)) (hinfo : (P.info? e).map (fun i => (i.zero, i.size, i.bytes)) = some (some z, size, bytes)) (hzs : z.cells.size = size) (hsz : 0 < size)
    (base : Nat) {v : Value} {n : Nat} {xs : List Value} (hown : w.ownsRow base e size v n xs) (hbase : base ≤ w.heap.size) (hs : a.eval s = v)
    {u : Value} {m : Nat} {ys : List Value} (hsrc : Src size w u m ys) (hx : a.eval x = u) (h1 : ∀ u ∈ ys, u.oneCell' = true) (h63 : n + m ≤ maxLen) (hbytes : (n + m) * bytes ≤ 140737488355328)
    (h : ∀ v' w', w'.ownsRow base e size v' (n + m) (xs ++ ys) → w.grownBy w' v.ownBlock → (v' = .slice none 0 0 → v = .slice none 0 0 ∧ m = 0) → K (a.put o.dst v') w') : o.wp P a w K Q := by
  obtain ⟨i, hi, hz, hsize, hby⟩ := info_parts hinfo
  rcases hsrc.2 with ⟨rfl, rfl⟩ | ⟨b, off, c, rfl, hsl⟩
  · have hys : ys = [] := List.eq_nil_of_length_eq_zero (by simpa using hsrc.1)
    subst hys
    have hr := run_append_nothing (P := P) (w := w) base t o.type e i size ht hi v n xs hown 0
    unfold Oper.wp execOp
    simp only [ho, resolve, invoke, builtin, Sem.run_bind, Sem.run_pure, Result.andThen_ok, List.map_toArray, List.map_cons, List.map_nil, hs, hx, hr]
    exact h v w (by simpa using hown) (World.grownBy.refl _ _) (fun e => ⟨e, rfl⟩)
  · refine wp_append_own w s x t ho base e i z size bytes ht hi hz hsize hby hzs hsz v n xs hs hown ⟨b, off, none⟩ m c ys hx hsrc.1 (fun j u hu => by rw [addr_add]; exact hsl.2 j u hu) h1 h63 hbytes hbase ?_
    intro v' w' h2 h3 h4
    exact h v' w' h2 h3 h4.1
theorem wpList_appx {ops : Array Oper} {rest : List Oper} {o : Oper} {a : Act} {Q : Exit → Act → World → Prop} (hgd : o.guard = none) (s x : Operand) (t : TypeId)
    (ho : o.op = .call { callee := .builtin .append, args := #[s, x], argTypes := #[t, t] })
    {e : TypeId} {z : Value} {size bytes : Nat} (ht : P.underlying t = some (.slice e)) (hinfo : (P.info? e).map (fun i => (i.zero, i.size, i.bytes)) = some (some z, size, bytes)) (hzs : z.cells.size = size) (hsz : 0 < size)
    (base : Nat) {v : Value} {n : Nat} {xs : List Value} (hown : w.ownsRow base e size v n xs) (hbase : base ≤ w.heap.size) (hs : a.eval s = v)
    {u : Value} {m : Nat} {ys : List Value} (hsrc : Src size w u m ys) (hx : a.eval x = u) (h1 : ∀ u ∈ ys, u.oneCell' = true) (h63 : n + m ≤ maxLen) (hbytes : (n + m) * bytes ≤ 140737488355328)
    (h : ∀ v' w', w'.ownsRow base e size v' (n + m) (xs ++ ys) → w.grownBy w' v.ownBlock → (v' = .slice none 0 0 → v = .slice none 0 0 ∧ m = 0) → wpList P ops Q rest (a.put o.dst v') w') : wpList P ops Q (o :: rest) a w :=
  wpList_plain hgd fun _ hK => wp_appx s x t ho ht hinfo hzs hsz base hown hbase hs hsrc hx h1 h63 hbytes fun v' w' h2 h3 h4 => hK _ _ (h v' w' h2 h3 h4)
end
/-- As wpList_appg, the new block's number spelt otherwise (behind a store). -/
theorem wpList_appgh {P : Program} {w : World} {ops : Array Oper} {rest : List Oper} {o : Oper} {a : Act} {Q : Exit → Act → World → Prop} (hgd : o.guard = none) (s x : Operand) (t : TypeId)
    (ho : o.op = .call { callee := .builtin .append, args := #[s, x], argTypes := #[t, t] })
    {e : TypeId} {z : Value} {size bytes : Nat} (ht : P.underlying t = some (.slice e)) (hinfo : (P.info? e).map (fun i => (i.zero, i.size, i.bytes)) = some (some z, size, bytes)) (hzs : z.cells.size = size) (hsz : 0 < size)
    (base : Nat) (wr : World) (H : Nat) (hH : H = wr.heap.size) {v : Value} {n : Nat} {xs : List Value} (hown : wr.ownsRow base e size v n xs) (hbase : base ≤ wr.heap.size) (hs : a.eval s = v)
    (m : Nat) (cs : Array Value) (hx : a.eval x = .slice (some ⟨H, 0, none⟩) m m) (hW : Below wr.heap.size wr w) (hnews : w.heap[wr.heap.size]? = some (.cells cs e (0, 0)))
    (hl : cs.toList.length = m * size) (h1 : ∀ u ∈ cs.toList, u.oneCell' = true) (hm : 0 < m) (h63 : n + m ≤ maxLen) (hbytes : (n + m) * bytes ≤ 140737488355328)
    (h : ∀ g cap w', w'.ownsRow base e size (.slice (some ⟨g, 0, none⟩) (n + m) cap) (n + m) (xs ++ cs.toList) → wr.grownBy w' v.ownBlock → wpList P ops Q rest (a.put o.dst (.slice (some ⟨g, 0, none⟩) (n + m) cap)) w') : wpList P ops Q (o :: rest) a w := by
  subst hH
  exact wpList_appg hgd s x t ho ht hinfo hzs hsz base wr hown hbase hs m cs hx hW hnews hl h1 hm h63 hbytes h
theorem size_set (w : World) (p : Addr) (u : Value) : w.heap.size = (w.setCell p u).heap.size := by simp [World.setCell]
theorem below_grown {w0 w w' : World} {base : Nat} {e : TypeId} {size n : Nat} {v : Value} {xs : List Value} (h : Below w0.heap.size w0 w) (ho : w.ownsRow base e size v n xs) (hb : w0.heap.size ≤ base) (hg : w.grownBy w' v.ownBlock) : Below w0.heap.size w0 w' :=
  grown_below h ho hb hg
theorem one_bools (xs : List Bool) : ∀ u ∈ xs.map Value.bool, u.oneCell' = true := by
  intro u hu; obtain ⟨x, _, rfl⟩ := List.mem_map.1 hu; rfl
theorem one_ints (k : IntKind) (xs : List Int) : ∀ u ∈ xs.map (Value.int k), u.oneCell' = true := by
  intro u hu; obtain ⟨x, _, rfl⟩ := List.mem_map.1 hu; rfl
/-- The cells of a block that was just laid. -/
theorem sl_laid (w : World) (cs : Array Value) (e : TypeId) : Sl (w.alloc (.cells cs e)) w.heap.size 0 cs.toList :=
  ⟨by simp, fun j u hu => by rw [cell_of_heap (heap_alloc_new w _)]; simpa using hu⟩
end Go.Proofs.YtgcedfpjgdeakaaDoor

/- Words for library functions on rows: the first place where a test holds; a function value that can be entered; an empty row; a row in which one record turns. Plain lemmas. -/
namespace Go.Proofs.YtgcedfpjgdeakaaDoor
open Go.RowKit
set_option linter.all false

theorem cell_step {w w1 : World} {b o : Nat} {u : Value} (h : w.cell? ⟨b, o, none⟩ = some u) (hb : Below w.heap.size w w1) : w1.cell? ⟨b, o, none⟩ = some u :=
  (hb.cell (p := ⟨b, o, none⟩) (World.block_lt_of_cell? w _ h)).trans h
theorem alloc2 {wr w1 : World} {x y : Value} {t : TypeId} (h : wr.alloc (.cells #[x, y] t) = w1) :
    w1.cell? ⟨wr.heap.size, 0, none⟩ = some x ∧ w1.cell? ⟨wr.heap.size, 1, none⟩ = some y ∧ Below wr.heap.size wr w1 := by
  subst h
  exact ⟨by simp [go_sem], by simp [go_sem], laid_below _ _⟩
theorem alloc3 {wr w1 : World} {x y z : Value} {t : TypeId} (h : wr.alloc (.cells #[x, y, z] t) = w1) :
    w1.cell? ⟨wr.heap.size, 0, none⟩ = some x ∧ w1.cell? ⟨wr.heap.size, 1, none⟩ = some y ∧ w1.cell? ⟨wr.heap.size, 2, none⟩ = some z ∧ Below wr.heap.size wr w1 := by
  subst h
  exact ⟨by simp [go_sem], by simp [go_sem], by simp [go_sem], laid_below _ _⟩
theorem alloc4 {wr w1 : World} {x y z u : Value} {t : TypeId} (h : wr.alloc (.cells #[x, y, z, u] t) = w1) :
    w1.cell? ⟨wr.heap.size, 0, none⟩ = some x ∧ w1.cell? ⟨wr.heap.size, 1, none⟩ = some y ∧ w1.cell? ⟨wr.heap.size, 2, none⟩ = some z ∧ w1.cell? ⟨wr.heap.size, 3, none⟩ = some u ∧ Below wr.heap.size wr w1 := by
  subst h
  exact ⟨by simp [go_sem], by simp [go_sem], by simp [go_sem], by simp [go_sem], laid_below _ _⟩
theorem drop_at {α : Type} {xs : List α} {k : Nat} {x : α} (h : xs[k]? = some x) : xs.drop k = x :: xs.drop (k + 1) := by
  obtain ⟨hk, hx⟩ := List.getElem?_eq_some_iff.1 h
  rw [List.drop_eq_getElem_cons hk, hx]
theorem below_of_drew {B : Nat} {w w' : World} (h : Below B w.drew w') : Below B w w' := ⟨h.os, h.tape, h.output, h.size, h.block⟩
theorem below_drew_at {w w' : World} (h : Below w.drew.heap.size w.drew w') : Below w.heap.size w w' := ⟨h.os, h.tape, h.output, h.size, h.block⟩
theorem below_of_drewN {B n : Nat} {w w' : World} (h : Below B (w.drewN n) w') : Below B w w' := ⟨h.os, h.tape, h.output, h.size, h.block⟩

/-- A function that can be entered. -/
theorem enters_of' {P : Program} {f : FuncId} {fn : Func} {c : Code} (hf : P.funcs[f]? = some fn) (hname : (fn.name == "runtime.NumGoroutine") = false) (hb : fn.body = some c) (args : Array Value) (W : World) : (callFunc f args).run P W = .ok (.enter f args) W := by
  have h1 : fn.name ≠ "runtime.NumGoroutine" := by simpa using hname
  simp [callFunc, hf, h1, hb, mark]

/-- 's == nil' at a slice. -/
theorem run_nil_some {P : Program} {t e : TypeId} (ht : P.underlying t = some (.slice e)) (a : Addr) (n c : Nat) (w : World) : (binOp .eql t (.slice (some a) n c) (.slice none 0 0)).run P w = .ok (.bool false) w := by
  have h : ∀ d : Nat, (Op.equalIn (d + 1) t (.slice (some a) n c) (.slice none 0 0)).run P w = .ok false w := fun d => by simp [Op.equalIn, run_underlying ht]
  simp only [binOp]
  simp [Op.equal, Op.maxDepth, h 9999]
theorem run_nil_none {P : Program} {t e : TypeId} (ht : P.underlying t = some (.slice e)) (w : World) : (binOp .eql t (.slice none 0 0) (.slice none 0 0)).run P w = .ok (.bool true) w := by
  have h : ∀ d : Nat, (Op.equalIn (d + 1) t (.slice none 0 0) (.slice none 0 0)).run P w = .ok true w := fun d => by simp [Op.equalIn, run_underlying ht]
  simp only [binOp]
  simp [Op.equal, Op.maxDepth, h 9999]

/-- The first place where p holds, or -1. -/
def findI {α : Type} (p : α → Bool) (xs : List α) : Int := match xs.findIdx? p with | some k => k | none => -1
theorem findI_none {α : Type} {p : α → Bool} {xs : List α} (h : ∀ (j : Nat) x, xs[j]? = some x → p x = false) : findI p xs = -1 := by
  have : xs.findIdx? p = none := by
    rw [List.findIdx?_eq_none_iff]
    intro x hx
    obtain ⟨j, hj⟩ := List.getElem?_of_mem hx
    exact h j x hj
  simp [findI, this]
theorem findI_some {α : Type} {p : α → Bool} {xs : List α} {k : Nat} {x : α} (h : ∀ j y, j < k → xs[j]? = some y → p y = false) (hx : xs[k]? = some x) (hp : p x = true) : findI p xs = k := by
  have : xs.findIdx? p = some k := by
    obtain ⟨hk, e⟩ := List.getElem?_eq_some_iff.1 hx
    rw [List.findIdx?_eq_some_iff_getElem]
    refine ⟨hk, by rw [e]; exact hp, fun j hj => ?_⟩
    rw [h j _ hj (List.getElem?_eq_getElem (by omega))]
    simp
  simp [findI, this]
theorem findI_any {α : Type} (p : α → Bool) (xs : List α) : decide (0 ≤ findI p xs) = xs.any p := by
  unfold findI
  cases h : xs.findIdx? p with
  | none =>
    rw [List.findIdx?_eq_none_iff] at h
    have : xs.any p = false := by rw [List.any_eq_false]; intro x hx; simp [h x hx]
    rw [this]; rfl
  | some k =>
    rw [List.findIdx?_eq_some_iff_getElem] at h
    obtain ⟨hk, hp, _⟩ := h
    have : xs.any p = true := List.any_eq_true.2 ⟨_, List.getElem_mem hk, hp⟩
    rw [this]; simp

theorem own_empty (w : World) (e : TypeId) (s : Nat) : (w.alloc (.cells #[] e)).ownsRow w.heap.size e s (.slice (some ⟨w.heap.size, 0, none⟩) 0 0) 0 [] :=
  ⟨by simp, .inr ⟨w.heap.size, 0, #[], rfl, Nat.le_refl _, heap_alloc_new _ _, Nat.le_refl _, Nat.zero_le _, by simp, by simp⟩⟩
/-- A row that was just laid. -/
theorem own_laid (w : World) (e : TypeId) (s n : Nat) (cs : Array Value) (h : cs.size = n * s) (hm : n ≤ maxLen) : (w.alloc (.cells cs e)).ownsRow w.heap.size e s (.slice (some ⟨w.heap.size, 0, none⟩) n n) n cs.toList :=
  ⟨by simp [h], .inr ⟨w.heap.size, n, cs, rfl, Nat.le_refl _, heap_alloc_new _ _, Nat.le_refl _, hm, h, by rw [List.take_of_length_le (by simp [h])]⟩⟩
theorem Src.args {s n c : Nat} {w : World} {A : Option Addr} {xs : List Value} (h : Src s w (.slice A n c) n xs) : Args s w A n xs := by
  refine ⟨h.1, ?_⟩
  rcases h.2 with ⟨_, h0⟩ | ⟨b, off, c', hv, hs⟩
  · exact .inl h0
  · injection hv with h1 h2 h3; exact .inr ⟨b, off, h1, hs⟩
/-- Which part it is, as a source. -/
theorem src_part {α : Type} {f : α → List Value} {s : Nat} (hs : ∀ x, (f x).length = s) {w : World} {b off o' : Nat} {xs : List α} (h : Sl w b off (rows f xs)) (i m c : Nat) (ho : m = 0 ∨ o' = off + i * s) (hl : i + m ≤ xs.length) : Src s w (.slice (some ⟨b, o', none⟩) m c) m (rows f ((xs.drop i).take m)) := by
  have hlen : (rows f ((xs.drop i).take m)).length = m * s := by rw [rows_len hs, List.length_take, List.length_drop, Nat.min_eq_left (by omega)]
  rcases ho with h0 | rfl
  · subst h0
    refine ⟨hlen, .inr ⟨b, o', c, rfl, h.1, ?_⟩⟩
    intro j u hu
    simp [rows] at hu
  · exact Src.of_sl (h.part hs i m) hlen
/-- One cell of one record turns. -/
theorem rows_set {α : Type} {f : α → List Value} {s : Nat} (hs : ∀ x, (f x).length = s) {xs : List α} {k : Nat} {x : α} (y : α) {j : Nat} {u : Value} (hx : xs[k]? = some x) (hj : j < s) (hy : f y = (f x).set j u) : (rows f xs).set (k * s + j) u = rows f (xs.set k y) := by
  obtain ⟨hk, e⟩ := List.getElem?_eq_some_iff.1 hx
  have l1 : (rows f (xs.take k)).length = k * s := by rw [rows_len hs, List.length_take, Nat.min_eq_left (by omega)]
  have e1 : rows f xs = rows f (xs.take k) ++ (f x ++ rows f (xs.drop (k + 1))) := by
    conv => lhs; rw [← List.take_append_drop k xs, List.drop_eq_getElem_cons hk, e]
    simp [rows]
  have e2 : xs.set k y = xs.take k ++ y :: xs.drop (k + 1) := List.set_eq_take_append_cons_drop.trans (by rw [if_pos hk])
  rw [e1, e2, List.set_append_right _ _ (by omega), l1, Nat.add_sub_cancel_left, List.set_append_left _ _ (by rw [hs]; exact hj), ← hy]
  simp [rows]
section
variable {P : Program} {w : World}
theorem step_appx {ops : Array Oper} {o : Oper} {a : Act} {K : Act → World → Prop} {Q : Exit → Act → World → Prop} {E : Prop} (hgd : o.guard = none) (s x : Operand) (t : TypeId)
    (ho : o.op = .call { callee := .builtin .append, args := #[s, x], argTypes := #[t, t] })
    {e : TypeId} {z : Value} {size bytes : Nat} (ht : P.underlying t = some (.slice e)) (hinfo : (P.info? e).map (fun i => (i.zero, i.size, i.bytes)) = some (some z, size, bytes)) (hzs : z.cells.size = size) (hsz : 0 < size)
    (base : Nat) {v : Value} {n : Nat} {xs : List Value} (hown : w.ownsRow base e size v n xs) (hbase : base ≤ w.heap.size) (hs : a.eval s = v)
    {u : Value} {m : Nat} {ys : List Value} (hsrc : Src size w u m ys) (hx : a.eval x = u) (h1 : ∀ u ∈ ys, u.oneCell' = true) (h63 : n + m ≤ maxLen) (hbytes : (n + m) * bytes ≤ 140737488355328)
    (h : ∀ v' w', w'.ownsRow base e size v' (n + m) (xs ++ ys) → w.grownBy w' v.ownBlock → (v' = .slice none 0 0 → v = .slice none 0 0 ∧ m = 0) → K (a.put o.dst v') w') :
    if Region.wanted o (yielded ops a.tmps) = true then Oper.wp P o a w K Q else E := by
  have hw : Region.wanted o (yielded ops a.tmps) = true := by simp [Region.wanted, hgd]
  rw [if_pos hw]
  exact wp_appx s x t ho ht hinfo hzs hsz base hown hbase hs hsrc hx h1 h63 hbytes h
end
end Go.Proofs.YtgcedfpjgdeakaaDoor

/- Contracts of the laws' helpers on []Loop: copy, compare, size, mark, look at the marks. For slices of at most 1048576 elements. -/
namespace Go.Proofs.YtgcedfpjgdeakaaDoor
open Go.RowKit
set_option linter.all false

theorem infoLoop : (Tryd.prog.info? 54).map (fun i => (i.zero, i.size, i.bytes)) = some (some (.agg #[.int .i64 0, .int .i64 0, .int .i64 0]), 3, 24) := by kernel_rfl

theorem eqLoop_any (x y : R3) (w : World) : Calls Tryd.prog 22 #[.agg #[.int .i64 x.a, .int .i64 x.b, .int .i64 x.c], .agg #[.int .i64 y.a, .int .i64 y.b, .int .i64 y.c]] w fun e w' => e = .returned (.bool (decide (x = y))) ∧ Below w.heap.size w w' := by
  obtain ⟨a, b, c⟩ := x
  obtain ⟨a', b', c'⟩ := y
  have h0 : Below w.heap.size w ((w.alloc (.cells #[.int .i64 a, .int .i64 b, .int .i64 c] 54)).alloc (.cells #[.int .i64 a', .int .i64 b', .int .i64 c'] 54)) := ((Below.refl _ _).alloc (Nat.le_refl _) _).alloc (by simp) _
  by_cases h1 : a = a'
  rotate_left
  · have e3 : (a != a') = true := by simpa using h1
    go_enter Tryd.func22, Tryd.ntmps22
    go_wp2
    go_ret
    exact ⟨ret_bool (by simp [h1]), h0⟩
  subst h1
  by_cases h2 : b = b'
  rotate_left
  · have e3 : (b != b') = true := by simpa using h2
    go_enter Tryd.func22, Tryd.ntmps22
    go_wp2
    go_ret
    exact ⟨ret_bool (by simp [h2]), h0⟩
  subst h2
  by_cases h3 : c = c'
  rotate_left
  · have e3 : (c != c') = true := by simpa using h3
    go_enter Tryd.func22, Tryd.ntmps22
    go_wp2
    go_ret
    exact ⟨ret_bool (by simp [h3]), h0⟩
  subst h3
  go_enter Tryd.func22, Tryd.ntmps22
  go_wp2
  go_ret
  exact ⟨ret_bool (by simp), h0⟩

theorem eqLoop_is (x y : R3) (v : Bool) (h : decide (x = y) = v) (w : World) : Calls Tryd.prog 22 #[.agg #[.int .i64 x.a, .int .i64 x.b, .int .i64 x.c], .agg #[.int .i64 y.a, .int .i64 y.b, .int .i64 y.c]] w fun e w' => e = .returned (.bool v) ∧ Below w.heap.size w w' := by
  subst h; exact eqLoop_any x y w

set_option maxRecDepth 100000 in
set_option maxHeartbeats 400000 in
theorem eqLoopS_any (A B : Option Addr) (n m c d : Nat) (xs ys : List R3) (w : World) (ha : Args 3 w A n (rows R3.vs xs)) (hb : Args 3 w B m (rows R3.vs ys)) (hn : n ≤ 4194304) (hm : m ≤ 4194304) :
    Calls Tryd.prog 7 #[.slice A n c, .slice B m d] w fun e w' => e = .returned (.bool (decide (xs = ys))) ∧ Below w.heap.size w w' := by
  have HA : Hid (xs.length = n) := by have := ha.1; rw [rows_len R3.vs_len] at this; unfold Hid; omega
  have HB : Hid (ys.length = m) := by have := hb.1; rw [rows_len R3.vs_len] at this; unfold Hid; omega
  by_cases hnm : n = m
  · subst hnm
    go_enter Tryd.func7, Tryd.ntmps7
    go_wp2
    go_loopw [5] (fun i wr => ∃ k : Nat, k ≤ n ∧ i = .int .i64 k ∧ Below w.heap.size w wr ∧ Hid (xs.take k = ys.take k)) (fun i _ => n - (intOf i).toNat)
    case atStart => exact ⟨0, Nat.zero_le _, rfl, Below.refl _ _, rfl⟩
    case round =>
      obtain ⟨k, hk, rfl, hB, HR⟩ := hrel
      by_cases hlt : k < n
      · obtain ⟨b1, o1, rfl, hs1⟩ := ha.sl hlt
        obtain ⟨b2, o2, rfl, hs2⟩ := hb.sl hlt
        obtain ⟨x, HX⟩ := hget HA hlt
        obtain ⟨y, HY⟩ := hget HB hlt
        obtain ⟨p0, p1, p2⟩ := (hs1.below' hB).rec3 HX.out
        obtain ⟨q0, q1, q2⟩ := (hs2.below' hB).rec3 HY.out
        clear hs1 hs2 ha hb
        by_cases e : x = y
        · have E := Lib.hid (decide_eq_true e)
          have E2 := Lib.hid e
          clear e
          go_wp2
          go_still_tail 8, (by kernel_rfl)
          change wpList _ _ _ _ _ wr.drew
          have hB2 := hB.drew
          clear p0 q0 p1 q1 p2 q2 hB
          generalize wr.drew = w2 at hB2 ⊢
          go_wp2_with fail
          refine (eqLoop_is x y true E.out _).mono ?_
          rintro e w3 ⟨rfl, hb3⟩
          go_wp2
          go_roundw
          case rel => exact ⟨k + 1, by omega, by go_num, below_step hB2 hb3, take_succ_eq HR.out HX.out HY.out E2.out⟩
          case measure => simp [intOf]; omega
        · have E := Lib.hid (decide_eq_false e)
          have HE := Lib.hid e
          clear e
          go_wp2
          go_still_tail 8, (by kernel_rfl)
          change wpList _ _ _ _ _ wr.drew
          have hB2 := hB.drew
          clear p0 q0 p1 q1 p2 q2 hB
          generalize wr.drew = w2 at hB2 ⊢
          go_wp2_with fail
          refine (eqLoop_is x y false E.out _).mono ?_
          rintro e w3 ⟨rfl, hb3⟩
          go_wp2
          go_ret
          exact ⟨ret_bool (by simp [ne_of_at HX.out HY.out HE.out]), below_step hB2 hb3⟩
      · go_wp2
        go_ret
        refine ⟨ret_bool ?_, hB⟩
        have h1 := HR.out
        have h2 := HA.out
        have h3 := HB.out
        rw [List.take_of_length_le (by omega), List.take_of_length_le (by omega)] at h1
        simp [h1]
  · have hne : ((n : Int) != (m : Int)) = true := by simp; omega
    go_enter Tryd.func7, Tryd.ntmps7
    go_wp2
    go_ret
    refine ⟨ret_bool ?_, Below.refl _ _⟩
    have h2 := HA.out
    have h3 := HB.out
    symm
    apply decide_eq_false
    rintro rfl
    omega

set_option maxHeartbeats 800000 in
theorem markLoopS_any (base : Nat) (v : Value) (n : Nat) (k0 : Int) (xs : List Value) (w : World) (ho : w.ownsRow base 54 3 v n xs) (hk0 : 0 ≤ k0) (hk1 : k0 ≤ 1099511627776) (hn : n ≤ 4194304) :
    Calls Tryd.prog 8 #[v, .int .i64 k0] w fun e w' => e = .returned (.int .i64 (k0 + (n * 3 : Nat))) ∧ w'.ownsRow base 54 3 v n (marks (.int .i64) k0 (n * 3)) ∧ w.grownBy w' v.ownBlock := by
  have HL : Hid (xs.length = n * 3) := ho.1
  rcases ho.2 with ⟨rfl, rfl⟩ | ⟨g, cap, cur, rfl, hbg, hh, hnc, hcm, hcs, htk⟩
  · go_enter Tryd.func8, Tryd.ntmps8
    go_wp2
    refine wp_loop_rounds 1 ?_
    rw [rounds_succ]
    go_wp2
    go_ret
    exact ⟨by simp, by simpa [marks] using World.ownsRow_nil _ _ _ _, World.grownBy.refl _ _⟩
  · clear hh hcs htk
    go_enter Tryd.func8, Tryd.ntmps8
    go_wp2
    go_loopw [1, 5] (fun kk i wr => ∃ k : Nat, k ≤ n ∧ i = .int .i64 k ∧ kk = .int .i64 (k0 + (k * 3 : Nat)) ∧ wr.ownsRow base 54 3 (.slice (some ⟨g, 0, none⟩) n cap) n (marks (.int .i64) k0 (k * 3) ++ xs.drop (k * 3)) ∧ w.grownBy wr (some g)) (fun _ i _ => n - (intOf i).toNat)
    case atStart => exact ⟨0, Nat.zero_le _, rfl, by simp, by simpa [marks] using ho, World.grownBy.refl _ _⟩
    case round =>
      obtain ⟨k, hk, rfl, rfl, hown, hgr⟩ := hrel
      clear ho
      by_cases hlt : k < n
      · obtain ⟨u0, c0⟩ := own_some hown (j := k * 3) (by omega)
        obtain ⟨u1, c1⟩ := own_some hown (j := k * 3 + 1) (by omega)
        obtain ⟨u2, c2⟩ := own_some hown (j := k * 3 + 2) (by omega)
        have z0 := hown.frozenAt (k * 3)
        have z1 := hown.frozenAt (k * 3 + 1)
        have z2 := hown.frozenAt (k * 3 + 2)
        have HS := Lib.hid (own_mark3 hown hgr HL.out hlt)
        have hm0 : ((k * 3 : Nat) : Int) = (k : Int) * 3 := by omega
        clear hown
        go_wp2
        go_roundw
        case rel => exact ⟨k + 1, by omega, by go_num, by go_num, by exact HS.out.1, by exact HS.out.2⟩
        case measure => simp [intOf]; omega
      · go_wp2
        go_ret
        obtain rfl : k = n := by omega
        refine ⟨rfl, ?_, hgr⟩
        rw [List.drop_of_length_le (by have := HL.out; omega), List.append_nil] at hown
        exact hown

set_option maxHeartbeats 800000 in
theorem heldLoopS_any (A : Option Addr) (n c : Nat) (k0 : Int) (w : World) (ha : Args 3 w A n (marks (.int .i64) k0 (n * 3))) (hk0 : 0 ≤ k0) (hk1 : k0 ≤ 1099511627776) (hn : n ≤ 4194304) :
    Calls Tryd.prog 9 #[.slice A n c, .int .i64 k0] w fun e w' => e = .returned (.int .i64 (k0 + (n * 3 : Nat))) ∧ w = w' := by
  go_enter Tryd.func9, Tryd.ntmps9
  go_wp2
  go_loop [1, 5] (fun kk i => ∃ k : Nat, k ≤ n ∧ i = .int .i64 k ∧ kk = .int .i64 (k0 + (k * 3 : Nat))) (fun _ i => n - (intOf i).toNat)
  case atStart => exact ⟨0, Nat.zero_le _, rfl, by simp⟩
  case round =>
    obtain ⟨k, hk, rfl, rfl⟩ := hrel
    by_cases hlt : k < n
    · obtain ⟨b, off, rfl, hs⟩ := ha.sl hlt
      have h0 : w.cell? ⟨b, off + k * 3, none⟩ = some (.int .i64 (k0 + (k : Int) * 3)) := by
        have := hs.at (marks_at (.int .i64) k0 (n * 3) (k * 3 + 0) (by omega))
        rw [show off + (k * 3 + 0) = off + k * 3 by omega, show k0 + ((k * 3 + 0 : Nat) : Int) = k0 + (k : Int) * 3 by omega] at this
        exact this
      have h1 : w.cell? ⟨b, off + k * 3 + 1, none⟩ = some (.int .i64 (k0 + (k : Int) * 3 + 1)) := by
        have := hs.at (marks_at (.int .i64) k0 (n * 3) (k * 3 + 1) (by omega))
        rw [show off + (k * 3 + 1) = off + k * 3 + 1 by omega, show k0 + ((k * 3 + 1 : Nat) : Int) = k0 + (k : Int) * 3 + 1 by omega] at this
        exact this
      have h2 : w.cell? ⟨b, off + k * 3 + 2, none⟩ = some (.int .i64 (k0 + (k : Int) * 3 + 2)) := by
        have := hs.at (marks_at (.int .i64) k0 (n * 3) (k * 3 + 2) (by omega))
        rw [show off + (k * 3 + 2) = off + k * 3 + 2 by omega, show k0 + ((k * 3 + 2 : Nat) : Int) = k0 + (k : Int) * 3 + 2 by omega] at this
        exact this
      clear hs ha
      go_wp2
      go_round
      case rel => exact ⟨k + 1, by omega, by go_num, by go_num⟩
      case measure => simp [intOf]; omega
    · go_wp2
      go_ret
      obtain rfl : k = n := by omega
      exact ⟨rfl, rfl⟩

end Go.Proofs.YtgcedfpjgdeakaaDoor
