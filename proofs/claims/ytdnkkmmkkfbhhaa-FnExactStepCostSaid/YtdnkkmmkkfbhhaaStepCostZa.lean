/- The law FnExactStepCost returns true for every input, and each argument reads afterwards as before: the proof, part 1. No conditions. -/
import Derived.Test.YtdnkkmmkkfbhhaaRows
import Derived.WalkKit
import Derived.WalkSpells
import Derived.WalkLawsBesides
import Derived.JoinedOf
import Derived.Lib.Hide
import Derived.Deep.QuietTactic
import Derived.BigQuiet
import Derived.Outline
import Derived.Deep.OwnRows
import Derived.Deep.RegionHeld3
import Derived.Deep.AppendLies
import Derived.Laws.EntriesVeiled
import Derived.Lib.AppendZeros
import Derived.StillTailTactics
/- Facts of the whole program that each law's row asks for: proved once a seat. No conditions. -/
namespace Go.Proofs.Ytdnkkmmkkfbhhaa.pf
open Go.RowKit

theorem band {a b : Bool} (h : a = true) (k : b = true) : (a && b) = true := by rw [h, k]; rfl
theorem beqOf {α : Type} [BEq α] [ReflBEq α] {a b : α} (h : b = a) : (a == b) = true := by rw [h]; exact BEq.rfl
theorem laid : laidOutB Try.pinned.checked.prog = true := by kernel_rfl
theorem mapsRow : mapsRowed Try.pinned.checked.prog = true := by kernel_rfl
theorem stops : (Try.pinned.checked.prog.stops == []) = true := by kernel_rfl
theorem stopKnobs : (Try.pinned.checked.prog.stopKnobs == []) = true := by kernel_rfl
theorem plainKeys : Try.pinned.checked.prog.plainKeys = true := by kernel_rfl
theorem heard : Try.pinned.checked.prog.stopsHeard = true := by kernel_rfl
theorem enter : Try.pinned.checked.prog.mayEnter = true := by kernel_rfl
theorem lifts : Try.pinned.checked.prog.liftsFinal = false := by kernel_rfl
theorem make : Try.pinned.checked.prog.make = some .cut := by kernel_rfl
end Go.Proofs.Ytdnkkmmkkfbhhaa.pf

/- Common words for the walks of this seat: slices that read as lists of cells. Plain lemmas, no conditions. -/
namespace Go.Proofs.Ytdnkkmmkkfbhhaa
open Go.RowKit

/-- The cells from (b, off) on read as xs; the block is there. -/
def Sl (w : World) (b off : Nat) (xs : List Value) : Prop :=
  b < w.heap.size ∧ ∀ j u, xs[j]? = some u → w.cell? ⟨b, off + j, none⟩ = some u

theorem Sl.lt {w : World} {b off : Nat} {xs : List Value} (h : Sl w b off xs) : b < w.heap.size := h.1
theorem Sl.at {w : World} {b off : Nat} {xs : List Value} (h : Sl w b off xs) {j : Nat} {u : Value} (hu : xs[j]? = some u) : w.cell? ⟨b, off + j, none⟩ = some u := h.2 j u hu
theorem Sl.bools {w : World} {b off : Nat} {xs : List Bool} (h : Sl w b off (xs.map Value.bool)) {j : Nat} (hj : j < xs.length) : w.cell? ⟨b, off + j, none⟩ = some (.bool xs[j]) :=
  h.2 j _ (by simp [hj])
theorem Sl.ints {w : World} {b off : Nat} {k : IntKind} {xs : List Int} (h : Sl w b off (xs.map (Value.int k))) {j : Nat} (hj : j < xs.length) : w.cell? ⟨b, off + j, none⟩ = some (.int k xs[j]) :=
  h.2 j _ (by simp [hj])
theorem Sl.drewN {w : World} {b off : Nat} {xs : List Value} (h : Sl w b off xs) (n : Nat) : Sl (w.drewN n) b off xs := h
theorem Sl.below {w w' : World} {B b off : Nat} {xs : List Value} (h : Sl w b off xs) (hb : Below B w w') (hB : b < B) : Sl w' b off xs :=
  ⟨Nat.lt_of_lt_of_le h.1 hb.size, fun j u hu => (hb.cell (p := ⟨b, off + j, none⟩) hB).trans (h.2 j u hu)⟩
theorem Sl.below' {w w' : World} {b off : Nat} {xs : List Value} (h : Sl w b off xs) (hb : Below w.heap.size w w') : Sl w' b off xs := h.below hb h.1

theorem below_drewN {B : Nat} {a w : World} (h : Below B a w) (n : Nat) : Below B a (w.drewN n) := ⟨h.os, h.tape, h.output, h.size, h.block⟩

/-- A slice that came in: empty (whatever its address), or cells that read as xs. -/
def Arg (w : World) (A : Option Addr) (n : Nat) (xs : List Value) : Prop :=
  xs.length = n ∧ (n = 0 ∨ ∃ b off, A = some ⟨b, off, none⟩ ∧ Sl w b off xs)
theorem Arg.below {w w' : World} {A : Option Addr} {n : Nat} {xs : List Value} (h : Arg w A n xs) (hb : Below w.heap.size w w') : Arg w' A n xs := by
  refine ⟨h.1, ?_⟩
  rcases h.2 with h0 | ⟨b, off, rfl, hs⟩
  · exact .inl h0
  · exact .inr ⟨b, off, rfl, hs.below' hb⟩
theorem Arg.sl {w : World} {A : Option Addr} {n : Nat} {xs : List Value} (h : Arg w A n xs) {k : Nat} (hk : k < n) : ∃ b off, A = some ⟨b, off, none⟩ ∧ Sl w b off xs := by
  rcases h.2 with h0 | h0
  · omega
  · exact h0
theorem Arg.of_sl {w : World} {b off n : Nat} {xs : List Value} (h : Sl w b off xs) (hn : xs.length = n) : Arg w (some ⟨b, off, none⟩) n xs := ⟨hn, .inr ⟨b, off, rfl, h⟩⟩
theorem Arg.of_nil (w : World) (A : Option Addr) : Arg w A 0 [] := ⟨rfl, .inl rfl⟩

/-- What a call owns reads as its cells. -/
theorem sl_of_own {w : World} {base : Nat} {e : TypeId} {size g n cap : Nat} {xs : List Value} (h : w.ownsRow base e size (.slice (some ⟨g, 0, none⟩) n cap) n xs) : Sl w g 0 xs := by
  refine ⟨(h.lt g rfl).2, fun j u hu => ?_⟩
  have := h.cells (g := g) rfl j u hu
  unfold Addr.add at this
  split at this
  · rename_i h0; subst h0; simpa using this
  · simpa using this
theorem arg_of_own {w : World} {base : Nat} {e : TypeId} {A : Option Addr} {n cap : Nat} {xs : List Value} (h : w.ownsRow base e 1 (.slice A n cap) n xs) : Arg w A n xs := by
  refine ⟨by have := h.1; omega, ?_⟩
  rcases h.2 with ⟨h', h0⟩ | ⟨g, cap', cur, hv, _⟩
  · exact .inl h0
  · obtain ⟨rfl, rfl⟩ : A = some ⟨g, 0, none⟩ ∧ cap = cap' := by simpa using hv
    exact .inr ⟨g, 0, rfl, sl_of_own h⟩
/-- A row known by its cells is owned. -/
theorem own_of_rowIs {w : World} {base : Nat} {e : TypeId} {g n : Nat} {f : Nat → Value} {xs : List Value} (h : w.rowIs g e n f) (hb : base ≤ g) (hm : n ≤ maxLen) (hl : xs.length = n) (hf : ∀ j u, xs[j]? = some u → f j = u) :
    w.ownsRow base e 1 (.slice (some ⟨g, 0, none⟩) n n) n xs := by
  obtain ⟨cur, hh, hs, hc⟩ := h
  refine ⟨by omega, .inr ⟨g, n, cur, rfl, hb, hh, Nat.le_refl _, hm, by omega, ?_⟩⟩
  apply List.ext_getElem?
  intro j
  by_cases hj : j < n
  · rw [List.getElem?_take, if_pos (by omega)]
    have hx : xs[j]? = some (xs[j]'(by omega)) := List.getElem?_eq_getElem (by omega)
    rw [hx]
    have := hc j hj
    rw [hf j _ hx] at this
    simpa using this
  · rw [List.getElem?_eq_none (by simp; omega), List.getElem?_eq_none (by omega)]
theorem own_below {w w' : World} {base B : Nat} {e : TypeId} {size n : Nat} {v : Value} {xs : List Value} (h : w.ownsRow base e size v n xs) (hb : Below B w w') (hB : ∀ g, v.ownBlock = some g → g < B) : w'.ownsRow base e size v n xs := by
  refine ⟨h.1, ?_⟩
  rcases h.2 with hn | ⟨g, cap, cur, rfl, h1, hg, rest⟩
  · exact .inl hn
  · exact .inr ⟨g, cap, cur, rfl, h1, (hb.block g (hB g rfl)).trans hg, rest⟩
theorem own_below' {w w' : World} {base : Nat} {e : TypeId} {size n : Nat} {v : Value} {xs : List Value} (h : w.ownsRow base e size v n xs) (hb : Below w.heap.size w w') : w'.ownsRow base e size v n xs :=
  own_below h hb fun g hg => (h.lt g hg).2
theorem own_base {w : World} {base base' : Nat} {e : TypeId} {size n : Nat} {v : Value} {xs : List Value} (h : w.ownsRow base e size v n xs) (hb : base' ≤ base) : w.ownsRow base' e size v n xs := by
  refine ⟨h.1, ?_⟩
  rcases h.2 with hn | ⟨g, cap, cur, rfl, h1, rest⟩
  · exact .inl hn
  · exact .inr ⟨g, cap, cur, rfl, Nat.le_trans hb h1, rest⟩

theorem map_at {α : Type} (f : α → Value) (xs : List α) {k : Nat} (h : k < xs.length) : ∃ x, Hid (xs[k]? = some x) ∧ (xs.map f)[k]? = some (f x) :=
  ⟨xs[k], List.getElem?_eq_getElem h, by simp [h]⟩
theorem upd_at {α : Type} (f : α → Value) (xs : List α) (k i : Nat) (x : α) (hx : xs[k]? = some x) (z : Value) :
    (if i = k then f x else if i < k then (xs.map f).getD i undef else z) = if i < k + 1 then (xs.map f).getD i undef else z := by
  by_cases e : i = k
  · subst e; simp [hx]
  · rw [if_neg e]
    by_cases e2 : i < k
    · rw [if_pos e2, if_pos (by omega)]
    · rw [if_neg e2, if_neg (by omega)]

/-- The marks that the laws write: f (k), f (k + 1), .. -/
def marks (f : Int → Value) (k : Int) (n : Nat) : List Value := (List.range n).map fun j : Nat => f (k + (j : Int))
theorem length_marks (f : Int → Value) (k : Int) (n : Nat) : (marks f k n).length = n := by simp [marks]
theorem marks_at (f : Int → Value) (k : Int) (n j : Nat) (h : j < n) : (marks f k n)[j]? = some (f (k + j)) := by simp [marks, h]
theorem marks_set (f : Int → Value) (k : Int) (xs : List Value) (i : Nat) (h : i < xs.length) : (marks f k i ++ xs.drop i).set i (f (k + i)) = marks f k (i + 1) ++ xs.drop (i + 1) := by
  rw [List.set_append_right i (f (k + i)) (by simp [length_marks]), length_marks, Nat.sub_self, List.drop_eq_getElem_cons h, List.set_cons_zero]
  simp [marks, List.range_succ]

theorem take_succ_eq {α : Type} {xs ys : List α} {k : Nat} {x y : α} (h : xs.take k = ys.take k) (hx : xs[k]? = some x) (hy : ys[k]? = some y) (e : x = y) : xs.take (k + 1) = ys.take (k + 1) := by
  rw [List.take_add_one, List.take_add_one, h, hx, hy, e]
theorem ne_of_at {α : Type} {xs ys : List α} {k : Nat} {x y : α} (hx : xs[k]? = some x) (hy : ys[k]? = some y) (e : x ≠ y) : xs ≠ ys := by
  rintro rfl; rw [hx] at hy; injection hy with h; exact e h

theorem quiet_below {w w' : World} {q : Nat} (h : w' = w.drewN q) : Below w.heap.size w w' := by rw [h]; exact below_drewN (Below.refl _ _) q
theorem below_step {w w1 w2 : World} (h : Below w.heap.size w w1) (k : Below w1.heap.size w1 w2) : Below w.heap.size w w2 := h.trans (k.mono h.size)
theorem own_form {w : World} {base : Nat} {e : TypeId} {size n : Nat} {v : Value} {xs : List Value} (h : w.ownsRow base e size v n xs) : ∃ A c, v = .slice A n c := by
  rcases h.2 with ⟨rfl, rfl⟩ | ⟨g, cap, cur, rfl, _⟩
  · exact ⟨_, _, rfl⟩
  · exact ⟨_, _, rfl⟩
/-- Two rows of which one was made before the other's base lie apart. -/
theorem own_apart {w1 w2 : World} {b1 b2 : Nat} {e1 e2 : TypeId} {s1 s2 n1 n2 : Nat} {v1 v2 : Value} {x1 x2 : List Value} (h1 : w1.ownsRow b1 e1 s1 v1 n1 x1) (h2 : w2.ownsRow b2 e2 s2 v2 n2 x2) (hlt : w1.heap.size ≤ b2) :
    v1.ownBlock = none ∨ v1.ownBlock ≠ v2.ownBlock := by
  cases hv : v1.ownBlock with
  | none => exact .inl rfl
  | some k =>
    refine .inr fun e => ?_
    have a1 := (h1.lt k hv).2
    have a2 := (h2.lt k e.symm).1
    omega
theorem own_apart' {w1 w2 : World} {b1 b2 : Nat} {e1 e2 : TypeId} {s1 s2 n1 n2 : Nat} {v1 v2 : Value} {x1 x2 : List Value} (h1 : w1.ownsRow b1 e1 s1 v1 n1 x1) (h2 : w2.ownsRow b2 e2 s2 v2 n2 x2) (hlt : w1.heap.size ≤ b2) :
    v2.ownBlock = none ∨ v2.ownBlock ≠ v1.ownBlock := by
  cases hv : v2.ownBlock with
  | none => exact .inl rfl
  | some k =>
    refine .inr fun e => ?_
    have a1 := (h1.lt k e.symm).2
    have a2 := (h2.lt k hv).1
    omega
theorem grown_below {w0 w w' : World} {base : Nat} {e : TypeId} {size n : Nat} {v : Value} {xs : List Value} (h : Below w0.heap.size w0 w) (ho : w.ownsRow base e size v n xs) (hb : w0.heap.size ≤ base) (hg : w.grownBy w' v.ownBlock) : Below w0.heap.size w0 w' :=
  h.grown hg h.size fun k hk => by have := (ho.lt k hk).1; omega

/-- Numbers that fit int64. -/
def Wf64 (x : Int) : Prop := -9223372036854775808 ≤ x ∧ x ≤ 9223372036854775807
def Wf64s (xs : List Int) : Prop := ∀ x ∈ xs, Wf64 x
theorem wf64_of {x : Int} (h : (Lit.int .i64 x).wf = true) : Wf64 x := by
  have h2 : IntKind.i64.min ≤ x ∧ x ≤ IntKind.i64.max := by simpa [Lit.wf] using h
  have e1 : IntKind.i64.min = -9223372036854775808 := by decide
  have e2 : IntKind.i64.max = 9223372036854775807 := by decide
  rw [e1, e2] at h2
  exact h2
theorem wf64s_of {xs : List Int} (h : ∀ x ∈ xs, (Lit.int .i64 x).wf = true) : Wf64s xs := fun x hx => wf64_of (h x hx)

/-- A callee that leaves the world alone, inside a quiet region. -/
theorem quiet_eq {P : Program} {f : FuncId} {args : Array Value} {w : World} {n : Nat} {v : Value}
    (h : Calls P f args (w.drewN n) fun e w' => e = .returned v ∧ w.drewN n = w') : Calls P f args (w.drewN n) fun e w'' => e = .returned v ∧ ∃ m, w'' = w.drewN m :=
  h.mono fun _ _ ⟨he, hm⟩ => ⟨he, n, hm.symm⟩
theorem quiet_eq2 {P : Program} {f : FuncId} {args : Array Value} {w : World} {a n : Nat} {v : Value}
    (h : Calls P f args (w.drewN (a + n)) fun e w' => e = .returned v ∧ w.drewN (a + n) = w') : Calls P f args (w.drewN (a + n)) fun e w'' => e = .returned v ∧ ∃ m, w'' = w.drewN (a + m) :=
  h.mono fun _ _ ⟨he, hm⟩ => ⟨he, n, hm.symm⟩
theorem quiet_q {P : Program} {f : FuncId} {args : Array Value} {w : World} {n : Nat} {v : Value}
    (h : Calls P f args (w.drewN n) fun e w' => e = .returned v ∧ ∃ m, w' = (w.drewN n).drewN m) : Calls P f args (w.drewN n) fun e w'' => e = .returned v ∧ ∃ m, w'' = w.drewN m :=
  h.mono fun _ _ ⟨he, m, hm⟩ => ⟨he, n + m, by rw [hm, World.drewN_drewN]⟩
theorem quiet_q2 {P : Program} {f : FuncId} {args : Array Value} {w : World} {a n : Nat} {v : Value}
    (h : Calls P f args (w.drewN (a + n)) fun e w' => e = .returned v ∧ ∃ m, w' = (w.drewN (a + n)).drewN m) : Calls P f args (w.drewN (a + n)) fun e w'' => e = .returned v ∧ ∃ m, w'' = w.drewN (a + m) :=
  h.mono fun _ _ ⟨he, m, hm⟩ => ⟨he, n + m, by rw [hm, World.drewN_drewN, Nat.add_assoc]⟩

section
variable {P : Program} {w : World}
/-- 'out = append(out, x ..)' onto a row of the call's own, the new elements just laid in a block of their own: the world before that block is wr, the call began in w0. -/
theorem wp_app {o : Oper} {a : Act} {K : Act → World → Prop} {Q : Exit → Act → World → Prop} (s x : Operand) (t : TypeId)
    (ho : o.op = .call { callee := .builtin .append, args := #[s, x], argTypes := #[t, t] })
    {e : TypeId} {z : Value} {size bytes : Nat} (ht : P.underlying t = some (.slice e)) (hinfo : (P.info? e).map (fun i => (i.zero, i.size, i.bytes)) = some (some z, size, bytes)) (hzs : z.cells.size = size) (hsz : 0 < size)
    (w0 wr : World) {v : Value} {n : Nat} {xs : List Value} (hown : wr.ownsRow w0.heap.size e size v n xs) (hB : Below w0.heap.size w0 wr) (hs : a.eval s = v)
    (m : Nat) (cs : Array Value) (hx : a.eval x = .slice (some ⟨wr.heap.size, 0, none⟩) m m) (hW : Below wr.heap.size wr w) (hnews : w.heap[wr.heap.size]? = some (.cells cs e (0, 0)))
    (hl : cs.toList.length = m * size) (h1 : ∀ u ∈ cs.toList, u.oneCell' = true) (hm : 0 < m) (h63 : n + m ≤ maxLen) (hbytes : (n + m) * bytes ≤ 140737488355328)
    (h : ∀ g cap w', w'.ownsRow w0.heap.size e size (.slice (some ⟨g, 0, none⟩) (n + m) cap) (n + m) (xs ++ cs.toList) → Below w0.heap.size w0 w' → K (a.put o.dst (.slice (some ⟨g, 0, none⟩) (n + m) cap)) w') : o.wp P a w K Q := by
  obtain ⟨i, hi, hz, hsize, hby⟩ := info_parts hinfo
  have hBw : Below w0.heap.size w0 w := hB.trans (hW.mono hB.size)
  have ho1 := own_below' hown hW
  refine wp_append_lies w s x t ho w0.heap.size e i z size bytes ht hi hz hsize hby hzs hsz v n xs hs ho1 ⟨wr.heap.size, 0, none⟩ m m cs.toList hx hl (World.news_of_block hnews) h1 hm h63 hbytes hBw.size w.heap.size rfl ?_
  intro g cap w' h2 h3 h4 h5
  exact h g cap w' h2 (hBw.grown h3 hBw.size fun k hk => (ho1.lt k hk).1)
theorem wpList_app {ops : Array Oper} {rest : List Oper} {o : Oper} {a : Act} {Q : Exit → Act → World → Prop} (hgd : o.guard = none) (s x : Operand) (t : TypeId)
    (ho : o.op = .call { callee := .builtin .append, args := #[s, x], argTypes := #[t, t] })
    {e : TypeId} {z : Value} {size bytes : Nat} (ht : P.underlying t = some (.slice e)) (hinfo : (P.info? e).map (fun i => (i.zero, i.size, i.bytes)) = some (some z, size, bytes)) (hzs : z.cells.size = size) (hsz : 0 < size)
    (w0 wr : World) {v : Value} {n : Nat} {xs : List Value} (hown : wr.ownsRow w0.heap.size e size v n xs) (hB : Below w0.heap.size w0 wr) (hs : a.eval s = v)
    (m : Nat) (cs : Array Value) (hx : a.eval x = .slice (some ⟨wr.heap.size, 0, none⟩) m m) (hW : Below wr.heap.size wr w) (hnews : w.heap[wr.heap.size]? = some (.cells cs e (0, 0)))
    (hl : cs.toList.length = m * size) (h1 : ∀ u ∈ cs.toList, u.oneCell' = true) (hm : 0 < m) (h63 : n + m ≤ maxLen) (hbytes : (n + m) * bytes ≤ 140737488355328)
    (h : ∀ g cap w', w'.ownsRow w0.heap.size e size (.slice (some ⟨g, 0, none⟩) (n + m) cap) (n + m) (xs ++ cs.toList) → Below w0.heap.size w0 w' → wpList P ops Q rest (a.put o.dst (.slice (some ⟨g, 0, none⟩) (n + m) cap)) w') : wpList P ops Q (o :: rest) a w :=
  wpList_plain hgd fun _ hK => wp_app s x t ho ht hinfo hzs hsz w0 wr hown hB hs m cs hx hW hnews hl h1 hm h63 hbytes fun g cap w' h2 h3 => hK _ _ (h g cap w' h2 h3)
theorem step_app {ops : Array Oper} {o : Oper} {a : Act} {K : Act → World → Prop} {Q : Exit → Act → World → Prop} {E : Prop} (hgd : o.guard = none) (s x : Operand) (t : TypeId)
    (ho : o.op = .call { callee := .builtin .append, args := #[s, x], argTypes := #[t, t] })
    {e : TypeId} {z : Value} {size bytes : Nat} (ht : P.underlying t = some (.slice e)) (hinfo : (P.info? e).map (fun i => (i.zero, i.size, i.bytes)) = some (some z, size, bytes)) (hzs : z.cells.size = size) (hsz : 0 < size)
    (w0 wr : World) {v : Value} {n : Nat} {xs : List Value} (hown : wr.ownsRow w0.heap.size e size v n xs) (hB : Below w0.heap.size w0 wr) (hs : a.eval s = v)
    (m : Nat) (cs : Array Value) (hx : a.eval x = .slice (some ⟨wr.heap.size, 0, none⟩) m m) (hW : Below wr.heap.size wr w) (hnews : w.heap[wr.heap.size]? = some (.cells cs e (0, 0)))
    (hl : cs.toList.length = m * size) (h1 : ∀ u ∈ cs.toList, u.oneCell' = true) (hm : 0 < m) (h63 : n + m ≤ maxLen) (hbytes : (n + m) * bytes ≤ 140737488355328)
    (h : ∀ g cap w', w'.ownsRow w0.heap.size e size (.slice (some ⟨g, 0, none⟩) (n + m) cap) (n + m) (xs ++ cs.toList) → Below w0.heap.size w0 w' → K (a.put o.dst (.slice (some ⟨g, 0, none⟩) (n + m) cap)) w') :
    if Region.wanted o (yielded ops a.tmps) = true then Oper.wp P o a w K Q else E := by
  have hw : Region.wanted o (yielded ops a.tmps) = true := by simp [Region.wanted, hgd]
  rw [if_pos hw]
  exact wp_app s x t ho ht hinfo hzs hsz w0 wr hown hB hs m cs hx hW hnews hl h1 hm h63 hbytes h
end
section
variable {P : Program} {w : World}
/-- The same, and of the blocks that were there in wr only the row's own may have turned. -/
theorem wp_appg {o : Oper} {a : Act} {K : Act → World → Prop} {Q : Exit → Act → World → Prop} (s x : Operand) (t : TypeId)
    (ho : o.op = .call { callee := .builtin .append, args := #[s, x], argTypes := #[t, t] })
    {e : TypeId} {z : Value} {size bytes : Nat} (ht : P.underlying t = some (.slice e)) (hinfo : (P.info? e).map (fun i => (i.zero, i.size, i.bytes)) = some (some z, size, bytes)) (hzs : z.cells.size = size) (hsz : 0 < size)
    (base : Nat) (wr : World) {v : Value} {n : Nat} {xs : List Value} (hown : wr.ownsRow base e size v n xs) (hbase : base ≤ wr.heap.size) (hs : a.eval s = v)
    (m : Nat) (cs : Array Value) (hx : a.eval x = .slice (some ⟨wr.heap.size, 0, none⟩) m m) (hW : Below wr.heap.size wr w) (hnews : w.heap[wr.heap.size]? = some (.cells cs e (0, 0)))
    (hl : cs.toList.length = m * size) (h1 : ∀ u ∈ cs.toList, u.oneCell' = true) (hm : 0 < m) (h63 : n + m ≤ maxLen) (hbytes : (n + m) * bytes ≤ 140737488355328)
    (h : ∀ g cap w', w'.ownsRow base e size (.slice (some ⟨g, 0, none⟩) (n + m) cap) (n + m) (xs ++ cs.toList) → wr.grownBy w' v.ownBlock → K (a.put o.dst (.slice (some ⟨g, 0, none⟩) (n + m) cap)) w') : o.wp P a w K Q := by
  obtain ⟨i, hi, hz, hsize, hby⟩ := info_parts hinfo
  have ho1 := own_below' hown hW
  refine wp_append_lies w s x t ho base e i z size bytes ht hi hz hsize hby hzs hsz v n xs hs ho1 ⟨wr.heap.size, 0, none⟩ m m cs.toList hx hl (World.news_of_block hnews) h1 hm h63 hbytes (Nat.le_trans hbase hW.size) w.heap.size rfl ?_
  intro g cap w' h2 h3 h4 h5
  exact h g cap w' h2 ⟨h3.os.trans hW.os, h3.tape.trans hW.tape, h3.output.trans hW.output, Nat.le_trans hW.size h3.size, fun k hk hne => (h3.block k (Nat.lt_of_lt_of_le hk hW.size) hne).trans (hW.block k hk)⟩
theorem wpList_appg {ops : Array Oper} {rest : List Oper} {o : Oper} {a : Act} {Q : Exit → Act → World → Prop} (hgd : o.guard = none) (s x : Operand) (t : TypeId)
    (ho : o.op = .call { callee := .builtin .append, args := #[s, x], argTypes := #[t, t] })
    {e : TypeId} {z : Value} {size bytes : Nat} (ht : P.underlying t = some (.slice e)) (hinfo : (P.info? e).map (fun i => (i.zero, i.size, i.bytes)) = some (some z, size, bytes)) (hzs : z.cells.size = size) (hsz : 0 < size)
    (base : Nat) (wr : World) {v : Value} {n : Nat} {xs : List Value} (hown : wr.ownsRow base e size v n xs) (hbase : base ≤ wr.heap.size) (hs : a.eval s = v)
    (m : Nat) (cs : Array Value) (hx : a.eval x = .slice (some ⟨wr.heap.size, 0, none⟩) m m) (hW : Below wr.heap.size wr w) (hnews : w.heap[wr.heap.size]? = some (.cells cs e (0, 0)))
    (hl : cs.toList.length = m * size) (h1 : ∀ u ∈ cs.toList, u.oneCell' = true) (hm : 0 < m) (h63 : n + m ≤ maxLen) (hbytes : (n + m) * bytes ≤ 140737488355328)
    (h : ∀ g cap w', w'.ownsRow base e size (.slice (some ⟨g, 0, none⟩) (n + m) cap) (n + m) (xs ++ cs.toList) → wr.grownBy w' v.ownBlock → wpList P ops Q rest (a.put o.dst (.slice (some ⟨g, 0, none⟩) (n + m) cap)) w') : wpList P ops Q (o :: rest) a w :=
  wpList_plain hgd fun _ hK => wp_appg s x t ho ht hinfo hzs hsz base wr hown hbase hs m cs hx hW hnews hl h1 hm h63 hbytes fun g cap w' h2 h3 => hK _ _ (h g cap w' h2 h3)
end

theorem cell_of_heap {w : World} {g i : Nat} {cs : Array Value} {t : TypeId} {fr : Nat × Nat} (h : w.heap[g]? = some (.cells cs t fr)) : w.cell? ⟨g, i, none⟩ = cs[i]? := by
  simp [World.cell?, h]
theorem frozen_of_heap {w : World} {g i : Nat} {cs : Array Value} {t : TypeId} (h : w.heap[g]? = some (.cells cs t (0, 0))) : w.frozen? ⟨g, i, none⟩ = false := by
  simp [World.frozen?, h]
theorem heap_lt {w : World} {g : Nat} {o : Obj} (h : w.heap[g]? = some o) : g < w.heap.size := (Array.getElem?_eq_some_iff.1 h).1
theorem heap_ne {w : World} {g g' : Nat} {cs cs' : Array Value} {t t' : TypeId} {fr fr' : Nat × Nat} (h : w.heap[g]? = some (.cells cs t fr)) (h' : w.heap[g']? = some (.cells cs' t' fr')) (hne : t ≠ t') : g ≠ g' := by
  rintro rfl
  rw [h] at h'
  injection h' with h'
  injection h' with _ ht
  exact hne ht
theorem own_ne_block {w : World} {base : Nat} {e : TypeId} {size n : Nat} {v : Value} {xs : List Value} (h : w.ownsRow base e size v n xs) {g : Nat} {cs : Array Value} {t : TypeId} {fr : Nat × Nat} (hg : w.heap[g]? = some (.cells cs t fr)) (hne : e ≠ t) : some g ≠ v.ownBlock := by
  rcases h.2 with ⟨rfl, _⟩ | ⟨g', cap, cur, rfl, _, hh, _⟩
  · simp [Value.ownBlock]
  · intro he
    have : g = g' := by simpa [Value.ownBlock] using he
    subst this
    exact heap_ne hh hg hne rfl
theorem heap_set {w : World} {g i : Nat} {cs : Array Value} {t : TypeId} {fr : Nat × Nat} (h : w.heap[g]? = some (.cells cs t fr)) (u : Value) : (w.setCell ⟨g, i, none⟩ u).heap[g]? = some (.cells (cs.setIfInBounds i u) t fr) := by
  simp [World.setCell, Array.getElem?_modify, h]
theorem heap_set_other {w : World} {g : Nat} {o : Obj} (h : w.heap[g]? = some o) (p : Addr) (hne : g ≠ p.block) (u : Value) : (w.setCell p u).heap[g]? = some o := (Below.heap_setCell w p u g hne).trans h
theorem own_setCell {w : World} {base : Nat} {e : TypeId} {size n : Nat} {v : Value} {xs : List Value} (h : w.ownsRow base e size v n xs) {p : Addr} (hne : some p.block ≠ v.ownBlock) (u : Value) : (w.setCell p u).ownsRow base e size v n xs := by
  refine ⟨h.1, ?_⟩
  rcases h.2 with h2 | ⟨g, cap, cur, rfl, hg, hh, r⟩
  · exact .inl h2
  · exact .inr ⟨g, cap, cur, rfl, hg, heap_set_other hh p (fun e => hne (by rw [e]; rfl)) u, r⟩
theorem grown_setCell {w w' : World} {g : Nat} (h : w.grownBy w' (some g)) (i : Nat) (u : Value) : w.grownBy (w'.setCell ⟨g, i, none⟩ u) (some g) :=
  ⟨h.os, h.tape, h.output, by simpa [World.setCell] using h.size, fun k hk hne => (Below.heap_setCell w' ⟨g, i, none⟩ u k (fun e => hne (by rw [e]))).trans (h.block k hk hne)⟩
theorem grown_of_below {w w' : World} (h : Below w.heap.size w w') (row : Option Nat) : w.grownBy w' row := ⟨h.os, h.tape, h.output, h.size, fun k hk _ => h.block k hk⟩
theorem grown_keep {w w' : World} {row : Option Nat} (h : w.grownBy w' row) {g : Nat} {o : Obj} (hg : w.heap[g]? = some o) (hne : some g ≠ row) : w'.heap[g]? = some o := (h.block g (heap_lt hg) hne).trans hg
theorem grown_drewN {w w' : World} {row : Option Nat} (h : w.grownBy w' row) (n : Nat) : w.grownBy (w'.drewN n) row := ⟨h.os, h.tape, h.output, h.size, h.block⟩

theorem var_facts {w : World} {g : Nat} {u : Value} {t : TypeId} (h : w.heap[g]? = some (.cells #[u] t (0, 0))) : w.cell? ⟨g, 0, none⟩ = some u ∧ w.frozen? ⟨g, 0, none⟩ = false ∧ Hid (w.heap[g]? = some (.cells #[u] t (0, 0))) :=
  ⟨by rw [cell_of_heap h]; rfl, frozen_of_heap h, h⟩
theorem var_keep {w w1 : World} {base : Nat} {e : TypeId} {size n : Nat} {v : Value} {xs : List Value} (hg1 : w.grownBy w1 v.ownBlock) (hown : w.ownsRow base e size v n xs) {g : Nat} {u : Value} {t : TypeId}
    (h : w.heap[g]? = some (.cells #[u] t (0, 0))) (hne : e ≠ t) : w1.cell? ⟨g, 0, none⟩ = some u ∧ w1.frozen? ⟨g, 0, none⟩ = false ∧ Hid (w1.heap[g]? = some (.cells #[u] t (0, 0))) :=
  var_facts (grown_keep hg1 h (own_ne_block hown h hne))

/-- 'make([]T, 0, n)', T of one cell. -/
theorem run_make_cap {P : Program} (t e : TypeId) (z : Value) (bytes : Nat) (ht : P.underlying t = some (.slice e)) (hinfo : (P.info? e).map (fun i => (i.zero, i.size, i.bytes)) = some (some z, 1, bytes)) (hz1 : z.cells = #[z])
    (kl kc : IntKind) (n : Nat) (hbytes : bytes * n ≤ 281474976710656) (h63 : n ≤ 9223372036854775807) (w : World) :
    (Instr.makeSlice t (.int kl 0) (.int kc (n : Int))).run P w = .ok (.slice (some ⟨w.heap.size, 0, none⟩) 0 n) (w.alloc (.cells (madeCells #[z] n) e)) := by
  obtain ⟨i, hi, hz, hsize, hb⟩ := info_parts hinfo
  have hb' : (i.bytes : Int) * (n : Int) ≤ 281474976710656 := by
    have h : ((i.bytes * n : Nat) : Int) ≤ 281474976710656 := by rw [hb]; omega
    rwa [Int.natCast_mul] at h
  have hr := run_make (P := P) w t e i z ht hi hz kl kc 0 n (by omega) (by omega) hb' (by omega)
  simp only [Int.toNat_natCast, hsize, Nat.mul_one, hz1] at hr
  exact hr

theorem laid_below (w : World) (o : Obj) : Below w.heap.size w (w.alloc o) := (Below.refl _ _).alloc (Nat.le_refl _) _
theorem laid_drew (w : World) (o : Obj) : Below w.heap.size w (w.alloc o).drew := (laid_below w o).drew

theorem ret_int {k : IntKind} {a b : Int} (h : a = b) : Ending.returned (.int k a) = .returned (.int k b) := by rw [h]
theorem ret_bool {a b : Bool} (h : a = b) : Ending.returned (.bool a) = .returned (.bool b) := by rw [h]

end Go.Proofs.Ytdnkkmmkkfbhhaa

/- Small functions on numbers and lists of numbers: within, l00In, size, allWithin, rising, l00Rises. -/
namespace Go.Proofs.Ytdnkkmmkkfbhhaa
open Go.RowKit
set_option linter.all false

def inB (n lo hi : Int) : Bool := decide (lo ≤ n) && decide (n ≤ hi)
theorem inB_iff (n lo hi : Int) : inB n lo hi = true ↔ lo ≤ n ∧ n ≤ hi := by simp [inB]
theorem inB_false (n lo hi : Int) : inB n lo hi = false ↔ n < lo ∨ hi < n := by simp [inB]; omega

theorem within_any (n lo hi : Int) (w : World) : Calls Try.prog 44 #[.int .i64 n, .int .i64 lo, .int .i64 hi] w fun e w' => e = .returned (.bool (inB n lo hi)) ∧ w = w' := by
  unfold inB
  by_cases h1 : lo ≤ n
  · by_cases h2 : n ≤ hi
    · go_enter Try.func44, Try.ntmps44
      go_wp2
      go_ret
      exact ⟨ret_bool (by simp [h1, h2]), rfl⟩
    · go_enter Try.func44, Try.ntmps44
      go_wp2
      go_ret
      exact ⟨ret_bool (by simp [h1, h2]), rfl⟩
  · go_enter Try.func44, Try.ntmps44
    go_wp2
    go_ret
    exact ⟨ret_bool (by simp; omega), rfl⟩

theorem within_is (n lo hi : Int) (v : Bool) (h : inB n lo hi = v) (w : World) : Calls Try.prog 44 #[.int .i64 n, .int .i64 lo, .int .i64 hi] w fun e w' => e = .returned (.bool v) ∧ w = w' := by
  subst h; exact within_any n lo hi w

theorem l00In_any (n lo hi : Int) (w : World) : Calls Try.prog 26 #[.int .i64 n, .int .i64 lo, .int .i64 hi] w fun e w' => e = .returned (.bool (inB n lo hi)) ∧ w = w' := by
  unfold inB
  by_cases h1 : lo ≤ n
  · by_cases h2 : n ≤ hi
    all_goals
      go_enter Try.func26, Try.ntmps26
      go_wp2
      go_ret
      exact ⟨ret_bool (by simp [h1, h2]), rfl⟩
  · go_enter Try.func26, Try.ntmps26
    go_wp2
    go_ret
    exact ⟨ret_bool (by simp; omega), rfl⟩

theorem getD_at {α : Type} {xs : List α} {k : Nat} {x d : α} (h : xs[k]? = some x) : xs.getD k d = x := by rw [List.getD_eq_getElem?_getD, h]; rfl
theorem getD_mem {xs : List Int} {k : Nat} {x : Int} (h : xs[k]? = some x) : x ∈ xs := List.mem_of_getElem? h

/-- Strictly rising. -/
def upB (xs : List Int) : Bool := (List.range (xs.length - 1)).all fun j => decide (xs.getD j 0 < xs.getD (j + 1) 0)
theorem upB_iff (xs : List Int) : upB xs = true ↔ ∀ j, j + 1 < xs.length → xs.getD j 0 < xs.getD (j + 1) 0 := by
  unfold upB
  rw [List.all_eq_true]
  constructor
  · intro h j hj
    simpa using h j (by simp; omega)
  · intro h j hj
    simpa using h j (by simp at hj; omega)
theorem upB_no {xs : List Int} {j : Nat} {x y : Int} (hx : xs[j]? = some x) (hy : xs[j + 1]? = some y) (h : y ≤ x) : upB xs = false := by
  rw [Bool.eq_false_iff]
  intro hu
  have := (upB_iff xs).1 hu j ((List.getElem?_eq_some_iff.1 hy).1)
  rw [getD_at hx, getD_at hy] at this
  omega
theorem all_no {xs : List Int} {p : Int → Bool} {j : Nat} {x : Int} (hx : xs[j]? = some x) (h : p x = false) : xs.all p = false := by
  rw [Bool.eq_false_iff]
  intro hu
  have := List.all_eq_true.1 hu x (getD_mem hx)
  rw [h] at this; cases this

theorem l00In_is (n lo hi : Int) (v : Bool) (h : inB n lo hi = v) (w : World) : Calls Try.prog 26 #[.int .i64 n, .int .i64 lo, .int .i64 hi] w fun e w' => e = .returned (.bool v) ∧ w = w' := by
  subst h; exact l00In_any n lo hi w

/-- In bounds and strictly rising. -/
def risesB (xs : List Int) (lo hi : Int) : Bool := xs.all (inB · lo hi) && upB xs

set_option maxHeartbeats 400000 in
theorem allWithin_any (b off n c : Nat) (xs : List Int) (lo hi : Int) (w : World) (hs : Sl w b off (xs.map (.int .i64))) (hl : xs.length = n) (hn : n ≤ 4194304) :
    Calls Try.prog 65 #[.slice (some ⟨b, off, none⟩) n c, .int .i64 lo, .int .i64 hi] w fun e w' => e = .returned (.bool (xs.all (inB · lo hi))) ∧ w = w' := by
  have HL := Lib.hid hl; clear hl
  go_enter Try.func65, Try.ntmps65
  go_wp2
  go_loop [11] (fun i => ∃ k : Nat, k ≤ n ∧ i = .int .i64 k ∧ Hid (∀ j x, j < k → xs[j]? = some x → inB x lo hi = true)) (fun i => n - (intOf i).toNat)
  case atStart => exact ⟨0, Nat.zero_le _, rfl, by intro j x hj; omega⟩
  case round =>
    obtain ⟨k, hk, rfl, HR⟩ := hrel
    by_cases hlt : k < n
    · obtain ⟨y, HY, hy⟩ := map_at (Value.int .i64) xs (k := k) (by have := HL.out; omega)
      have hcb := hs.at hy
      clear hy hs
      rcases Bool.eq_false_or_eq_true (inB y lo hi) with hb | hb
      rotate_left
      · have HB := Lib.hid hb
        clear hb
        go_wp2_with (go_at_call 44; refine (within_is y lo hi _ HB.out _).mono ?_; rintro e w' ⟨rfl, rfl⟩)
        go_ret
        exact ⟨ret_bool (all_no HY.out HB.out).symm, rfl⟩
      · have HB := Lib.hid hb
        clear hb
        go_wp2_with (go_at_call 44; refine (within_is y lo hi _ HB.out _).mono ?_; rintro e w' ⟨rfl, rfl⟩)
        go_round
        case rel => exact ⟨k + 1, by omega, by go_num, by
          intro j x hj hx
          by_cases ej : j = k
          · subst ej
            have h2 := HY.out
            rw [hx] at h2; injection h2 with h2; subst h2; exact HB.out
          · exact HR.out j x (by omega) hx⟩
        case measure => simp [intOf]; omega
    · go_wp2
      go_ret
      refine ⟨ret_bool ?_, rfl⟩
      symm
      have hl := HL.out
      rw [List.all_eq_true]
      intro x hx
      obtain ⟨j, hj⟩ := List.getElem?_of_mem hx
      exact HR.out j x (by have := (List.getElem?_eq_some_iff.1 hj).1; omega) hj

theorem size_int64_any (A : Option Addr) (n c : Nat) (w : World) : Calls Try.prog 64 #[.slice A n c] w fun e w' => e = .returned (.int .i64 n) ∧ w = w' := by
  go_enter Try.func64, Try.ntmps64
  go_wp2
  go_ret
  exact ⟨rfl, rfl⟩

end Go.Proofs.Ytdnkkmmkkfbhhaa

/- Records of two, three and four numbers as rows of cells, and slices of elements of any size: plain lemmas, no conditions. -/
namespace Go.Proofs.Ytdnkkmmkkfbhhaa
open Go.RowKit
set_option linter.all false

structure R2 where
  a : Int
  b : Int

structure R3 where
  a : Int
  b : Int
  c : Int

structure R4 where
  a : Int
  b : Int
  c : Int
  d : Int

theorem R2.ext' {x y : R2} (h1 : x.a = y.a) (h2 : x.b = y.b) : x = y := by cases x; cases y; simp_all
theorem R3.ext' {x y : R3} (h1 : x.a = y.a) (h2 : x.b = y.b) (h3 : x.c = y.c) : x = y := by cases x; cases y; simp_all
theorem R4.ext' {x y : R4} (h1 : x.a = y.a) (h2 : x.b = y.b) (h3 : x.c = y.c) (h4 : x.d = y.d) : x = y := by cases x; cases y; simp_all
instance : DecidableEq R2 := fun x y => decidable_of_iff (x.a = y.a ∧ x.b = y.b) ⟨fun h => R2.ext' h.1 h.2, fun h => by rw [h]; exact ⟨rfl, rfl⟩⟩
instance : DecidableEq R3 := fun x y => decidable_of_iff (x.a = y.a ∧ x.b = y.b ∧ x.c = y.c) ⟨fun h => R3.ext' h.1 h.2.1 h.2.2, fun h => by rw [h]; exact ⟨rfl, rfl, rfl⟩⟩
instance : DecidableEq R4 := fun x y => decidable_of_iff (x.a = y.a ∧ x.b = y.b ∧ x.c = y.c ∧ x.d = y.d) ⟨fun h => R4.ext' h.1 h.2.1 h.2.2.1 h.2.2.2, fun h => by rw [h]; exact ⟨rfl, rfl, rfl, rfl⟩⟩
def R2.vs (x : R2) : List Value := [.int .i64 x.a, .int .i64 x.b]
def R3.vs (x : R3) : List Value := [.int .i64 x.a, .int .i64 x.b, .int .i64 x.c]
def R4.vs (x : R4) : List Value := [.int .i64 x.a, .int .i64 x.b, .int .i64 x.c, .int .i64 x.d]
def R2.wf (x : R2) : Prop := Wf64 x.a ∧ Wf64 x.b
def R3.wf (x : R3) : Prop := Wf64 x.a ∧ Wf64 x.b ∧ Wf64 x.c
def R4.wf (x : R4) : Prop := Wf64 x.a ∧ Wf64 x.b ∧ Wf64 x.c ∧ Wf64 x.d
theorem R2.vs_len (x : R2) : x.vs.length = 2 := rfl
theorem R3.vs_len (x : R3) : x.vs.length = 3 := rfl
theorem R4.vs_len (x : R4) : x.vs.length = 4 := rfl

section
variable {α : Type}
/-- The cells of a list of records. -/
def rows (f : α → List Value) (xs : List α) : List Value := xs.flatMap f
theorem rows_nil (f : α → List Value) : rows f [] = [] := rfl
theorem rows_app (f : α → List Value) (xs ys : List α) : rows f (xs ++ ys) = rows f xs ++ rows f ys := by simp [rows]
theorem rows_one (f : α → List Value) (x : α) : rows f [x] = f x := by simp [rows]
theorem rows_len {f : α → List Value} {s : Nat} (hs : ∀ x, (f x).length = s) (xs : List α) : (rows f xs).length = xs.length * s := by
  induction xs with
  | nil => simp [rows]
  | cons x xs ih =>
    have : rows f (x :: xs) = f x ++ rows f xs := by simp [rows]
    rw [this, List.length_append, ih, hs, List.length_cons, Nat.succ_mul, Nat.add_comm]
theorem rows_at {f : α → List Value} {s : Nat} (hs : ∀ x, (f x).length = s) {xs : List α} {k : Nat} {x : α} (h : xs[k]? = some x) {j : Nat} (hj : j < s) : (rows f xs)[k * s + j]? = (f x)[j]? := by
  obtain ⟨hk, hx⟩ := List.getElem?_eq_some_iff.1 h
  have e : xs = xs.take k ++ (x :: xs.drop (k + 1)) := by
    conv => lhs; rw [← List.take_append_drop k xs, List.drop_eq_getElem_cons hk, hx]
  have l1 : (rows f (xs.take k)).length = k * s := by rw [rows_len hs, List.length_take, Nat.min_eq_left (by omega)]
  conv => lhs; rw [e, rows_app]
  rw [List.getElem?_append_right (by omega), l1, Nat.add_sub_cancel_left]
  have : rows f (x :: xs.drop (k + 1)) = f x ++ rows f (xs.drop (k + 1)) := by simp [rows]
  rw [this, List.getElem?_append_left (by rw [hs]; exact hj)]
theorem rows_drop {f : α → List Value} {s : Nat} (hs : ∀ x, (f x).length = s) (xs : List α) (k : Nat) : (rows f xs).drop (k * s) = rows f (xs.drop k) := by
  by_cases h : k ≤ xs.length
  · conv => lhs; rw [← List.take_append_drop k xs, rows_app]
    rw [List.drop_append_of_le_length (by rw [rows_len hs, List.length_take, Nat.min_eq_left h]; exact Nat.le_refl _)]
    rw [List.drop_of_length_le (by rw [rows_len hs, List.length_take, Nat.min_eq_left h]; exact Nat.le_refl _), List.nil_append]
  · rw [List.drop_of_length_le (by rw [rows_len hs]; exact Nat.mul_le_mul_right _ (by omega)), List.drop_of_length_le (by omega)]; rfl
theorem rows_take {f : α → List Value} {s : Nat} (hs : ∀ x, (f x).length = s) (xs : List α) (k : Nat) : (rows f xs).take (k * s) = rows f (xs.take k) := by
  by_cases h : k ≤ xs.length
  · conv => lhs; rw [← List.take_append_drop k xs, rows_app]
    rw [List.take_append_of_le_length (by rw [rows_len hs, List.length_take, Nat.min_eq_left h]; exact Nat.le_refl _)]
    rw [List.take_of_length_le (by rw [rows_len hs, List.length_take, Nat.min_eq_left h]; exact Nat.le_refl _)]
  · rw [List.take_of_length_le (by rw [rows_len hs]; exact Nat.mul_le_mul_right _ (by omega)), List.take_of_length_le (by omega)]
end

/-- A slice of elements of s cells that came in. -/
def Args (s : Nat) (w : World) (A : Option Addr) (n : Nat) (xs : List Value) : Prop :=
  xs.length = n * s ∧ (n = 0 ∨ ∃ b off, A = some ⟨b, off, none⟩ ∧ Sl w b off xs)
theorem Args.below {s : Nat} {w w' : World} {A : Option Addr} {n : Nat} {xs : List Value} (h : Args s w A n xs) (hb : Below w.heap.size w w') : Args s w' A n xs := by
  refine ⟨h.1, ?_⟩
  rcases h.2 with h0 | ⟨b, off, rfl, hs⟩
  · exact .inl h0
  · exact .inr ⟨b, off, rfl, hs.below' hb⟩
theorem Args.sl {s : Nat} {w : World} {A : Option Addr} {n : Nat} {xs : List Value} (h : Args s w A n xs) {k : Nat} (hk : k < n) : ∃ b off, A = some ⟨b, off, none⟩ ∧ Sl w b off xs := by
  rcases h.2 with h0 | h0
  · omega
  · exact h0
theorem Args.of_sl {s : Nat} {w : World} {b off n : Nat} {xs : List Value} (h : Sl w b off xs) (hn : xs.length = n * s) : Args s w (some ⟨b, off, none⟩) n xs := ⟨hn, .inr ⟨b, off, rfl, h⟩⟩
theorem Args.of_nil (s : Nat) (w : World) (A : Option Addr) : Args s w A 0 [] := ⟨by simp, .inl rfl⟩
theorem args_of_own {s : Nat} {w : World} {base : Nat} {e : TypeId} {A : Option Addr} {n cap : Nat} {xs : List Value} (h : w.ownsRow base e s (.slice A n cap) n xs) : Args s w A n xs := by
  refine ⟨h.1, ?_⟩
  rcases h.2 with ⟨h', h0⟩ | ⟨g, cap', cur, hv, _⟩
  · exact .inl h0
  · obtain ⟨rfl, rfl⟩ : A = some ⟨g, 0, none⟩ ∧ cap = cap' := by simpa using hv
    exact .inr ⟨g, 0, rfl, sl_of_own h⟩
/-- One record's cells. -/
theorem Sl.rec {α : Type} {f : α → List Value} {s : Nat} (hs : ∀ x, (f x).length = s) {w : World} {b off : Nat} {xs : List α} (h : Sl w b off (rows f xs)) {k : Nat} {x : α} (hx : xs[k]? = some x) {j : Nat} {u : Value} (hu : (f x)[j]? = some u) :
    w.cell? ⟨b, off + k * s + j, none⟩ = some u := by
  have hj : j < s := by rw [← hs x]; exact (List.getElem?_eq_some_iff.1 hu).1
  rw [Nat.add_assoc]
  exact h.at (by rw [rows_at hs hx hj]; exact hu)
theorem Sl.rec2 {w : World} {b off : Nat} {xs : List R2} (h : Sl w b off (rows R2.vs xs)) {k : Nat} {x : R2} (hx : xs[k]? = some x) :
    w.cell? ⟨b, off + k * 2, none⟩ = some (.int .i64 x.a) ∧ w.cell? ⟨b, off + k * 2 + 1, none⟩ = some (.int .i64 x.b) :=
  ⟨h.rec R2.vs_len hx (j := 0) rfl, h.rec R2.vs_len hx (j := 1) rfl⟩
theorem Sl.rec3 {w : World} {b off : Nat} {xs : List R3} (h : Sl w b off (rows R3.vs xs)) {k : Nat} {x : R3} (hx : xs[k]? = some x) :
    w.cell? ⟨b, off + k * 3, none⟩ = some (.int .i64 x.a) ∧ w.cell? ⟨b, off + k * 3 + 1, none⟩ = some (.int .i64 x.b) ∧ w.cell? ⟨b, off + k * 3 + 2, none⟩ = some (.int .i64 x.c) :=
  ⟨h.rec R3.vs_len hx (j := 0) rfl, h.rec R3.vs_len hx (j := 1) rfl, h.rec R3.vs_len hx (j := 2) rfl⟩
theorem Sl.rec4 {w : World} {b off : Nat} {xs : List R4} (h : Sl w b off (rows R4.vs xs)) {k : Nat} {x : R4} (hx : xs[k]? = some x) :
    w.cell? ⟨b, off + k * 4, none⟩ = some (.int .i64 x.a) ∧ w.cell? ⟨b, off + k * 4 + 1, none⟩ = some (.int .i64 x.b) ∧ w.cell? ⟨b, off + k * 4 + 2, none⟩ = some (.int .i64 x.c) ∧ w.cell? ⟨b, off + k * 4 + 3, none⟩ = some (.int .i64 x.d) :=
  ⟨h.rec R4.vs_len hx (j := 0) rfl, h.rec R4.vs_len hx (j := 1) rfl, h.rec R4.vs_len hx (j := 2) rfl, h.rec R4.vs_len hx (j := 3) rfl⟩
theorem hget {α : Type} {xs : List α} {n k : Nat} (H : Hid (xs.length = n)) (h : k < n) : ∃ x, Hid (xs[k]? = some x) := ⟨_, List.getElem?_eq_getElem (by have := H.out; omega)⟩
/-- A part of a slice of records. -/
theorem Sl.part {α : Type} {f : α → List Value} {s : Nat} (hs : ∀ x, (f x).length = s) {w : World} {b off : Nat} {xs : List α} (h : Sl w b off (rows f xs)) (i j : Nat) : Sl w b (off + i * s) (rows f ((xs.drop i).take j)) := by
  refine ⟨h.1, fun k u hu => ?_⟩
  rw [Nat.add_assoc]
  refine h.at ?_
  rw [← rows_take hs, ← rows_drop hs, List.getElem?_take] at hu
  split at hu
  · rw [List.getElem?_drop] at hu; exact hu
  · cases hu

theorem run_make_rows {P : Program} (t e : TypeId) (z : Value) (s bytes : Nat) (ht : P.underlying t = some (.slice e)) (hinfo : (P.info? e).map (fun i => (i.zero, i.size, i.bytes)) = some (some z, s, bytes))
    (kl kc : IntKind) (n : Nat) (hbytes : bytes * n ≤ 281474976710656) (h63 : n ≤ 9223372036854775807) (w : World) :
    (Instr.makeSlice t (.int kl (n : Int)) (.int kc (n : Int))).run P w = .ok (.slice (some ⟨w.heap.size, 0, none⟩) n n) (w.alloc (.cells (madeCells z.cells (n * s)) e)) := by
  obtain ⟨i, hi, hz, hsize, hb⟩ := info_parts hinfo
  have hb' : (i.bytes : Int) * (n : Int) ≤ 281474976710656 := by
    have h : ((i.bytes * n : Nat) : Int) ≤ 281474976710656 := by rw [hb]; omega
    rwa [Int.natCast_mul] at h
  have hr := run_make (P := P) w t e i z ht hi hz kl kc n n (by omega) (by omega) hb' (by omega)
  simp only [Int.toNat_natCast, hsize] at hr
  exact hr

/-- A row that was made: each cell is something. -/
theorem rowIs_mades (w : World) (zs : Array Value) (n : Nat) (t : TypeId) : ∃ f, (w.alloc (.cells (madeCells zs n) t)).rowIs w.heap.size t n f :=
  ⟨fun i => (madeCells zs n).getD i undef, madeCells zs n, Go.Deep.blk_alloc_new _ _, size_madeCells _ _, fun i hi => by
    have : i < (madeCells zs n).size := by rw [size_madeCells]; exact hi
    simp [Array.getD, this]⟩
/-- The cells up to k are told; the rest holds something. -/
def RowUp (w : World) (g : Nat) (t : TypeId) (n : Nat) (xs : List Value) (k : Nat) : Prop := ∃ f, w.rowIs g t n f ∧ ∀ j u, j < k → xs[j]? = some u → f j = u
theorem RowUp.zero {w : World} {g : Nat} {t : TypeId} {n : Nat} {f : Nat → Value} (h : w.rowIs g t n f) (xs : List Value) : RowUp w g t n xs 0 := ⟨f, h, by intro j u hj; omega⟩
theorem RowUp.cell {w : World} {g : Nat} {t : TypeId} {n k : Nat} {xs : List Value} (h : RowUp w g t n xs k) {i : Nat} (hi : i < n) : ∃ u, w.cell? ⟨g, i, none⟩ = some u := by
  obtain ⟨f, h1, _⟩ := h; exact ⟨_, h1.cell hi⟩
theorem RowUp.frozen {w : World} {g : Nat} {t : TypeId} {n k : Nat} {xs : List Value} (h : RowUp w g t n xs k) (i : Nat) : w.frozen? ⟨g, i, none⟩ = false := by
  obtain ⟨f, h1, _⟩ := h; exact h1.frozen i
theorem RowUp.set {w : World} {g : Nat} {t : TypeId} {n k : Nat} {xs : List Value} (h : RowUp w g t n xs k) {u : Value} (hu : xs[k]? = some u) : RowUp (w.setCell ⟨g, k, none⟩ u) g t n xs (k + 1) := by
  obtain ⟨f, h1, h2⟩ := h
  refine ⟨_, h1.set k u, fun j v hj hv => ?_⟩
  by_cases e : j = k
  · subst e; rw [hu] at hv; injection hv with hv; simp [hv]
  · simp only [if_neg e]; exact h2 j v (by omega) hv
theorem RowUp.below {w w' : World} {B g : Nat} {t : TypeId} {n k : Nat} {xs : List Value} (h : RowUp w g t n xs k) (hb : Below B w w') (hg : g < B) : RowUp w' g t n xs k := by
  obtain ⟨f, h1, h2⟩ := h
  exact ⟨f, h1.of_block (hb.block g hg), h2⟩
theorem RowUp.set2 {w : World} {g : Nat} {t : TypeId} {n k : Nat} {xs : List R2} (h : RowUp w g t n (rows R2.vs xs) (k * 2)) {x : R2} (hx : xs[k]? = some x) :
    RowUp ((w.setCell ⟨g, k * 2, none⟩ (.int .i64 x.a)).setCell ⟨g, k * 2 + 1, none⟩ (.int .i64 x.b)) g t n (rows R2.vs xs) ((k + 1) * 2) := by
  rw [show (k + 1) * 2 = k * 2 + 2 by omega]
  exact ((h.set (u := .int .i64 x.a) (by have := rows_at R2.vs_len hx (j := 0) (by omega); exact this)).set (u := .int .i64 x.b) (by have := rows_at R2.vs_len hx (j := 1) (by omega); exact this))
theorem below_set2 {w w1 : World} {g k : Nat} {x : R2} (h : Below g w w1) : Below g w ((w1.setCell ⟨g, k * 2, none⟩ (.int .i64 x.a)).setCell ⟨g, k * 2 + 1, none⟩ (.int .i64 x.b)) :=
  h.setCell (p := ⟨g, k * 2, none⟩) (Nat.le_refl _) (.int .i64 x.a) |>.setCell (p := ⟨g, k * 2 + 1, none⟩) (Nat.le_refl _) (.int .i64 x.b)
theorem RowUp.set3 {w : World} {g : Nat} {t : TypeId} {n k : Nat} {xs : List R3} (h : RowUp w g t n (rows R3.vs xs) (k * 3)) {x : R3} (hx : xs[k]? = some x) :
    RowUp (((w.setCell ⟨g, k * 3, none⟩ (.int .i64 x.a)).setCell ⟨g, k * 3 + 1, none⟩ (.int .i64 x.b)).setCell ⟨g, k * 3 + 2, none⟩ (.int .i64 x.c)) g t n (rows R3.vs xs) ((k + 1) * 3) := by
  rw [show (k + 1) * 3 = k * 3 + 3 by omega]
  exact (((h.set (u := .int .i64 x.a) (by have := rows_at R3.vs_len hx (j := 0) (by omega); exact this)).set (u := .int .i64 x.b) (by have := rows_at R3.vs_len hx (j := 1) (by omega); exact this)).set (u := .int .i64 x.c) (by have := rows_at R3.vs_len hx (j := 2) (by omega); exact this))
theorem below_set3 {w w1 : World} {g k : Nat} {x : R3} (h : Below g w w1) : Below g w (((w1.setCell ⟨g, k * 3, none⟩ (.int .i64 x.a)).setCell ⟨g, k * 3 + 1, none⟩ (.int .i64 x.b)).setCell ⟨g, k * 3 + 2, none⟩ (.int .i64 x.c)) :=
  h.setCell (p := ⟨g, k * 3, none⟩) (Nat.le_refl _) (.int .i64 x.a) |>.setCell (p := ⟨g, k * 3 + 1, none⟩) (Nat.le_refl _) (.int .i64 x.b) |>.setCell (p := ⟨g, k * 3 + 2, none⟩) (Nat.le_refl _) (.int .i64 x.c)
theorem RowUp.set4 {w : World} {g : Nat} {t : TypeId} {n k : Nat} {xs : List R4} (h : RowUp w g t n (rows R4.vs xs) (k * 4)) {x : R4} (hx : xs[k]? = some x) :
    RowUp ((((w.setCell ⟨g, k * 4, none⟩ (.int .i64 x.a)).setCell ⟨g, k * 4 + 1, none⟩ (.int .i64 x.b)).setCell ⟨g, k * 4 + 2, none⟩ (.int .i64 x.c)).setCell ⟨g, k * 4 + 3, none⟩ (.int .i64 x.d)) g t n (rows R4.vs xs) ((k + 1) * 4) := by
  rw [show (k + 1) * 4 = k * 4 + 4 by omega]
  exact ((((h.set (u := .int .i64 x.a) (by have := rows_at R4.vs_len hx (j := 0) (by omega); exact this)).set (u := .int .i64 x.b) (by have := rows_at R4.vs_len hx (j := 1) (by omega); exact this)).set (u := .int .i64 x.c) (by have := rows_at R4.vs_len hx (j := 2) (by omega); exact this)).set (u := .int .i64 x.d) (by have := rows_at R4.vs_len hx (j := 3) (by omega); exact this))
theorem below_set4 {w w1 : World} {g k : Nat} {x : R4} (h : Below g w w1) : Below g w ((((w1.setCell ⟨g, k * 4, none⟩ (.int .i64 x.a)).setCell ⟨g, k * 4 + 1, none⟩ (.int .i64 x.b)).setCell ⟨g, k * 4 + 2, none⟩ (.int .i64 x.c)).setCell ⟨g, k * 4 + 3, none⟩ (.int .i64 x.d)) :=
  h.setCell (p := ⟨g, k * 4, none⟩) (Nat.le_refl _) (.int .i64 x.a) |>.setCell (p := ⟨g, k * 4 + 1, none⟩) (Nat.le_refl _) (.int .i64 x.b) |>.setCell (p := ⟨g, k * 4 + 2, none⟩) (Nat.le_refl _) (.int .i64 x.c) |>.setCell (p := ⟨g, k * 4 + 3, none⟩) (Nat.le_refl _) (.int .i64 x.d)
theorem RowUp.lt {w : World} {g : Nat} {t : TypeId} {n k : Nat} {xs : List Value} (h : RowUp w g t n xs k) : g < w.heap.size := by
  obtain ⟨f, h1, _⟩ := h; exact h1.lt
theorem RowUp.own {w : World} {g base : Nat} {t : TypeId} {n s : Nat} {xs : List Value} (h : RowUp w g t (n * s) xs (n * s)) (hb : base ≤ g) (hm : n ≤ maxLen) (hl : xs.length = n * s) : w.ownsRow base t s (.slice (some ⟨g, 0, none⟩) n n) n xs := by
  obtain ⟨f, ⟨cur, hh, hs, hc⟩, h2⟩ := h
  refine ⟨hl, .inr ⟨g, n, cur, rfl, hb, hh, Nat.le_refl _, hm, hs, ?_⟩⟩
  apply List.ext_getElem?
  intro j
  by_cases hj : j < n * s
  · rw [List.getElem?_take, if_pos hj]
    have hx : xs[j]? = some (xs[j]'(by omega)) := List.getElem?_eq_getElem (by omega)
    rw [hx]
    have := hc j hj
    rw [h2 j _ hj hx] at this
    simpa using this
  · rw [List.getElem?_eq_none (by simp; omega), List.getElem?_eq_none (by omega)]

/-- The marks on records of s cells are the marks on their cells. -/
theorem marks_set' (f : Int → Value) (k : Int) (xs : List Value) (i : Nat) (h : i < xs.length) (v : Value) (hv : v = f (k + i)) : (marks f k i ++ xs.drop i).set i v = marks f k (i + 1) ++ xs.drop (i + 1) := by
  rw [hv]; exact marks_set f k xs i h
theorem own_some {w : World} {base : Nat} {e : TypeId} {size g n cap : Nat} {xs : List Value} (h : w.ownsRow base e size (.slice (some ⟨g, 0, none⟩) n cap) n xs) {j : Nat} (hj : j < n * size) : ∃ u, w.cell? ⟨g, j, none⟩ = some u := by
  rw [h.cellAt j hj]
  exact ⟨_, List.getElem?_eq_getElem (by have := h.1; omega)⟩
theorem own_mark1 {w wr : World} {base : Nat} {e : TypeId} {size g n cap : Nat} {xs : List Value} {k0 : Int} {j : Nat} (h : wr.ownsRow base e size (.slice (some ⟨g, 0, none⟩) n cap) n (marks (.int .i64) k0 j ++ xs.drop j)) (hg : w.grownBy wr (some g)) (hl : xs.length = n * size) (hj : j < n * size) {x : Int} (hx : x = k0 + j) :
    (wr.setCell ⟨g, j, none⟩ (.int .i64 x)).ownsRow base e size (.slice (some ⟨g, 0, none⟩) n cap) n (marks (.int .i64) k0 (j + 1) ++ xs.drop (j + 1)) ∧ w.grownBy (wr.setCell ⟨g, j, none⟩ (.int .i64 x)) (some g) := by
  have h1 := h.stored j (.int .i64 x)
  rw [marks_set' _ _ _ _ (by omega) _ (by rw [hx])] at h1
  exact ⟨h1.1, hg.trans h1.2⟩
theorem own_mark2 {w wr : World} {base : Nat} {e : TypeId} {g n cap : Nat} {xs : List Value} {k0 : Int} {k : Nat} (h : wr.ownsRow base e 2 (.slice (some ⟨g, 0, none⟩) n cap) n (marks (.int .i64) k0 (k * 2) ++ xs.drop (k * 2))) (hg : w.grownBy wr (some g)) (hl : xs.length = n * 2) (hk : k < n) :
    ((wr.setCell ⟨g, k * 2, none⟩ (.int .i64 (k0 + (k : Int) * 2))).setCell ⟨g, k * 2 + 1, none⟩ (.int .i64 (k0 + (k : Int) * 2 + 1))).ownsRow base e 2 (.slice (some ⟨g, 0, none⟩) n cap) n (marks (.int .i64) k0 ((k + 1) * 2) ++ xs.drop ((k + 1) * 2)) ∧ w.grownBy ((wr.setCell ⟨g, k * 2, none⟩ (.int .i64 (k0 + (k : Int) * 2))).setCell ⟨g, k * 2 + 1, none⟩ (.int .i64 (k0 + (k : Int) * 2 + 1))) (some g) := by
  rw [show (k + 1) * 2 = k * 2 + 2 by omega]
  have h0 := own_mark1 (j := k * 2) h hg hl (by omega) (x := k0 + (k : Int) * 2) (by omega)
  have h1 := own_mark1 (j := k * 2 + 1) h0.1 h0.2 hl (by omega) (x := k0 + (k : Int) * 2 + 1) (by omega)
  exact h1
theorem own_mark3 {w wr : World} {base : Nat} {e : TypeId} {g n cap : Nat} {xs : List Value} {k0 : Int} {k : Nat} (h : wr.ownsRow base e 3 (.slice (some ⟨g, 0, none⟩) n cap) n (marks (.int .i64) k0 (k * 3) ++ xs.drop (k * 3))) (hg : w.grownBy wr (some g)) (hl : xs.length = n * 3) (hk : k < n) :
    (((wr.setCell ⟨g, k * 3, none⟩ (.int .i64 (k0 + (k : Int) * 3))).setCell ⟨g, k * 3 + 1, none⟩ (.int .i64 (k0 + (k : Int) * 3 + 1))).setCell ⟨g, k * 3 + 2, none⟩ (.int .i64 (k0 + (k : Int) * 3 + 1 + 1))).ownsRow base e 3 (.slice (some ⟨g, 0, none⟩) n cap) n (marks (.int .i64) k0 ((k + 1) * 3) ++ xs.drop ((k + 1) * 3)) ∧ w.grownBy (((wr.setCell ⟨g, k * 3, none⟩ (.int .i64 (k0 + (k : Int) * 3))).setCell ⟨g, k * 3 + 1, none⟩ (.int .i64 (k0 + (k : Int) * 3 + 1))).setCell ⟨g, k * 3 + 2, none⟩ (.int .i64 (k0 + (k : Int) * 3 + 1 + 1))) (some g) := by
  rw [show (k + 1) * 3 = k * 3 + 3 by omega]
  have h0 := own_mark1 (j := k * 3) h hg hl (by omega) (x := k0 + (k : Int) * 3) (by omega)
  have h1 := own_mark1 (j := k * 3 + 1) h0.1 h0.2 hl (by omega) (x := k0 + (k : Int) * 3 + 1) (by omega)
  have h2 := own_mark1 (j := k * 3 + 2) h1.1 h1.2 hl (by omega) (x := k0 + (k : Int) * 3 + 1 + 1) (by omega)
  exact h2
theorem own_mark4 {w wr : World} {base : Nat} {e : TypeId} {g n cap : Nat} {xs : List Value} {k0 : Int} {k : Nat} (h : wr.ownsRow base e 4 (.slice (some ⟨g, 0, none⟩) n cap) n (marks (.int .i64) k0 (k * 4) ++ xs.drop (k * 4))) (hg : w.grownBy wr (some g)) (hl : xs.length = n * 4) (hk : k < n) :
    ((((wr.setCell ⟨g, k * 4, none⟩ (.int .i64 (k0 + (k : Int) * 4))).setCell ⟨g, k * 4 + 1, none⟩ (.int .i64 (k0 + (k : Int) * 4 + 1))).setCell ⟨g, k * 4 + 2, none⟩ (.int .i64 (k0 + (k : Int) * 4 + 1 + 1))).setCell ⟨g, k * 4 + 3, none⟩ (.int .i64 (k0 + (k : Int) * 4 + 1 + 1 + 1))).ownsRow base e 4 (.slice (some ⟨g, 0, none⟩) n cap) n (marks (.int .i64) k0 ((k + 1) * 4) ++ xs.drop ((k + 1) * 4)) ∧ w.grownBy ((((wr.setCell ⟨g, k * 4, none⟩ (.int .i64 (k0 + (k : Int) * 4))).setCell ⟨g, k * 4 + 1, none⟩ (.int .i64 (k0 + (k : Int) * 4 + 1))).setCell ⟨g, k * 4 + 2, none⟩ (.int .i64 (k0 + (k : Int) * 4 + 1 + 1))).setCell ⟨g, k * 4 + 3, none⟩ (.int .i64 (k0 + (k : Int) * 4 + 1 + 1 + 1))) (some g) := by
  rw [show (k + 1) * 4 = k * 4 + 4 by omega]
  have h0 := own_mark1 (j := k * 4) h hg hl (by omega) (x := k0 + (k : Int) * 4) (by omega)
  have h1 := own_mark1 (j := k * 4 + 1) h0.1 h0.2 hl (by omega) (x := k0 + (k : Int) * 4 + 1) (by omega)
  have h2 := own_mark1 (j := k * 4 + 2) h1.1 h1.2 hl (by omega) (x := k0 + (k : Int) * 4 + 1 + 1) (by omega)
  have h3 := own_mark1 (j := k * 4 + 3) h2.1 h2.2 hl (by omega) (x := k0 + (k : Int) * 4 + 1 + 1 + 1) (by omega)
  exact h3
/-- 'x[l:h]': one address, whether room is left or not. -/
theorem run_slice_part {P : Program} (t e : TypeId) {z : Value} {s bytes : Nat} (ht : P.underlying t = some (.slice e)) (hinfo : (P.info? e).map (fun i => (i.zero, i.size, i.bytes)) = some (some z, s, bytes))
    (b off n c l m : Nat) (i j : Int) (hi : i = l) (hj : j = (l + m : Nat)) (hh : l + m ≤ c) :
    ∃ o', (m = 0 ∨ o' = off + l * s) ∧ ∀ W, (Instr.slice t (.slice (some ⟨b, off, none⟩) n c) (some (.int .i64 i)) (some (.int .i64 j)) none).run P W = .ok (.slice (some ⟨b, o', none⟩) m (c - l)) W := by
  obtain ⟨ti, hti, hz, hsize, hb⟩ := info_parts hinfo
  have he : P.elem t = e := by simp [Program.elem, ht]
  refine ⟨if c = l then off else off + l * s, ?_, fun W => ?_⟩
  · by_cases h0 : c = l
    · exact .inl (by omega)
    · exact .inr (by rw [if_neg h0])
  · rw [run_slice_lh W t (some ⟨b, off, none⟩) n c (by rw [he]; exact ht) .i64 .i64 i j (by omega) (by omega) (by omega)]
    subst hi hj
    have hsz : ∀ W, (sizeOf (P.elem t)).run P W = .ok s W := by intro W; rw [he]; simp [sizeOf, typeInfo, hti, hsize]
    rw [hsz]
    simp only [Result.andThen, sliced, Int.toNat_natCast, Nat.add_sub_cancel_left]
    by_cases h0 : c = l
    · simp [h0]
    · simp only [if_neg h0, Option.map_some]
      have : (⟨b, off, none⟩ : Addr).add (l * s) = ⟨b, off + l * s, none⟩ := by
        unfold Addr.add
        split
        · rename_i h; simp [h]
        · rfl
      rw [this]
/-- Which part it is. -/
theorem args_part {α : Type} {f : α → List Value} {s : Nat} (hs : ∀ x, (f x).length = s) {w : World} {b off o' : Nat} {xs : List α} (h : Sl w b off (rows f xs)) (i m : Nat) (ho : m = 0 ∨ o' = off + i * s) (hl : i + m ≤ xs.length) : Args s w (some ⟨b, o', none⟩) m (rows f ((xs.drop i).take m)) := by
  have hlen : (rows f ((xs.drop i).take m)).length = m * s := by rw [rows_len hs, List.length_take, List.length_drop, Nat.min_eq_left (by omega)]
  rcases ho with h0 | rfl
  · exact ⟨hlen, .inl h0⟩
  · exact Args.of_sl (h.part hs i m) hlen
end Go.Proofs.Ytdnkkmmkkfbhhaa

/- Appending a whole slice onto a row of the call's own. -/
namespace Go.Proofs.Ytdnkkmmkkfbhhaa
open Go.RowKit
set_option linter.all false

/-- The value v is a slice that reads as the cells xs, 'size' cells an element: nil, or cells that are there. -/
def Src (size : Nat) (w : World) (v : Value) (n : Nat) (xs : List Value) : Prop :=
  xs.length = n * size ∧ ((v = .slice none 0 0 ∧ n = 0) ∨ ∃ b off c, v = .slice (some ⟨b, off, none⟩) n c ∧ Sl w b off xs)
theorem Src.below {size n : Nat} {w w' : World} {v : Value} {xs : List Value} (h : Src size w v n xs) (hb : Below w.heap.size w w') : Src size w' v n xs := by
  refine ⟨h.1, ?_⟩
  rcases h.2 with h0 | ⟨b, off, c, rfl, hs⟩
  · exact .inl h0
  · exact .inr ⟨b, off, c, rfl, hs.below' hb⟩
theorem Src.back {size n : Nat} {B : Nat} {w w' : World} {v : Value} {xs : List Value} (h : Src size w v n xs) (hb : Below B w w') (hB : ∀ b off c, v = .slice (some ⟨b, off, none⟩) n c → b < B) : Src size w' v n xs := by
  refine ⟨h.1, ?_⟩
  rcases h.2 with h0 | ⟨b, off, c, rfl, hs⟩
  · exact .inl h0
  · exact .inr ⟨b, off, c, rfl, hs.below hb (hB b off c rfl)⟩
theorem Src.form {size n : Nat} {w : World} {v : Value} {xs : List Value} (h : Src size w v n xs) : ∃ A c, v = .slice A n c := by
  rcases h.2 with ⟨rfl, rfl⟩ | ⟨b, off, c, rfl, _⟩
  · exact ⟨_, _, rfl⟩
  · exact ⟨_, _, rfl⟩
theorem Src.of_sl {size n b off c : Nat} {w : World} {xs : List Value} (h : Sl w b off xs) (hl : xs.length = n * size) : Src size w (.slice (some ⟨b, off, none⟩) n c) n xs := ⟨hl, .inr ⟨b, off, c, rfl, h⟩⟩
theorem Src.of_own {w : World} {base : Nat} {e : TypeId} {size n : Nat} {v : Value} {xs : List Value} (h : w.ownsRow base e size v n xs) : Src size w v n xs := by
  refine ⟨h.1, ?_⟩
  rcases h.2 with h0 | ⟨g, cap, cur, rfl, _⟩
  · exact .inl h0
  · exact .inr ⟨g, 0, cap, rfl, sl_of_own h⟩
theorem Src.arg {n : Nat} {w : World} {A : Option Addr} {c : Nat} {xs : List Value} (h : Src 1 w (.slice A n c) n xs) : Arg w A n xs := by
  refine ⟨by have := h.1; omega, ?_⟩
  rcases h.2 with ⟨_, h0⟩ | ⟨b, off, c', hv, hs⟩
  · exact .inl h0
  · injection hv with h1 h2 h3; exact .inr ⟨b, off, h1, hs⟩

theorem addr_add {b off j : Nat} : (⟨b, off, none⟩ : Addr).add j = ⟨b, off + j, none⟩ := by
  unfold Addr.add
  split
  · rename_i h; subst h; rfl
  · rfl

section
variable {P : Program} {w : World}
theorem run_append_nothing (base : Nat) (t ty e : TypeId) (i : TypeInfo) (size : Nat) (ht : P.underlying t = some (.slice e)) (hi : P.info? e = some i)
    (v : Value) (n : Nat) (xs : List Value) (hown : w.ownsRow base e size v n xs) (c : Nat) : (Builtin.append_ #[t, t] ty #[v, .slice none 0 c]).run P w = .ok v w := by
  rcases hown.2 with ⟨rfl, rfl⟩ | ⟨g, cap, cur, rfl, _, _, hnc, _⟩
  · simp [Builtin.append_, run_underlying ht, sizeOf, typeInfo, hi, Builtin.lenOf, Builtin.firstCells]
  · simp [Builtin.append_, run_underlying ht, sizeOf, typeInfo, hi, Builtin.lenOf, Builtin.firstCells, hnc, storeCells]

theorem wp_appx {o : Oper} {a : Act} {K : Act → World → Prop} {Q : Exit → Act → World → Prop} (s x : Operand) (t : TypeId)
    (ho : o.op = .call { callee := .builtin .append, args := #[s, x], argTypes := #[t, t] })
    {e : TypeId} {z : Value} {size bytes : Nat} (ht : P.underlying t = some (.slice e)) (hinfo : (P.info? e).map (fun i => (i.zero, i.size, i.bytes)) = some (some z, size, bytes)) (hzs : z.cells.size = size) (hsz : 0 < size)
    (base : Nat) {v : Value} {n : Nat} {xs : List Value} (hown : w.ownsRow base e size v n xs) (hbase : base ≤ w.heap.size) (hs : a.eval s = v)
    {u : Value} {m : Nat} {ys : List Value} (hsrc : Src size w u m ys) (hx : a.eval x = u) (h1 : ∀ u ∈ ys, u.oneCell' = true) (h63 : n + m ≤ maxLen) (hbytes : (n + m) * bytes ≤ 140737488355328)
    (h : ∀ v' w', w'.ownsRow base e size v' (n + m) (xs ++ ys) → w.grownBy w' v.ownBlock → (v' = .slice none 0 0 → v = .slice none 0 0 ∧ m = 0) → K (a.put o.dst v') w') : o.wp P a w K Q := by
  obtain ⟨i, hi, hz, hsize, hby⟩ := info_parts hinfo
  rcases hsrc.2 with ⟨rfl, rfl⟩ | ⟨b, off, c, rfl, hsl⟩
  · have hys : ys = [] := List.eq_nil_of_length_eq_zero (by simpa using hsrc.1)
    subst hys
    have hr := run_append_nothing (P := P) (w := w) base t o.type e i size ht hi v n xs hown 0
    unfold Oper.wp execOp
    simp only [ho, resolve, invoke, builtin, Sem.run_bind, Sem.run_pure, Result.andThen_ok, List.map_toArray, List.map_cons, List.map_nil, hs, hx, hr]
    exact h v w (by simpa using hown) (World.grownBy.refl _ _) (fun e => ⟨e, rfl⟩)
  · refine wp_append_own w s x t ho base e i z size bytes ht hi hz hsize hby hzs hsz v n xs hs hown ⟨b, off, none⟩ m c ys hx hsrc.1 (fun j u hu => by rw [addr_add]; exact hsl.2 j u hu) h1 h63 hbytes hbase ?_
    intro v' w' h2 h3 h4
    exact h v' w' h2 h3 h4.1
theorem wpList_appx {ops : Array Oper} {rest : List Oper} {o : Oper} {a : Act} {Q : Exit → Act → World → Prop} (hgd : o.guard = none) (s x : Operand) (t : TypeId)
    (ho : o.op = .call { callee := .builtin .append, args := #[s, x], argTypes := #[t, t] })
    {e : TypeId} {z : Value} {size bytes : Nat} (ht : P.underlying t = some (.slice e)) (hinfo : (P.info? e).map (fun i => (i.zero, i.size, i.bytes)) = some (some z, size, bytes)) (hzs : z.cells.size = size) (hsz : 0 < size)
    (base : Nat) {v : Value} {n : Nat} {xs : List Value} (hown : w.ownsRow base e size v n xs) (hbase : base ≤ w.heap.size) (hs : a.eval s = v)
    {u : Value} {m : Nat} {ys : List Value} (hsrc : Src size w u m ys) (hx : a.eval x = u) (h1 : ∀ u ∈ ys, u.oneCell' = true) (h63 : n + m ≤ maxLen) (hbytes : (n + m) * bytes ≤ 140737488355328)
    (h : ∀ v' w', w'.ownsRow base e size v' (n + m) (xs ++ ys) → w.grownBy w' v.ownBlock → (v' = .slice none 0 0 → v = .slice none 0 0 ∧ m = 0) → wpList P ops Q rest (a.put o.dst v') w') : wpList P ops Q (o :: rest) a w :=
  wpList_plain hgd fun _ hK => wp_appx s x t ho ht hinfo hzs hsz base hown hbase hs hsrc hx h1 h63 hbytes fun v' w' h2 h3 h4 => hK _ _ (h v' w' h2 h3 h4)
end
/-- As wpList_appg, the new block's number spelt otherwise (behind a store). -/
theorem wpList_appgh {P : Program} {w : World} {ops : Array Oper} {rest : List Oper} {o : Oper} {a : Act} {Q : Exit → Act → World → Prop} (hgd : o.guard = none) (s x : Operand) (t : TypeId)
    (ho : o.op = .call { callee := .builtin .append, args := #[s, x], argTypes := #[t, t] })
    {e : TypeId} {z : Value} {size bytes : Nat} (ht : P.underlying t = some (.slice e)) (hinfo : (P.info? e).map (fun i => (i.zero, i.size, i.bytes)) = some (some z, size, bytes)) (hzs : z.cells.size = size) (hsz : 0 < size)
    (base : Nat) (wr : World) (H : Nat) (hH : H = wr.heap.size) {v : Value} {n : Nat} {xs : List Value} (hown : wr.ownsRow base e size v n xs) (hbase : base ≤ wr.heap.size) (hs : a.eval s = v)
    (m : Nat) (cs : Array Value) (hx : a.eval x = .slice (some ⟨H, 0, none⟩) m m) (hW : Below wr.heap.size wr w) (hnews : w.heap[wr.heap.size]? = some (.cells cs e (0, 0)))
    (hl : cs.toList.length = m * size) (h1 : ∀ u ∈ cs.toList, u.oneCell' = true) (hm : 0 < m) (h63 : n + m ≤ maxLen) (hbytes : (n + m) * bytes ≤ 140737488355328)
    (h : ∀ g cap w', w'.ownsRow base e size (.slice (some ⟨g, 0, none⟩) (n + m) cap) (n + m) (xs ++ cs.toList) → wr.grownBy w' v.ownBlock → wpList P ops Q rest (a.put o.dst (.slice (some ⟨g, 0, none⟩) (n + m) cap)) w') : wpList P ops Q (o :: rest) a w := by
  subst hH
  exact wpList_appg hgd s x t ho ht hinfo hzs hsz base wr hown hbase hs m cs hx hW hnews hl h1 hm h63 hbytes h
theorem size_set (w : World) (p : Addr) (u : Value) : w.heap.size = (w.setCell p u).heap.size := by simp [World.setCell]
theorem below_grown {w0 w w' : World} {base : Nat} {e : TypeId} {size n : Nat} {v : Value} {xs : List Value} (h : Below w0.heap.size w0 w) (ho : w.ownsRow base e size v n xs) (hb : w0.heap.size ≤ base) (hg : w.grownBy w' v.ownBlock) : Below w0.heap.size w0 w' :=
  grown_below h ho hb hg
theorem one_bools (xs : List Bool) : ∀ u ∈ xs.map Value.bool, u.oneCell' = true := by
  intro u hu; obtain ⟨x, _, rfl⟩ := List.mem_map.1 hu; rfl
theorem one_ints (k : IntKind) (xs : List Int) : ∀ u ∈ xs.map (Value.int k), u.oneCell' = true := by
  intro u hu; obtain ⟨x, _, rfl⟩ := List.mem_map.1 hu; rfl
/-- The cells of a block that was just laid. -/
theorem sl_laid (w : World) (cs : Array Value) (e : TypeId) : Sl (w.alloc (.cells cs e)) w.heap.size 0 cs.toList :=
  ⟨by simp, fun j u hu => by rw [cell_of_heap (heap_alloc_new w _)]; simpa using hu⟩
end Go.Proofs.Ytdnkkmmkkfbhhaa

/- Words: IsWord, equality of lists of numbers, where a part begins. -/
namespace Go.Proofs.Ytdnkkmmkkfbhhaa
open Go.RowKit
set_option linter.all false

theorem Sl.cut {w : World} {b off : Nat} {α : Type} {f : α → Value} {xs : List α} (h : Sl w b off (xs.map f)) (k m : Nat) : Sl w b (off + k) (((xs.drop k).take m).map f) := by
  refine ⟨h.1, fun j u hu => ?_⟩
  have h2 : (xs.map f)[k + j]? = some u := by
    rw [List.getElem?_map, List.getElem?_take] at hu
    rw [List.getElem?_map]
    split at hu
    · rw [List.getElem?_drop] at hu; exact hu
    · cases hu
  have := h.2 (k + j) u h2
  rw [← Nat.add_assoc] at this
  exact this
theorem Sl.from {w : World} {b off : Nat} {α : Type} {f : α → Value} {xs : List α} (h : Sl w b off (xs.map f)) (k : Nat) : Sl w b (off + k) ((xs.drop k).map f) := by
  have := h.cut k xs.length
  rwa [List.take_of_length_le (by simp)] at this
theorem Sl.to {w : World} {b off : Nat} {α : Type} {f : α → Value} {xs : List α} (h : Sl w b off (xs.map f)) (m : Nat) : Sl w b off ((xs.take m).map f) := by
  have := h.cut 0 m
  simpa using this

theorem Sl.empty {w : World} {b off : Nat} (h : b < w.heap.size) {α : Type} {f : α → Value} : Sl w b off (([] : List α).map f) := ⟨h, fun j u hu => by simp at hu⟩

def isWordB (xs : List Int) : Bool := decide (xs.length ≤ 400) && xs.all (inB · 0 9)

/-- Whether a part stands at a place of a word. -/
def startsB (xs : List Int) (k : Nat) (ps : List Int) : Bool := decide (k + ps.length ≤ xs.length) && decide ((xs.drop k).take ps.length = ps)
end Go.Proofs.Ytdnkkmmkkfbhhaa

/- Machines and configurations: plain lemmas. -/
namespace Go.Proofs.Ytdnkkmmkkfbhhaa
open Go.RowKit
set_option linter.all false

def noR (r : R3) : Bool := decide (r.a = 0) && decide (r.b = 0) && decide (r.c = -1)
/-- An element of the rules of a machine. -/
def ruleB (S Q : Int) (r : R3) : Bool := noR r || (inB r.a 0 (S - 1) && (decide (r.b = 1) || decide (r.b = -1)) && inB r.c 0 (Q - 1))
def validMach (S Q : Int) (rs : List R3) : Bool := inB S 2 6 && (inB Q 1 1000 && (decide ((rs.length : Int) = S * Q) && rs.all (ruleB S Q)))

/-- How many cells are left without the blanks at the end. -/
def trimN (x : List Int) : Nat → Nat
  | 0 => 0
  | n + 1 => if x.getD n 0 = 0 then trimN x n else n + 1
def trimL (x : List Int) : List Int := x.take (trimN x x.length)
theorem trimN_le (x : List Int) : ∀ n, trimN x n ≤ n := by
  intro n
  induction n with
  | zero => exact Nat.le_refl _
  | succ n ih => rw [trimN]; split <;> omega
theorem trimN_zero {x : List Int} {n : Nat} (h : x.getD n 0 = 0) : trimN x (n + 1) = trimN x n := by rw [trimN, if_pos h]
theorem trimN_stop {x : List Int} {n : Nat} (h : x.getD n 0 ≠ 0) : trimN x (n + 1) = n + 1 := by rw [trimN, if_neg h]
theorem trimL_len (x : List Int) : (trimL x).length = trimN x x.length := by rw [trimL, List.length_take, Nat.min_eq_left (trimN_le x x.length)]
theorem trimL_len_le (x : List Int) : (trimL x).length ≤ x.length := by rw [trimL_len]; exact trimN_le x x.length
theorem trimN_last {x : List Int} : ∀ {n : Nat}, trimN x n = 0 ∨ x.getD (trimN x n - 1) 0 ≠ 0 := by
  intro n
  induction n with
  | zero => exact .inl rfl
  | succ n ih =>
    rw [trimN]
    split
    · exact ih
    · rename_i h; exact .inr (by simpa using h)
theorem trimL_last (x : List Int) : (trimL x).length = 0 ∨ (trimL x).getD ((trimL x).length - 1) 0 ≠ 0 := by
  rw [trimL_len]
  rcases trimN_last (x := x) (n := x.length) with h | h
  · exact .inl h
  · by_cases h0 : trimN x x.length = 0
    · exact .inl h0
    · refine .inr ?_
      have hlt : trimN x x.length - 1 < trimN x x.length := by omega
      have e : (trimL x).getD (trimN x x.length - 1) 0 = x.getD (trimN x x.length - 1) 0 := by
        rw [trimL, List.getD_eq_getElem?_getD, List.getD_eq_getElem?_getD, List.getElem?_take, if_pos hlt]
      rw [e]; exact h
theorem trimL_mem {x : List Int} {a : Int} (h : a ∈ trimL x) : a ∈ x := List.mem_of_mem_take h
/-- What may stand on a side of the head. -/
def cellsB (S : Int) (x : List Int) : Bool := x.all (inB · 0 (S - 1)) && (decide (x.length ≤ 200) && (decide (x.length = 0) || decide (x.getD (x.length - 1) 0 ≠ 0)))
theorem cellsB_trim {S : Int} {x : List Int} (h : ∀ a ∈ x, 0 ≤ a ∧ a ≤ S - 1) : cellsB S (trimL x) = decide ((trimL x).length ≤ 200) := by
  have h1 : (trimL x).all (inB · 0 (S - 1)) = true := by
    rw [List.all_eq_true]; intro a ha; rw [inB_iff]; exact h a (trimL_mem ha)
  have h2 : (decide ((trimL x).length = 0) || decide ((trimL x).getD ((trimL x).length - 1) 0 ≠ 0)) = true := by
    rcases trimL_last x with h | h
    · rw [decide_eq_true h]; rfl
    · rw [decide_eq_true h, Bool.or_true]
  unfold cellsB
  rw [h1, h2, Bool.true_and, Bool.and_true]

/-- The first letter that is no symbol, with what is before it and behind it. -/
def splitS (S : Int) : List Int → Option (List Int × Int × List Int)
  | [] => none
  | x :: xs => if S ≤ x then some ([], x, xs) else match splitS S xs with
    | none => none
    | some (l, a, r) => some (x :: l, a, r)
theorem splitS_none {S : Int} : ∀ {xs : List Int}, splitS S xs = none → ∀ x ∈ xs, x < S := by
  intro xs
  induction xs with
  | nil => intro _ x hx; cases hx
  | cons y ys ih =>
    intro h x hx
    rw [splitS] at h
    split at h
    · cases h
    · rename_i hy
      cases e : splitS S ys with
      | none =>
        rcases List.mem_cons.1 hx with rfl | hx
        · omega
        · exact ih e x hx
      | some t => rw [e] at h; cases h
theorem splitS_some {S : Int} : ∀ {xs l r : List Int} {a : Int}, splitS S xs = some (l, a, r) → xs = l ++ a :: r ∧ S ≤ a ∧ ∀ x ∈ l, x < S := by
  intro xs
  induction xs with
  | nil => intro l r a h; cases h
  | cons y ys ih =>
    intro l r a h
    rw [splitS] at h
    split at h
    · rename_i hy
      injection h with h; injection h with h1 h2; injection h2 with h2 h3; subst h1; subst h2; subst h3
      exact ⟨rfl, hy, by simp⟩
    · rename_i hy
      cases e : splitS S ys with
      | none => rw [e] at h; cases h
      | some t =>
        obtain ⟨l', a', r'⟩ := t
        rw [e] at h
        injection h with h; injection h with h1 h2; injection h2 with h2 h3; subst h1; subst h2; subst h3
        obtain ⟨k1, k2, k3⟩ := ih e
        refine ⟨by rw [k1]; rfl, k2, fun x hx => ?_⟩
        rcases List.mem_cons.1 hx with rfl | hx
        · omega
        · exact k3 x hx
def cellsOf (w : List Int) : List Int := (w.drop 1).take (w.length - 2)
def frontB (B : Int) (w : List Int) : Bool := decide (3 ≤ w.length) && (decide (w.getD 0 0 = B) && decide (w.getD (w.length - 1) 0 = B))
/-- What a word shows: the state and the cells on both sides. -/
def showW (S B : Int) (w : List Int) : Option (Int × List Int × List Int) :=
  if frontB B w then (match splitS S (cellsOf w) with
    | none => none
    | some (l, a, r) => if decide (a < B) && r.all (inB · 0 (S - 1)) then some (a - S, l, r) else none) else none
structure DConfig where
  f0 : Int
  f1 : List Int
  f2 : List Int
def trimC (q : Int) (l r : List Int) : DConfig := ⟨q, trimL l.reverse, trimL r⟩
def roomC (l r : List Int) : Bool := decide ((trimL l.reverse).length ≤ 200) && decide ((trimL r).length ≤ 200)
def cfgW (S B : Int) (w : List Int) : DConfig × Int := match showW S B w with
  | none => (⟨0, [], []⟩, 3)
  | some (q, l, r) => if roomC l r then (trimC q l r, 0) else (⟨0, [], []⟩, 3)
def configOfWord (S Q : Int) (rs : List R3) (w : List Int) : DConfig × Int :=
  if validMach S Q rs && isWordB w then (if S + Q ≤ 9 then cfgW S (S + Q) w else (⟨0, [], []⟩, 5)) else (⟨0, [], []⟩, 1)
theorem cfgW_none {S B : Int} {w : List Int} (h : showW S B w = none) : cfgW S B w = (⟨0, [], []⟩, 3) := by rw [cfgW, h]
theorem cfgW_some {S B : Int} {w : List Int} {q : Int} {l r : List Int} (h : showW S B w = some (q, l, r)) : cfgW S B w = if roomC l r then (trimC q l r, 0) else (⟨0, [], []⟩, 3) := by rw [cfgW, h]
theorem showW_front {S B : Int} {w : List Int} (h : frontB B w = false) : showW S B w = none := by rw [showW, h]; rfl
theorem showW_blank {S B : Int} {w : List Int} (h : splitS S (cellsOf w) = none) : showW S B w = none := by rw [showW, h]; split <;> rfl
theorem showW_split {S B : Int} {w : List Int} {l r : List Int} {a : Int} (h0 : frontB B w = true) (h : splitS S (cellsOf w) = some (l, a, r)) : showW S B w = if decide (a < B) && r.all (inB · 0 (S - 1)) then some (a - S, l, r) else none := by rw [showW, if_pos h0, h]
theorem frontB_len {B : Int} {w : List Int} (h : frontB B w = true) : 3 ≤ w.length ∧ w.getD 0 0 = B ∧ w.getD (w.length - 1) 0 = B := by
  unfold frontB at h
  rw [Bool.and_eq_true, Bool.and_eq_true] at h
  exact ⟨of_decide_eq_true h.1, of_decide_eq_true h.2.1, of_decide_eq_true h.2.2⟩
theorem cellsOf_len {w : List Int} (h : 2 ≤ w.length) : (cellsOf w).length = w.length - 2 := by rw [cellsOf, List.length_take, List.length_drop]; omega
theorem cellsOf_at {w : List Int} {k : Nat} (h : k < w.length - 2) : (cellsOf w)[k]? = w[k + 1]? := by
  rw [cellsOf, List.getElem?_take, if_pos h, List.getElem?_drop, Nat.add_comm]
end Go.Proofs.Ytdnkkmmkkfbhhaa

/- Contracts of the laws' helpers on []Rule: copy, compare, size, mark, look at the marks. For slices of at most 1048576 elements. -/
namespace Go.Proofs.Ytdnkkmmkkfbhhaa
open Go.RowKit
set_option linter.all false

theorem infoRule : (Try.prog.info? 59).map (fun i => (i.zero, i.size, i.bytes)) = some (some (.agg #[.int .i64 0, .int .i64 0, .int .i64 0]), 3, 24) := by kernel_rfl

theorem toRule_any (x : R3) (w : World) : Calls Try.prog 33 #[.agg #[.int .i64 x.a, .int .i64 x.b, .int .i64 x.c]] w fun e w' => e = .returned (.agg #[.int .i64 x.a, .int .i64 x.b, .int .i64 x.c]) ∧ Below w.heap.size w w' := by
  obtain ⟨a, b, c⟩ := x
  go_enter Try.func33, Try.ntmps33
  go_wp2
  refine bodyPost_ret (v := .agg #[.int .i64 a, .int .i64 b, .int .i64 c]) (by simp [results, Try.results33, go_sem]) rfl ⟨rfl, ?_⟩
  repeat (first | exact Below.refl _ _ | refine Below.setCell ?_ (by simp; try omega) _ | refine Below.alloc ?_ (by simp; try omega) _)

theorem eqRule_any (x y : R3) (w : World) : Calls Try.prog 41 #[.agg #[.int .i64 x.a, .int .i64 x.b, .int .i64 x.c], .agg #[.int .i64 y.a, .int .i64 y.b, .int .i64 y.c]] w fun e w' => e = .returned (.bool (decide (x = y))) ∧ Below w.heap.size w w' := by
  obtain ⟨a, b, c⟩ := x
  obtain ⟨a', b', c'⟩ := y
  have h0 : Below w.heap.size w ((w.alloc (.cells #[.int .i64 a, .int .i64 b, .int .i64 c] 59)).alloc (.cells #[.int .i64 a', .int .i64 b', .int .i64 c'] 59)) := ((Below.refl _ _).alloc (Nat.le_refl _) _).alloc (by simp) _
  by_cases h1 : a = a'
  rotate_left
  · have e3 : (a != a') = true := by simpa using h1
    go_enter Try.func41, Try.ntmps41
    go_wp2
    go_ret
    exact ⟨ret_bool (by simp [h1]), h0⟩
  subst h1
  by_cases h2 : b = b'
  rotate_left
  · have e3 : (b != b') = true := by simpa using h2
    go_enter Try.func41, Try.ntmps41
    go_wp2
    go_ret
    exact ⟨ret_bool (by simp [h2]), h0⟩
  subst h2
  by_cases h3 : c = c'
  rotate_left
  · have e3 : (c != c') = true := by simpa using h3
    go_enter Try.func41, Try.ntmps41
    go_wp2
    go_ret
    exact ⟨ret_bool (by simp [h3]), h0⟩
  subst h3
  go_enter Try.func41, Try.ntmps41
  go_wp2
  go_ret
  exact ⟨ret_bool (by simp), h0⟩

theorem eqRule_is (x y : R3) (v : Bool) (h : decide (x = y) = v) (w : World) : Calls Try.prog 41 #[.agg #[.int .i64 x.a, .int .i64 x.b, .int .i64 x.c], .agg #[.int .i64 y.a, .int .i64 y.b, .int .i64 y.c]] w fun e w' => e = .returned (.bool v) ∧ Below w.heap.size w w' := by
  subst h; exact eqRule_any x y w

set_option maxHeartbeats 400000 in
theorem toRuleS_any (A : Option Addr) (n c : Nat) (xs : List R3) (w : World) (ha : Args 3 w A n (rows R3.vs xs)) (hn : n ≤ 1048576) :
    Calls Try.prog 19 #[.slice A n c] w fun e w' => e = .returned (.slice (some ⟨w.heap.size, 0, none⟩) n n) ∧
      w'.ownsRow w.heap.size 59 3 (.slice (some ⟨w.heap.size, 0, none⟩) n n) n (rows R3.vs xs) ∧ Below w.heap.size w w' := by
  have HL : Hid (xs.length = n) := by have := ha.1; rw [rows_len R3.vs_len] at this; unfold Hid; omega
  have hmk := fun W => run_make_rows (P := Try.prog) 32 59 _ 3 24 Try.underlying32 infoRule .i64 .i64 n (by omega) (by omega) W
  simp only [Value.cells] at hmk
  obtain ⟨f0, hrow0⟩ := rowIs_mades w #[.int .i64 0, .int .i64 0, .int .i64 0] (n * 3) 59
  have hB0 : Below w.heap.size w (w.alloc (.cells (madeCells #[.int .i64 0, .int .i64 0, .int .i64 0] (n * 3)) 59)) := (Below.refl _ _).alloc (Nat.le_refl _) _
  go_enter Try.func19, Try.ntmps19
  go_wp2
  clear hmk
  go_loopw [4] (fun i wr => ∃ k : Nat, k ≤ n ∧ i = .int .i64 k ∧ RowUp wr w.heap.size 59 (n * 3) (rows R3.vs xs) (k * 3) ∧ Below w.heap.size w wr) (fun i _ => n - (intOf i).toNat)
  case atStart => exact ⟨0, Nat.zero_le _, rfl, by simpa using RowUp.zero hrow0 _, hB0⟩
  case round =>
    obtain ⟨k, hk, rfl, hrow, hB⟩ := hrel
    clear hrow0 hB0
    by_cases hlt : k < n
    · obtain ⟨b, off, rfl, hs⟩ := ha.sl hlt
      obtain ⟨x, HX⟩ := hget HL hlt
      obtain ⟨h0, h1, h2⟩ := (hs.below' hB).rec3 HX.out
      have hgl := hrow.lt
      go_wp2_with fail
      refine (toRule_any x _).mono ?_
      rintro e w1 ⟨rfl, hb⟩
      have hr1 := hrow.below hb hgl
      obtain ⟨u0, hc0⟩ := hr1.cell (i := k * 3) (by omega)
      have fz0 := hr1.frozen (k * 3)
      obtain ⟨u1, hc1⟩ := hr1.cell (i := k * 3 + 1) (by omega)
      have fz1 := hr1.frozen (k * 3 + 1)
      obtain ⟨u2, hc2⟩ := hr1.cell (i := k * 3 + 2) (by omega)
      have fz2 := hr1.frozen (k * 3 + 2)
      have HR := Lib.hid (hr1.set3 HX.out)
      have HB := Lib.hid (below_set3 (k := k) (x := x) (below_step hB hb))
      clear hrow hB ha hs hb hr1 h0 h1 h2
      go_wp2_with fail
      go_roundw
      case rel => exact ⟨k + 1, by omega, by go_num, HR.out, HB.out⟩
      case measure => simp [intOf]; omega
    · go_wp2
      go_ret
      obtain rfl : k = n := by omega
      exact ⟨rfl, hrow.own (Nat.le_refl _) (by unfold maxLen; omega) ha.1, hB⟩

set_option maxRecDepth 100000 in
set_option maxHeartbeats 400000 in
theorem eqRuleS_any (A B : Option Addr) (n m c d : Nat) (xs ys : List R3) (w : World) (ha : Args 3 w A n (rows R3.vs xs)) (hb : Args 3 w B m (rows R3.vs ys)) (hn : n ≤ 4194304) (hm : m ≤ 4194304) :
    Calls Try.prog 24 #[.slice A n c, .slice B m d] w fun e w' => e = .returned (.bool (decide (xs = ys))) ∧ Below w.heap.size w w' := by
  have HA : Hid (xs.length = n) := by have := ha.1; rw [rows_len R3.vs_len] at this; unfold Hid; omega
  have HB : Hid (ys.length = m) := by have := hb.1; rw [rows_len R3.vs_len] at this; unfold Hid; omega
  by_cases hnm : n = m
  · subst hnm
    go_enter Try.func24, Try.ntmps24
    go_wp2
    go_loopw [5] (fun i wr => ∃ k : Nat, k ≤ n ∧ i = .int .i64 k ∧ Below w.heap.size w wr ∧ Hid (xs.take k = ys.take k)) (fun i _ => n - (intOf i).toNat)
    case atStart => exact ⟨0, Nat.zero_le _, rfl, Below.refl _ _, rfl⟩
    case round =>
      obtain ⟨k, hk, rfl, hB, HR⟩ := hrel
      by_cases hlt : k < n
      · obtain ⟨b1, o1, rfl, hs1⟩ := ha.sl hlt
        obtain ⟨b2, o2, rfl, hs2⟩ := hb.sl hlt
        obtain ⟨x, HX⟩ := hget HA hlt
        obtain ⟨y, HY⟩ := hget HB hlt
        obtain ⟨p0, p1, p2⟩ := (hs1.below' hB).rec3 HX.out
        obtain ⟨q0, q1, q2⟩ := (hs2.below' hB).rec3 HY.out
        clear hs1 hs2 ha hb
        by_cases e : x = y
        · have E := Lib.hid (decide_eq_true e)
          have E2 := Lib.hid e
          clear e
          go_wp2
          go_still_tail 8, (by kernel_rfl)
          change wpList _ _ _ _ _ wr.drew
          have hB2 := hB.drew
          clear p0 q0 p1 q1 p2 q2 hB
          generalize wr.drew = w2 at hB2 ⊢
          go_wp2_with fail
          refine (eqRule_is x y true E.out _).mono ?_
          rintro e w3 ⟨rfl, hb3⟩
          go_wp2
          go_roundw
          case rel => exact ⟨k + 1, by omega, by go_num, below_step hB2 hb3, take_succ_eq HR.out HX.out HY.out E2.out⟩
          case measure => simp [intOf]; omega
        · have E := Lib.hid (decide_eq_false e)
          have HE := Lib.hid e
          clear e
          go_wp2
          go_still_tail 8, (by kernel_rfl)
          change wpList _ _ _ _ _ wr.drew
          have hB2 := hB.drew
          clear p0 q0 p1 q1 p2 q2 hB
          generalize wr.drew = w2 at hB2 ⊢
          go_wp2_with fail
          refine (eqRule_is x y false E.out _).mono ?_
          rintro e w3 ⟨rfl, hb3⟩
          go_wp2
          go_ret
          exact ⟨ret_bool (by simp [ne_of_at HX.out HY.out HE.out]), below_step hB2 hb3⟩
      · go_wp2
        go_ret
        refine ⟨ret_bool ?_, hB⟩
        have h1 := HR.out
        have h2 := HA.out
        have h3 := HB.out
        rw [List.take_of_length_le (by omega), List.take_of_length_le (by omega)] at h1
        simp [h1]
  · have hne : ((n : Int) != (m : Int)) = true := by simp; omega
    go_enter Try.func24, Try.ntmps24
    go_wp2
    go_ret
    refine ⟨ret_bool ?_, Below.refl _ _⟩
    have h2 := HA.out
    have h3 := HB.out
    symm
    apply decide_eq_false
    rintro rfl
    omega

theorem szRuleS_any (A : Option Addr) (n c : Nat) (left : Int) (w : World) (h0 : 0 ≤ left) (h1 : left ≤ 1048576) (hn : n ≤ 9223372036854775807) :
    Calls Try.prog 12 #[.slice A n c, .int .i64 left] w fun e w' => e = .returned (.int .i64 (if (n : Int) ≤ left then left - n else -1)) ∧ w = w' := by
  by_cases h : (n : Int) ≤ left
  · have h' : ¬ left - (n : Int) < 0 := by omega
    go_enter Try.func12, Try.ntmps12
    go_wp2
    go_ret
    exact ⟨ret_int (by first | rfl | rw [if_pos h]), rfl⟩
  · have h' : left - (n : Int) < 0 := by omega
    go_enter Try.func12, Try.ntmps12
    go_wp2
    go_ret
    exact ⟨ret_int (by first | rfl | rw [if_neg h]), rfl⟩

theorem szRuleS_yes (A : Option Addr) (n c : Nat) (left : Int) (w : World) (h0 : (n : Int) ≤ left) (h1 : left ≤ 1048576) :
    Calls Try.prog 12 #[.slice A n c, .int .i64 left] w fun e w' => e = .returned (.int .i64 (left - n)) ∧ w = w' := by
  have h := szRuleS_any A n c left w (by omega) h1 (by omega)
  rw [if_pos h0] at h; exact h

theorem szRuleS_no (A : Option Addr) (n c : Nat) (left : Int) (w : World) (h0 : 0 ≤ left) (h : left < (n : Int)) (h1 : left ≤ 1048576) (hn : n ≤ 9223372036854775807) :
    Calls Try.prog 12 #[.slice A n c, .int .i64 left] w fun e w' => e = .returned (.int .i64 (-1)) ∧ w = w' := by
  have h := szRuleS_any A n c left w h0 h1 hn
  rw [if_neg (by omega)] at h; exact h

theorem szRuleS_is (A : Option Addr) (n c left r : Nat) (w : World) (h : r + n = left) (h1 : left ≤ 1048576) :
    Calls Try.prog 12 #[.slice A n c, .int .i64 left] w fun e w' => e = .returned (.int .i64 r) ∧ w = w' := by
  have h2 := szRuleS_yes A n c left w (by omega) (by omega)
  rw [show (left : Int) - n = r by omega] at h2; exact h2

theorem szRuleS_not (A : Option Addr) (n c left : Nat) (w : World) (h : left < n) (h1 : left ≤ 1048576) (hn : n ≤ 9223372036854775807) :
    Calls Try.prog 12 #[.slice A n c, .int .i64 left] w fun e w' => e = .returned (.int .i64 (-1)) ∧ w = w' :=
  szRuleS_no A n c left w (by omega) (by omega) (by omega) hn

end Go.Proofs.Ytdnkkmmkkfbhhaa

/- Objects that a call made: what hangs on the blocks of an interval alone; rows whose cells are rows. Plain lemmas, no conditions. -/
namespace Go.Proofs.Ytdnkkmmkkfbhhaa
open Go.RowKit
set_option linter.all false

/-- Of the blocks that were there only those from lo up to hi may have turned. -/
structure Touch (lo hi : Nat) (w w' : World) : Prop where
  os : w'.os = w.os
  tape : w'.tape = w.tape
  output : w'.output = w.output
  size : w.heap.size ≤ w'.heap.size
  block : ∀ k, k < w.heap.size → (k < lo ∨ hi ≤ k) → w'.heap[k]? = w.heap[k]?
theorem Touch.refl (lo hi : Nat) (w : World) : Touch lo hi w w := ⟨rfl, rfl, rfl, Nat.le_refl _, fun _ _ _ => rfl⟩
theorem Touch.trans {lo hi : Nat} {a b c : World} (h : Touch lo hi a b) (k : Touch lo hi b c) : Touch lo hi a c :=
  ⟨k.os.trans h.os, k.tape.trans h.tape, k.output.trans h.output, Nat.le_trans h.size k.size, fun i hi hn => (k.block i (Nat.lt_of_lt_of_le hi h.size) hn).trans (h.block i hi hn)⟩
theorem Touch.of_grown {lo hi : Nat} {w w' : World} {row : Option Nat} (h : w.grownBy w' row) (hr : ∀ k, row = some k → lo ≤ k ∧ k < hi) : Touch lo hi w w' :=
  ⟨h.os, h.tape, h.output, h.size, fun k hk hn => h.block k hk fun e => by have := hr k e.symm; omega⟩
theorem Touch.of_below {lo hi : Nat} {w w' : World} (h : Below w.heap.size w w') : Touch lo hi w w' := ⟨h.os, h.tape, h.output, h.size, fun k hk _ => h.block k hk⟩
theorem Touch.below {lo hi : Nat} {w w' : World} (h : Touch lo hi w w') (hl : lo ≤ w.heap.size) : Below lo w w' := ⟨h.os, h.tape, h.output, h.size, fun k hk => h.block k (by omega) (.inl hk)⟩
theorem Touch.mono {lo hi lo' hi' : Nat} {w w' : World} (h : Touch lo hi w w') (h1 : lo' ≤ lo) (h2 : hi ≤ hi') : Touch lo' hi' w w' := ⟨h.os, h.tape, h.output, h.size, fun k hk hn => h.block k hk (by omega)⟩
theorem Touch.setCell {lo hi : Nat} {a w : World} (h : Touch lo hi a w) {p : Addr} (hp : lo ≤ p.block ∧ p.block < hi) (u : Value) : Touch lo hi a (w.setCell p u) :=
  h.trans ⟨rfl, rfl, rfl, by simp [World.setCell], fun k hk hn => Below.heap_setCell _ _ _ _ (by omega)⟩
theorem below_touch {w0 w w' : World} {lo hi : Nat} (h : Below w0.heap.size w0 w) (ht : Touch lo hi w w') (hl : w0.heap.size ≤ lo) : Below w0.heap.size w0 w' :=
  h.trans ⟨ht.os, ht.tape, ht.output, ht.size, fun k hk => ht.block k (Nat.lt_of_lt_of_le hk h.size) (.inl (by omega))⟩

/-- P hangs on the blocks from lo up to hi alone. -/
def Dep (lo hi : Nat) (P : World → Prop) : Prop := ∀ w w' : World, P w → (∀ k, lo ≤ k → k < hi → w'.heap[k]? = w.heap[k]?) → P w'
/-- An object whose blocks lie in an interval. -/
structure Held (lo hi : Nat) (P : World → Prop) (w : World) : Prop where
  le : hi ≤ w.heap.size
  is : P w
  dep : Dep lo hi P
section
variable {lo hi : Nat} {P Q : World → Prop} {w w' : World}
theorem Held.below (h : Held lo hi P w) (hb : Below w.heap.size w w') : Held lo hi P w' :=
  ⟨Nat.le_trans h.le hb.size, h.dep _ _ h.is fun k _ hk => hb.block k (Nat.lt_of_lt_of_le hk h.le), h.dep⟩
theorem Held.far {a b : Nat} (h : Held lo hi P w) (ht : Touch a b w w') (hd : hi ≤ a ∨ b ≤ lo) : Held lo hi P w' :=
  ⟨Nat.le_trans h.le ht.size, h.dep _ _ h.is fun k h1 h2 => ht.block k (Nat.lt_of_lt_of_le h2 h.le) (by omega), h.dep⟩
theorem Held.wide {lo' hi' : Nat} (h : Held lo hi P w) (h1 : lo' ≤ lo) (h2 : hi ≤ hi') (h3 : hi' ≤ w.heap.size) : Held lo' hi' P w :=
  ⟨h3, h.is, fun a b ha hk => h.dep a b ha fun k k1 k2 => hk k (by omega) (by omega)⟩
end
theorem own_dep {w : World} {lo hi : Nat} {e : TypeId} {size n : Nat} {v : Value} {xs : List Value} (hv : ∀ k, v.ownBlock = some k → lo ≤ k ∧ k < hi) : Dep lo hi (fun W => W.ownsRow lo e size v n xs) := by
  intro a b h hk
  refine ⟨h.1, ?_⟩
  rcases h.2 with h0 | ⟨g, cap, cur, rfl, hb, hg, r⟩
  · exact .inl h0
  · have := hv g rfl
    exact .inr ⟨g, cap, cur, rfl, hb, (hk g this.1 this.2).trans hg, r⟩
theorem own_held {w : World} {lo : Nat} {e : TypeId} {size n : Nat} {v : Value} {xs : List Value} (h : w.ownsRow lo e size v n xs) : Held lo w.heap.size (fun W => W.ownsRow lo e size v n xs) w :=
  ⟨Nat.le_refl _, h, own_dep (w := w) h.lt⟩
theorem own_blocks {lo hi : Nat} {w0 w : World} {e : TypeId} {size n : Nat} {v : Value} {xs : List Value} (h : w0.ownsRow lo e size v n xs) (hw : w0.heap.size ≤ hi) : ∀ k, v.ownBlock = some k → lo ≤ k ∧ k < hi := fun k hk => by have := h.lt k hk; omega

theorem own_addr0 {w : World} {base : Nat} {e : TypeId} {size n cap : Nat} {A : Option Addr} {xs : List Value} (h : w.ownsRow base e size (.slice A n cap) n xs) (hn : 0 < n) : ∃ g, A = some ⟨g, 0, none⟩ ∧ base ≤ g ∧ g < w.heap.size := by
  rcases h.2 with ⟨_, h0⟩ | ⟨g, cap', cur, hv, hb, hg, _⟩
  · omega
  · injection hv with h1 h2 h3
    exact ⟨g, h1, hb, heap_lt hg⟩

/-- Rows in the cells of a row: each owned, no two in one block. -/
structure Inn (s : Nat) (e : TypeId) (lo hi : Nat) (vs : List Value) (its : List (Nat × List Value)) (w : World) : Prop where
  len : vs.length = its.length
  own : ∀ (j : Nat) (v : Value) (it : Nat × List Value), vs[j]? = some v → its[j]? = some it → w.ownsRow lo e s v it.1 it.2
  top : ∀ (j : Nat) (v : Value) (k : Nat), vs[j]? = some v → v.ownBlock = some k → k < hi
  apart : ∀ (i j : Nat) (v u : Value), i < j → vs[i]? = some v → vs[j]? = some u → v.ownBlock = none ∨ v.ownBlock ≠ u.ownBlock
section
variable {s lo hi : Nat} {e : TypeId} {vs : List Value} {its : List (Nat × List Value)} {w w' : World}
theorem Inn.nil (s lo hi : Nat) (e : TypeId) (w : World) : Inn s e lo hi [] [] w := ⟨rfl, by simp, by simp, by simp⟩
theorem Inn.get (h : Inn s e lo hi vs its w) {j : Nat} (hj : j < its.length) : ∃ v it, vs[j]? = some v ∧ its[j]? = some it ∧ w.ownsRow lo e s v it.1 it.2 := by
  have h1 : vs[j]? = some (vs[j]'(by rw [h.len]; exact hj)) := List.getElem?_eq_getElem _
  have h2 : its[j]? = some its[j] := List.getElem?_eq_getElem _
  exact ⟨_, _, h1, h2, h.own _ _ _ h1 h2⟩
theorem Inn.dep (lo hi : Nat) (s : Nat) (e : TypeId) (vs : List Value) (its : List (Nat × List Value)) : Dep lo hi (Inn s e lo hi vs its) := by
  intro a b h hk
  refine ⟨h.len, fun j v it h1 h2 => ?_, h.top, h.apart⟩
  have ho := h.own j v it h1 h2
  exact own_dep (w := a) (fun k hk2 => ⟨(ho.lt k hk2).1, h.top j v k h1 hk2⟩) a b ho hk
theorem Inn.below (h : Inn s e lo hi vs its w) (hb : Below w.heap.size w w') : Inn s e lo hi vs its w' :=
  ⟨h.len, fun j v it h1 h2 => own_below' (h.own j v it h1 h2) hb, h.top, h.apart⟩
theorem Inn.wide {hi' : Nat} (h : Inn s e lo hi vs its w) (h2 : hi ≤ hi') : Inn s e lo hi' vs its w :=
  ⟨h.len, h.own, fun j v k h1 h3 => Nat.lt_of_lt_of_le (h.top j v k h1 h3) h2, h.apart⟩
end
theorem snoc_at {α : Type} {xs : List α} {x y : α} {j : Nat} (h : (xs ++ [x])[j]? = some y) : (j < xs.length ∧ xs[j]? = some y) ∨ (j = xs.length ∧ y = x) := by
  rcases Nat.lt_or_ge j xs.length with hj | hj
  · rw [List.getElem?_append_left hj] at h
    exact .inl ⟨hj, h⟩
  · rw [List.getElem?_append_right hj, List.getElem?_singleton] at h
    split at h
    · injection h with h
      exact .inr ⟨by omega, h.symm⟩
    · cases h
theorem set_at {α : Type} {xs : List α} {x y : α} {i j : Nat} (h : (xs.set i x)[j]? = some y) : (j = i ∧ y = x) ∨ (j ≠ i ∧ xs[j]? = some y) := by
  rw [List.getElem?_set] at h
  split at h
  · split at h
    · injection h with h; exact .inl ⟨by omega, h.symm⟩
    · cases h
  · exact .inr ⟨by omega, h⟩
section
variable {s lo hi : Nat} {e : TypeId} {vs : List Value} {its : List (Nat × List Value)} {w w' : World}
/-- One row more, made behind all the others. -/
theorem Inn.snoc {v : Value} {it : Nat × List Value} {b hi' : Nat} (h : Inn s e lo hi vs its w) (hv : w.ownsRow b e s v it.1 it.2) (hb : hi ≤ b) (hlo : lo ≤ b) (hw : w.heap.size ≤ hi') (hh : hi ≤ hi') : Inn s e lo hi' (vs ++ [v]) (its ++ [it]) w := by
  have hbs := hv.lt
  refine ⟨by simp [h.len], fun j u i2 h1 h2 => ?_, fun j u k h1 h2 => ?_, fun i j u1 u2 hij h1 h2 => ?_⟩
  · rcases snoc_at h1 with ⟨hj, h1⟩ | ⟨hj, rfl⟩
    · rcases snoc_at h2 with ⟨_, h2⟩ | ⟨hj2, _⟩
      · exact h.own j u i2 h1 h2
      · have := h.len; omega
    · rcases snoc_at h2 with ⟨hj2, _⟩ | ⟨_, rfl⟩
      · have := h.len; omega
      · exact own_base hv hlo
  · rcases snoc_at h1 with ⟨hj, h1⟩ | ⟨hj, rfl⟩
    · have := h.top j u k h1 h2; omega
    · have := hbs k h2; omega
  · rcases snoc_at h1 with ⟨hi1, h1'⟩ | ⟨hi1, _⟩
    · rcases snoc_at h2 with ⟨_, h2'⟩ | ⟨_, e5⟩
      · exact h.apart i j u1 u2 hij h1' h2'
      · subst e5
        cases hk : u1.ownBlock with
        | none => exact .inl rfl
        | some k =>
          refine .inr fun e2 => ?_
          have := hbs k e2.symm
          have := h.top i u1 k h1' hk
          omega
    · rcases snoc_at h2 with ⟨hj, _⟩ | ⟨hj, _⟩ <;> omega
/-- One row turns. -/
theorem Inn.turn {j : Nat} {v : Value} {it : Nat × List Value} (h : Inn s e lo hi vs its w) (hv : vs[j]? = some v) (hg : w.grownBy w' v.ownBlock) (hn : w'.ownsRow lo e s v it.1 it.2) : Inn s e lo hi vs (its.set j it) w' := by
  refine ⟨by rw [List.length_set]; exact h.len, fun i u i2 h1 h2 => ?_, h.top, h.apart⟩
  rcases set_at h2 with ⟨rfl, rfl⟩ | ⟨hne, h2⟩
  · rw [hv] at h1; injection h1 with h1; subst h1; exact hn
  · refine (h.own i u i2 h1 h2).kept hg ?_
    rcases Nat.lt_or_ge i j with hij | hij
    · exact h.apart i j u v hij h1 hv
    · cases hu : u.ownBlock with
      | none => exact .inl rfl
      | some k =>
        refine .inr fun e2 => ?_
        rcases h.apart j i v u (by omega) hv h1 with h3 | h3
        · rw [h3] at e2; cases e2
        · exact h3 (by rw [hu]; exact e2.symm)
theorem Inn.touch (h : Inn s e lo hi vs its w) {j : Nat} {v : Value} (hv : vs[j]? = some v) (hg : w.grownBy w' v.ownBlock) : Touch lo hi w w' := by
  refine Touch.of_grown hg fun k hk => ?_
  have hj : j < its.length := by rw [← h.len]; exact (List.getElem?_eq_some_iff.1 hv).1
  have ho := h.own j v _ hv (List.getElem?_eq_getElem hj)
  exact ⟨(ho.lt k hk).1, h.top j v k hv hk⟩
end
theorem own_apart_ty {w : World} {b1 b2 : Nat} {e1 e2 : TypeId} {s1 s2 n1 n2 : Nat} {v1 v2 : Value} {x1 x2 : List Value} (h1 : w.ownsRow b1 e1 s1 v1 n1 x1) (h2 : w.ownsRow b2 e2 s2 v2 n2 x2) (hne : e1 ≠ e2) : v1.ownBlock = none ∨ v1.ownBlock ≠ v2.ownBlock := by
  rcases h1.2 with ⟨rfl, _⟩ | ⟨g, cap, cur, rfl, _, hg, _⟩
  · exact .inl rfl
  · refine .inr fun e => ?_
    exact own_ne_block h2 hg (fun h => hne h.symm) e

theorem Inn.kept {s lo hi : Nat} {e t : TypeId} {vs : List Value} {its : List (Nat × List Value)} {w w' : World} {b s0 n : Nat} {V : Value} {cs : List Value} (h : Inn s e lo hi vs its w) (ho : w.ownsRow b t s0 V n cs) (hg : w.grownBy w' V.ownBlock) (hne : e ≠ t) : Inn s e lo hi vs its w' :=
  ⟨h.len, fun j v it h1 h2 => (h.own j v it h1 h2).kept hg (own_apart_ty (h.own j v it h1 h2) ho hne), h.top, h.apart⟩

/-- The marks of rows that follow each other. -/
def mks (F : Int → Value) (s : Nat) : Int → List (Nat × List Value) → List (Nat × List Value)
  | _, [] => []
  | k, it :: l => (it.1, marks F k (it.1 * s)) :: mks F s (k + (it.1 * s : Nat)) l
/-- How many cells rows have. -/
def cellsIn (s : Nat) (its : List (Nat × List Value)) : Nat := (its.map fun it => it.1 * s).sum
theorem cellsIn_snoc (s : Nat) (its : List (Nat × List Value)) (it : Nat × List Value) : cellsIn s (its ++ [it]) = cellsIn s its + it.1 * s := by simp [cellsIn]
theorem cellsIn_take {s : Nat} {its : List (Nat × List Value)} {k : Nat} {it : Nat × List Value} (h : its[k]? = some it) : cellsIn s (its.take (k + 1)) = cellsIn s (its.take k) + it.1 * s := by
  rw [List.take_add_one, h]; exact cellsIn_snoc s _ it
theorem cellsIn_le (s : Nat) (its : List (Nat × List Value)) (k : Nat) : cellsIn s (its.take k) ≤ cellsIn s its := by
  have h : ∀ a b : List (Nat × List Value), cellsIn s a ≤ cellsIn s (a ++ b) := by intro a b; simp [cellsIn]
  have := h (its.take k) (its.drop k)
  rwa [List.take_append_drop] at this
theorem length_mks (F : Int → Value) (s : Nat) (its : List (Nat × List Value)) : ∀ k, (mks F s k its).length = its.length := by
  induction its with
  | nil => intro k; rfl
  | cons it l ih => intro k; simp [mks, ih]
theorem mks_snoc (F : Int → Value) (s : Nat) (it : Nat × List Value) (its : List (Nat × List Value)) : ∀ k : Int, mks F s k (its ++ [it]) = mks F s k its ++ [(it.1, marks F (k + (cellsIn s its : Nat)) (it.1 * s))] := by
  induction its with
  | nil => intro k; simp [mks, cellsIn]
  | cons i l ih =>
    intro k
    simp only [List.cons_append, mks, ih]
    congr 5
    simp only [cellsIn, List.map_cons, List.sum_cons]
    omega
theorem mks_at (F : Int → Value) (s : Nat) {its : List (Nat × List Value)} {j : Nat} {it : Nat × List Value} (h : its[j]? = some it) (k : Int) : (mks F s k its)[j]? = some (it.1, marks F (k + (cellsIn s (its.take j) : Nat)) (it.1 * s)) := by
  obtain ⟨hj, hx⟩ := List.getElem?_eq_some_iff.1 h
  have e : its = its.take j ++ it :: its.drop (j + 1) := by
    conv => lhs; rw [← List.take_append_drop j its, List.drop_eq_getElem_cons hj, hx]
  have e2 : ∀ (a b : List (Nat × List Value)) (k : Int), mks F s k (a ++ b) = mks F s k a ++ mks F s (k + (cellsIn s a : Nat)) b := by
    intro a
    induction a with
    | nil => intro b k; simp [mks, cellsIn]
    | cons i l ih =>
      intro b k
      simp only [List.cons_append, mks, ih]
      congr 3
      simp only [cellsIn, List.map_cons, List.sum_cons]
      omega
  conv => lhs; rw [e, e2]
  rw [List.getElem?_append_right (by rw [length_mks, List.length_take]; omega), length_mks, List.length_take, Nat.min_eq_left (by omega), Nat.sub_self]
  rfl
/-- A round of marking. -/
theorem Inn.mark {F : Int → Value} {k0 : Int} {s lo hi k : Nat} {e : TypeId} {vs : List Value} {its : List (Nat × List Value)} {w w' : World} {v : Value} {it : Nat × List Value} (h : Inn s e lo hi vs (mks F s k0 (its.take k) ++ its.drop k) w) (hv : vs[k]? = some v) (hit : its[k]? = some it)
    (hg : w.grownBy w' v.ownBlock) (hn : w'.ownsRow lo e s v it.1 (marks F (k0 + (cellsIn s (its.take k) : Nat)) (it.1 * s))) : Inn s e lo hi vs (mks F s k0 (its.take (k + 1)) ++ its.drop (k + 1)) w' := by
  have h2 := h.turn (it := (it.1, marks F (k0 + (cellsIn s (its.take k) : Nat)) (it.1 * s))) hv hg hn
  obtain ⟨hj, hx⟩ := List.getElem?_eq_some_iff.1 hit
  have e : (mks F s k0 (its.take k) ++ its.drop k).set k (it.1, marks F (k0 + (cellsIn s (its.take k) : Nat)) (it.1 * s)) = mks F s k0 (its.take (k + 1)) ++ its.drop (k + 1) := by
    have hl : (mks F s k0 (its.take k)).length = k := by rw [length_mks, List.length_take]; omega
    rw [List.set_append_right _ _ (by omega), hl, Nat.sub_self, List.drop_eq_getElem_cons hj, List.set_cons_zero, List.take_add_one, hit]
    show _ = mks F s k0 (its.take k ++ [it]) ++ _
    rw [mks_snoc]
    simp
  rw [e] at h2
  exact h2
theorem inn_row {F : Int → Value} {k0 : Int} {s lo hi k : Nat} {e : TypeId} {vs : List Value} {its : List (Nat × List Value)} {w : World} {v : Value} {it : Nat × List Value} (h : Inn s e lo hi vs (mks F s k0 (its.take k) ++ its.drop k) w) (hv : vs[k]? = some v) (hit : its[k]? = some it) : w.ownsRow lo e s v it.1 it.2 := by
  obtain ⟨hj, hx⟩ := List.getElem?_eq_some_iff.1 hit
  refine h.own k v it hv ?_
  have hl : (mks F s k0 (its.take k)).length = k := by rw [length_mks, List.length_take]; omega
  rw [List.getElem?_append_right (by omega), hl, Nat.sub_self, List.getElem?_drop]
  simpa using hit

/-- A row whose cells hold rows: the outer row (n elements of s0 cells, read as cs), the inner ones (elements of s cells); all blocks from base up to hi. -/
structure Grid (base hi : Nat) (t : TypeId) (s0 : Nat) (V : Value) (n : Nat) (cs : List Value) (e : TypeId) (s : Nat) (us : List Value) (its : List (Nat × List Value)) (W : World) : Prop where
  own : W.ownsRow base t s0 V n cs
  inn : Inn s e base hi us its W
  top : ∀ k, V.ownBlock = some k → k < hi
section
variable {base hi : Nat} {t : TypeId} {s0 : Nat} {V : Value} {n : Nat} {cs : List Value} {e : TypeId} {s : Nat} {us : List Value} {its : List (Nat × List Value)} {w w' : World}
theorem Grid.dep (base hi : Nat) (t : TypeId) (s0 : Nat) (V : Value) (n : Nat) (cs : List Value) (e : TypeId) (s : Nat) (us : List Value) (its : List (Nat × List Value)) : Dep base hi (Grid base hi t s0 V n cs e s us its) := by
  intro a b h hk
  exact ⟨own_dep (w := a) (fun k h2 => ⟨(h.own.lt k h2).1, h.top k h2⟩) a b h.own hk, Inn.dep base hi s e us its a b h.inn hk, h.top⟩
theorem Grid.held (h : Grid base hi t s0 V n cs e s us its w) (hh : hi ≤ w.heap.size) : Held base hi (Grid base hi t s0 V n cs e s us its) w := ⟨hh, h, Grid.dep _ _ _ _ _ _ _ _ _ _ _⟩
theorem Grid.below (h : Grid base hi t s0 V n cs e s us its w) (hb : Below w.heap.size w w') : Grid base hi t s0 V n cs e s us its w' := ⟨own_below' h.own hb, h.inn.below hb, h.top⟩
end
theorem fill_set {us : List Value} {n k : Nat} {z v : Value} (hl : us.length = k) (hk : k < n) : (us ++ List.replicate (n - k) z).set k v = (us ++ [v]) ++ List.replicate (n - (k + 1)) z := by
  subst hl
  rw [List.set_append_right _ _ (Nat.le_refl _), Nat.sub_self, show n - us.length = (n - (us.length + 1)) + 1 by omega, List.replicate_succ, List.set_cons_zero]
  simp

/-- Slices in the cells of another slice that came in. -/
def Ins {α : Type} (s : Nat) (f : α → List Value) (w : World) (vs : List Value) (ts : List (List α)) : Prop :=
  vs.length = ts.length ∧ ∀ (j : Nat) (v : Value) (t : List α), vs[j]? = some v → ts[j]? = some t → ∃ A c, v = .slice A t.length c ∧ Args s w A t.length (rows f t)
theorem Ins.below {α : Type} {s : Nat} {f : α → List Value} {w w' : World} {vs : List Value} {ts : List (List α)} (h : Ins s f w vs ts) (hb : Below w.heap.size w w') : Ins s f w' vs ts :=
  ⟨h.1, fun j v t h1 h2 => by obtain ⟨A, c, e, ha⟩ := h.2 j v t h1 h2; exact ⟨A, c, e, ha.below hb⟩⟩
theorem Ins.get {α : Type} {s : Nat} {f : α → List Value} {w : World} {vs : List Value} {ts : List (List α)} (h : Ins s f w vs ts) {j : Nat} {t : List α} (ht : ts[j]? = some t) : ∃ A c, vs[j]? = some (.slice A t.length c) ∧ Args s w A t.length (rows f t) := by
  have hj := (List.getElem?_eq_some_iff.1 ht).1
  have h1 : vs[j]? = some (vs[j]'(by rw [h.1]; exact hj)) := List.getElem?_eq_getElem _
  obtain ⟨A, c, e, ha⟩ := h.2 j _ t h1 ht
  exact ⟨A, c, by rw [h1, e], ha⟩
/-- The rows of lists. -/
def itsOf {α : Type} (f : α → List Value) (ts : List (List α)) : List (Nat × List Value) := ts.map fun t => (t.length, rows f t)
theorem itsOf_take {α : Type} (f : α → List Value) (ts : List (List α)) (k : Nat) : (itsOf f ts).take k = itsOf f (ts.take k) := by simp [itsOf, List.map_take]
theorem itsOf_at {α : Type} (f : α → List Value) {ts : List (List α)} {k : Nat} {t : List α} (h : ts[k]? = some t) : (itsOf f ts)[k]? = some (t.length, rows f t) := by simp [itsOf, h]
theorem itsOf_snoc {α : Type} (f : α → List Value) {ts : List (List α)} {k : Nat} {t : List α} (h : ts[k]? = some t) : (itsOf f ts).take (k + 1) = (itsOf f ts).take k ++ [(t.length, rows f t)] := by
  rw [List.take_add_one, itsOf_at f h]; rfl
theorem Inn.ins {α : Type} {s lo hi : Nat} {f : α → List Value} {e : TypeId} {us : List Value} {ts : List (List α)} {w : World} (h : Inn s e lo hi us (itsOf f ts) w) : Ins s f w us ts := by
  refine ⟨by rw [h.len]; simp [itsOf], fun j v t h1 h2 => ?_⟩
  have ho := h.own j v _ h1 (itsOf_at f h2)
  obtain ⟨A, c, rfl⟩ := own_form ho
  exact ⟨A, c, rfl, args_of_own ho⟩
/-- How many elements lists have. -/
def sumLen {α : Type} (ts : List (List α)) : Nat := (ts.map List.length).sum
theorem sumLen_take {α : Type} {ts : List (List α)} {k : Nat} {t : List α} (h : ts[k]? = some t) : sumLen (ts.take (k + 1)) = sumLen (ts.take k) + t.length := by
  rw [List.take_add_one, h]; simp [sumLen]
theorem sumLen_le {α : Type} (ts : List (List α)) (k : Nat) : sumLen (ts.take k) ≤ sumLen ts := by
  have h : ∀ a b : List (List α), sumLen a ≤ sumLen (a ++ b) := by intro a b; simp [sumLen]
  have := h (ts.take k) (ts.drop k)
  rwa [List.take_append_drop] at this
theorem sumLen_at {α : Type} {ts : List (List α)} {k : Nat} {t : List α} (h : ts[k]? = some t) : t.length ≤ sumLen ts := by
  have := sumLen_take h
  have := sumLen_le ts (k + 1)
  omega
theorem sumLen_mem {α : Type} {ts : List (List α)} {t : List α} (h : t ∈ ts) : t.length ≤ sumLen ts := by
  obtain ⟨j, hj⟩ := List.getElem?_of_mem h
  exact sumLen_at hj
theorem cellsIn_its {α : Type} (f : α → List Value) (s : Nat) (ts : List (List α)) : cellsIn s (itsOf f ts) = sumLen ts * s := by
  unfold cellsIn itsOf sumLen
  induction ts with
  | nil => simp
  | cons t l ih => simp only [List.map_cons, List.sum_cons, Nat.add_mul]; rw [← ih]
theorem arg_args {w : World} {A : Option Addr} {n : Nat} {xs : List Value} (h : Args 1 w A n xs) : Arg w A n xs := ⟨by have := h.1; omega, h.2⟩
theorem args_arg {w : World} {A : Option Addr} {n : Nat} {xs : List Value} (h : Arg w A n xs) : Args 1 w A n xs := ⟨by have := h.1; omega, h.2⟩
def oneI (x : Int) : List Value := [.int .i64 x]
def oneB (x : Bool) : List Value := [.bool x]
theorem rows_oneI (xs : List Int) : rows oneI xs = xs.map (Value.int .i64) := by unfold rows oneI; induction xs <;> simp_all
theorem rows_oneB (xs : List Bool) : rows oneB xs = xs.map Value.bool := by unfold rows oneB; induction xs <;> simp_all
/-- A row, its block below hi. -/
structure Flat (lo hi : Nat) (e : TypeId) (s : Nat) (V : Value) (n : Nat) (xs : List Value) (W : World) : Prop where
  own : W.ownsRow lo e s V n xs
  top : ∀ k, V.ownBlock = some k → k < hi
section
variable {lo hi : Nat} {e : TypeId} {s : Nat} {V : Value} {n : Nat} {xs ys : List Value} {w w' : World}
theorem Flat.dep (lo hi : Nat) (e : TypeId) (s : Nat) (V : Value) (n : Nat) (xs : List Value) : Dep lo hi (Flat lo hi e s V n xs) := by
  intro a b h hk
  exact ⟨own_dep (w := a) (fun k h2 => ⟨(h.own.lt k h2).1, h.top k h2⟩) a b h.own hk, h.top⟩
theorem flat_of_own (h : w.ownsRow lo e s V n xs) : Held lo w.heap.size (Flat lo w.heap.size e s V n xs) w := ⟨Nat.le_refl _, ⟨h, fun k hk => (h.lt k hk).2⟩, Flat.dep _ _ _ _ _ _ _⟩
theorem Flat.turn (h : Held lo hi (Flat lo hi e s V n xs) w) (hn : w'.ownsRow lo e s V n ys) (hg : w.grownBy w' V.ownBlock) : Held lo hi (Flat lo hi e s V n ys) w' ∧ Touch lo hi w w' :=
  ⟨⟨Nat.le_trans h.le hg.size, ⟨hn, h.is.top⟩, Flat.dep _ _ _ _ _ _ _⟩, Touch.of_grown hg fun k hk => ⟨(h.is.own.lt k hk).1, h.is.top k hk⟩⟩
end
theorem Grid.turn {base hi : Nat} {t : TypeId} {s0 : Nat} {V : Value} {n : Nat} {cs cs' : List Value} {e : TypeId} {s : Nat} {us : List Value} {its its' : List (Nat × List Value)} {w w' : World} (h : Held base hi (Grid base hi t s0 V n cs e s us its) w) (hn : Grid base hi t s0 V n cs' e s us its' w') (ht : Touch base hi w w') : Held base hi (Grid base hi t s0 V n cs' e s us its') w' :=
  ⟨Nat.le_trans h.le ht.size, hn, Grid.dep _ _ _ _ _ _ _ _ _ _ _⟩
/-- Slices in the cells of a row, each nil or with cells that are there. -/
def Srcs {α : Type} (s : Nat) (f : α → List Value) (w : World) (vs : List Value) (ts : List (List α)) : Prop :=
  vs.length = ts.length ∧ ∀ (j : Nat) (v : Value) (t : List α), vs[j]? = some v → ts[j]? = some t → Src s w v t.length (rows f t)
theorem Srcs.below {α : Type} {s : Nat} {f : α → List Value} {w w' : World} {vs : List Value} {ts : List (List α)} (h : Srcs s f w vs ts) (hb : Below w.heap.size w w') : Srcs s f w' vs ts :=
  ⟨h.1, fun j v t h1 h2 => (h.2 j v t h1 h2).below hb⟩
theorem Inn.srcs {α : Type} {s lo hi : Nat} {f : α → List Value} {e : TypeId} {us : List Value} {ts : List (List α)} {w : World} (h : Inn s e lo hi us (itsOf f ts) w) : Srcs s f w us ts :=
  ⟨by rw [h.len]; simp [itsOf], fun j v t h1 h2 => Src.of_own (h.own j v _ h1 (itsOf_at f h2))⟩
theorem its_bound {α : Type} {f : α → List Value} {ts : List (List α)} {m : Nat} (h : sumLen ts ≤ m) : ∀ it ∈ itsOf f ts, it.1 ≤ m := by
  intro it hit
  unfold itsOf at hit
  obtain ⟨t, ht, rfl⟩ := List.mem_map.1 hit
  exact Nat.le_trans (sumLen_mem ht) h
/-- What is left behind n elements, or -1. -/
def SzOut (n : Nat) (left z : Int) : Prop := ((n : Int) ≤ left ∧ z = left - n) ∨ (left < (n : Int) ∧ z = -1)
theorem szOut_no {n : Nat} {left : Int} (h : left < (n : Int)) : SzOut n left (-1) := .inr ⟨h, rfl⟩
theorem szOut_yes {n : Nat} {left z : Int} (h : (n : Int) ≤ left) (hz : z = left - n) : SzOut n left z := .inl ⟨h, hz⟩
end Go.Proofs.Ytdnkkmmkkfbhhaa
