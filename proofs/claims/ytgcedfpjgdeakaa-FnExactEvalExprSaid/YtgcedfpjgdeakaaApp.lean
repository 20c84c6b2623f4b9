/- Appending a whole slice onto a row of the call's own. -/
import Derived.Test.YtgcedfpjgdeakaaBase
import Derived.Lib.AppendZeros
namespace Go.Proofs.Ytgcedfpjgdeakaa
open Go.RowKit
set_option linter.all false

/-- The value v is a slice that reads as the cells xs, 'size' cells an element: nil, or cells that are there. -/
def Src (size : Nat) (w : World) (v : Value) (n : Nat) (xs : List Value) : Prop :=
  xs.length = n * size ∧ ((v = .slice none 0 0 ∧ n = 0) ∨ ∃ b off c, v = .slice (some ⟨b, off, none⟩) n c ∧ Sl w b off xs)
theorem Src.below {size n : Nat} {w w' : World} {v : Value} {xs : List Value} (h : Src size w v n xs) (hb : Below w.heap.size w w') : Src size w' v n xs := by
  refine ⟨h.1, ?_⟩
  rcases h.2 with h0 | ⟨b, off, c, rfl, hs⟩
  · exact .inl h0
  · exact .inr ⟨b, off, c, rfl, hs.below' hb⟩
theorem Src.back {size n : Nat} {B : Nat} {w w' : World} {v : Value} {xs : List Value} (h : Src size w v n xs) (hb : Below B w w') (hB : ∀ b off c, v = .slice (some ⟨b, off, none⟩) n c → b < B) : Src size w' v n xs := by
  refine ⟨h.1, ?_⟩
  rcases h.2 with h0 | ⟨b, off, c, rfl, hs⟩
  · exact .inl h0
  · exact .inr ⟨b, off, c, rfl, hs.below hb (hB b off c rfl)⟩
theorem Src.form {size n : Nat} {w : World} {v : Value} {xs : List Value} (h : Src size w v n xs) : ∃ A c, v = .slice A n c := by
  rcases h.2 with ⟨rfl, rfl⟩ | ⟨b, off, c, rfl, _⟩
  · exact ⟨_, _, rfl⟩
  · exact ⟨_, _, rfl⟩
theorem Src.of_sl {size n b off c : Nat} {w : World} {xs : List Value} (h : Sl w b off xs) (hl : xs.length = n * size) : Src size w (.slice (some ⟨b, off, none⟩) n c) n xs := ⟨hl, .inr ⟨b, off, c, rfl, h⟩⟩
theorem Src.of_own {w : World} {base : Nat} {e : TypeId} {size n : Nat} {v : Value} {xs : List Value} (h : w.ownsRow base e size v n xs) : Src size w v n xs := by
  refine ⟨h.1, ?_⟩
  rcases h.2 with h0 | ⟨g, cap, cur, rfl, _⟩
  · exact .inl h0
  · exact .inr ⟨g, 0, cap, rfl, sl_of_own h⟩
theorem Src.arg {n : Nat} {w : World} {A : Option Addr} {c : Nat} {xs : List Value} (h : Src 1 w (.slice A n c) n xs) : Arg w A n xs := by
  refine ⟨by have := h.1; omega, ?_⟩
  rcases h.2 with ⟨_, h0⟩ | ⟨b, off, c', hv, hs⟩
  · exact .inl h0
  · injection hv with h1 h2 h3; exact .inr ⟨b, off, h1, hs⟩

theorem addr_add {b off j : Nat} : (⟨b, off, none⟩ : Addr).add j = ⟨b, off + j, none⟩ := by
  unfold Addr.add
  split
  · rename_i h; subst h; rfl
  · rfl

section
variable {P : Program} {w : World}
theorem run_append_nothing (base : Nat) (t ty e : TypeId) (i : TypeInfo) (size : Nat) (ht : P.underlying t = some (.slice e)) (hi : P.info? e = some i)
    (v : Value) (n : Nat) (xs : List Value) (hown : w.ownsRow base e size v n xs) (c : Nat) : (Builtin.append_ #[t, t] ty #[v, .slice none 0 c]).run P w = .ok v w := by
  rcases hown.2 with ⟨rfl, rfl⟩ | ⟨g, cap, cur, rfl, _, _, hnc, _⟩
  · simp [Builtin.append_, run_underlying ht, sizeOf, typeInfo, hi, Builtin.lenOf, Builtin.firstCells]
  · simp [Builtin.append_, run_underlying ht, sizeOf, typeInfo, hi, Builtin.lenOf, Builtin.firstCells, hnc, storeCells]

theorem wp_appx {o : Oper} {a : Act} {K : Act → World → Prop} {Q : Exit → Act → World → Prop} (s x : Operand) (t : TypeId)
    (ho : o.op = .call { callee := .builtin .append, args := #[s, x], argTypes := #[t, t] })
    {e : TypeId} {z : Value} {size bytes : Nat} (ht : P.underlying t = some (.slice e)) (hinfo : (P.info? e).map (fun i => (i.zero, i.size, i.bytes)) = some (some z, size, bytes)) (hzs : z.cells.size = size) (hsz : 0 < size)
    (base : Nat) {v : Value} {n : Nat} {xs : List Value} (hown : w.ownsRow base e size v n xs) (hbase : base ≤ w.heap.size) (hs : a.eval s = v)
    {u : Value} {m : Nat} {ys : List Value} (hsrc : Src size w u m ys) (hx : a.eval x = u) (h1 : ∀ u ∈ ys, u.oneCell' = true) (h63 : n + m ≤ maxLen) (hbytes : (n + m) * bytes ≤ 140737488355328)
    (h : ∀ v' w', w'.ownsRow base e size v' (n + m) (xs ++ ys) → w.grownBy w' v.ownBlock → (v' = .slice none 0 0 → v = .slice none 0 0 ∧ m = 0) → K (a.put o.dst v') w') : o.wp P a w K Q := by
  obtain ⟨i, hi, hz, hsize, hby⟩ := info_parts hinfo
  rcases hsrc.2 with ⟨rfl, rfl⟩ | ⟨b, off, c, rfl, hsl⟩
  · have hys : ys = [] := List.eq_nil_of_length_eq_zero (by simpa using hsrc.1)
    subst hys
    have hr := run_append_nothing (P := P) (w := w) base t o.type e i size ht hi v n xs hown 0
    unfold Oper.wp execOp
    simp only [ho, resolve, invoke, builtin, Sem.run_bind, Sem.run_pure, Result.andThen_ok, List.map_toArray, List.map_cons, List.map_nil, hs, hx, hr]
    exact h v w (by simpa using hown) (World.grownBy.refl _ _) (fun e => ⟨e, rfl⟩)
  · refine wp_append_own w s x t ho base e i z size bytes ht hi hz hsize hby hzs hsz v n xs hs hown ⟨b, off, none⟩ m c ys hx hsrc.1 (fun j u hu => by rw [addr_add]; exact hsl.2 j u hu) h1 h63 hbytes hbase ?_
    intro v' w' h2 h3 h4
    exact h v' w' h2 h3 h4.1
theorem wpList_appx {ops : Array Oper} {rest : List Oper} {o : Oper} {a : Act} {Q : Exit → Act → World → Prop} (hgd : o.guard = none) (s x : Operand) (t : TypeId)
    (ho : o.op = .call { callee := .builtin .append, args := #[s, x], argTypes := #[t, t] })
    {e : TypeId} {z : Value} {size bytes : Nat} (ht : P.underlying t = some (.slice e)) (hinfo : (P.info? e).map (fun i => (i.zero, i.size, i.bytes)) = some (some z, size, bytes)) (hzs : z.cells.size = size) (hsz : 0 < size)
    (base : Nat) {v : Value} {n : Nat} {xs : List Value} (hown : w.ownsRow base e size v n xs) (hbase : base ≤ w.heap.size) (hs : a.eval s = v)
    {u : Value} {m : Nat} {ys : List Value} (hsrc : Src size w u m ys) (hx : a.eval x = u) (h1 : ∀ u ∈ ys, u.oneCell' = true) (h63 : n + m ≤ maxLen) (hbytes : (n + m) * bytes ≤ 140737488355328)
    (h : ∀ v' w', w'.ownsRow base e size v' (n + m) (xs ++ ys) → w.grownBy w' v.ownBlock → (v' = .slice none 0 0 → v = .slice none 0 0 ∧ m = 0) → wpList P ops Q rest (a.put o.dst v') w') : wpList P ops Q (o :: rest) a w :=
  wpList_plain hgd fun _ hK => wp_appx s x t ho ht hinfo hzs hsz base hown hbase hs hsrc hx h1 h63 hbytes fun v' w' h2 h3 h4 => hK _ _ (h v' w' h2 h3 h4)
end
/-- As wpList_appg, the new block's number spelt otherwise (behind a store). -/
theorem wpList_appgh {P : Program} {w : World} {ops : Array Oper} {rest : List Oper} {o : Oper} {a : Act} {Q : Exit → Act → World → Prop} (hgd : o.guard = none) (s x : Operand) (t : TypeId)
    (ho : o.op = .call { callee := .builtin .append, args := #[s, x], argTypes := #[t, t] })
    {e : TypeId} {z : Value} {size bytes : Nat} (ht : P.underlying t = some (.slice e)) (hinfo : (P.info? e).map (fun i => (i.zero, i.size, i.bytes)) = some (some z, size, bytes)) (hzs : z.cells.size = size) (hsz : 0 < size)
    (base : Nat) (wr : World) (H : Nat) (hH : H = wr.heap.size) {v : Value} {n : Nat} {xs : List Value} (hown : wr.ownsRow base e size v n xs) (hbase : base ≤ wr.heap.size) (hs : a.eval s = v)
    (m : Nat) (cs : Array Value) (hx : a.eval x = .slice (some ⟨H, 0, none⟩) m m) (hW : Below wr.heap.size wr w) (hnews : w.heap[wr.heap.size]? = some (.cells cs e (0, 0)))
    (hl : cs.toList.length = m * size) (h1 : ∀ u ∈ cs.toList, u.oneCell' = true) (hm : 0 < m) (h63 : n + m ≤ maxLen) (hbytes : (n + m) * bytes ≤ 140737488355328)
    (h : ∀ g cap w', w'.ownsRow base e size (.slice (some ⟨g, 0, none⟩) (n + m) cap) (n + m) (xs ++ cs.toList) → wr.grownBy w' v.ownBlock → wpList P ops Q rest (a.put o.dst (.slice (some ⟨g, 0, none⟩) (n + m) cap)) w') : wpList P ops Q (o :: rest) a w := by
  subst hH
  exact wpList_appg hgd s x t ho ht hinfo hzs hsz base wr hown hbase hs m cs hx hW hnews hl h1 hm h63 hbytes h
theorem size_set (w : World) (p : Addr) (u : Value) : w.heap.size = (w.setCell p u).heap.size := by simp [World.setCell]
theorem below_grown {w0 w w' : World} {base : Nat} {e : TypeId} {size n : Nat} {v : Value} {xs : List Value} (h : Below w0.heap.size w0 w) (ho : w.ownsRow base e size v n xs) (hb : w0.heap.size ≤ base) (hg : w.grownBy w' v.ownBlock) : Below w0.heap.size w0 w' :=
  grown_below h ho hb hg
theorem one_bools (xs : List Bool) : ∀ u ∈ xs.map Value.bool, u.oneCell' = true := by
  intro u hu; obtain ⟨x, _, rfl⟩ := List.mem_map.1 hu; rfl
theorem one_ints (k : IntKind) (xs : List Int) : ∀ u ∈ xs.map (Value.int k), u.oneCell' = true := by
  intro u hu; obtain ⟨x, _, rfl⟩ := List.mem_map.1 hu; rfl
/-- The cells of a block that was just laid. -/
theorem sl_laid (w : World) (cs : Array Value) (e : TypeId) : Sl (w.alloc (.cells cs e)) w.heap.size 0 cs.toList :=
  ⟨by simp, fun j u hu => by rw [cell_of_heap (heap_alloc_new w _)]; simpa using hu⟩
end Go.Proofs.Ytgcedfpjgdeakaa
