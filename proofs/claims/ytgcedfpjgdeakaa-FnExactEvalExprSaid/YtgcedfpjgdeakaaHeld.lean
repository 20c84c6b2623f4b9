/- Objects that a call made: what hangs on the blocks of an interval alone; rows whose cells are rows. Plain lemmas, no conditions. -/
import Derived.Test.YtgcedfpjgdeakaaApp
import Derived.Test.YtgcedfpjgdeakaaRec
namespace Go.Proofs.Ytgcedfpjgdeakaa
open Go.RowKit
set_option linter.all false

/-- Of the blocks that were there only those from lo up to hi may have turned. -/
structure Touch (lo hi : Nat) (w w' : World) : Prop where
  os : w'.os = w.os
  tape : w'.tape = w.tape
  output : w'.output = w.output
  size : w.heap.size ≤ w'.heap.size
  block : ∀ k, k < w.heap.size → (k < lo ∨ hi ≤ k) → w'.heap[k]? = w.heap[k]?
theorem Touch.refl (lo hi : Nat) (w : World) : Touch lo hi w w := ⟨rfl, rfl, rfl, Nat.le_refl _, fun _ _ _ => rfl⟩
theorem Touch.trans {lo hi : Nat} {a b c : World} (h : Touch lo hi a b) (k : Touch lo hi b c) : Touch lo hi a c :=
  ⟨k.os.trans h.os, k.tape.trans h.tape, k.output.trans h.output, Nat.le_trans h.size k.size, fun i hi hn => (k.block i (Nat.lt_of_lt_of_le hi h.size) hn).trans (h.block i hi hn)⟩
theorem Touch.of_grown {lo hi : Nat} {w w' : World} {row : Option Nat} (h : w.grownBy w' row) (hr : ∀ k, row = some k → lo ≤ k ∧ k < hi) : Touch lo hi w w' :=
  ⟨h.os, h.tape, h.output, h.size, fun k hk hn => h.block k hk fun e => by have := hr k e.symm; omega⟩
theorem Touch.of_below {lo hi : Nat} {w w' : World} (h : Below w.heap.size w w') : Touch lo hi w w' := ⟨h.os, h.tape, h.output, h.size, fun k hk _ => h.block k hk⟩
theorem Touch.below {lo hi : Nat} {w w' : World} (h : Touch lo hi w w') (hl : lo ≤ w.heap.size) : Below lo w w' := ⟨h.os, h.tape, h.output, h.size, fun k hk => h.block k (by omega) (.inl hk)⟩
theorem Touch.mono {lo hi lo' hi' : Nat} {w w' : World} (h : Touch lo hi w w') (h1 : lo' ≤ lo) (h2 : hi ≤ hi') : Touch lo' hi' w w' := ⟨h.os, h.tape, h.output, h.size, fun k hk hn => h.block k hk (by omega)⟩
theorem Touch.setCell {lo hi : Nat} {a w : World} (h : Touch lo hi a w) {p : Addr} (hp : lo ≤ p.block ∧ p.block < hi) (u : Value) : Touch lo hi a (w.setCell p u) :=
  h.trans ⟨rfl, rfl, rfl, by simp [World.setCell], fun k hk hn => Below.heap_setCell _ _ _ _ (by omega)⟩
theorem below_touch {w0 w w' : World} {lo hi : Nat} (h : Below w0.heap.size w0 w) (ht : Touch lo hi w w') (hl : w0.heap.size ≤ lo) : Below w0.heap.size w0 w' :=
  h.trans ⟨ht.os, ht.tape, ht.output, ht.size, fun k hk => ht.block k (Nat.lt_of_lt_of_le hk h.size) (.inl (by omega))⟩

/-- P hangs on the blocks from lo up to hi alone. -/
def Dep (lo hi : Nat) (P : World → Prop) : Prop := ∀ w w' : World, P w → (∀ k, lo ≤ k → k < hi → w'.heap[k]? = w.heap[k]?) → P w'
/-- An object whose blocks lie in an interval. -/
structure Held (lo hi : Nat) (P : World → Prop) (w : World) : Prop where
  le : hi ≤ w.heap.size
  is : P w
  dep : Dep lo hi P
section
variable {lo hi : Nat} {P Q : World → Prop} {w w' : World}
theorem Held.below (h : Held lo hi P w) (hb : Below w.heap.size w w') : Held lo hi P w' :=
  ⟨Nat.le_trans h.le hb.size, h.dep _ _ h.is fun k _ hk => hb.block k (Nat.lt_of_lt_of_le hk h.le), h.dep⟩
theorem Held.far {a b : Nat} (h : Held lo hi P w) (ht : Touch a b w w') (hd : hi ≤ a ∨ b ≤ lo) : Held lo hi P w' :=
  ⟨Nat.le_trans h.le ht.size, h.dep _ _ h.is fun k h1 h2 => ht.block k (Nat.lt_of_lt_of_le h2 h.le) (by omega), h.dep⟩
theorem Held.wide {lo' hi' : Nat} (h : Held lo hi P w) (h1 : lo' ≤ lo) (h2 : hi ≤ hi') (h3 : hi' ≤ w.heap.size) : Held lo' hi' P w :=
  ⟨h3, h.is, fun a b ha hk => h.dep a b ha fun k k1 k2 => hk k (by omega) (by omega)⟩
end
theorem own_dep {w : World} {lo hi : Nat} {e : TypeId} {size n : Nat} {v : Value} {xs : List Value} (hv : ∀ k, v.ownBlock = some k → lo ≤ k ∧ k < hi) : Dep lo hi (fun W => W.ownsRow lo e size v n xs) := by
  intro a b h hk
  refine ⟨h.1, ?_⟩
  rcases h.2 with h0 | ⟨g, cap, cur, rfl, hb, hg, r⟩
  · exact .inl h0
  · have := hv g rfl
    exact .inr ⟨g, cap, cur, rfl, hb, (hk g this.1 this.2).trans hg, r⟩
theorem own_held {w : World} {lo : Nat} {e : TypeId} {size n : Nat} {v : Value} {xs : List Value} (h : w.ownsRow lo e size v n xs) : Held lo w.heap.size (fun W => W.ownsRow lo e size v n xs) w :=
  ⟨Nat.le_refl _, h, own_dep (w := w) h.lt⟩
theorem own_blocks {lo hi : Nat} {w0 w : World} {e : TypeId} {size n : Nat} {v : Value} {xs : List Value} (h : w0.ownsRow lo e size v n xs) (hw : w0.heap.size ≤ hi) : ∀ k, v.ownBlock = some k → lo ≤ k ∧ k < hi := fun k hk => by have := h.lt k hk; omega

theorem own_addr0 {w : World} {base : Nat} {e : TypeId} {size n cap : Nat} {A : Option Addr} {xs : List Value} (h : w.ownsRow base e size (.slice A n cap) n xs) (hn : 0 < n) : ∃ g, A = some ⟨g, 0, none⟩ ∧ base ≤ g ∧ g < w.heap.size := by
  rcases h.2 with ⟨_, h0⟩ | ⟨g, cap', cur, hv, hb, hg, _⟩
  · omega
  · injection hv with h1 h2 h3
    exact ⟨g, h1, hb, heap_lt hg⟩

/-- Rows in the cells of a row: each owned, no two in one block. -/
structure Inn (s : Nat) (e : TypeId) (lo hi : Nat) (vs : List Value) (its : List (Nat × List Value)) (w : World) : Prop where
  len : vs.length = its.length
  own : ∀ (j : Nat) (v : Value) (it : Nat × List Value), vs[j]? = some v → its[j]? = some it → w.ownsRow lo e s v it.1 it.2
  top : ∀ (j : Nat) (v : Value) (k : Nat), vs[j]? = some v → v.ownBlock = some k → k < hi
  apart : ∀ (i j : Nat) (v u : Value), i < j → vs[i]? = some v → vs[j]? = some u → v.ownBlock = none ∨ v.ownBlock ≠ u.ownBlock
section
variable {s lo hi : Nat} {e : TypeId} {vs : List Value} {its : List (Nat × List Value)} {w w' : World}
theorem Inn.nil (s lo hi : Nat) (e : TypeId) (w : World) : Inn s e lo hi [] [] w := ⟨rfl, by simp, by simp, by simp⟩
theorem Inn.get (h : Inn s e lo hi vs its w) {j : Nat} (hj : j < its.length) : ∃ v it, vs[j]? = some v ∧ its[j]? = some it ∧ w.ownsRow lo e s v it.1 it.2 := by
  have h1 : vs[j]? = some (vs[j]'(by rw [h.len]; exact hj)) := List.getElem?_eq_getElem _
  have h2 : its[j]? = some its[j] := List.getElem?_eq_getElem _
  exact ⟨_, _, h1, h2, h.own _ _ _ h1 h2⟩
theorem Inn.dep (lo hi : Nat) (s : Nat) (e : TypeId) (vs : List Value) (its : List (Nat × List Value)) : Dep lo hi (Inn s e lo hi vs its) := by
  intro a b h hk
  refine ⟨h.len, fun j v it h1 h2 => ?_, h.top, h.apart⟩
  have ho := h.own j v it h1 h2
  exact own_dep (w := a) (fun k hk2 => ⟨(ho.lt k hk2).1, h.top j v k h1 hk2⟩) a b ho hk
theorem Inn.below (h : Inn s e lo hi vs its w) (hb : Below w.heap.size w w') : Inn s e lo hi vs its w' :=
  ⟨h.len, fun j v it h1 h2 => own_below' (h.own j v it h1 h2) hb, h.top, h.apart⟩
theorem Inn.wide {hi' : Nat} (h : Inn s e lo hi vs its w) (h2 : hi ≤ hi') : Inn s e lo hi' vs its w :=
  ⟨h.len, h.own, fun j v k h1 h3 => Nat.lt_of_lt_of_le (h.top j v k h1 h3) h2, h.apart⟩
end
theorem snoc_at {α : Type} {xs : List α} {x y : α} {j : Nat} (h : (xs ++ [x])[j]? = some y) : (j < xs.length ∧ xs[j]? = some y) ∨ (j = xs.length ∧ y = x) := by
  rcases Nat.lt_or_ge j xs.length with hj | hj
  · rw [List.getElem?_append_left hj] at h
    exact .inl ⟨hj, h⟩
  · rw [List.getElem?_append_right hj, List.getElem?_singleton] at h
    split at h
    · injection h with h
      exact .inr ⟨by omega, h.symm⟩
    · cases h
theorem set_at {α : Type} {xs : List α} {x y : α} {i j : Nat} (h : (xs.set i x)[j]? = some y) : (j = i ∧ y = x) ∨ (j ≠ i ∧ xs[j]? = some y) := by
  rw [List.getElem?_set] at h
  split at h
  · split at h
    · injection h with h; exact .inl ⟨by omega, h.symm⟩
    · cases h
  · exact .inr ⟨by omega, h⟩
section
variable {s lo hi : Nat} {e : TypeId} {vs : List Value} {its : List (Nat × List Value)} {w w' : World}
/-- One row more, made behind all the others. -/
theorem Inn.snoc {v : Value} {it : Nat × List Value} {b hi' : Nat} (h : Inn s e lo hi vs its w) (hv : w.ownsRow b e s v it.1 it.2) (hb : hi ≤ b) (hlo : lo ≤ b) (hw : w.heap.size ≤ hi') (hh : hi ≤ hi') : Inn s e lo hi' (vs ++ [v]) (its ++ [it]) w := by
  have hbs := hv.lt
  refine ⟨by simp [h.len], fun j u i2 h1 h2 => ?_, fun j u k h1 h2 => ?_, fun i j u1 u2 hij h1 h2 => ?_⟩
  · rcases snoc_at h1 with ⟨hj, h1⟩ | ⟨hj, rfl⟩
    · rcases snoc_at h2 with ⟨_, h2⟩ | ⟨hj2, _⟩
      · exact h.own j u i2 h1 h2
      · have := h.len; omega
    · rcases snoc_at h2 with ⟨hj2, _⟩ | ⟨_, rfl⟩
      · have := h.len; omega
      · exact own_base hv hlo
  · rcases snoc_at h1 with ⟨hj, h1⟩ | ⟨hj, rfl⟩
    · have := h.top j u k h1 h2; omega
    · have := hbs k h2; omega
  · rcases snoc_at h1 with ⟨hi1, h1'⟩ | ⟨hi1, _⟩
    · rcases snoc_at h2 with ⟨_, h2'⟩ | ⟨_, e5⟩
      · exact h.apart i j u1 u2 hij h1' h2'
      · subst e5
        cases hk : u1.ownBlock with
        | none => exact .inl rfl
        | some k =>
          refine .inr fun e2 => ?_
          have := hbs k e2.symm
          have := h.top i u1 k h1' hk
          omega
    · rcases snoc_at h2 with ⟨hj, _⟩ | ⟨hj, _⟩ <;> omega
/-- One row turns. -/
theorem Inn.turn {j : Nat} {v : Value} {it : Nat × List Value} (h : Inn s e lo hi vs its w) (hv : vs[j]? = some v) (hg : w.grownBy w' v.ownBlock) (hn : w'.ownsRow lo e s v it.1 it.2) : Inn s e lo hi vs (its.set j it) w' := by
  refine ⟨by rw [List.length_set]; exact h.len, fun i u i2 h1 h2 => ?_, h.top, h.apart⟩
  rcases set_at h2 with ⟨rfl, rfl⟩ | ⟨hne, h2⟩
  · rw [hv] at h1; injection h1 with h1; subst h1; exact hn
  · refine (h.own i u i2 h1 h2).kept hg ?_
    rcases Nat.lt_or_ge i j with hij | hij
    · exact h.apart i j u v hij h1 hv
    · cases hu : u.ownBlock with
      | none => exact .inl rfl
      | some k =>
        refine .inr fun e2 => ?_
        rcases h.apart j i v u (by omega) hv h1 with h3 | h3
        · rw [h3] at e2; cases e2
        · exact h3 (by rw [hu]; exact e2.symm)
theorem Inn.touch (h : Inn s e lo hi vs its w) {j : Nat} {v : Value} (hv : vs[j]? = some v) (hg : w.grownBy w' v.ownBlock) : Touch lo hi w w' := by
  refine Touch.of_grown hg fun k hk => ?_
  have hj : j < its.length := by rw [← h.len]; exact (List.getElem?_eq_some_iff.1 hv).1
  have ho := h.own j v _ hv (List.getElem?_eq_getElem hj)
  exact ⟨(ho.lt k hk).1, h.top j v k hv hk⟩
end
theorem own_apart_ty {w : World} {b1 b2 : Nat} {e1 e2 : TypeId} {s1 s2 n1 n2 : Nat} {v1 v2 : Value} {x1 x2 : List Value} (h1 : w.ownsRow b1 e1 s1 v1 n1 x1) (h2 : w.ownsRow b2 e2 s2 v2 n2 x2) (hne : e1 ≠ e2) : v1.ownBlock = none ∨ v1.ownBlock ≠ v2.ownBlock := by
  rcases h1.2 with ⟨rfl, _⟩ | ⟨g, cap, cur, rfl, _, hg, _⟩
  · exact .inl rfl
  · refine .inr fun e => ?_
    exact own_ne_block h2 hg (fun h => hne h.symm) e

theorem Inn.kept {s lo hi : Nat} {e t : TypeId} {vs : List Value} {its : List (Nat × List Value)} {w w' : World} {b s0 n : Nat} {V : Value} {cs : List Value} (h : Inn s e lo hi vs its w) (ho : w.ownsRow b t s0 V n cs) (hg : w.grownBy w' V.ownBlock) (hne : e ≠ t) : Inn s e lo hi vs its w' :=
  ⟨h.len, fun j v it h1 h2 => (h.own j v it h1 h2).kept hg (own_apart_ty (h.own j v it h1 h2) ho hne), h.top, h.apart⟩

/-- The marks of rows that follow each other. -/
def mks (F : Int → Value) (s : Nat) : Int → List (Nat × List Value) → List (Nat × List Value)
  | _, [] => []
  | k, it :: l => (it.1, marks F k (it.1 * s)) :: mks F s (k + (it.1 * s : Nat)) l
/-- How many cells rows have. -/
def cellsIn (s : Nat) (its : List (Nat × List Value)) : Nat := (its.map fun it => it.1 * s).sum
theorem cellsIn_snoc (s : Nat) (its : List (Nat × List Value)) (it : Nat × List Value) : cellsIn s (its ++ [it]) = cellsIn s its + it.1 * s := by simp [cellsIn]
theorem cellsIn_take {s : Nat} {its : List (Nat × List Value)} {k : Nat} {it : Nat × List Value} (h : its[k]? = some it) : cellsIn s (its.take (k + 1)) = cellsIn s (its.take k) + it.1 * s := by
  rw [List.take_add_one, h]; exact cellsIn_snoc s _ it
theorem cellsIn_le (s : Nat) (its : List (Nat × List Value)) (k : Nat) : cellsIn s (its.take k) ≤ cellsIn s its := by
  have h : ∀ a b : List (Nat × List Value), cellsIn s a ≤ cellsIn s (a ++ b) := by intro a b; simp [cellsIn]
  have := h (its.take k) (its.drop k)
  rwa [List.take_append_drop] at this
theorem length_mks (F : Int → Value) (s : Nat) (its : List (Nat × List Value)) : ∀ k, (mks F s k its).length = its.length := by
  induction its with
  | nil => intro k; rfl
  | cons it l ih => intro k; simp [mks, ih]
theorem mks_snoc (F : Int → Value) (s : Nat) (it : Nat × List Value) (its : List (Nat × List Value)) : ∀ k : Int, mks F s k (its ++ [it]) = mks F s k its ++ [(it.1, marks F (k + (cellsIn s its : Nat)) (it.1 * s))] := by
  induction its with
  | nil => intro k; simp [mks, cellsIn]
  | cons i l ih =>
    intro k
    simp only [List.cons_append, mks, ih]
    congr 5
    simp only [cellsIn, List.map_cons, List.sum_cons]
    omega
theorem mks_at (F : Int → Value) (s : Nat) {its : List (Nat × List Value)} {j : Nat} {it : Nat × List Value} (h : its[j]? = some it) (k : Int) : (mks F s k its)[j]? = some (it.1, marks F (k + (cellsIn s (its.take j) : Nat)) (it.1 * s)) := by
  obtain ⟨hj, hx⟩ := List.getElem?_eq_some_iff.1 h
  have e : its = its.take j ++ it :: its.drop (j + 1) := by
    conv => lhs; rw [← List.take_append_drop j its, List.drop_eq_getElem_cons hj, hx]
  have e2 : ∀ (a b : List (Nat × List Value)) (k : Int), mks F s k (a ++ b) = mks F s k a ++ mks F s (k + (cellsIn s a : Nat)) b := by
    intro a
    induction a with
    | nil => intro b k; simp [mks, cellsIn]
    | cons i l ih =>
      intro b k
      simp only [List.cons_append, mks, ih]
      congr 3
      simp only [cellsIn, List.map_cons, List.sum_cons]
      omega
  conv => lhs; rw [e, e2]
  rw [List.getElem?_append_right (by rw [length_mks, List.length_take]; omega), length_mks, List.length_take, Nat.min_eq_left (by omega), Nat.sub_self]
  rfl
/-- A round of marking. -/
theorem Inn.mark {F : Int → Value} {k0 : Int} {s lo hi k : Nat} {e : TypeId} {vs : List Value} {its : List (Nat × List Value)} {w w' : World} {v : Value} {it : Nat × List Value} (h : Inn s e lo hi vs (mks F s k0 (its.take k) ++ its.drop k) w) (hv : vs[k]? = some v) (hit : its[k]? = some it)
    (hg : w.grownBy w' v.ownBlock) (hn : w'.ownsRow lo e s v it.1 (marks F (k0 + (cellsIn s (its.take k) : Nat)) (it.1 * s))) : Inn s e lo hi vs (mks F s k0 (its.take (k + 1)) ++ its.drop (k + 1)) w' := by
  have h2 := h.turn (it := (it.1, marks F (k0 + (cellsIn s (its.take k) : Nat)) (it.1 * s))) hv hg hn
  obtain ⟨hj, hx⟩ := List.getElem?_eq_some_iff.1 hit
  have e : (mks F s k0 (its.take k) ++ its.drop k).set k (it.1, marks F (k0 + (cellsIn s (its.take k) : Nat)) (it.1 * s)) = mks F s k0 (its.take (k + 1)) ++ its.drop (k + 1) := by
    have hl : (mks F s k0 (its.take k)).length = k := by rw [length_mks, List.length_take]; omega
    rw [List.set_append_right _ _ (by omega), hl, Nat.sub_self, List.drop_eq_getElem_cons hj, List.set_cons_zero, List.take_add_one, hit]
    show _ = mks F s k0 (its.take k ++ [it]) ++ _
    rw [mks_snoc]
    simp
  rw [e] at h2
  exact h2
theorem inn_row {F : Int → Value} {k0 : Int} {s lo hi k : Nat} {e : TypeId} {vs : List Value} {its : List (Nat × List Value)} {w : World} {v : Value} {it : Nat × List Value} (h : Inn s e lo hi vs (mks F s k0 (its.take k) ++ its.drop k) w) (hv : vs[k]? = some v) (hit : its[k]? = some it) : w.ownsRow lo e s v it.1 it.2 := by
  obtain ⟨hj, hx⟩ := List.getElem?_eq_some_iff.1 hit
  refine h.own k v it hv ?_
  have hl : (mks F s k0 (its.take k)).length = k := by rw [length_mks, List.length_take]; omega
  rw [List.getElem?_append_right (by omega), hl, Nat.sub_self, List.getElem?_drop]
  simpa using hit

/-- A row whose cells hold rows: the outer row (n elements of s0 cells, read as cs), the inner ones (elements of s cells); all blocks from base up to hi. -/
structure Grid (base hi : Nat) (t : TypeId) (s0 : Nat) (V : Value) (n : Nat) (cs : List Value) (e : TypeId) (s : Nat) (us : List Value) (its : List (Nat × List Value)) (W : World) : Prop where
  own : W.ownsRow base t s0 V n cs
  inn : Inn s e base hi us its W
  top : ∀ k, V.ownBlock = some k → k < hi
section
variable {base hi : Nat} {t : TypeId} {s0 : Nat} {V : Value} {n : Nat} {cs : List Value} {e : TypeId} {s : Nat} {us : List Value} {its : List (Nat × List Value)} {w w' : World}
theorem Grid.dep (base hi : Nat) (t : TypeId) (s0 : Nat) (V : Value) (n : Nat) (cs : List Value) (e : TypeId) (s : Nat) (us : List Value) (its : List (Nat × List Value)) : Dep base hi (Grid base hi t s0 V n cs e s us its) := by
  intro a b h hk
  exact ⟨own_dep (w := a) (fun k h2 => ⟨(h.own.lt k h2).1, h.top k h2⟩) a b h.own hk, Inn.dep base hi s e us its a b h.inn hk, h.top⟩
theorem Grid.held (h : Grid base hi t s0 V n cs e s us its w) (hh : hi ≤ w.heap.size) : Held base hi (Grid base hi t s0 V n cs e s us its) w := ⟨hh, h, Grid.dep _ _ _ _ _ _ _ _ _ _ _⟩
theorem Grid.below (h : Grid base hi t s0 V n cs e s us its w) (hb : Below w.heap.size w w') : Grid base hi t s0 V n cs e s us its w' := ⟨own_below' h.own hb, h.inn.below hb, h.top⟩
end
theorem fill_set {us : List Value} {n k : Nat} {z v : Value} (hl : us.length = k) (hk : k < n) : (us ++ List.replicate (n - k) z).set k v = (us ++ [v]) ++ List.replicate (n - (k + 1)) z := by
  subst hl
  rw [List.set_append_right _ _ (Nat.le_refl _), Nat.sub_self, show n - us.length = (n - (us.length + 1)) + 1 by omega, List.replicate_succ, List.set_cons_zero]
  simp

/-- Slices in the cells of another slice that came in. -/
def Ins {α : Type} (s : Nat) (f : α → List Value) (w : World) (vs : List Value) (ts : List (List α)) : Prop :=
  vs.length = ts.length ∧ ∀ (j : Nat) (v : Value) (t : List α), vs[j]? = some v → ts[j]? = some t → ∃ A c, v = .slice A t.length c ∧ Args s w A t.length (rows f t)
theorem Ins.below {α : Type} {s : Nat} {f : α → List Value} {w w' : World} {vs : List Value} {ts : List (List α)} (h : Ins s f w vs ts) (hb : Below w.heap.size w w') : Ins s f w' vs ts :=
  ⟨h.1, fun j v t h1 h2 => by obtain ⟨A, c, e, ha⟩ := h.2 j v t h1 h2; exact ⟨A, c, e, ha.below hb⟩⟩
theorem Ins.get {α : Type} {s : Nat} {f : α → List Value} {w : World} {vs : List Value} {ts : List (List α)} (h : Ins s f w vs ts) {j : Nat} {t : List α} (ht : ts[j]? = some t) : ∃ A c, vs[j]? = some (.slice A t.length c) ∧ Args s w A t.length (rows f t) := by
  have hj := (List.getElem?_eq_some_iff.1 ht).1
  have h1 : vs[j]? = some (vs[j]'(by rw [h.1]; exact hj)) := List.getElem?_eq_getElem _
  obtain ⟨A, c, e, ha⟩ := h.2 j _ t h1 ht
  exact ⟨A, c, by rw [h1, e], ha⟩
/-- The rows of lists. -/
def itsOf {α : Type} (f : α → List Value) (ts : List (List α)) : List (Nat × List Value) := ts.map fun t => (t.length, rows f t)
theorem itsOf_take {α : Type} (f : α → List Value) (ts : List (List α)) (k : Nat) : (itsOf f ts).take k = itsOf f (ts.take k) := by simp [itsOf, List.map_take]
theorem itsOf_at {α : Type} (f : α → List Value) {ts : List (List α)} {k : Nat} {t : List α} (h : ts[k]? = some t) : (itsOf f ts)[k]? = some (t.length, rows f t) := by simp [itsOf, h]
theorem itsOf_snoc {α : Type} (f : α → List Value) {ts : List (List α)} {k : Nat} {t : List α} (h : ts[k]? = some t) : (itsOf f ts).take (k + 1) = (itsOf f ts).take k ++ [(t.length, rows f t)] := by
  rw [List.take_add_one, itsOf_at f h]; rfl
theorem Inn.ins {α : Type} {s lo hi : Nat} {f : α → List Value} {e : TypeId} {us : List Value} {ts : List (List α)} {w : World} (h : Inn s e lo hi us (itsOf f ts) w) : Ins s f w us ts := by
  refine ⟨by rw [h.len]; simp [itsOf], fun j v t h1 h2 => ?_⟩
  have ho := h.own j v _ h1 (itsOf_at f h2)
  obtain ⟨A, c, rfl⟩ := own_form ho
  exact ⟨A, c, rfl, args_of_own ho⟩
/-- How many elements lists have. -/
def sumLen {α : Type} (ts : List (List α)) : Nat := (ts.map List.length).sum
theorem sumLen_take {α : Type} {ts : List (List α)} {k : Nat} {t : List α} (h : ts[k]? = some t) : sumLen (ts.take (k + 1)) = sumLen (ts.take k) + t.length := by
  rw [List.take_add_one, h]; simp [sumLen]
theorem sumLen_le {α : Type} (ts : List (List α)) (k : Nat) : sumLen (ts.take k) ≤ sumLen ts := by
  have h : ∀ a b : List (List α), sumLen a ≤ sumLen (a ++ b) := by intro a b; simp [sumLen]
  have := h (ts.take k) (ts.drop k)
  rwa [List.take_append_drop] at this
theorem sumLen_at {α : Type} {ts : List (List α)} {k : Nat} {t : List α} (h : ts[k]? = some t) : t.length ≤ sumLen ts := by
  have := sumLen_take h
  have := sumLen_le ts (k + 1)
  omega
theorem sumLen_mem {α : Type} {ts : List (List α)} {t : List α} (h : t ∈ ts) : t.length ≤ sumLen ts := by
  obtain ⟨j, hj⟩ := List.getElem?_of_mem h
  exact sumLen_at hj
theorem cellsIn_its {α : Type} (f : α → List Value) (s : Nat) (ts : List (List α)) : cellsIn s (itsOf f ts) = sumLen ts * s := by
  unfold cellsIn itsOf sumLen
  induction ts with
  | nil => simp
  | cons t l ih => simp only [List.map_cons, List.sum_cons, Nat.add_mul]; rw [← ih]
theorem arg_args {w : World} {A : Option Addr} {n : Nat} {xs : List Value} (h : Args 1 w A n xs) : Arg w A n xs := ⟨by have := h.1; omega, h.2⟩
theorem args_arg {w : World} {A : Option Addr} {n : Nat} {xs : List Value} (h : Arg w A n xs) : Args 1 w A n xs := ⟨by have := h.1; omega, h.2⟩
def oneI (x : Int) : List Value := [.int .i64 x]
def oneB (x : Bool) : List Value := [.bool x]
theorem rows_oneI (xs : List Int) : rows oneI xs = xs.map (Value.int .i64) := by unfold rows oneI; induction xs <;> simp_all
theorem rows_oneB (xs : List Bool) : rows oneB xs = xs.map Value.bool := by unfold rows oneB; induction xs <;> simp_all
/-- A row, its block below hi. -/
structure Flat (lo hi : Nat) (e : TypeId) (s : Nat) (V : Value) (n : Nat) (xs : List Value) (W : World) : Prop where
  own : W.ownsRow lo e s V n xs
  top : ∀ k, V.ownBlock = some k → k < hi
section
variable {lo hi : Nat} {e : TypeId} {s : Nat} {V : Value} {n : Nat} {xs ys : List Value} {w w' : World}
theorem Flat.dep (lo hi : Nat) (e : TypeId) (s : Nat) (V : Value) (n : Nat) (xs : List Value) : Dep lo hi (Flat lo hi e s V n xs) := by
  intro a b h hk
  exact ⟨own_dep (w := a) (fun k h2 => ⟨(h.own.lt k h2).1, h.top k h2⟩) a b h.own hk, h.top⟩
theorem flat_of_own (h : w.ownsRow lo e s V n xs) : Held lo w.heap.size (Flat lo w.heap.size e s V n xs) w := ⟨Nat.le_refl _, ⟨h, fun k hk => (h.lt k hk).2⟩, Flat.dep _ _ _ _ _ _ _⟩
theorem Flat.turn (h : Held lo hi (Flat lo hi e s V n xs) w) (hn : w'.ownsRow lo e s V n ys) (hg : w.grownBy w' V.ownBlock) : Held lo hi (Flat lo hi e s V n ys) w' ∧ Touch lo hi w w' :=
  ⟨⟨Nat.le_trans h.le hg.size, ⟨hn, h.is.top⟩, Flat.dep _ _ _ _ _ _ _⟩, Touch.of_grown hg fun k hk => ⟨(h.is.own.lt k hk).1, h.is.top k hk⟩⟩
end
theorem Grid.turn {base hi : Nat} {t : TypeId} {s0 : Nat} {V : Value} {n : Nat} {cs cs' : List Value} {e : TypeId} {s : Nat} {us : List Value} {its its' : List (Nat × List Value)} {w w' : World} (h : Held base hi (Grid base hi t s0 V n cs e s us its) w) (hn : Grid base hi t s0 V n cs' e s us its' w') (ht : Touch base hi w w') : Held base hi (Grid base hi t s0 V n cs' e s us its') w' :=
  ⟨Nat.le_trans h.le ht.size, hn, Grid.dep _ _ _ _ _ _ _ _ _ _ _⟩
/-- Slices in the cells of a row, each nil or with cells that are there. -/
def Srcs {α : Type} (s : Nat) (f : α → List Value) (w : World) (vs : List Value) (ts : List (List α)) : Prop :=
  vs.length = ts.length ∧ ∀ (j : Nat) (v : Value) (t : List α), vs[j]? = some v → ts[j]? = some t → Src s w v t.length (rows f t)
theorem Srcs.below {α : Type} {s : Nat} {f : α → List Value} {w w' : World} {vs : List Value} {ts : List (List α)} (h : Srcs s f w vs ts) (hb : Below w.heap.size w w') : Srcs s f w' vs ts :=
  ⟨h.1, fun j v t h1 h2 => (h.2 j v t h1 h2).below hb⟩
theorem Inn.srcs {α : Type} {s lo hi : Nat} {f : α → List Value} {e : TypeId} {us : List Value} {ts : List (List α)} {w : World} (h : Inn s e lo hi us (itsOf f ts) w) : Srcs s f w us ts :=
  ⟨by rw [h.len]; simp [itsOf], fun j v t h1 h2 => Src.of_own (h.own j v _ h1 (itsOf_at f h2))⟩
theorem its_bound {α : Type} {f : α → List Value} {ts : List (List α)} {m : Nat} (h : sumLen ts ≤ m) : ∀ it ∈ itsOf f ts, it.1 ≤ m := by
  intro it hit
  unfold itsOf at hit
  obtain ⟨t, ht, rfl⟩ := List.mem_map.1 hit
  exact Nat.le_trans (sumLen_mem ht) h
/-- What is left behind n elements, or -1. -/
def SzOut (n : Nat) (left z : Int) : Prop := ((n : Int) ≤ left ∧ z = left - n) ∨ (left < (n : Int) ∧ z = -1)
theorem szOut_no {n : Nat} {left : Int} (h : left < (n : Int)) : SzOut n left (-1) := .inr ⟨h, rfl⟩
theorem szOut_yes {n : Nat} {left z : Int} (h : (n : Int) ≤ left) (hz : z = left - n) : SzOut n left z := .inl ⟨h, hz⟩
end Go.Proofs.Ytgcedfpjgdeakaa
