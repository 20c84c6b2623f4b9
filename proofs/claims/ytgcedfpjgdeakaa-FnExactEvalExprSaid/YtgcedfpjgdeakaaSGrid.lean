/- Rows of records that hold slices of the call's own: plain lemmas on worlds, for whatever record. -/
import Derived.Test.YtgcedfpjgdeakaaHeld
namespace Go.Proofs.Ytgcedfpjgdeakaa
open Go.RowKit
set_option linter.all false

section
variable {α β : Type}
theorem flat_len (f : α → List β) {s : Nat} (hs : ∀ x, (f x).length = s) (xs : List α) : (xs.flatMap f).length = xs.length * s := by
  induction xs with
  | nil => simp
  | cons x l ih => rw [List.flatMap_cons, List.length_append, ih, hs, List.length_cons, Nat.succ_mul, Nat.add_comm]
theorem flat_at (f : α → List β) {s : Nat} (hs : ∀ x, (f x).length = s) {xs : List α} {k : Nat} {x : α} (h : xs[k]? = some x) {j : Nat} (hj : j < s) : (xs.flatMap f)[k * s + j]? = (f x)[j]? := by
  obtain ⟨hk, hx⟩ := List.getElem?_eq_some_iff.1 h
  have e : xs = xs.take k ++ (x :: xs.drop (k + 1)) := by
    conv => lhs; rw [← List.take_append_drop k xs, List.drop_eq_getElem_cons hk, hx]
  have l1 : ((xs.take k).flatMap f).length = k * s := by rw [flat_len f hs, List.length_take, Nat.min_eq_left (by omega)]
  conv => lhs; rw [e, List.flatMap_append]
  rw [List.getElem?_append_right (by omega), l1, Nat.add_sub_cancel_left, List.flatMap_cons, List.getElem?_append_left (by rw [hs]; exact hj)]
theorem flat_set (f : α → List β) {s : Nat} (hs : ∀ x, (f x).length = s) {xs : List α} {k : Nat} {x : α} (y : α) {j : Nat} {u : β} (hx : xs[k]? = some x) (hj : j < s) (hy : f y = (f x).set j u) : (xs.flatMap f).set (k * s + j) u = (xs.set k y).flatMap f := by
  obtain ⟨hk, hx'⟩ := List.getElem?_eq_some_iff.1 hx
  have e : xs = xs.take k ++ (x :: xs.drop (k + 1)) := by
    conv => lhs; rw [← List.take_append_drop k xs, List.drop_eq_getElem_cons hk, hx']
  have l1 : ((xs.take k).flatMap f).length = k * s := by rw [flat_len f hs, List.length_take, Nat.min_eq_left (by omega)]
  have l2 : (xs.take k).length = k := by rw [List.length_take]; omega
  have e2 : xs.set k y = xs.take k ++ (y :: xs.drop (k + 1)) := by
    conv => lhs; rw [e]
    rw [List.set_append_right _ _ (by omega), l2, Nat.sub_self, List.set_cons_zero]
  rw [e2, List.flatMap_append, List.flatMap_cons, hy]
  conv => lhs; rw [e]
  rw [List.flatMap_append, List.flatMap_cons, List.set_append_right _ _ (by omega), l1, Nat.add_sub_cancel_left, List.set_append_left _ _ (by rw [hs]; exact hj)]
theorem flat_same (f : α → List β) {xs : List α} {k : Nat} {x : α} (y : α) (hx : xs[k]? = some x) (hy : f y = f x) : (xs.set k y).flatMap f = xs.flatMap f := by
  obtain ⟨hk, hx'⟩ := List.getElem?_eq_some_iff.1 hx
  have e : xs = xs.take k ++ (x :: xs.drop (k + 1)) := by
    conv => lhs; rw [← List.take_append_drop k xs, List.drop_eq_getElem_cons hk, hx']
  have l2 : (xs.take k).length = k := by rw [List.length_take]; omega
  have e2 : xs.set k y = xs.take k ++ (y :: xs.drop (k + 1)) := by
    conv => lhs; rw [e]
    rw [List.set_append_right _ _ (by omega), l2, Nat.sub_self, List.set_cons_zero]
  rw [e2]
  conv => rhs; rw [e]
  simp only [List.flatMap_append, List.flatMap_cons, hy]
end

/-- A kind of record: its outer cells, its slices, and what they hold. -/
structure Knd (E : Type) where
  vs : E → List Value
  us : E → List Value
  its : E → List (Nat × List Value)
  s0 : Nat
  ns : Nat
  vs_len : ∀ e, (vs e).length = s0
  us_len : ∀ e, (us e).length = ns
  its_len : ∀ e, (its e).length = ns
/-- A row of records of the call's own. -/
def SGrid {E : Type} (K : Knd E) (base hi : Nat) (T Te : TypeId) (s : Nat) (V : Value) (es : List E) (W : World) : Prop :=
  Grid base hi T K.s0 V es.length (rows K.vs es) Te s (es.flatMap K.us) (es.flatMap K.its) W
section
variable {E : Type} {K : Knd E} {base hi : Nat} {T Te : TypeId} {s : Nat} {V : Value} {es : List E} {W W' : World}
theorem SGrid.dep : Dep base hi (SGrid K base hi T Te s V es) := Grid.dep _ _ _ _ _ _ _ _ _ _ _
theorem SGrid.held (h : SGrid K base hi T Te s V es W) (hh : hi ≤ W.heap.size) : Held base hi (SGrid K base hi T Te s V es) W := ⟨hh, h, SGrid.dep⟩
theorem SGrid.turn {es' : List E} (h : Held base hi (SGrid K base hi T Te s V es) W) (hn : SGrid K base hi T Te s V es' W') (ht : Touch base hi W W') : Held base hi (SGrid K base hi T Te s V es') W' := ⟨Nat.le_trans h.le ht.size, hn, SGrid.dep⟩
theorem SGrid.below (h : SGrid K base hi T Te s V es W) (hb : Below W.heap.size W W') : SGrid K base hi T Te s V es W' := Grid.below h hb
/-- One of the slices of a record. -/
theorem SGrid.row (h : SGrid K base hi T Te s V es W) {k j : Nat} {e : E} (hk : es[k]? = some e) {v : Value} {it : Nat × List Value} (hv : (K.us e)[j]? = some v) (hit : (K.its e)[j]? = some it) : W.ownsRow base Te s v it.1 it.2 := by
  have hj : j < K.ns := by rw [← K.us_len e]; exact (List.getElem?_eq_some_iff.1 hv).1
  exact h.inn.own (k * K.ns + j) v it (by rw [flat_at K.us K.us_len hk hj]; exact hv) (by rw [flat_at K.its K.its_len hk hj]; exact hit)
/-- A store into an outer cell. -/
theorem SGrid.store {g n cap k j : Nat} {e e' : E} {u : Value} (h : SGrid K base hi T Te s (.slice (some ⟨g, 0, none⟩) n cap) es W) (hk : es[k]? = some e) (hj : j < K.s0) (hvs : K.vs e' = (K.vs e).set j u) (hus : K.us e' = K.us e) (hits : K.its e' = K.its e) (hne : Te ≠ T) :
    SGrid K base hi T Te s (.slice (some ⟨g, 0, none⟩) n cap) (es.set k e') (W.setCell ⟨g, k * K.s0 + j, none⟩ u) ∧ Touch base hi W (W.setCell ⟨g, k * K.s0 + j, none⟩ u) := by
  have hl : n = es.length := by
    have := h.own
    obtain ⟨A, c, e1⟩ := own_form this
    injection e1
  subst hl
  have ho := h.own
  obtain ⟨h1, h2⟩ := ho.stored (k * K.s0 + j) u
  refine ⟨⟨?_, ?_, h.top⟩, ?_⟩
  · unfold rows at h1 ⊢
    rw [flat_set K.vs K.vs_len e' hk hj hvs] at h1
    rw [List.length_set]
    exact h1
  · have hin := h.inn.kept ho h2 hne
    rw [flat_same K.us e' hk hus, flat_same K.its e' hk hits]
    exact hin
  · refine Touch.of_grown h2 fun q hq => ?_
    exact ⟨(ho.lt q hq).1, h.top q hq⟩
/-- One of the slices is written over. -/
theorem SGrid.mark {k j : Nat} {e e' : E} {v : Value} {it : Nat × List Value} {ys : List Value} (h : SGrid K base hi T Te s V es W) (hk : es[k]? = some e) (hv : (K.us e)[j]? = some v) (hit : (K.its e)[j]? = some it) (hg : W.grownBy W' v.ownBlock) (hn : W'.ownsRow base Te s v it.1 ys)
    (hvs : K.vs e' = K.vs e) (hus : K.us e' = K.us e) (hits : K.its e' = (K.its e).set j (it.1, ys)) (hne : T ≠ Te) : SGrid K base hi T Te s V (es.set k e') W' ∧ Touch base hi W W' := by
  have hj : j < K.ns := by rw [← K.us_len e]; exact (List.getElem?_eq_some_iff.1 hv).1
  have hv2 : (es.flatMap K.us)[k * K.ns + j]? = some v := by rw [flat_at K.us K.us_len hk hj]; exact hv
  have hrow := h.row hk hv hit
  refine ⟨⟨?_, ?_, h.top⟩, h.inn.touch hv2 hg⟩
  · rw [List.length_set]
    have : rows K.vs (es.set k e') = rows K.vs es := flat_same K.vs e' hk hvs
    rw [this]
    exact h.own.kept hg (own_apart_ty h.own hrow hne)
  · rw [flat_same K.us e' hk hus]
    have := h.inn.turn (it := (it.1, ys)) hv2 hg hn
    rw [flat_set K.its K.its_len e' hk hj hits] at this
    exact this
end

/-- Marks, record by record. -/
def markL {E : Type} (wid : E → Nat) (mk : Int → E → E) : Int → List E → List E
  | _, [] => []
  | k, e :: l => mk k e :: markL wid mk (k + (wid e : Nat)) l
def widSum {E : Type} (wid : E → Nat) (es : List E) : Nat := (es.map wid).sum
section
variable {E : Type} (wid : E → Nat) (mk : Int → E → E)
theorem widSum_take {es : List E} {k : Nat} {e : E} (h : es[k]? = some e) : widSum wid (es.take (k + 1)) = widSum wid (es.take k) + wid e := by
  rw [List.take_add_one, h]; simp [widSum]
theorem widSum_le (es : List E) (k : Nat) : widSum wid (es.take k) ≤ widSum wid es := by
  have h : ∀ a b : List E, widSum wid a ≤ widSum wid (a ++ b) := by intro a b; simp [widSum]
  have := h (es.take k) (es.drop k)
  rwa [List.take_append_drop] at this
theorem widSum_at {es : List E} {k : Nat} {e : E} (h : es[k]? = some e) : wid e ≤ widSum wid es := by
  have := widSum_take wid h
  have := widSum_le wid es (k + 1)
  omega
theorem length_markL (es : List E) : ∀ k, (markL wid mk k es).length = es.length := by
  induction es with
  | nil => intro k; rfl
  | cons e l ih => intro k; simp [markL, ih]
theorem markL_app (a b : List E) : ∀ k : Int, markL wid mk k (a ++ b) = markL wid mk k a ++ markL wid mk (k + (widSum wid a : Nat)) b := by
  induction a with
  | nil => intro k; simp [markL, widSum]
  | cons e l ih =>
    intro k
    simp only [List.cons_append, markL, ih]
    congr 3
    simp only [widSum, List.map_cons, List.sum_cons]
    omega
theorem markL_at {es : List E} {j : Nat} {e : E} (h : es[j]? = some e) (k : Int) : (markL wid mk k es)[j]? = some (mk (k + (widSum wid (es.take j) : Nat)) e) := by
  obtain ⟨hj, hx⟩ := List.getElem?_eq_some_iff.1 h
  have e1 : es = es.take j ++ e :: es.drop (j + 1) := by
    conv => lhs; rw [← List.take_append_drop j es, List.drop_eq_getElem_cons hj, hx]
  conv => lhs; rw [e1, markL_app]
  rw [List.getElem?_append_right (by rw [length_markL, List.length_take]; omega), length_markL, List.length_take, Nat.min_eq_left (by omega), Nat.sub_self]
  rfl
theorem markL_cur {es : List E} {k : Nat} {e : E} (h : es[k]? = some e) (k0 : Int) : (markL wid mk k0 (es.take k) ++ es.drop k)[k]? = some e := by
  obtain ⟨hj, hx⟩ := List.getElem?_eq_some_iff.1 h
  have hl : (markL wid mk k0 (es.take k)).length = k := by rw [length_markL, List.length_take]; omega
  rw [List.getElem?_append_right (by omega), hl, Nat.sub_self, List.getElem?_drop]
  simpa using h
theorem markL_next {es : List E} {k : Nat} {e : E} (h : es[k]? = some e) (k0 : Int) {e' : E} (he : e' = mk (k0 + (widSum wid (es.take k) : Nat)) e) : (markL wid mk k0 (es.take k) ++ es.drop k).set k e' = markL wid mk k0 (es.take (k + 1)) ++ es.drop (k + 1) := by
  subst he
  obtain ⟨hj, hx⟩ := List.getElem?_eq_some_iff.1 h
  have hl : (markL wid mk k0 (es.take k)).length = k := by rw [length_markL, List.length_take]; omega
  rw [List.set_append_right _ _ (by omega), hl, Nat.sub_self, List.drop_eq_getElem_cons hj, List.set_cons_zero, List.take_add_one, h]
  show _ = markL wid mk k0 (es.take k ++ [e]) ++ _
  rw [markL_app]
  simp [markL]
end
theorem set_set' {α : Type} (xs : List α) (k : Nat) (a b : α) : (xs.set k a).set k b = xs.set k b := List.set_set ..
theorem get_set' {α : Type} {xs : List α} {k : Nat} {x : α} (h : xs[k]? = some x) (y : α) : (xs.set k y)[k]? = some y := by
  have := (List.getElem?_eq_some_iff.1 h).1
  rw [List.getElem?_set_self this]

/-- The marks as numbers, and as records of two numbers. -/
def runI (k : Int) (n : Nat) : List Int := (List.range n).map fun j : Nat => k + (j : Int)
def run2 (k : Int) (n : Nat) : List R2 := (List.range n).map fun j : Nat => ⟨k + (j : Int) * 2, k + (j : Int) * 2 + 1⟩
theorem runI_len (k : Int) (n : Nat) : (runI k n).length = n := by simp [runI]
theorem run2_len (k : Int) (n : Nat) : (run2 k n).length = n := by simp [run2]
theorem rows_run2 (k : Int) (n : Nat) : rows R2.vs (run2 k n) = marks (.int .i64) k (n * 2) := by
  induction n with
  | zero => simp [run2, marks, rows]
  | succ n ih =>
    have e1 : run2 k (n + 1) = run2 k n ++ [⟨k + (n : Int) * 2, k + (n : Int) * 2 + 1⟩] := by simp [run2, List.range_succ]
    have e2 : marks (Value.int .i64) k ((n + 1) * 2) = marks (Value.int .i64) k (n * 2) ++ [.int .i64 (k + ((n * 2 : Nat) : Int)), .int .i64 (k + ((n * 2 + 1 : Nat) : Int))] := by
      rw [show (n + 1) * 2 = n * 2 + 1 + 1 by omega]
      simp [marks, List.range_succ]
    rw [e1, rows_app, ih, rows_one, e2]
    congr 1
    simp only [R2.vs]
    have h1 : k + (n : Int) * 2 = k + ((n * 2 : Nat) : Int) := by omega
    have h2 : k + (n : Int) * 2 + 1 = k + ((n * 2 + 1 : Nat) : Int) := by omega
    rw [h2, h1]

/-- Records stored one behind the other. -/
theorem put2 {A rest : List Value} {m : Nat} (a b : Value) (hl : A.length = m) (h : 2 ≤ rest.length) : ((A ++ rest).set m a).set (m + 1) b = (A ++ [a, b]) ++ rest.drop 2 := by
  subst hl
  match rest, h with
  | x0 :: x1 :: r, _ => simp
theorem put3 {A rest : List Value} {m : Nat} (a b c : Value) (hl : A.length = m) (h : 3 ≤ rest.length) : (((A ++ rest).set m a).set (m + 1) b).set (m + 2) c = (A ++ [a, b, c]) ++ rest.drop 3 := by
  subst hl
  match rest, h with
  | x0 :: x1 :: x2 :: r, _ => simp
theorem put4 {A rest : List Value} {m : Nat} (a b c d : Value) (hl : A.length = m) (h : 4 ≤ rest.length) : ((((A ++ rest).set m a).set (m + 1) b).set (m + 2) c).set (m + 3) d = (A ++ [a, b, c, d]) ++ rest.drop 4 := by
  subst hl
  match rest, h with
  | x0 :: x1 :: x2 :: x3 :: r, _ => simp
theorem put5 {A rest : List Value} {m : Nat} (a b c d e : Value) (hl : A.length = m) (h : 5 ≤ rest.length) : (((((A ++ rest).set m a).set (m + 1) b).set (m + 2) c).set (m + 3) d).set (m + 4) e = (A ++ [a, b, c, d, e]) ++ rest.drop 5 := by
  subst hl
  match rest, h with
  | x0 :: x1 :: x2 :: x3 :: x4 :: r, _ => simp
section
variable {base g n cap : Nat} {T : TypeId} {A rest : List Value} {m : Nat} {w : World}
theorem own_put2 (h : w.ownsRow base T 2 (.slice (some ⟨g, 0, none⟩) n cap) n (A ++ rest)) (hl : A.length = m) (hr : 2 ≤ rest.length) (a b : Value) :
    ((w.setCell ⟨g, m, none⟩ a).setCell ⟨g, m + 1, none⟩ b).ownsRow base T 2 (.slice (some ⟨g, 0, none⟩) n cap) n ((A ++ [a, b]) ++ rest.drop 2) ∧ w.grownBy ((w.setCell ⟨g, m, none⟩ a).setCell ⟨g, m + 1, none⟩ b) (some g) := by
  rw [← put2 a b hl hr]
  obtain ⟨h1, g1⟩ := h.stored m a
  obtain ⟨h2, g2⟩ := h1.stored (m + 1) b
  exact ⟨h2, g1.trans g2⟩
theorem own_put3 (h : w.ownsRow base T 3 (.slice (some ⟨g, 0, none⟩) n cap) n (A ++ rest)) (hl : A.length = m) (hr : 3 ≤ rest.length) (a b c : Value) :
    (((w.setCell ⟨g, m, none⟩ a).setCell ⟨g, m + 1, none⟩ b).setCell ⟨g, m + 2, none⟩ c).ownsRow base T 3 (.slice (some ⟨g, 0, none⟩) n cap) n ((A ++ [a, b, c]) ++ rest.drop 3) ∧ w.grownBy (((w.setCell ⟨g, m, none⟩ a).setCell ⟨g, m + 1, none⟩ b).setCell ⟨g, m + 2, none⟩ c) (some g) := by
  rw [← put3 a b c hl hr]
  obtain ⟨h1, g1⟩ := h.stored m a
  obtain ⟨h2, g2⟩ := h1.stored (m + 1) b
  obtain ⟨h3, g3⟩ := h2.stored (m + 2) c
  exact ⟨h3, (g1.trans g2).trans g3⟩
theorem own_put4 (h : w.ownsRow base T 4 (.slice (some ⟨g, 0, none⟩) n cap) n (A ++ rest)) (hl : A.length = m) (hr : 4 ≤ rest.length) (a b c d : Value) :
    ((((w.setCell ⟨g, m, none⟩ a).setCell ⟨g, m + 1, none⟩ b).setCell ⟨g, m + 2, none⟩ c).setCell ⟨g, m + 3, none⟩ d).ownsRow base T 4 (.slice (some ⟨g, 0, none⟩) n cap) n ((A ++ [a, b, c, d]) ++ rest.drop 4) ∧ w.grownBy ((((w.setCell ⟨g, m, none⟩ a).setCell ⟨g, m + 1, none⟩ b).setCell ⟨g, m + 2, none⟩ c).setCell ⟨g, m + 3, none⟩ d) (some g) := by
  rw [← put4 a b c d hl hr]
  obtain ⟨h1, g1⟩ := h.stored m a
  obtain ⟨h2, g2⟩ := h1.stored (m + 1) b
  obtain ⟨h3, g3⟩ := h2.stored (m + 2) c
  obtain ⟨h4, g4⟩ := h3.stored (m + 3) d
  exact ⟨h4, ((g1.trans g2).trans g3).trans g4⟩
theorem own_put5 (h : w.ownsRow base T 5 (.slice (some ⟨g, 0, none⟩) n cap) n (A ++ rest)) (hl : A.length = m) (hr : 5 ≤ rest.length) (a b c d e : Value) :
    (((((w.setCell ⟨g, m, none⟩ a).setCell ⟨g, m + 1, none⟩ b).setCell ⟨g, m + 2, none⟩ c).setCell ⟨g, m + 3, none⟩ d).setCell ⟨g, m + 4, none⟩ e).ownsRow base T 5 (.slice (some ⟨g, 0, none⟩) n cap) n ((A ++ [a, b, c, d, e]) ++ rest.drop 5) ∧ w.grownBy (((((w.setCell ⟨g, m, none⟩ a).setCell ⟨g, m + 1, none⟩ b).setCell ⟨g, m + 2, none⟩ c).setCell ⟨g, m + 3, none⟩ d).setCell ⟨g, m + 4, none⟩ e) (some g) := by
  rw [← put5 a b c d e hl hr]
  obtain ⟨h1, g1⟩ := h.stored m a
  obtain ⟨h2, g2⟩ := h1.stored (m + 1) b
  obtain ⟨h3, g3⟩ := h2.stored (m + 2) c
  obtain ⟨h4, g4⟩ := h3.stored (m + 3) d
  obtain ⟨h5, g5⟩ := h4.stored (m + 4) e
  exact ⟨h5, (((g1.trans g2).trans g3).trans g4).trans g5⟩
end
/-- Three blocks laid one behind the other. -/
theorem al3 (w : World) (o1 o2 o3 : Obj) : ∃ w3, Hid (w3 = ((w.alloc o1).alloc o2).alloc o3) ∧ Below w.heap.size w w3 ∧ w3.heap[w.heap.size]? = some o1 ∧ w3.heap[w.heap.size + 1]? = some o2 ∧ w3.heap[w.heap.size + 1 + 1]? = some o3 ∧ w3.heap.size = w.heap.size + 1 + 1 + 1 := by
  refine ⟨_, rfl, (((Below.refl _ _).alloc (Nat.le_refl _) _).alloc (by simp) _).alloc (by simp; omega) _, ?_, ?_, ?_, by simp⟩
  · rw [Below.heap_alloc _ _ _ (by simp; omega), Below.heap_alloc _ _ _ (by simp)]; exact heap_alloc_new w o1
  · have h1 := heap_alloc_new (w.alloc o1) o2
    rw [Below.heap_alloc _ _ _ (by simp)]
    simpa using h1
  · have := heap_alloc_new ((w.alloc o1).alloc o2) o3
    simpa using this
theorem al2 (w : World) (o1 o2 : Obj) : ∃ w2, Hid (w2 = (w.alloc o1).alloc o2) ∧ Below w.heap.size w w2 ∧ w2.heap[w.heap.size]? = some o1 ∧ w2.heap[w.heap.size + 1]? = some o2 := by
  refine ⟨_, rfl, ((Below.refl _ _).alloc (Nat.le_refl _) _).alloc (by simp) _, ?_, ?_⟩
  · rw [Below.heap_alloc _ _ _ (by simp)]; exact heap_alloc_new w o1
  · have h1 := heap_alloc_new (w.alloc o1) o2
    simpa using h1
theorem al1 (w : World) (o1 : Obj) : ∃ w1, Hid (w1 = w.alloc o1) ∧ Below w.heap.size w w1 ∧ w1.heap[w.heap.size]? = some o1 := ⟨_, rfl, laid_below _ _, heap_alloc_new w o1⟩
theorem own_set_low {w : World} {base : Nat} {e : TypeId} {size n : Nat} {v : Value} {xs : List Value} (h : w.ownsRow base e size v n xs) {b o : Nat} (hb : b < base) (u : Value) : (w.setCell ⟨b, o, none⟩ u).ownsRow base e size v n xs := ownsRow_setCell_below h hb u
theorem rest_len {A rest : List Value} {n k s : Nat} (h : (A ++ rest).length = n * s) (hA : A.length = k * s) (hk : k < n) : s ≤ rest.length := by
  rw [List.length_append] at h
  have : (k + 1) * s ≤ n * s := Nat.mul_le_mul_right s hk
  rw [Nat.succ_mul] at this
  omega

theorem Inn.set_low {s lo hi : Nat} {e : TypeId} {vs : List Value} {its : List (Nat × List Value)} {w : World} (h : Inn s e lo hi vs its w) {b o : Nat} (hb : b < lo) (u : Value) : Inn s e lo hi vs its (w.setCell ⟨b, o, none⟩ u) :=
  ⟨h.len, fun j v it h1 h2 => own_set_low (h.own j v it h1 h2) hb u, h.top, h.apart⟩
theorem Inn.lower {s lo lo' hi : Nat} {e : TypeId} {vs : List Value} {its : List (Nat × List Value)} {w : World} (h : Inn s e lo hi vs its w) (hl : lo' ≤ lo) : Inn s e lo' hi vs its w :=
  ⟨h.len, fun j v it h1 h2 => own_base (h.own j v it h1 h2) hl, h.top, h.apart⟩
/-- Two lists of rows, the second made behind the first. -/
theorem Inn.append {s lo mid hi : Nat} {e : TypeId} {vs us : List Value} {its jts : List (Nat × List Value)} {w : World} (h : Inn s e lo mid vs its w) (k : Inn s e mid hi us jts w) (hl : lo ≤ mid) (hh : mid ≤ hi) : Inn s e lo hi (vs ++ us) (its ++ jts) w := by
  have hvl := h.len
  have hul := k.len
  refine ⟨by simp [hvl, hul], fun j v it h1 h2 => ?_, fun j v q h1 h2 => ?_, fun i j v u hij h1 h2 => ?_⟩
  · rcases Nat.lt_or_ge j vs.length with hj | hj
    · rw [List.getElem?_append_left hj] at h1
      rw [List.getElem?_append_left (by omega)] at h2
      exact h.own j v it h1 h2
    · rw [List.getElem?_append_right hj] at h1
      rw [List.getElem?_append_right (by omega), ← hvl] at h2
      exact own_base (k.own _ v it h1 h2) hl
  · rcases Nat.lt_or_ge j vs.length with hj | hj
    · rw [List.getElem?_append_left hj] at h1
      exact Nat.lt_of_lt_of_le (h.top j v q h1 h2) hh
    · rw [List.getElem?_append_right hj] at h1
      exact k.top _ v q h1 h2
  · rcases Nat.lt_or_ge j vs.length with hj | hj
    · rw [List.getElem?_append_left hj] at h2
      rw [List.getElem?_append_left (by omega)] at h1
      exact h.apart i j v u hij h1 h2
    · rw [List.getElem?_append_right hj] at h2
      rcases Nat.lt_or_ge i vs.length with hi1 | hi1
      · rw [List.getElem?_append_left hi1] at h1
        cases hq : v.ownBlock with
        | none => exact .inl rfl
        | some q =>
          refine .inr fun e2 => ?_
          have t1 := h.top i v q h1 hq
          have hj2 : j - vs.length < jts.length := by rw [← hul]; exact (List.getElem?_eq_some_iff.1 h2).1
          have t2 := (k.own _ u _ h2 (List.getElem?_eq_getElem hj2)).lt q e2.symm
          omega
      · rw [List.getElem?_append_right hi1] at h1
        exact k.apart _ _ v u (by omega) h1 h2
theorem SGrid.cell {E : Type} {K : Knd E} {base hi : Nat} {T Te : TypeId} {s g n cap k j : Nat} {es : List E} {e : E} {u : Value} {W : World} (h : SGrid K base hi T Te s (.slice (some ⟨g, 0, none⟩) n cap) es W) (hk : es[k]? = some e) (hj : (K.vs e)[j]? = some u) : W.cell? ⟨g, k * K.s0 + j, none⟩ = some u := by
  have hj2 : j < K.s0 := by rw [← K.vs_len e]; exact (List.getElem?_eq_some_iff.1 hj).1
  have hk2 := (List.getElem?_eq_some_iff.1 hk).1
  have hlt : k * K.s0 + j < es.length * K.s0 := by
    have : (k + 1) * K.s0 ≤ es.length * K.s0 := Nat.mul_le_mul_right _ hk2
    rw [Nat.succ_mul] at this
    omega
  have hl : n = es.length := by
    obtain ⟨A, c, e1⟩ := own_form h.own
    injection e1
  have ho := h.own
  rw [← hl] at ho hlt
  rw [ho.cellAt _ hlt, rows_at K.vs_len hk hj2]
  exact hj
theorem SGrid.thaw {E : Type} {K : Knd E} {base hi : Nat} {T Te : TypeId} {s g n cap : Nat} {es : List E} {W : World} (h : SGrid K base hi T Te s (.slice (some ⟨g, 0, none⟩) n cap) es W) (i : Nat) : W.frozen? ⟨g, i, none⟩ = false := by
  have hl : n = es.length := by
    obtain ⟨A, c, e1⟩ := own_form h.own
    injection e1
  have ho := h.own
  rw [← hl] at ho
  exact ho.frozenAt i
theorem SGrid.addr {E : Type} {K : Knd E} {base hi : Nat} {T Te : TypeId} {s n : Nat} {V : Value} {es : List E} {W : World} (h : SGrid K base hi T Te s V es W) (hn : es.length = n) (h0 : 0 < n) : ∃ g cap, V = .slice (some ⟨g, 0, none⟩) n cap := by
  have ho := h.own
  rw [hn] at ho
  obtain ⟨A, c, rfl⟩ := own_form ho
  obtain ⟨g, rfl, _, _⟩ := own_addr0 ho h0
  exact ⟨g, c, rfl⟩
section
variable {E : Type} {K : Knd E} {base hi : Nat} {T Te : TypeId} {s n c : Nat} {es : List E} {W : World}
theorem SGrid.len {A : Option Addr} (h : SGrid K base hi T Te s (.slice A n c) es W) : n = es.length := by
  obtain ⟨A', c', e1⟩ := own_form h.own
  injection e1
theorem SGrid.argsN {A : Option Addr} (h : SGrid K base hi T Te s (.slice A n c) es W) : Args K.s0 W A n (rows K.vs es) := by
  have ho := h.own
  rw [← h.len] at ho
  exact args_of_own ho
theorem SGrid.slN {g : Nat} (h : SGrid K base hi T Te s (.slice (some ⟨g, 0, none⟩) n c) es W) : Sl W g 0 (rows K.vs es) := by
  have ho := h.own
  rw [← h.len] at ho
  exact sl_of_own ho
end
end Go.Proofs.Ytgcedfpjgdeakaa
