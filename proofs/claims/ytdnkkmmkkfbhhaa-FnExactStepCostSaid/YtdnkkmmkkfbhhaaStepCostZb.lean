/- The law FnExactStepCost returns true for every input, and each argument reads afterwards as before: the proof, part 2. No conditions. -/
import Derived.Test.YtdnkkmmkkfbhhaaStepCostZa
import Derived.StillTailTactics
import Derived.Lib.SlicesCompact
import Derived.Sort.Grow
import Derived.Lib.RowBridge
/- Rows of records that hold slices of the call's own: plain lemmas on worlds, for whatever record. -/
namespace Go.Proofs.Ytdnkkmmkkfbhhaa
open Go.RowKit
set_option linter.all false

section
variable {α β : Type}
theorem flat_len (f : α → List β) {s : Nat} (hs : ∀ x, (f x).length = s) (xs : List α) : (xs.flatMap f).length = xs.length * s := by
  induction xs with
  | nil => simp
  | cons x l ih => rw [List.flatMap_cons, List.length_append, ih, hs, List.length_cons, Nat.succ_mul, Nat.add_comm]
theorem flat_at (f : α → List β) {s : Nat} (hs : ∀ x, (f x).length = s) {xs : List α} {k : Nat} {x : α} (h : xs[k]? = some x) {j : Nat} (hj : j < s) : (xs.flatMap f)[k * s + j]? = (f x)[j]? := by
  obtain ⟨hk, hx⟩ := List.getElem?_eq_some_iff.1 h
  have e : xs = xs.take k ++ (x :: xs.drop (k + 1)) := by
    conv => lhs; rw [← List.take_append_drop k xs, List.drop_eq_getElem_cons hk, hx]
  have l1 : ((xs.take k).flatMap f).length = k * s := by rw [flat_len f hs, List.length_take, Nat.min_eq_left (by omega)]
  conv => lhs; rw [e, List.flatMap_append]
  rw [List.getElem?_append_right (by omega), l1, Nat.add_sub_cancel_left, List.flatMap_cons, List.getElem?_append_left (by rw [hs]; exact hj)]
theorem flat_set (f : α → List β) {s : Nat} (hs : ∀ x, (f x).length = s) {xs : List α} {k : Nat} {x : α} (y : α) {j : Nat} {u : β} (hx : xs[k]? = some x) (hj : j < s) (hy : f y = (f x).set j u) : (xs.flatMap f).set (k * s + j) u = (xs.set k y).flatMap f := by
  obtain ⟨hk, hx'⟩ := List.getElem?_eq_some_iff.1 hx
  have e : xs = xs.take k ++ (x :: xs.drop (k + 1)) := by
    conv => lhs; rw [← List.take_append_drop k xs, List.drop_eq_getElem_cons hk, hx']
  have l1 : ((xs.take k).flatMap f).length = k * s := by rw [flat_len f hs, List.length_take, Nat.min_eq_left (by omega)]
  have l2 : (xs.take k).length = k := by rw [List.length_take]; omega
  have e2 : xs.set k y = xs.take k ++ (y :: xs.drop (k + 1)) := by
    conv => lhs; rw [e]
    rw [List.set_append_right _ _ (by omega), l2, Nat.sub_self, List.set_cons_zero]
  rw [e2, List.flatMap_append, List.flatMap_cons, hy]
  conv => lhs; rw [e]
  rw [List.flatMap_append, List.flatMap_cons, List.set_append_right _ _ (by omega), l1, Nat.add_sub_cancel_left, List.set_append_left _ _ (by rw [hs]; exact hj)]
theorem flat_same (f : α → List β) {xs : List α} {k : Nat} {x : α} (y : α) (hx : xs[k]? = some x) (hy : f y = f x) : (xs.set k y).flatMap f = xs.flatMap f := by
  obtain ⟨hk, hx'⟩ := List.getElem?_eq_some_iff.1 hx
  have e : xs = xs.take k ++ (x :: xs.drop (k + 1)) := by
    conv => lhs; rw [← List.take_append_drop k xs, List.drop_eq_getElem_cons hk, hx']
  have l2 : (xs.take k).length = k := by rw [List.length_take]; omega
  have e2 : xs.set k y = xs.take k ++ (y :: xs.drop (k + 1)) := by
    conv => lhs; rw [e]
    rw [List.set_append_right _ _ (by omega), l2, Nat.sub_self, List.set_cons_zero]
  rw [e2]
  conv => rhs; rw [e]
  simp only [List.flatMap_append, List.flatMap_cons, hy]
end

/-- A kind of record: its outer cells, its slices, and what they hold. -/
structure Knd (E : Type) where
  vs : E → List Value
  us : E → List Value
  its : E → List (Nat × List Value)
  s0 : Nat
  ns : Nat
  vs_len : ∀ e, (vs e).length = s0
  us_len : ∀ e, (us e).length = ns
  its_len : ∀ e, (its e).length = ns
/-- A row of records of the call's own. -/
def SGrid {E : Type} (K : Knd E) (base hi : Nat) (T Te : TypeId) (s : Nat) (V : Value) (es : List E) (W : World) : Prop :=
  Grid base hi T K.s0 V es.length (rows K.vs es) Te s (es.flatMap K.us) (es.flatMap K.its) W
section
variable {E : Type} {K : Knd E} {base hi : Nat} {T Te : TypeId} {s : Nat} {V : Value} {es : List E} {W W' : World}
theorem SGrid.dep : Dep base hi (SGrid K base hi T Te s V es) := Grid.dep _ _ _ _ _ _ _ _ _ _ _
theorem SGrid.held (h : SGrid K base hi T Te s V es W) (hh : hi ≤ W.heap.size) : Held base hi (SGrid K base hi T Te s V es) W := ⟨hh, h, SGrid.dep⟩
theorem SGrid.turn {es' : List E} (h : Held base hi (SGrid K base hi T Te s V es) W) (hn : SGrid K base hi T Te s V es' W') (ht : Touch base hi W W') : Held base hi (SGrid K base hi T Te s V es') W' := ⟨Nat.le_trans h.le ht.size, hn, SGrid.dep⟩
theorem SGrid.below (h : SGrid K base hi T Te s V es W) (hb : Below W.heap.size W W') : SGrid K base hi T Te s V es W' := Grid.below h hb
/-- One of the slices of a record. -/
theorem SGrid.row (h : SGrid K base hi T Te s V es W) {k j : Nat} {e : E} (hk : es[k]? = some e) {v : Value} {it : Nat × List Value} (hv : (K.us e)[j]? = some v) (hit : (K.its e)[j]? = some it) : W.ownsRow base Te s v it.1 it.2 := by
  have hj : j < K.ns := by rw [← K.us_len e]; exact (List.getElem?_eq_some_iff.1 hv).1
  exact h.inn.own (k * K.ns + j) v it (by rw [flat_at K.us K.us_len hk hj]; exact hv) (by rw [flat_at K.its K.its_len hk hj]; exact hit)
/-- A store into an outer cell. -/
theorem SGrid.store {g n cap k j : Nat} {e e' : E} {u : Value} (h : SGrid K base hi T Te s (.slice (some ⟨g, 0, none⟩) n cap) es W) (hk : es[k]? = some e) (hj : j < K.s0) (hvs : K.vs e' = (K.vs e).set j u) (hus : K.us e' = K.us e) (hits : K.its e' = K.its e) (hne : Te ≠ T) :
    SGrid K base hi T Te s (.slice (some ⟨g, 0, none⟩) n cap) (es.set k e') (W.setCell ⟨g, k * K.s0 + j, none⟩ u) ∧ Touch base hi W (W.setCell ⟨g, k * K.s0 + j, none⟩ u) := by
  have hl : n = es.length := by
    have := h.own
    obtain ⟨A, c, e1⟩ := own_form this
    injection e1
  subst hl
  have ho := h.own
  obtain ⟨h1, h2⟩ := ho.stored (k * K.s0 + j) u
  refine ⟨⟨?_, ?_, h.top⟩, ?_⟩
  · unfold rows at h1 ⊢
    rw [flat_set K.vs K.vs_len e' hk hj hvs] at h1
    rw [List.length_set]
    exact h1
  · have hin := h.inn.kept ho h2 hne
    rw [flat_same K.us e' hk hus, flat_same K.its e' hk hits]
    exact hin
  · refine Touch.of_grown h2 fun q hq => ?_
    exact ⟨(ho.lt q hq).1, h.top q hq⟩
/-- One of the slices is written over. -/
theorem SGrid.mark {k j : Nat} {e e' : E} {v : Value} {it : Nat × List Value} {ys : List Value} (h : SGrid K base hi T Te s V es W) (hk : es[k]? = some e) (hv : (K.us e)[j]? = some v) (hit : (K.its e)[j]? = some it) (hg : W.grownBy W' v.ownBlock) (hn : W'.ownsRow base Te s v it.1 ys)
    (hvs : K.vs e' = K.vs e) (hus : K.us e' = K.us e) (hits : K.its e' = (K.its e).set j (it.1, ys)) (hne : T ≠ Te) : SGrid K base hi T Te s V (es.set k e') W' ∧ Touch base hi W W' := by
  have hj : j < K.ns := by rw [← K.us_len e]; exact (List.getElem?_eq_some_iff.1 hv).1
  have hv2 : (es.flatMap K.us)[k * K.ns + j]? = some v := by rw [flat_at K.us K.us_len hk hj]; exact hv
  have hrow := h.row hk hv hit
  refine ⟨⟨?_, ?_, h.top⟩, h.inn.touch hv2 hg⟩
  · rw [List.length_set]
    have : rows K.vs (es.set k e') = rows K.vs es := flat_same K.vs e' hk hvs
    rw [this]
    exact h.own.kept hg (own_apart_ty h.own hrow hne)
  · rw [flat_same K.us e' hk hus]
    have := h.inn.turn (it := (it.1, ys)) hv2 hg hn
    rw [flat_set K.its K.its_len e' hk hj hits] at this
    exact this
end

/-- Marks, record by record. -/
def markL {E : Type} (wid : E → Nat) (mk : Int → E → E) : Int → List E → List E
  | _, [] => []
  | k, e :: l => mk k e :: markL wid mk (k + (wid e : Nat)) l
def widSum {E : Type} (wid : E → Nat) (es : List E) : Nat := (es.map wid).sum
section
variable {E : Type} (wid : E → Nat) (mk : Int → E → E)
theorem widSum_take {es : List E} {k : Nat} {e : E} (h : es[k]? = some e) : widSum wid (es.take (k + 1)) = widSum wid (es.take k) + wid e := by
  rw [List.take_add_one, h]; simp [widSum]
theorem widSum_le (es : List E) (k : Nat) : widSum wid (es.take k) ≤ widSum wid es := by
  have h : ∀ a b : List E, widSum wid a ≤ widSum wid (a ++ b) := by intro a b; simp [widSum]
  have := h (es.take k) (es.drop k)
  rwa [List.take_append_drop] at this
theorem widSum_at {es : List E} {k : Nat} {e : E} (h : es[k]? = some e) : wid e ≤ widSum wid es := by
  have := widSum_take wid h
  have := widSum_le wid es (k + 1)
  omega
theorem length_markL (es : List E) : ∀ k, (markL wid mk k es).length = es.length := by
  induction es with
  | nil => intro k; rfl
  | cons e l ih => intro k; simp [markL, ih]
theorem markL_app (a b : List E) : ∀ k : Int, markL wid mk k (a ++ b) = markL wid mk k a ++ markL wid mk (k + (widSum wid a : Nat)) b := by
  induction a with
  | nil => intro k; simp [markL, widSum]
  | cons e l ih =>
    intro k
    simp only [List.cons_append, markL, ih]
    congr 3
    simp only [widSum, List.map_cons, List.sum_cons]
    omega
theorem markL_at {es : List E} {j : Nat} {e : E} (h : es[j]? = some e) (k : Int) : (markL wid mk k es)[j]? = some (mk (k + (widSum wid (es.take j) : Nat)) e) := by
  obtain ⟨hj, hx⟩ := List.getElem?_eq_some_iff.1 h
  have e1 : es = es.take j ++ e :: es.drop (j + 1) := by
    conv => lhs; rw [← List.take_append_drop j es, List.drop_eq_getElem_cons hj, hx]
  conv => lhs; rw [e1, markL_app]
  rw [List.getElem?_append_right (by rw [length_markL, List.length_take]; omega), length_markL, List.length_take, Nat.min_eq_left (by omega), Nat.sub_self]
  rfl
theorem markL_cur {es : List E} {k : Nat} {e : E} (h : es[k]? = some e) (k0 : Int) : (markL wid mk k0 (es.take k) ++ es.drop k)[k]? = some e := by
  obtain ⟨hj, hx⟩ := List.getElem?_eq_some_iff.1 h
  have hl : (markL wid mk k0 (es.take k)).length = k := by rw [length_markL, List.length_take]; omega
  rw [List.getElem?_append_right (by omega), hl, Nat.sub_self, List.getElem?_drop]
  simpa using h
theorem markL_next {es : List E} {k : Nat} {e : E} (h : es[k]? = some e) (k0 : Int) {e' : E} (he : e' = mk (k0 + (widSum wid (es.take k) : Nat)) e) : (markL wid mk k0 (es.take k) ++ es.drop k).set k e' = markL wid mk k0 (es.take (k + 1)) ++ es.drop (k + 1) := by
  subst he
  obtain ⟨hj, hx⟩ := List.getElem?_eq_some_iff.1 h
  have hl : (markL wid mk k0 (es.take k)).length = k := by rw [length_markL, List.length_take]; omega
  rw [List.set_append_right _ _ (by omega), hl, Nat.sub_self, List.drop_eq_getElem_cons hj, List.set_cons_zero, List.take_add_one, h]
  show _ = markL wid mk k0 (es.take k ++ [e]) ++ _
  rw [markL_app]
  simp [markL]
end
theorem set_set' {α : Type} (xs : List α) (k : Nat) (a b : α) : (xs.set k a).set k b = xs.set k b := List.set_set ..
theorem get_set' {α : Type} {xs : List α} {k : Nat} {x : α} (h : xs[k]? = some x) (y : α) : (xs.set k y)[k]? = some y := by
  have := (List.getElem?_eq_some_iff.1 h).1
  rw [List.getElem?_set_self this]

/-- The marks as numbers, and as records of two numbers. -/
def runI (k : Int) (n : Nat) : List Int := (List.range n).map fun j : Nat => k + (j : Int)
def run2 (k : Int) (n : Nat) : List R2 := (List.range n).map fun j : Nat => ⟨k + (j : Int) * 2, k + (j : Int) * 2 + 1⟩
theorem runI_len (k : Int) (n : Nat) : (runI k n).length = n := by simp [runI]
theorem run2_len (k : Int) (n : Nat) : (run2 k n).length = n := by simp [run2]
theorem rows_run2 (k : Int) (n : Nat) : rows R2.vs (run2 k n) = marks (.int .i64) k (n * 2) := by
  induction n with
  | zero => simp [run2, marks, rows]
  | succ n ih =>
    have e1 : run2 k (n + 1) = run2 k n ++ [⟨k + (n : Int) * 2, k + (n : Int) * 2 + 1⟩] := by simp [run2, List.range_succ]
    have e2 : marks (Value.int .i64) k ((n + 1) * 2) = marks (Value.int .i64) k (n * 2) ++ [.int .i64 (k + ((n * 2 : Nat) : Int)), .int .i64 (k + ((n * 2 + 1 : Nat) : Int))] := by
      rw [show (n + 1) * 2 = n * 2 + 1 + 1 by omega]
      simp [marks, List.range_succ]
    rw [e1, rows_app, ih, rows_one, e2]
    congr 1
    simp only [R2.vs]
    have h1 : k + (n : Int) * 2 = k + ((n * 2 : Nat) : Int) := by omega
    have h2 : k + (n : Int) * 2 + 1 = k + ((n * 2 + 1 : Nat) : Int) := by omega
    rw [h2, h1]

/-- Records stored one behind the other. -/
theorem put2 {A rest : List Value} {m : Nat} (a b : Value) (hl : A.length = m) (h : 2 ≤ rest.length) : ((A ++ rest).set m a).set (m + 1) b = (A ++ [a, b]) ++ rest.drop 2 := by
  subst hl
  match rest, h with
  | x0 :: x1 :: r, _ => simp
theorem put3 {A rest : List Value} {m : Nat} (a b c : Value) (hl : A.length = m) (h : 3 ≤ rest.length) : (((A ++ rest).set m a).set (m + 1) b).set (m + 2) c = (A ++ [a, b, c]) ++ rest.drop 3 := by
  subst hl
  match rest, h with
  | x0 :: x1 :: x2 :: r, _ => simp
theorem put4 {A rest : List Value} {m : Nat} (a b c d : Value) (hl : A.length = m) (h : 4 ≤ rest.length) : ((((A ++ rest).set m a).set (m + 1) b).set (m + 2) c).set (m + 3) d = (A ++ [a, b, c, d]) ++ rest.drop 4 := by
  subst hl
  match rest, h with
  | x0 :: x1 :: x2 :: x3 :: r, _ => simp
theorem put5 {A rest : List Value} {m : Nat} (a b c d e : Value) (hl : A.length = m) (h : 5 ≤ rest.length) : (((((A ++ rest).set m a).set (m + 1) b).set (m + 2) c).set (m + 3) d).set (m + 4) e = (A ++ [a, b, c, d, e]) ++ rest.drop 5 := by
  subst hl
  match rest, h with
  | x0 :: x1 :: x2 :: x3 :: x4 :: r, _ => simp
section
variable {base g n cap : Nat} {T : TypeId} {A rest : List Value} {m : Nat} {w : World}
theorem own_put2 (h : w.ownsRow base T 2 (.slice (some ⟨g, 0, none⟩) n cap) n (A ++ rest)) (hl : A.length = m) (hr : 2 ≤ rest.length) (a b : Value) :
    ((w.setCell ⟨g, m, none⟩ a).setCell ⟨g, m + 1, none⟩ b).ownsRow base T 2 (.slice (some ⟨g, 0, none⟩) n cap) n ((A ++ [a, b]) ++ rest.drop 2) ∧ w.grownBy ((w.setCell ⟨g, m, none⟩ a).setCell ⟨g, m + 1, none⟩ b) (some g) := by
  rw [← put2 a b hl hr]
  obtain ⟨h1, g1⟩ := h.stored m a
  obtain ⟨h2, g2⟩ := h1.stored (m + 1) b
  exact ⟨h2, g1.trans g2⟩
theorem own_put3 (h : w.ownsRow base T 3 (.slice (some ⟨g, 0, none⟩) n cap) n (A ++ rest)) (hl : A.length = m) (hr : 3 ≤ rest.length) (a b c : Value) :
    (((w.setCell ⟨g, m, none⟩ a).setCell ⟨g, m + 1, none⟩ b).setCell ⟨g, m + 2, none⟩ c).ownsRow base T 3 (.slice (some ⟨g, 0, none⟩) n cap) n ((A ++ [a, b, c]) ++ rest.drop 3) ∧ w.grownBy (((w.setCell ⟨g, m, none⟩ a).setCell ⟨g, m + 1, none⟩ b).setCell ⟨g, m + 2, none⟩ c) (some g) := by
  rw [← put3 a b c hl hr]
  obtain ⟨h1, g1⟩ := h.stored m a
  obtain ⟨h2, g2⟩ := h1.stored (m + 1) b
  obtain ⟨h3, g3⟩ := h2.stored (m + 2) c
  exact ⟨h3, (g1.trans g2).trans g3⟩
theorem own_put4 (h : w.ownsRow base T 4 (.slice (some ⟨g, 0, none⟩) n cap) n (A ++ rest)) (hl : A.length = m) (hr : 4 ≤ rest.length) (a b c d : Value) :
    ((((w.setCell ⟨g, m, none⟩ a).setCell ⟨g, m + 1, none⟩ b).setCell ⟨g, m + 2, none⟩ c).setCell ⟨g, m + 3, none⟩ d).ownsRow base T 4 (.slice (some ⟨g, 0, none⟩) n cap) n ((A ++ [a, b, c, d]) ++ rest.drop 4) ∧ w.grownBy ((((w.setCell ⟨g, m, none⟩ a).setCell ⟨g, m + 1, none⟩ b).setCell ⟨g, m + 2, none⟩ c).setCell ⟨g, m + 3, none⟩ d) (some g) := by
  rw [← put4 a b c d hl hr]
  obtain ⟨h1, g1⟩ := h.stored m a
  obtain ⟨h2, g2⟩ := h1.stored (m + 1) b
  obtain ⟨h3, g3⟩ := h2.stored (m + 2) c
  obtain ⟨h4, g4⟩ := h3.stored (m + 3) d
  exact ⟨h4, ((g1.trans g2).trans g3).trans g4⟩
theorem own_put5 (h : w.ownsRow base T 5 (.slice (some ⟨g, 0, none⟩) n cap) n (A ++ rest)) (hl : A.length = m) (hr : 5 ≤ rest.length) (a b c d e : Value) :
    (((((w.setCell ⟨g, m, none⟩ a).setCell ⟨g, m + 1, none⟩ b).setCell ⟨g, m + 2, none⟩ c).setCell ⟨g, m + 3, none⟩ d).setCell ⟨g, m + 4, none⟩ e).ownsRow base T 5 (.slice (some ⟨g, 0, none⟩) n cap) n ((A ++ [a, b, c, d, e]) ++ rest.drop 5) ∧ w.grownBy (((((w.setCell ⟨g, m, none⟩ a).setCell ⟨g, m + 1, none⟩ b).setCell ⟨g, m + 2, none⟩ c).setCell ⟨g, m + 3, none⟩ d).setCell ⟨g, m + 4, none⟩ e) (some g) := by
  rw [← put5 a b c d e hl hr]
  obtain ⟨h1, g1⟩ := h.stored m a
  obtain ⟨h2, g2⟩ := h1.stored (m + 1) b
  obtain ⟨h3, g3⟩ := h2.stored (m + 2) c
  obtain ⟨h4, g4⟩ := h3.stored (m + 3) d
  obtain ⟨h5, g5⟩ := h4.stored (m + 4) e
  exact ⟨h5, (((g1.trans g2).trans g3).trans g4).trans g5⟩
end
/-- Three blocks laid one behind the other. -/
theorem al3 (w : World) (o1 o2 o3 : Obj) : ∃ w3, Hid (w3 = ((w.alloc o1).alloc o2).alloc o3) ∧ Below w.heap.size w w3 ∧ w3.heap[w.heap.size]? = some o1 ∧ w3.heap[w.heap.size + 1]? = some o2 ∧ w3.heap[w.heap.size + 1 + 1]? = some o3 ∧ w3.heap.size = w.heap.size + 1 + 1 + 1 := by
  refine ⟨_, rfl, (((Below.refl _ _).alloc (Nat.le_refl _) _).alloc (by simp) _).alloc (by simp; omega) _, ?_, ?_, ?_, by simp⟩
  · rw [Below.heap_alloc _ _ _ (by simp; omega), Below.heap_alloc _ _ _ (by simp)]; exact heap_alloc_new w o1
  · have h1 := heap_alloc_new (w.alloc o1) o2
    rw [Below.heap_alloc _ _ _ (by simp)]
    simpa using h1
  · have := heap_alloc_new ((w.alloc o1).alloc o2) o3
    simpa using this
theorem al2 (w : World) (o1 o2 : Obj) : ∃ w2, Hid (w2 = (w.alloc o1).alloc o2) ∧ Below w.heap.size w w2 ∧ w2.heap[w.heap.size]? = some o1 ∧ w2.heap[w.heap.size + 1]? = some o2 := by
  refine ⟨_, rfl, ((Below.refl _ _).alloc (Nat.le_refl _) _).alloc (by simp) _, ?_, ?_⟩
  · rw [Below.heap_alloc _ _ _ (by simp)]; exact heap_alloc_new w o1
  · have h1 := heap_alloc_new (w.alloc o1) o2
    simpa using h1
theorem al1 (w : World) (o1 : Obj) : ∃ w1, Hid (w1 = w.alloc o1) ∧ Below w.heap.size w w1 ∧ w1.heap[w.heap.size]? = some o1 := ⟨_, rfl, laid_below _ _, heap_alloc_new w o1⟩
theorem own_set_low {w : World} {base : Nat} {e : TypeId} {size n : Nat} {v : Value} {xs : List Value} (h : w.ownsRow base e size v n xs) {b o : Nat} (hb : b < base) (u : Value) : (w.setCell ⟨b, o, none⟩ u).ownsRow base e size v n xs := ownsRow_setCell_below h hb u
theorem rest_len {A rest : List Value} {n k s : Nat} (h : (A ++ rest).length = n * s) (hA : A.length = k * s) (hk : k < n) : s ≤ rest.length := by
  rw [List.length_append] at h
  have : (k + 1) * s ≤ n * s := Nat.mul_le_mul_right s hk
  rw [Nat.succ_mul] at this
  omega

theorem Inn.set_low {s lo hi : Nat} {e : TypeId} {vs : List Value} {its : List (Nat × List Value)} {w : World} (h : Inn s e lo hi vs its w) {b o : Nat} (hb : b < lo) (u : Value) : Inn s e lo hi vs its (w.setCell ⟨b, o, none⟩ u) :=
  ⟨h.len, fun j v it h1 h2 => own_set_low (h.own j v it h1 h2) hb u, h.top, h.apart⟩
theorem Inn.lower {s lo lo' hi : Nat} {e : TypeId} {vs : List Value} {its : List (Nat × List Value)} {w : World} (h : Inn s e lo hi vs its w) (hl : lo' ≤ lo) : Inn s e lo' hi vs its w :=
  ⟨h.len, fun j v it h1 h2 => own_base (h.own j v it h1 h2) hl, h.top, h.apart⟩
/-- Two lists of rows, the second made behind the first. -/
theorem Inn.append {s lo mid hi : Nat} {e : TypeId} {vs us : List Value} {its jts : List (Nat × List Value)} {w : World} (h : Inn s e lo mid vs its w) (k : Inn s e mid hi us jts w) (hl : lo ≤ mid) (hh : mid ≤ hi) : Inn s e lo hi (vs ++ us) (its ++ jts) w := by
  have hvl := h.len
  have hul := k.len
  refine ⟨by simp [hvl, hul], fun j v it h1 h2 => ?_, fun j v q h1 h2 => ?_, fun i j v u hij h1 h2 => ?_⟩
  · rcases Nat.lt_or_ge j vs.length with hj | hj
    · rw [List.getElem?_append_left hj] at h1
      rw [List.getElem?_append_left (by omega)] at h2
      exact h.own j v it h1 h2
    · rw [List.getElem?_append_right hj] at h1
      rw [List.getElem?_append_right (by omega), ← hvl] at h2
      exact own_base (k.own _ v it h1 h2) hl
  · rcases Nat.lt_or_ge j vs.length with hj | hj
    · rw [List.getElem?_append_left hj] at h1
      exact Nat.lt_of_lt_of_le (h.top j v q h1 h2) hh
    · rw [List.getElem?_append_right hj] at h1
      exact k.top _ v q h1 h2
  · rcases Nat.lt_or_ge j vs.length with hj | hj
    · rw [List.getElem?_append_left hj] at h2
      rw [List.getElem?_append_left (by omega)] at h1
      exact h.apart i j v u hij h1 h2
    · rw [List.getElem?_append_right hj] at h2
      rcases Nat.lt_or_ge i vs.length with hi1 | hi1
      · rw [List.getElem?_append_left hi1] at h1
        cases hq : v.ownBlock with
        | none => exact .inl rfl
        | some q =>
          refine .inr fun e2 => ?_
          have t1 := h.top i v q h1 hq
          have hj2 : j - vs.length < jts.length := by rw [← hul]; exact (List.getElem?_eq_some_iff.1 h2).1
          have t2 := (k.own _ u _ h2 (List.getElem?_eq_getElem hj2)).lt q e2.symm
          omega
      · rw [List.getElem?_append_right hi1] at h1
        exact k.apart _ _ v u (by omega) h1 h2
theorem SGrid.cell {E : Type} {K : Knd E} {base hi : Nat} {T Te : TypeId} {s g n cap k j : Nat} {es : List E} {e : E} {u : Value} {W : World} (h : SGrid K base hi T Te s (.slice (some ⟨g, 0, none⟩) n cap) es W) (hk : es[k]? = some e) (hj : (K.vs e)[j]? = some u) : W.cell? ⟨g, k * K.s0 + j, none⟩ = some u := by
  have hj2 : j < K.s0 := by rw [← K.vs_len e]; exact (List.getElem?_eq_some_iff.1 hj).1
  have hk2 := (List.getElem?_eq_some_iff.1 hk).1
  have hlt : k * K.s0 + j < es.length * K.s0 := by
    have : (k + 1) * K.s0 ≤ es.length * K.s0 := Nat.mul_le_mul_right _ hk2
    rw [Nat.succ_mul] at this
    omega
  have hl : n = es.length := by
    obtain ⟨A, c, e1⟩ := own_form h.own
    injection e1
  have ho := h.own
  rw [← hl] at ho hlt
  rw [ho.cellAt _ hlt, rows_at K.vs_len hk hj2]
  exact hj
theorem SGrid.thaw {E : Type} {K : Knd E} {base hi : Nat} {T Te : TypeId} {s g n cap : Nat} {es : List E} {W : World} (h : SGrid K base hi T Te s (.slice (some ⟨g, 0, none⟩) n cap) es W) (i : Nat) : W.frozen? ⟨g, i, none⟩ = false := by
  have hl : n = es.length := by
    obtain ⟨A, c, e1⟩ := own_form h.own
    injection e1
  have ho := h.own
  rw [← hl] at ho
  exact ho.frozenAt i
theorem SGrid.addr {E : Type} {K : Knd E} {base hi : Nat} {T Te : TypeId} {s n : Nat} {V : Value} {es : List E} {W : World} (h : SGrid K base hi T Te s V es W) (hn : es.length = n) (h0 : 0 < n) : ∃ g cap, V = .slice (some ⟨g, 0, none⟩) n cap := by
  have ho := h.own
  rw [hn] at ho
  obtain ⟨A, c, rfl⟩ := own_form ho
  obtain ⟨g, rfl, _, _⟩ := own_addr0 ho h0
  exact ⟨g, c, rfl⟩
section
variable {E : Type} {K : Knd E} {base hi : Nat} {T Te : TypeId} {s n c : Nat} {es : List E} {W : World}
theorem SGrid.len {A : Option Addr} (h : SGrid K base hi T Te s (.slice A n c) es W) : n = es.length := by
  obtain ⟨A', c', e1⟩ := own_form h.own
  injection e1
theorem SGrid.argsN {A : Option Addr} (h : SGrid K base hi T Te s (.slice A n c) es W) : Args K.s0 W A n (rows K.vs es) := by
  have ho := h.own
  rw [← h.len] at ho
  exact args_of_own ho
theorem SGrid.slN {g : Nat} (h : SGrid K base hi T Te s (.slice (some ⟨g, 0, none⟩) n c) es W) : Sl W g 0 (rows K.vs es) := by
  have ho := h.own
  rw [← h.len] at ho
  exact sl_of_own ho
end
end Go.Proofs.Ytdnkkmmkkfbhhaa

/- Words for library functions on rows: the first place where a test holds; a function value that can be entered; an empty row; a row in which one record turns. Plain lemmas. -/
namespace Go.Proofs.Ytdnkkmmkkfbhhaa
open Go.RowKit
set_option linter.all false

theorem cell_step {w w1 : World} {b o : Nat} {u : Value} (h : w.cell? ⟨b, o, none⟩ = some u) (hb : Below w.heap.size w w1) : w1.cell? ⟨b, o, none⟩ = some u :=
  (hb.cell (p := ⟨b, o, none⟩) (World.block_lt_of_cell? w _ h)).trans h
theorem alloc2 {wr w1 : World} {x y : Value} {t : TypeId} (h : wr.alloc (.cells #[x, y] t) = w1) :
    w1.cell? ⟨wr.heap.size, 0, none⟩ = some x ∧ w1.cell? ⟨wr.heap.size, 1, none⟩ = some y ∧ Below wr.heap.size wr w1 := by
  subst h
  exact ⟨by simp [go_sem], by simp [go_sem], laid_below _ _⟩
theorem alloc3 {wr w1 : World} {x y z : Value} {t : TypeId} (h : wr.alloc (.cells #[x, y, z] t) = w1) :
    w1.cell? ⟨wr.heap.size, 0, none⟩ = some x ∧ w1.cell? ⟨wr.heap.size, 1, none⟩ = some y ∧ w1.cell? ⟨wr.heap.size, 2, none⟩ = some z ∧ Below wr.heap.size wr w1 := by
  subst h
  exact ⟨by simp [go_sem], by simp [go_sem], by simp [go_sem], laid_below _ _⟩
theorem alloc4 {wr w1 : World} {x y z u : Value} {t : TypeId} (h : wr.alloc (.cells #[x, y, z, u] t) = w1) :
    w1.cell? ⟨wr.heap.size, 0, none⟩ = some x ∧ w1.cell? ⟨wr.heap.size, 1, none⟩ = some y ∧ w1.cell? ⟨wr.heap.size, 2, none⟩ = some z ∧ w1.cell? ⟨wr.heap.size, 3, none⟩ = some u ∧ Below wr.heap.size wr w1 := by
  subst h
  exact ⟨by simp [go_sem], by simp [go_sem], by simp [go_sem], by simp [go_sem], laid_below _ _⟩
theorem drop_at {α : Type} {xs : List α} {k : Nat} {x : α} (h : xs[k]? = some x) : xs.drop k = x :: xs.drop (k + 1) := by
  obtain ⟨hk, hx⟩ := List.getElem?_eq_some_iff.1 h
  rw [List.drop_eq_getElem_cons hk, hx]
theorem below_of_drew {B : Nat} {w w' : World} (h : Below B w.drew w') : Below B w w' := ⟨h.os, h.tape, h.output, h.size, h.block⟩
theorem below_drew_at {w w' : World} (h : Below w.drew.heap.size w.drew w') : Below w.heap.size w w' := ⟨h.os, h.tape, h.output, h.size, h.block⟩
theorem below_of_drewN {B n : Nat} {w w' : World} (h : Below B (w.drewN n) w') : Below B w w' := ⟨h.os, h.tape, h.output, h.size, h.block⟩

/-- A function that can be entered. -/
theorem enters_of' {P : Program} {f : FuncId} {fn : Func} {c : Code} (hf : P.funcs[f]? = some fn) (hname : (fn.name == "runtime.NumGoroutine") = false) (hb : fn.body = some c) (args : Array Value) (W : World) : (callFunc f args).run P W = .ok (.enter f args) W := by
  have h1 : fn.name ≠ "runtime.NumGoroutine" := by simpa using hname
  simp [callFunc, hf, h1, hb, mark]

/-- 's == nil' at a slice. -/
theorem run_nil_some {P : Program} {t e : TypeId} (ht : P.underlying t = some (.slice e)) (a : Addr) (n c : Nat) (w : World) : (binOp .eql t (.slice (some a) n c) (.slice none 0 0)).run P w = .ok (.bool false) w := by
  have h : ∀ d : Nat, (Op.equalIn (d + 1) t (.slice (some a) n c) (.slice none 0 0)).run P w = .ok false w := fun d => by simp [Op.equalIn, run_underlying ht]
  simp only [binOp]
  simp [Op.equal, Op.maxDepth, h 9999]
theorem run_nil_none {P : Program} {t e : TypeId} (ht : P.underlying t = some (.slice e)) (w : World) : (binOp .eql t (.slice none 0 0) (.slice none 0 0)).run P w = .ok (.bool true) w := by
  have h : ∀ d : Nat, (Op.equalIn (d + 1) t (.slice none 0 0) (.slice none 0 0)).run P w = .ok true w := fun d => by simp [Op.equalIn, run_underlying ht]
  simp only [binOp]
  simp [Op.equal, Op.maxDepth, h 9999]

/-- The first place where p holds, or -1. -/
def findI {α : Type} (p : α → Bool) (xs : List α) : Int := match xs.findIdx? p with | some k => k | none => -1
theorem findI_none {α : Type} {p : α → Bool} {xs : List α} (h : ∀ (j : Nat) x, xs[j]? = some x → p x = false) : findI p xs = -1 := by
  have : xs.findIdx? p = none := by
    rw [List.findIdx?_eq_none_iff]
    intro x hx
    obtain ⟨j, hj⟩ := List.getElem?_of_mem hx
    exact h j x hj
  simp [findI, this]
theorem findI_some {α : Type} {p : α → Bool} {xs : List α} {k : Nat} {x : α} (h : ∀ j y, j < k → xs[j]? = some y → p y = false) (hx : xs[k]? = some x) (hp : p x = true) : findI p xs = k := by
  have : xs.findIdx? p = some k := by
    obtain ⟨hk, e⟩ := List.getElem?_eq_some_iff.1 hx
    rw [List.findIdx?_eq_some_iff_getElem]
    refine ⟨hk, by rw [e]; exact hp, fun j hj => ?_⟩
    rw [h j _ hj (List.getElem?_eq_getElem (by omega))]
    simp
  simp [findI, this]
theorem findI_any {α : Type} (p : α → Bool) (xs : List α) : decide (0 ≤ findI p xs) = xs.any p := by
  unfold findI
  cases h : xs.findIdx? p with
  | none =>
    rw [List.findIdx?_eq_none_iff] at h
    have : xs.any p = false := by rw [List.any_eq_false]; intro x hx; simp [h x hx]
    rw [this]; rfl
  | some k =>
    rw [List.findIdx?_eq_some_iff_getElem] at h
    obtain ⟨hk, hp, _⟩ := h
    have : xs.any p = true := List.any_eq_true.2 ⟨_, List.getElem_mem hk, hp⟩
    rw [this]; simp

theorem own_empty (w : World) (e : TypeId) (s : Nat) : (w.alloc (.cells #[] e)).ownsRow w.heap.size e s (.slice (some ⟨w.heap.size, 0, none⟩) 0 0) 0 [] :=
  ⟨by simp, .inr ⟨w.heap.size, 0, #[], rfl, Nat.le_refl _, heap_alloc_new _ _, Nat.le_refl _, Nat.zero_le _, by simp, by simp⟩⟩
/-- A row that was just laid. -/
theorem own_laid (w : World) (e : TypeId) (s n : Nat) (cs : Array Value) (h : cs.size = n * s) (hm : n ≤ maxLen) : (w.alloc (.cells cs e)).ownsRow w.heap.size e s (.slice (some ⟨w.heap.size, 0, none⟩) n n) n cs.toList :=
  ⟨by simp [h], .inr ⟨w.heap.size, n, cs, rfl, Nat.le_refl _, heap_alloc_new _ _, Nat.le_refl _, hm, h, by rw [List.take_of_length_le (by simp [h])]⟩⟩
theorem Src.args {s n c : Nat} {w : World} {A : Option Addr} {xs : List Value} (h : Src s w (.slice A n c) n xs) : Args s w A n xs := by
  refine ⟨h.1, ?_⟩
  rcases h.2 with ⟨_, h0⟩ | ⟨b, off, c', hv, hs⟩
  · exact .inl h0
  · injection hv with h1 h2 h3; exact .inr ⟨b, off, h1, hs⟩
/-- Which part it is, as a source. -/
theorem src_part {α : Type} {f : α → List Value} {s : Nat} (hs : ∀ x, (f x).length = s) {w : World} {b off o' : Nat} {xs : List α} (h : Sl w b off (rows f xs)) (i m c : Nat) (ho : m = 0 ∨ o' = off + i * s) (hl : i + m ≤ xs.length) : Src s w (.slice (some ⟨b, o', none⟩) m c) m (rows f ((xs.drop i).take m)) := by
  have hlen : (rows f ((xs.drop i).take m)).length = m * s := by rw [rows_len hs, List.length_take, List.length_drop, Nat.min_eq_left (by omega)]
  rcases ho with h0 | rfl
  · subst h0
    refine ⟨hlen, .inr ⟨b, o', c, rfl, h.1, ?_⟩⟩
    intro j u hu
    simp [rows] at hu
  · exact Src.of_sl (h.part hs i m) hlen
/-- One cell of one record turns. -/
theorem rows_set {α : Type} {f : α → List Value} {s : Nat} (hs : ∀ x, (f x).length = s) {xs : List α} {k : Nat} {x : α} (y : α) {j : Nat} {u : Value} (hx : xs[k]? = some x) (hj : j < s) (hy : f y = (f x).set j u) : (rows f xs).set (k * s + j) u = rows f (xs.set k y) := by
  obtain ⟨hk, e⟩ := List.getElem?_eq_some_iff.1 hx
  have l1 : (rows f (xs.take k)).length = k * s := by rw [rows_len hs, List.length_take, Nat.min_eq_left (by omega)]
  have e1 : rows f xs = rows f (xs.take k) ++ (f x ++ rows f (xs.drop (k + 1))) := by
    conv => lhs; rw [← List.take_append_drop k xs, List.drop_eq_getElem_cons hk, e]
    simp [rows]
  have e2 : xs.set k y = xs.take k ++ y :: xs.drop (k + 1) := List.set_eq_take_append_cons_drop.trans (by rw [if_pos hk])
  rw [e1, e2, List.set_append_right _ _ (by omega), l1, Nat.add_sub_cancel_left, List.set_append_left _ _ (by rw [hs]; exact hj), ← hy]
  simp [rows]
section
variable {P : Program} {w : World}
theorem step_appx {ops : Array Oper} {o : Oper} {a : Act} {K : Act → World → Prop} {Q : Exit → Act → World → Prop} {E : Prop} (hgd : o.guard = none) (s x : Operand) (t : TypeId)
    (ho : o.op = .call { callee := .builtin .append, args := #[s, x], argTypes := #[t, t] })
    {e : TypeId} {z : Value} {size bytes : Nat} (ht : P.underlying t = some (.slice e)) (hinfo : (P.info? e).map (fun i => (i.zero, i.size, i.bytes)) = some (some z, size, bytes)) (hzs : z.cells.size = size) (hsz : 0 < size)
    (base : Nat) {v : Value} {n : Nat} {xs : List Value} (hown : w.ownsRow base e size v n xs) (hbase : base ≤ w.heap.size) (hs : a.eval s = v)
    {u : Value} {m : Nat} {ys : List Value} (hsrc : Src size w u m ys) (hx : a.eval x = u) (h1 : ∀ u ∈ ys, u.oneCell' = true) (h63 : n + m ≤ maxLen) (hbytes : (n + m) * bytes ≤ 140737488355328)
    (h : ∀ v' w', w'.ownsRow base e size v' (n + m) (xs ++ ys) → w.grownBy w' v.ownBlock → (v' = .slice none 0 0 → v = .slice none 0 0 ∧ m = 0) → K (a.put o.dst v') w') :
    if Region.wanted o (yielded ops a.tmps) = true then Oper.wp P o a w K Q else E := by
  have hw : Region.wanted o (yielded ops a.tmps) = true := by simp [Region.wanted, hgd]
  rw [if_pos hw]
  exact wp_appx s x t ho ht hinfo hzs hsz base hown hbase hs hsrc hx h1 h63 hbytes h
end
end Go.Proofs.Ytdnkkmmkkfbhhaa

/- Valid machines, on both sides. -/
namespace Go.Proofs.Ytdnkkmmkkfbhhaa
open Go.RowKit
set_option linter.all false

theorem guardRule (op : BinOp) (a b : Operand) (xs ys : Array Value) (w : World) : Sem.run Try.prog (eqGuard op 59 a b (.agg xs) (.agg ys)) w = .ok () w := run_eqGuard_agg w op 59 a b xs ys (by kernel_rfl)
theorem eqRule_run (x : R3) (r : Bool) (h : noR x = r) (w : World) : Sem.run Try.prog (binOp .eql 59 (.agg #[.int .i64 x.a, .int .i64 x.b, .int .i64 x.c]) (.agg #[.int .i64 0, .int .i64 0, .int .i64 (-1)])) w = .ok (.bool r) w := by
  subst h
  have u3 := Try.underlying2
  have a3 := Try.isAgg2
  have z3 := Try.sizeOf2
  have hS : Try.prog.underlying 59 = some (.struct (Try.prog.fieldsOf 59)) := by kernel_rfl
  have hp : Try.prog.stoodInHeld 59 = false := by kernel_rfl
  rw [run_eql_struct, show (10000 : Nat) = 9999 + 1 from rfl, run_equalIn_agg w 9999 59 _ _ hS hp]
  simp only [Program.fieldsOf, Try.underlying59]
  go_simp
  unfold noR
  by_cases h1 : x.a = 0 <;> by_cases h2 : x.b = 0 <;> by_cases h3 : x.c = -1 <;> simp [h1, h2, h3]
theorem neRule_run (x : R3) (r : Bool) (h : (!noR x) = r) (w : World) : Sem.run Try.prog (binOp .neq 59 (.agg #[.int .i64 x.a, .int .i64 x.b, .int .i64 x.c]) (.agg #[.int .i64 0, .int .i64 0, .int .i64 (-1)])) w = .ok (.bool r) w := by
  subst h
  have u3 := Try.underlying2
  have a3 := Try.isAgg2
  have z3 := Try.sizeOf2
  have hS : Try.prog.underlying 59 = some (.struct (Try.prog.fieldsOf 59)) := by kernel_rfl
  have hp : Try.prog.stoodInHeld 59 = false := by kernel_rfl
  rw [run_neq_struct, show (10000 : Nat) = 9999 + 1 from rfl, run_equalIn_agg w 9999 59 _ _ hS hp]
  simp only [Program.fieldsOf, Try.underlying59]
  go_simp
  unfold noR
  by_cases h1 : x.a = 0 <;> by_cases h2 : x.b = 0 <;> by_cases h3 : x.c = -1 <;> simp [h1, h2, h3]

theorem l05None_any (w : World) : Calls Try.prog 32 #[] w fun e w' => e = .returned (.agg #[.int .i64 0, .int .i64 0, .int .i64 (-1)]) ∧ Below w.heap.size w w' := by
  have B := laid_below w (.cells #[.int .i64 0, .int .i64 0, .int .i64 (-1)] 59)
  go_enter Try.func32, Try.ntmps32
  go_wp2_with fail
  refine bodyPost_ret (v := .agg #[.int .i64 0, .int .i64 0, .int .i64 (-1)]) (by simp [results, Try.results32, go_sem]) rfl ?_
  exact ⟨rfl, B⟩
theorem noRule_any (w : World) : Calls Try.prog 58 #[] w fun e w' => e = .returned (.agg #[.int .i64 0, .int .i64 0, .int .i64 (-1)]) ∧ Below w.heap.size w w' := by
  have B := laid_below w (.cells #[.int .i64 0, .int .i64 0, .int .i64 (-1)] 59)
  go_enter Try.func58, Try.ntmps58
  go_wp2_with fail
  refine bodyPost_ret (v := .agg #[.int .i64 0, .int .i64 0, .int .i64 (-1)]) (by simp [results, Try.results58, go_sem]) rfl ?_
  exact ⟨rfl, B⟩
theorem ruleB_parts {S Q : Int} {x : R3} {v va v1 v2 vc : Bool} (hv : ruleB S Q x = v) (h0 : noR x = false) (ha : inB x.a 0 (S - 1) = va) (h1 : (x.b == 1) = v1) (h2 : (x.b == -1) = v2) (hc : inB x.c 0 (Q - 1) = vc) : ((va && (v1 || v2)) && vc) = v := by
  rw [← hv, ruleB, h0, Bool.false_or, ha, hc, ← h1, ← h2]; rfl

set_option maxRecDepth 100000 in
set_option maxHeartbeats 1000000 in
theorem l05Rule_is (x : R3) (S Q : Int) (v : Bool) (hv : ruleB S Q x = v) (w : World) (hS : 0 ≤ S ∧ S ≤ 1000) (hQ : 0 ≤ Q ∧ Q ≤ 1000) :
    Calls Try.prog 27 #[.agg #[.int .i64 x.a, .int .i64 x.b, .int .i64 x.c], .int .i64 S, .int .i64 Q] w fun e w' => e = .returned (.bool v) ∧ Below w.heap.size w w' := by
  obtain ⟨w1, HW1, B1, x1⟩ := al1 w (.cells #[.int .i64 x.a, .int .i64 x.b, .int .i64 x.c] 59)
  have l0 : w1.cell? ⟨w.heap.size, 0, none⟩ = some (.int .i64 x.a) := by rw [cell_of_heap x1]; rfl
  have l1 : w1.cell? ⟨w.heap.size, 1, none⟩ = some (.int .i64 x.b) := by rw [cell_of_heap x1]; rfl
  have l2 : w1.cell? ⟨w.heap.size, 2, none⟩ = some (.int .i64 x.c) := by rw [cell_of_heap x1]; rfl
  have ws : IntKind.i64.wrap (S - 1) = S - 1 := IntWalk.i64_in _ (by omega)
  have wq : IntKind.i64.wrap (Q - 1) = Q - 1 := IntWalk.i64_in _ (by omega)
  have hgd := guardRule
  clear x1
  rcases Bool.eq_false_or_eq_true (noR x) with h0 | h0
  · have HF : Hid (v = true) := by unfold Hid; rw [← hv, ruleB, h0]; rfl
    have hq := eqRule_run x true h0
    clear hv h0
    go_enter Try.func27, Try.ntmps27
    go_wp2_with fail
    rw [← HW1.out]
    go_region_held3 (fun W => W.cell? ⟨w.heap.size, 0, none⟩ = some (.int .i64 x.a) ∧ W.cell? ⟨w.heap.size, 1, none⟩ = some (.int .i64 x.b) ∧ W.cell? ⟨w.heap.size, 2, none⟩ = some (.int .i64 x.c)) (first | go_keep | exact ⟨r0, r1, r2⟩)
      ((go_at_call 32; refine (l05None_any _).mono ?_; rintro e w2 ⟨rfl, b2'⟩; have b2 := below_drew_at b2'; have r0 := cell_step (by exact l0) b2; have r1 := cell_step (by exact l1) b2; have r2 := cell_step (by exact l2) b2))
    all_goals
      have B2 := below_step B1 b2
      clear l0 l1 l2 b2'
      go_wp2_with fail
      go_ret
      exact ⟨ret_bool HF.out.symm, B2⟩
  · obtain ⟨va, ha⟩ : ∃ va, inB x.a 0 (S - 1) = va := ⟨_, rfl⟩
    obtain ⟨v1, e1⟩ : ∃ v1, (x.b == 1) = v1 := ⟨_, rfl⟩
    obtain ⟨v2, e2⟩ : ∃ v2, (x.b == -1) = v2 := ⟨_, rfl⟩
    obtain ⟨vc, hc⟩ : ∃ vc, inB x.c 0 (Q - 1) = vc := ⟨_, rfl⟩
    have HF := Lib.hid (ruleB_parts hv h0 ha e1 e2 hc)
    have HA := Lib.hid ha; have HC := Lib.hid hc
    have hq := eqRule_run x false h0
    clear hv h0 ha hc
    go_enter Try.func27, Try.ntmps27
    go_wp2_with fail
    rw [← HW1.out]
    go_region_held3 (fun W => W.cell? ⟨w.heap.size, 0, none⟩ = some (.int .i64 x.a) ∧ W.cell? ⟨w.heap.size, 1, none⟩ = some (.int .i64 x.b) ∧ W.cell? ⟨w.heap.size, 2, none⟩ = some (.int .i64 x.c)) (first | go_keep | exact ⟨r0, r1, r2⟩)
      ((go_at_call 32; refine (l05None_any _).mono ?_; rintro e w2 ⟨rfl, b2'⟩; have b2 := below_drew_at b2'; have r0 := cell_step (by exact l0) b2; have r1 := cell_step (by exact l1) b2; have r2 := cell_step (by exact l2) b2))
    all_goals
      have B2 := below_step B1 b2
      clear l0 l1 l2 b2' b2
      cases va
      · go_wp2_with fail
        refine (l00In_is x.a 0 (S - 1) _ HA.out _).mono ?_
        rintro e w' ⟨rfl, rfl⟩
        go_wp2_with fail
        go_ret
        exact ⟨ret_bool (by rw [← HF.out]; simp), B2⟩
      go_wp2_with fail
      refine (l00In_is x.a 0 (S - 1) _ HA.out _).mono ?_
      rintro e w' ⟨rfl, hw'⟩
      subst hw'
      cases v1
      · cases v2
        · go_wp2_with fail
          go_ret
          exact ⟨ret_bool (by rw [← HF.out]; simp), B2⟩
        · go_wp2_with fail
          refine (l00In_is x.c 0 (Q - 1) _ HC.out _).mono ?_
          rintro e w' ⟨rfl, rfl⟩
          go_wp2_with fail
          go_ret
          exact ⟨ret_bool (by rw [← HF.out]; first | done | simp), B2⟩
      · go_wp2_with fail
        refine (l00In_is x.c 0 (Q - 1) _ HC.out _).mono ?_
        rintro e w' ⟨rfl, rfl⟩
        go_wp2_with fail
        go_ret
        exact ⟨ret_bool (by rw [← HF.out]; first | done | simp), B2⟩

set_option maxRecDepth 100000 in
set_option maxHeartbeats 1000000 in
theorem isRule_is (x : R3) (v : Bool) (hv : (!noR x) = v) (w : World) : Calls Try.prog 40 #[.agg #[.int .i64 x.a, .int .i64 x.b, .int .i64 x.c]] w fun e w' => e = .returned (.bool v) ∧ Below w.heap.size w w' := by
  obtain ⟨w1, HW1, B1, x1⟩ := al1 w (.cells #[.int .i64 x.a, .int .i64 x.b, .int .i64 x.c] 59)
  have l0 : w1.cell? ⟨w.heap.size, 0, none⟩ = some (.int .i64 x.a) := by rw [cell_of_heap x1]; rfl
  have l1 : w1.cell? ⟨w.heap.size, 1, none⟩ = some (.int .i64 x.b) := by rw [cell_of_heap x1]; rfl
  have l2 : w1.cell? ⟨w.heap.size, 2, none⟩ = some (.int .i64 x.c) := by rw [cell_of_heap x1]; rfl
  have hgd := guardRule
  have hq := neRule_run x v hv
  clear x1 hv
  go_enter Try.func40, Try.ntmps40
  go_wp2_with fail
  rw [← HW1.out]
  go_region_held3 (fun W => W.cell? ⟨w.heap.size, 0, none⟩ = some (.int .i64 x.a) ∧ W.cell? ⟨w.heap.size, 1, none⟩ = some (.int .i64 x.b) ∧ W.cell? ⟨w.heap.size, 2, none⟩ = some (.int .i64 x.c)) (first | go_keep | exact ⟨r0, r1, r2⟩)
    ((go_at_call 58; refine (noRule_any _).mono ?_; rintro e w2 ⟨rfl, b2'⟩; have b2 := below_drew_at b2'; have r0 := cell_step (by exact l0) b2; have r1 := cell_step (by exact l1) b2; have r2 := cell_step (by exact l2) b2))
  all_goals
    have B2 := below_step B1 b2
    clear l0 l1 l2 b2'
    go_wp2_with fail
    go_ret
    exact ⟨rfl, B2⟩

set_option maxRecDepth 100000 in
set_option maxHeartbeats 1000000 in
theorem validRule_is (x : R3) (S Q : Int) (V : Value) (hV : V.oneCell' = true) (v : Bool) (hv : ruleB S Q x = v) (w : World) (hS : 0 ≤ S ∧ S ≤ 1000) (hQ : 0 ≤ Q ∧ Q ≤ 1000) :
    Calls Try.prog 48 #[.agg #[.int .i64 S, .int .i64 Q, V], .agg #[.int .i64 x.a, .int .i64 x.b, .int .i64 x.c]] w fun e w' => e = .returned (.bool v) ∧ Below w.heap.size w w' := by
  obtain ⟨w1, HW1, B1, x1, y1⟩ := al2 w (.cells #[.int .i64 S, .int .i64 Q, V] 34) (.cells #[.int .i64 x.a, .int .i64 x.b, .int .i64 x.c] 59)
  have m0 : w1.cell? ⟨w.heap.size, 0, none⟩ = some (.int .i64 S) := by rw [cell_of_heap x1]; rfl
  have m1 : w1.cell? ⟨w.heap.size, 1, none⟩ = some (.int .i64 Q) := by rw [cell_of_heap x1]; rfl
  have l0 : w1.cell? ⟨w.heap.size + 1, 0, none⟩ = some (.int .i64 x.a) := by rw [cell_of_heap y1]; rfl
  have l1 : w1.cell? ⟨w.heap.size + 1, 1, none⟩ = some (.int .i64 x.b) := by rw [cell_of_heap y1]; rfl
  have l2 : w1.cell? ⟨w.heap.size + 1, 2, none⟩ = some (.int .i64 x.c) := by rw [cell_of_heap y1]; rfl
  have ws : IntKind.i64.wrap (S - 1) = S - 1 := IntWalk.i64_in _ (by omega)
  have wq : IntKind.i64.wrap (Q - 1) = Q - 1 := IntWalk.i64_in _ (by omega)
  clear x1 y1
  rcases Bool.eq_false_or_eq_true (noR x) with h0 | h0
  · have HF : Hid (v = true) := by unfold Hid; rw [← hv, ruleB, h0]; rfl
    have HI : Hid ((!noR x) = false) := by unfold Hid; rw [h0]; rfl
    clear hv h0
    go_enter Try.func48, Try.ntmps48
    go_wp2_with fail
    rw [← HW1.out]
    refine (isRule_is x false HI.out _).mono ?_
    rintro e w2 ⟨rfl, b2⟩
    have B2 := below_step B1 b2
    go_wp2_with fail
    go_ret
    exact ⟨ret_bool HF.out.symm, B2⟩
  have HI : Hid ((!noR x) = true) := by unfold Hid; rw [h0]; rfl
  obtain ⟨va, ha⟩ : ∃ va, inB x.a 0 (S - 1) = va := ⟨_, rfl⟩
  obtain ⟨v1, e1⟩ : ∃ v1, (x.b == 1) = v1 := ⟨_, rfl⟩
  obtain ⟨v2, e2⟩ : ∃ v2, (x.b == -1) = v2 := ⟨_, rfl⟩
  obtain ⟨vc, hc⟩ : ∃ vc, inB x.c 0 (Q - 1) = vc := ⟨_, rfl⟩
  have HF := Lib.hid (ruleB_parts hv h0 ha e1 e2 hc)
  have HA := Lib.hid ha; have HC := Lib.hid hc
  clear hv h0 ha hc
  go_enter Try.func48, Try.ntmps48
  go_wp2_with fail
  rw [← HW1.out]
  refine (isRule_is x true HI.out _).mono ?_
  rintro e w2 ⟨rfl, b2⟩
  have B2 := below_step B1 b2
  have n0 := cell_step (by exact m0) b2
  have n1 := cell_step (by exact m1) b2
  have r0 := cell_step (by exact l0) b2
  have r1 := cell_step (by exact l1) b2
  have r2 := cell_step (by exact l2) b2
  clear m0 m1 l0 l1 l2 b2
  cases va
  · go_wp2_with fail
    refine (within_is x.a 0 (S - 1) _ HA.out _).mono ?_
    rintro e w' ⟨rfl, rfl⟩
    go_wp2_with fail
    go_ret
    exact ⟨ret_bool (by rw [← HF.out]; simp), B2⟩
  go_wp2_with fail
  refine (within_is x.a 0 (S - 1) _ HA.out _).mono ?_
  rintro e w' ⟨rfl, hw'⟩
  subst hw'
  cases v2
  · cases v1
    · go_wp2_with fail
      go_ret
      exact ⟨ret_bool (by rw [← HF.out]; simp), B2⟩
    · go_wp2_with fail
      refine (within_is x.c 0 (Q - 1) _ HC.out _).mono ?_
      rintro e w' ⟨rfl, rfl⟩
      go_wp2_with fail
      go_ret
      exact ⟨ret_bool (by rw [← HF.out]; first | done | simp), B2⟩
  · go_wp2_with fail
    refine (within_is x.c 0 (Q - 1) _ HC.out _).mono ?_
    rintro e w' ⟨rfl, rfl⟩
    go_wp2_with fail
    go_ret
    exact ⟨ret_bool (by rw [← HF.out]; first | done | simp), B2⟩
end Go.Proofs.Ytdnkkmmkkfbhhaa

/- Library functions on rows of Rule: IndexFunc, ContainsFunc with whatever function value, Clone; size. -/
namespace Go.Proofs.Ytdnkkmmkkfbhhaa
open Go.RowKit
set_option linter.all false

theorem one_rows_Rule (xs : List R3) : ∀ u ∈ rows R3.vs xs, u.oneCell' = true := by
  intro u hu
  simp only [rows, List.mem_flatMap, R3.vs] at hu
  obtain ⟨x, _, hu⟩ := hu
  simp at hu
  rcases hu with rfl | rfl | rfl <;> rfl

set_option maxRecDepth 100000 in
theorem sizeOf_Rule_any (A : Option Addr) (n c : Nat) (w : World) : Calls Try.prog 45 #[.slice A n c] w fun e w' => e = .returned (.int .i64 n) ∧ w = w' := by
  go_enter Try.func45, Try.ntmps45
  go_wp2
  go_ret
  exact ⟨rfl, rfl⟩

set_option maxRecDepth 100000 in
set_option maxHeartbeats 400000 in
theorem indexFuncAt_Rule (F : FuncId) (caps : Array Value) (p : R3 → Bool) (A : Option Addr) (n c : Nat) (xs : List R3) (w : World) (ha : Args 3 w A n (rows R3.vs xs)) (hn : n ≤ 1048576)
    (hE : ∀ (args : Array Value) (W : World), (callFunc F args).run Try.prog W = .ok (.enter F args) W) (hF : Hid (∀ x v W, x ∈ xs → p x = v → Below w.heap.size w W → Calls Try.prog F (#[.agg #[.int .i64 x.a, .int .i64 x.b, .int .i64 x.c]] ++ caps) W fun e w' => e = .returned (.bool v) ∧ Below W.heap.size W w')) :
    Calls Try.prog 63 #[.slice A n c, .func (.func F) #[] caps] w fun e w' => e = .returned (.int .i64 (findI p xs)) ∧ Below w.heap.size w w' := by
  have HL : Hid (xs.length = n) := by have := ha.1; rw [rows_len R3.vs_len] at this; unfold Hid; omega
  go_enter Try.func63, Try.ntmps63
  go_wp2
  go_loopw [8] (fun i wr => ∃ k : Nat, k ≤ n ∧ i = .int .i64 k ∧ Below w.heap.size w wr ∧ Hid (∀ j x, j < k → xs[j]? = some x → p x = false)) (fun i _ => n - (intOf i).toNat)
  case atStart => exact ⟨0, Nat.zero_le _, rfl, Below.refl _ _, by intro j x hj; omega⟩
  case round =>
    obtain ⟨k, hk, rfl, hB, HR⟩ := hrel
    by_cases hlt : k < n
    · obtain ⟨x, HX⟩ := hget HL hlt
      obtain ⟨b, off, rfl, hs⟩ := ha.sl hlt
      obtain ⟨p0, p1, p2⟩ := (hs.below' hB).rec3 HX.out
      rcases Bool.eq_false_or_eq_true (p x) with hv | hv
      · have HV := Lib.hid hv; clear hv
        go_wp2_with fail
        refine (hF.out x true _ (List.mem_of_getElem? HX.out) HV.out hB).mono ?_
        rintro e w1 ⟨rfl, hb1⟩
        have hB1 := below_step hB hb1
        clear hb1 p0 p1 p2
        go_wp2
        go_ret
        exact ⟨ret_int (findI_some HR.out HX.out HV.out).symm, hB1⟩
      · have HV := Lib.hid hv; clear hv
        go_wp2_with fail
        refine (hF.out x false _ (List.mem_of_getElem? HX.out) HV.out hB).mono ?_
        rintro e w1 ⟨rfl, hb1⟩
        have hB1 := below_step hB hb1
        clear hb1 p0 p1 p2
        go_wp2
        go_roundw
        case rel => exact ⟨k + 1, by omega, by go_num, hB1, by
          intro j y hj hy
          by_cases ej : j = k
          · subst ej; rw [HX.out] at hy; injection hy with hy; subst hy; exact HV.out
          · exact HR.out j y (by omega) hy⟩
        case measure => simp [intOf]; omega
    · go_wp2
      go_ret
      refine ⟨ret_int ?_, hB⟩
      rw [findI_none]
      intro j x hx
      exact HR.out j x (by have := (List.getElem?_eq_some_iff.1 hx).1; have := HL.out; omega) hx

set_option maxRecDepth 100000 in
theorem containsFuncAt_Rule (F : FuncId) (caps : Array Value) (p : R3 → Bool) (A : Option Addr) (n c : Nat) (xs : List R3) (w : World) (ha : Args 3 w A n (rows R3.vs xs)) (hn : n ≤ 1048576)
    (hE : ∀ (args : Array Value) (W : World), (callFunc F args).run Try.prog W = .ok (.enter F args) W) (hF : Hid (∀ x v W, x ∈ xs → p x = v → Below w.heap.size w W → Calls Try.prog F (#[.agg #[.int .i64 x.a, .int .i64 x.b, .int .i64 x.c]] ++ caps) W fun e w' => e = .returned (.bool v) ∧ Below W.heap.size W w')) (v : Bool) (hv : xs.any p = v) :
    Calls Try.prog 46 #[.slice A n c, .func (.func F) #[] caps] w fun e w' => e = .returned (.bool v) ∧ Below w.heap.size w w' := by
  have HV : Hid (decide (0 ≤ findI p xs) = v) := by unfold Hid; rw [findI_any, hv]
  clear hv
  rcases Bool.eq_false_or_eq_true (decide (0 ≤ findI p xs)) with hv | hv
  · have h0 : 0 ≤ findI p xs := of_decide_eq_true hv
    have HW := Lib.hid (hv.symm.trans HV.out); clear hv
    go_enter Try.func46, Try.ntmps46
    go_wp2_with fail
    refine (indexFuncAt_Rule F caps p A n c xs _ ha hn hE hF).mono ?_
    rintro e w1 ⟨rfl, hb1⟩
    go_wp2
    go_ret
    exact ⟨ret_bool (by first | exact HW.out | (rw [← HW.out]; simp; omega)), hb1⟩
  · have h0 : findI p xs < 0 := by have := of_decide_eq_false hv; omega
    have HW := Lib.hid (hv.symm.trans HV.out); clear hv
    go_enter Try.func46, Try.ntmps46
    go_wp2_with fail
    refine (indexFuncAt_Rule F caps p A n c xs _ ha hn hE hF).mono ?_
    rintro e w1 ⟨rfl, hb1⟩
    go_wp2
    go_ret
    exact ⟨ret_bool (by first | exact HW.out | (rw [← HW.out]; simp; omega)), hb1⟩

end Go.Proofs.Ytdnkkmmkkfbhhaa

/- A variable that holds a record: the block that holds its cells. Plain lemma. -/
namespace Go.Proofs.Ytdnkkmmkkfbhhaa
open Go.RowKit
theorem box_held {w : World} {k : Nat} {o : Obj} (h : w.heap[k]? = some o) : Held k (k + 1) (fun W => W.heap[k]? = some o) w :=
  ⟨heap_lt h, h, fun _ _ ha hk => (hk k (Nat.le_refl _) (Nat.lt_succ_self _)).trans ha⟩
end Go.Proofs.Ytdnkkmmkkfbhhaa

/- Whether a machine is valid, on both sides. -/
namespace Go.Proofs.Ytdnkkmmkkfbhhaa
open Go.RowKit
set_option linter.all false

theorem validMach_rules {S Q : Int} {rs : List R3} {n : Nat} (hl : rs.length = n) (h1 : inB S 2 6 = true) (h2 : inB Q 1 1000 = true) (h3 : ((n : Int) == S * Q) = true) : validMach S Q rs = rs.all (ruleB S Q) := by
  unfold validMach; rw [h1, h2, hl, decide_eq_true (by simpa using h3)]; rfl

set_option maxRecDepth 100000 in
set_option maxHeartbeats 1000000 in
theorem l05Is_is (gm : Nat) (S Q : Int) (b off n c : Nat) (rs : List R3) (v : Bool) (hv : validMach S Q rs = v) (w : World) (m0 : w.cell? ⟨gm, 0, none⟩ = some (.int .i64 S)) (m1 : w.cell? ⟨gm, 1, none⟩ = some (.int .i64 Q)) (m2 : w.cell? ⟨gm, 2, none⟩ = some (.slice (some ⟨b, off, none⟩) n c))
    (hs : Sl w b off (rows R3.vs rs)) (hl : rs.length = n) (hn : n ≤ 1048576) :
    Calls Try.prog 14 #[.pointer (some ⟨gm, 0, none⟩)] w fun e w' => e = .returned (.bool v) ∧ Below w.heap.size w w' := by
  have HL := Lib.hid hl
  obtain ⟨v1, h1⟩ : ∃ v1, inB S 2 6 = v1 := ⟨_, rfl⟩
  obtain ⟨v2, h2⟩ : ∃ v2, inB Q 1 1000 = v2 := ⟨_, rfl⟩
  obtain ⟨v3, h3⟩ : ∃ v3, ((n : Int) == S * Q) = v3 := ⟨_, rfl⟩
  have H1 := Lib.hid h1; have H2 := Lib.hid h2
  have h3' : ((n : Int) != S * Q) = !v3 := by rw [← h3]; rfl
  cases v1
  · have HF : Hid (v = false) := by unfold Hid; rw [← hv]; unfold validMach; rw [h1]; rfl
    clear hv h1 h2 h3 h3' hl
    go_enter Try.func14, Try.ntmps14
    go_wp2_with fail
    go_quiet ((go_at_call 26; exact quiet_eq (l00In_is S 2 6 _ H1.out _)))
    go_wp2_with fail
    go_ret
    exact ⟨ret_bool HF.out.symm, below_drewN (Below.refl _ _) _⟩
  cases v2
  · have HF : Hid (v = false) := by unfold Hid; rw [← hv]; unfold validMach; rw [h1, h2]; rfl
    clear hv h1 h2 h3 h3' hl
    go_enter Try.func14, Try.ntmps14
    go_wp2_with fail
    go_quiet ((go_at_call 26; first | with_reducible exact quiet_eq (l00In_is S 2 6 _ H1.out _) | with_reducible exact quiet_eq (l00In_is Q 1 1000 _ H2.out _)))
    go_wp2_with fail
    go_ret
    exact ⟨ret_bool HF.out.symm, below_drewN (Below.refl _ _) _⟩
  have hSr := (inB_iff _ _ _).1 h1
  have hQr := (inB_iff _ _ _).1 h2
  have hSQ : 0 ≤ S * Q ∧ S * Q ≤ 6000 := by
    constructor
    · exact Int.mul_nonneg (by omega) (by omega)
    · have := Int.mul_le_mul (show S ≤ 6 by omega) (show Q ≤ 1000 by omega) (show 0 ≤ Q by omega) (show (0 : Int) ≤ 6 by omega); omega
  have wsq : IntKind.i64.wrap (S * Q) = S * Q := IntWalk.i64_in _ (by omega)
  cases v3
  · have HF : Hid (v = false) := by unfold Hid; rw [← hv]; unfold validMach; rw [h1, h2, hl, decide_eq_false (by simpa using h3)]; rfl
    clear hv h1 h2 hl
    go_enter Try.func14, Try.ntmps14
    go_wp2_with fail
    go_quiet ((go_at_call 26; first | with_reducible exact quiet_eq (l00In_is S 2 6 _ H1.out _) | with_reducible exact quiet_eq (l00In_is Q 1 1000 _ H2.out _)))
    go_wp2_with fail
    go_ret
    exact ⟨ret_bool HF.out.symm, below_drewN (Below.refl _ _) _⟩
  have HV : Hid (rs.all (ruleB S Q) = v) := by unfold Hid; rw [← hv, validMach_rules hl h1 h2 h3]
  clear hv h1 h2 hl
  have M0 := Lib.hid m0; have M1 := Lib.hid m1; have M2 := Lib.hid m2
  go_enter Try.func14, Try.ntmps14
  go_wp2_with fail
  go_quiet ((go_at_call 26; first | with_reducible exact quiet_eq (l00In_is S 2 6 _ H1.out _) | with_reducible exact quiet_eq (l00In_is Q 1 1000 _ H2.out _)))
  have B0 : Below w.heap.size w (w.drewN nq) := below_drewN (Below.refl _ _) nq
  clear m0 m1 m2 h3 h3' wsq
  go_wp2_with fail
  go_loopw [3] (fun i wr => ∃ k : Nat, k ≤ n ∧ i = .int .i64 k ∧ Below w.heap.size w wr ∧ Hid (∀ j x, j < k → rs[j]? = some x → ruleB S Q x = true)) (fun i _ => n - (intOf i).toNat)
  case atStart => exact ⟨0, Nat.zero_le _, rfl, B0, by intro j x hj; omega⟩
  case round =>
    obtain ⟨k, hk, rfl, hB, HR⟩ := hrel
    clear B0
    have m0 := cell_step (by exact M0.out) hB
    have m1 := cell_step (by exact M1.out) hB
    have m2 := cell_step (by exact M2.out) hB
    by_cases hlt : k < n
    · obtain ⟨x, HX⟩ := hget HL hlt
      obtain ⟨p0, p1, p2⟩ := (hs.below' hB).rec3 HX.out
      obtain ⟨vr, hr⟩ : ∃ vr, ruleB S Q x = vr := ⟨_, rfl⟩
      have HRU := Lib.hid hr; clear hr
      have hk0 : (0 : Int) ≤ (k : Int) := by omega
      have hkn : (k : Int) < (n : Int) := by omega
      cases vr
      · have HF : Hid (v = false) := by
          unfold Hid; rw [← HV.out, Bool.eq_false_iff]; intro hall
          have := List.all_eq_true.1 hall x (List.mem_of_getElem? HX.out)
          rw [HRU.out] at this; cases this
        go_wp2_with fail
        go_region_held3 (fun W => W.cell? ⟨gm, 0, none⟩ = some (.int .i64 S) ∧ W.cell? ⟨gm, 1, none⟩ = some (.int .i64 Q) ∧ W.cell? ⟨gm, 2, none⟩ = some (.slice (some ⟨b, off, none⟩) n c) ∧ W.cell? ⟨b, off + k * 3, none⟩ = some (.int .i64 x.a) ∧ W.cell? ⟨b, off + k * 3 + 1, none⟩ = some (.int .i64 x.b) ∧ W.cell? ⟨b, off + k * 3 + 2, none⟩ = some (.int .i64 x.c)) (first | go_keep | exact ⟨r0, r1, r2, r3, r4, r5⟩)
          ((go_at_call 27; refine (l05Rule_is x S Q false HRU.out _ (by omega) (by omega)).mono ?_; rintro e w2 ⟨rfl, b2'⟩; have b2 := below_drew_at b2'; have r0 := cell_step (by exact m0) b2; have r1 := cell_step (by exact m1) b2; have r2 := cell_step (by exact m2) b2; have r3 := cell_step (by exact p0) b2; have r4 := cell_step (by exact p1) b2; have r5 := cell_step (by exact p2) b2))
        all_goals
          have B2 := below_step hB b2
          go_wp2_with fail
          go_ret
          exact ⟨ret_bool HF.out.symm, B2⟩
      · go_wp2_with fail
        go_region_held3 (fun W => W.cell? ⟨gm, 0, none⟩ = some (.int .i64 S) ∧ W.cell? ⟨gm, 1, none⟩ = some (.int .i64 Q) ∧ W.cell? ⟨gm, 2, none⟩ = some (.slice (some ⟨b, off, none⟩) n c) ∧ W.cell? ⟨b, off + k * 3, none⟩ = some (.int .i64 x.a) ∧ W.cell? ⟨b, off + k * 3 + 1, none⟩ = some (.int .i64 x.b) ∧ W.cell? ⟨b, off + k * 3 + 2, none⟩ = some (.int .i64 x.c)) (first | go_keep | exact ⟨r0, r1, r2, r3, r4, r5⟩)
          ((go_at_call 27; refine (l05Rule_is x S Q true HRU.out _ (by omega) (by omega)).mono ?_; rintro e w2 ⟨rfl, b2'⟩; have b2 := below_drew_at b2'; have r0 := cell_step (by exact m0) b2; have r1 := cell_step (by exact m1) b2; have r2 := cell_step (by exact m2) b2; have r3 := cell_step (by exact p0) b2; have r4 := cell_step (by exact p1) b2; have r5 := cell_step (by exact p2) b2))
        all_goals
          have B2 := below_step hB b2
          clear m0 m1 m2 p0 p1 p2 r0 r1 r2 r3 r4 r5 b2' b2 hB
          go_wp2_with fail
          go_roundw
          case rel => exact ⟨k + 1, by omega, by go_num, B2, by
            intro j y hj hy
            by_cases ej : j = k
            · subst ej; rw [HX.out] at hy; injection hy with hy; subst hy; exact HRU.out
            · exact HR.out j y (by omega) hy⟩
          case measure => simp [intOf]; omega
    · have HF : Hid (v = true) := by
        unfold Hid; rw [← HV.out, List.all_eq_true]
        intro x hx
        obtain ⟨j, hj⟩ := List.getElem?_of_mem hx
        exact HR.out j x (by have := HL.out; have := (List.getElem?_eq_some_iff.1 hj).1; omega) hj
      go_wp2_with fail
      go_ret
      exact ⟨ret_bool HF.out.symm, hB⟩

theorem sizeRule_is (A : Option Addr) (n c : Nat) (w : World) : Calls Try.prog 45 #[.slice A n c] w fun e w' => e = .returned (.int .i64 n) ∧ w = w' := by
  go_enter Try.func45, Try.ntmps45
  go_wp2
  go_ret
  exact ⟨rfl, rfl⟩

set_option maxRecDepth 100000 in
set_option maxHeartbeats 1000000 in
theorem notValidRule_is (gm : Nat) (S Q : Int) (A : Option Addr) (n c : Nat) (x : R3) (v : Bool) (hv : (!ruleB S Q x) = v) (w : World) (m0 : w.cell? ⟨gm, 0, none⟩ = some (.int .i64 S)) (m1 : w.cell? ⟨gm, 1, none⟩ = some (.int .i64 Q)) (m2 : w.cell? ⟨gm, 2, none⟩ = some (.slice A n c)) (hS : 0 ≤ S ∧ S ≤ 1000) (hQ : 0 ≤ Q ∧ Q ≤ 1000) :
    Calls Try.prog 47 #[.agg #[.int .i64 x.a, .int .i64 x.b, .int .i64 x.c], .pointer (some ⟨gm, 0, none⟩)] w fun e w' => e = .returned (.bool v) ∧ Below w.heap.size w w' := by
  obtain ⟨w1, HW1, B1, x1⟩ := al1 w (.cells #[.int .i64 x.a, .int .i64 x.b, .int .i64 x.c] 59)
  have n0 := cell_step (by exact m0) (laid_below w (.cells #[.int .i64 x.a, .int .i64 x.b, .int .i64 x.c] 59))
  have n1 := cell_step (by exact m1) (laid_below w (.cells #[.int .i64 x.a, .int .i64 x.b, .int .i64 x.c] 59))
  have n2 := cell_step (by exact m2) (laid_below w (.cells #[.int .i64 x.a, .int .i64 x.b, .int .i64 x.c] 59))
  obtain ⟨vr, hr⟩ : ∃ vr, ruleB S Q x = vr := ⟨_, rfl⟩
  have HR := Lib.hid hr
  have HV : Hid ((!vr) = v) := by unfold Hid; rw [← hv, hr]
  clear x1 hr hv m0 m1 m2
  go_enter Try.func47, Try.ntmps47
  go_wp2_with fail
  rw [← HW1.out]
  refine (validRule_is x S Q _ rfl vr HR.out _ hS hQ).mono ?_
  rintro e w2 ⟨rfl, b2⟩
  go_wp2_with fail
  go_ret
  exact ⟨ret_bool HV.out, below_step B1 b2⟩

set_option maxRecDepth 100000 in
set_option maxHeartbeats 1000000 in
theorem validMachine_is (S Q : Int) (b off n c : Nat) (rs : List R3) (v : Bool) (hv : validMach S Q rs = v) (w : World)
    (hs : Sl w b off (rows R3.vs rs)) (hl : rs.length = n) (hn : n ≤ 1048576) :
    Calls Try.prog 34 #[.agg #[.int .i64 S, .int .i64 Q, .slice (some ⟨b, off, none⟩) n c]] w fun e w' => e = .returned (.bool v) ∧ Below w.heap.size w w' := by
  obtain ⟨w1, HW1, B1, x1⟩ := al1 w (.cells #[.int .i64 S, .int .i64 Q, .slice (some ⟨b, off, none⟩) n c] 34)
  have m0 : w1.cell? ⟨w.heap.size, 0, none⟩ = some (.int .i64 S) := by rw [cell_of_heap x1]; rfl
  have m1 : w1.cell? ⟨w.heap.size, 1, none⟩ = some (.int .i64 Q) := by rw [cell_of_heap x1]; rfl
  have m2 : w1.cell? ⟨w.heap.size, 2, none⟩ = some (.slice (some ⟨b, off, none⟩) n c) := by rw [cell_of_heap x1]; rfl
  have hs1 := hs.below' B1
  have HL := Lib.hid hl
  obtain ⟨v1, h1⟩ : ∃ v1, inB S 2 6 = v1 := ⟨_, rfl⟩
  obtain ⟨v2, h2⟩ : ∃ v2, inB Q 1 1000 = v2 := ⟨_, rfl⟩
  obtain ⟨v3, h3⟩ : ∃ v3, ((n : Int) == S * Q) = v3 := ⟨_, rfl⟩
  have H1 := Lib.hid h1; have H2 := Lib.hid h2
  have h3' : ((n : Int) != Q * S) = !v3 := by rw [← h3, Int.mul_comm Q S]; rfl
  have h3'' : ((n : Int) == Q * S) = v3 := by rw [← h3, Int.mul_comm Q S]
  clear x1 hs
  cases v1
  · have HF : Hid (v = false) := by unfold Hid; rw [← hv]; unfold validMach; rw [h1]; rfl
    clear hv h1 h2 h3 h3' h3'' hl
    go_enter Try.func34, Try.ntmps34
    go_wp2_with fail
    rw [← HW1.out]
    go_quiet ((go_at_call 44; exact quiet_eq (within_is S 2 6 _ H1.out _)))
    go_wp2_with fail
    go_ret
    exact ⟨ret_bool HF.out.symm, below_drewN B1 _⟩
  cases v2
  · have HF : Hid (v = false) := by unfold Hid; rw [← hv]; unfold validMach; rw [h1, h2]; rfl
    clear hv h1 h2 h3 h3' h3'' hl
    go_enter Try.func34, Try.ntmps34
    go_wp2_with fail
    rw [← HW1.out]
    go_quiet ((go_at_call 44; first | with_reducible exact quiet_eq (within_is S 2 6 _ H1.out _) | with_reducible exact quiet_eq (within_is Q 1 1000 _ H2.out _)))
    go_wp2_with fail
    go_ret
    exact ⟨ret_bool HF.out.symm, below_drewN B1 _⟩
  have hSr := (inB_iff _ _ _).1 h1
  have hQr := (inB_iff _ _ _).1 h2
  have hSQ : 0 ≤ Q * S ∧ Q * S ≤ 6000 := by
    constructor
    · exact Int.mul_nonneg (by omega) (by omega)
    · have := Int.mul_le_mul (show Q ≤ 1000 by omega) (show S ≤ 6 by omega) (show 0 ≤ S by omega) (show (0 : Int) ≤ 1000 by omega); omega
  have wsq : IntKind.i64.wrap (Q * S) = Q * S := IntWalk.i64_in _ (by omega)
  cases v3
  · have HF : Hid (v = false) := by unfold Hid; rw [← hv]; unfold validMach; rw [h1, h2, hl, decide_eq_false (by simpa using h3)]; rfl
    clear hv h1 h2 hl
    go_enter Try.func34, Try.ntmps34
    go_wp2_with fail
    rw [← HW1.out]
    go_quiet ((first | (go_at_call 45; exact quiet_eq (sizeRule_is _ n c _)) | (go_at_call 44; first | with_reducible exact quiet_eq (within_is S 2 6 _ H1.out _) | with_reducible exact quiet_eq (within_is Q 1 1000 _ H2.out _))))
    go_wp2_with fail
    go_ret
    exact ⟨ret_bool HF.out.symm, below_drewN B1 _⟩
  have HV : Hid (rs.all (ruleB S Q) = v) := by unfold Hid; rw [← hv, validMach_rules hl h1 h2 h3]
  have M0 := Lib.hid m0; have M1 := Lib.hid m1; have M2 := Lib.hid m2; have HS1 := Lib.hid hs1
  clear hv h1 h2 hl
  go_enter Try.func34, Try.ntmps34
  go_wp2_with fail
  rw [← HW1.out]
  go_quiet ((first | (go_at_call 45; exact quiet_eq (sizeRule_is _ n c _)) | (go_at_call 44; first | with_reducible exact quiet_eq (within_is S 2 6 _ H1.out _) | with_reducible exact quiet_eq (within_is Q 1 1000 _ H2.out _))))
  have bq : Below w1.heap.size w1 (w1.drewN nq) := below_drewN (Below.refl _ _) nq
  have Bq := below_step B1 bq
  have HK := Lib.hid (containsFuncAt_Rule 47 #[.pointer (some ⟨w.heap.size, 0, none⟩)] (fun x => !ruleB S Q x) (some ⟨b, off, none⟩) n c rs (w1.drewN nq) (Args.of_sl HS1.out (by rw [rows_len R3.vs_len, HL.out])) hn (fun args W => enters_of' Try.func47 rfl rfl args W)
    (fun x u W hx hu hW => notValidRule_is w.heap.size S Q _ n c x u hu W (cell_step (by exact M0.out) hW) (cell_step (by exact M1.out) hW) (cell_step (by exact M2.out) hW) (by omega) (by omega)) (!v) (by rw [← HV.out, List.not_all_eq_any_not]))
  have k2 : (w1.drewN nq).cell? ⟨w.heap.size, 2, none⟩ = some (.slice (some ⟨b, off, none⟩) n c) := M2.out
  clear m0 m1 m2 hs1 h3 h3' h3'' wsq
  generalize w1.drewN nq = wq at *
  go_wp2_with fail
  refine HK.out.mono ?_
  rintro e w2 ⟨rfl, b2⟩
  go_wp2_with fail
  go_ret
  exact ⟨ret_bool (by simp), below_step Bq b2⟩
end Go.Proofs.Ytdnkkmmkkfbhhaa

/- Contracts of the laws' helpers on []int64: copy, compare, mark, look at the marks. For slices of at most 1048576 elements. -/
namespace Go.Proofs.Ytdnkkmmkkfbhhaa
open Go.RowKit

theorem infoInt64S : (Try.prog.info? 2).map (fun i => (i.zero, i.size, i.bytes)) = some (some (Value.int .i64 0), 1, 8) := by kernel_rfl

set_option maxHeartbeats 400000 in
theorem toInt64S_any (A : Option Addr) (n c : Nat) (xs : List Int) (w : World) (ha : Arg w A n (xs.map (Value.int .i64))) (hn : n ≤ 1048576) :
    Calls Try.prog 20 #[.slice A n c] w fun e w' => e = .returned (.slice (some ⟨w.heap.size, 0, none⟩) n n) ∧
      w'.ownsRow w.heap.size 2 1 (.slice (some ⟨w.heap.size, 0, none⟩) n n) n (xs.map (Value.int .i64)) ∧ Below w.heap.size w w' := by
  have hmk := fun W => run_make_row' (P := Try.prog) 25 2 (Value.int .i64 0) 8 Try.underlying25 infoInt64S rfl .i64 .i64 n (by omega) (by omega) W
  have hrow0 := World.rowIs_made w (Value.int .i64 0) n 2
  have hB0 : Below w.heap.size w (w.alloc (.cells (madeCells #[Value.int .i64 0] n) 2)) := (Below.refl _ _).alloc (Nat.le_refl _) _
  go_enter Try.func20, Try.ntmps20
  go_wp2
  clear hmk
  go_loopw [4] (fun i wr => ∃ k : Nat, k ≤ n ∧ i = .int .i64 k ∧ wr.rowIs w.heap.size 2 n (fun j => if j < k then (xs.map (Value.int .i64)).getD j undef else (Value.int .i64 0)) ∧ Below w.heap.size w wr) (fun i _ => n - (intOf i).toNat)
  case atStart => exact ⟨0, Nat.zero_le _, rfl, hrow0.congr (fun i _ => by simp), hB0⟩
  case round =>
    obtain ⟨k, hk, rfl, hrow, hB⟩ := hrel
    clear hrow0 hB0
    by_cases hlt : k < n
    · obtain ⟨b, off, rfl, hs⟩ := ha.sl hlt
      obtain ⟨x, HX, hx⟩ := map_at (Value.int .i64) xs (k := k) (by have := ha.1; simp at this; omega)
      have hca := (hs.below' hB).at hx
      have hco : wr.cell? ⟨w.heap.size, k, none⟩ = some (Value.int .i64 0) := by simpa using hrow.cell hlt
      have hfo := hrow.frozen k
      have HR := Lib.hid (hrow.set k ((Value.int .i64) x))
      have HB := Lib.hid (hB.setCell (p := ⟨w.heap.size, k, none⟩) (Nat.le_refl _) ((Value.int .i64) x))
      clear hx hrow hB ha hs
      go_wp2
      go_roundw
      case rel =>
        refine ⟨k + 1, by omega, by go_num, HR.out.congr (fun i hi => ?_), HB.out⟩
        exact upd_at ((Value.int .i64)) xs k i x HX.out _
      case measure => simp [intOf]; omega
    · go_wp2
      go_ret
      have hlen := ha.1
      refine ⟨rfl, own_of_rowIs hrow (Nat.le_refl _) (by unfold maxLen; omega) hlen (fun j u hu => ?_), hB⟩
      have hj : j < n := by rw [← hlen]; exact (List.getElem?_eq_some_iff.1 hu).1
      rw [if_pos (by omega), List.getD_eq_getElem?_getD, hu]; rfl

set_option maxHeartbeats 400000 in
theorem eqInt64S_any (A B : Option Addr) (n m c d : Nat) (xs ys : List Int) (w : World) (ha : Arg w A n (xs.map (Value.int .i64))) (hb : Arg w B m (ys.map (Value.int .i64))) (hn : n ≤ 4194304) (hm : m ≤ 4194304) :
    Calls Try.prog 25 #[.slice A n c, .slice B m d] w fun e w' => e = .returned (.bool (decide (xs = ys))) ∧ ∃ q, w' = w.drewN q := by
  have HA := Lib.hid ha.1
  have HB := Lib.hid hb.1
  by_cases hnm : n = m
  · subst hnm
    go_enter Try.func25, Try.ntmps25
    go_wp2
    go_loopw [5] (fun i wr => ∃ k q : Nat, k ≤ n ∧ i = .int .i64 k ∧ wr = w.drewN q ∧ Hid (xs.take k = ys.take k)) (fun i _ => n - (intOf i).toNat)
    case atStart => exact ⟨0, 0, Nat.zero_le _, rfl, rfl, rfl⟩
    case round =>
      obtain ⟨k, q, hk, rfl, rfl, HR⟩ := hrel
      by_cases hlt : k < n
      · obtain ⟨b1, o1, rfl, hs1⟩ := ha.sl hlt
        obtain ⟨b2, o2, rfl, hs2⟩ := hb.sl hlt
        obtain ⟨x, HX, hx⟩ := map_at (Value.int .i64) xs (k := k) (by have := HA.out; simp at this; omega)
        obtain ⟨y, HY, hy⟩ := map_at (Value.int .i64) ys (k := k) (by have := HB.out; simp at this; omega)
        have hca := hs1.at hx
        have hcb := hs2.at hy
        clear hx hy hs1 hs2 ha hb
        by_cases e : x = y
        · subst e; have hz : (x != x) = false := by simp
          go_wp2
          go_quiet (fail)
          go_wp2
          go_roundw
          case rel => exact ⟨k + 1, _, by omega, by go_num, rfl, take_succ_eq HR.out HX.out HY.out rfl⟩
          case measure => simp [intOf]; omega
        · have hz : (x != y) = true := by simpa using e
          have HE := Lib.hid e
          clear e
          go_wp2
          go_quiet (fail)
          go_wp2
          go_ret
          exact ⟨ret_bool (by simp [ne_of_at HX.out HY.out HE.out]), by first | exact ⟨_, rfl⟩ | exact ⟨_, World.drewN_drewN _ _ _⟩⟩
      · go_wp2
        go_ret
        refine ⟨ret_bool ?_, _, rfl⟩
        have h1 := HR.out
        have h2 := HA.out
        have h3 := HB.out
        simp only [List.length_map] at h2 h3
        rw [List.take_of_length_le (by omega), List.take_of_length_le (by omega)] at h1
        simp [h1]
  · have hne : ((n : Int) != (m : Int)) = true := by simp; omega
    go_enter Try.func25, Try.ntmps25
    go_wp2
    go_ret
    refine ⟨ret_bool ?_, 0, rfl⟩
    have h2 := HA.out
    have h3 := HB.out
    simp only [List.length_map] at h2 h3
    symm
    apply decide_eq_false
    rintro rfl
    omega

def mkInt64S (k : Int) : Value := .int .i64 k

end Go.Proofs.Ytdnkkmmkkfbhhaa

/- Small contracts on rows of numbers: clone, l00Has, allWithin, rising. No conditions beyond the sizes. -/
namespace Go.Proofs.Ytdnkkmmkkfbhhaa
open Go.RowKit
set_option linter.all false

theorem own_cap {w : World} {base : Nat} {e : TypeId} {size n : Nat} {v : Value} {xs : List Value} (h : w.ownsRow base e size v n xs) : ∀ A c, v = .slice A n c → n ≤ c := by
  intro A c hv
  rcases h.2 with ⟨h0, h1⟩ | ⟨g, cap, cur, h0, _, _, h1, _⟩
  · omega
  · rw [h0] at hv; injection hv with _ _ h3; omega

theorem allWithin_is (b off n c : Nat) (xs : List Int) (lo hi : Int) (v : Bool) (hv : xs.all (inB · lo hi) = v) (w : World) (hs : Sl w b off (xs.map (.int .i64))) (hl : xs.length = n) (hn : n ≤ 4194304) :
    Calls Try.prog 65 #[.slice (some ⟨b, off, none⟩) n c, .int .i64 lo, .int .i64 hi] w fun e w' => e = .returned (.bool v) ∧ w = w' := by
  subst hv; exact allWithin_any b off n c xs lo hi w hs hl hn

end Go.Proofs.Ytdnkkmmkkfbhhaa

/- areWords: whether all of some lists are words. -/
namespace Go.Proofs.Ytdnkkmmkkfbhhaa
open Go.RowKit
set_option linter.all false

/-- Slices of numbers in the cells of another slice. -/
def Wds (w : World) (vs : List Value) (ts : List (List Int)) : Prop :=
  vs.length = ts.length ∧ ∀ (j : Nat) (v : Value) (t : List Int), vs[j]? = some v → ts[j]? = some t → ∃ b off c, v = .slice (some ⟨b, off, none⟩) t.length c ∧ Sl w b off (t.map (.int .i64)) ∧ t.length ≤ 4194304
theorem Wds.below {w w' : World} {vs : List Value} {ts : List (List Int)} (h : Wds w vs ts) (hb : Below w.heap.size w w') : Wds w' vs ts :=
  ⟨h.1, fun j v t h1 h2 => by obtain ⟨b, off, c, e, hs, hl⟩ := h.2 j v t h1 h2; exact ⟨b, off, c, e, hs.below' hb, hl⟩⟩
end Go.Proofs.Ytdnkkmmkkfbhhaa

/- slices.Grow of the nil slice and slices.Concat, elements int64. -/
namespace Go.Proofs.Ytdnkkmmkkfbhhaa
open Go.RowKit
set_option linter.all false

/-- Slices in the cells of another one. -/
def SrcsInt64S (w : World) (vs : List Value) (ns : List Nat) (xss : List (List Value)) : Prop :=
  vs.length = xss.length ∧ vs.length = ns.length ∧ ∀ (j : Nat) (v : Value) (n : Nat) (xs : List Value), vs[j]? = some v → ns[j]? = some n → xss[j]? = some xs → Src 1 w v n xs ∧ ∀ u ∈ xs, u.oneCell' = true
theorem SrcsInt64S.below {w w' : World} {vs : List Value} {ns : List Nat} {xss : List (List Value)} (h : SrcsInt64S w vs ns xss) (hb : Below w.heap.size w w') : SrcsInt64S w' vs ns xss :=
  ⟨h.1, h.2.1, fun j v n xs h1 h2 h3 => ⟨(h.2.2 j v n xs h1 h2 h3).1.below hb, (h.2.2 j v n xs h1 h2 h3).2⟩⟩

theorem sum_take_le (ns : List Nat) (k : Nat) : (ns.take k).sum ≤ ns.sum := by
  induction ns generalizing k with
  | nil => simp
  | cons n ns ih =>
    cases k with
    | zero => simp
    | succ k => simp; exact ih k
theorem sum_take_succ (ns : List Nat) (k n : Nat) (h : ns[k]? = some n) : (ns.take (k + 1)).sum = (ns.take k).sum + n := by
  rw [List.take_add_one, h]; simp
end Go.Proofs.Ytdnkkmmkkfbhhaa

/- ReplaceAt and ReplaceFirst, the reference's and the program's. -/
namespace Go.Proofs.Ytdnkkmmkkfbhhaa
open Go.RowKit
set_option linter.all false

/-- A word with 'm' letters from 'k' on replaced. -/
def putL (xs : List Int) (k m : Nat) (ys : List Int) : List Int := xs.take k ++ ys ++ xs.drop (k + m)
theorem putL_length (xs : List Int) (k m : Nat) (ys : List Int) (h : k + m ≤ xs.length) : (putL xs k m ys).length = xs.length - m + ys.length := by
  unfold putL; simp; omega
/-- What the word laws answer: the word where it fits. -/
def fitL (xs : List Int) : List Int × Int := if xs.length ≤ 400 then (xs, 0) else ([], 5)
theorem fitL_yes {xs : List Int} (h : xs.length ≤ 400) : fitL xs = (xs, 0) := by unfold fitL; rw [if_pos h]
theorem fitL_no {xs : List Int} (h : 400 < xs.length) : fitL xs = ([], 5) := by unfold fitL; rw [if_neg (by omega)]
theorem isWord_len {xs : List Int} (h : isWordB xs = true) : xs.length ≤ 400 := by unfold isWordB at h; simp at h; exact h.1
end Go.Proofs.Ytdnkkmmkkfbhhaa

/- ReplaceAt and ReplaceFirst: the walks. -/
namespace Go.Proofs.Ytdnkkmmkkfbhhaa
open Go.RowKit
set_option linter.all false

def wordsB (x p y : List Int) : Bool := isWordB x && isWordB p && isWordB y
def replaceAt (x : List Int) (at' : Int) (p y : List Int) : List Int × Int :=
  if wordsB x p y then
    if inB at' 0 x.length then
      if startsB x at'.toNat p then fitL (putL x at'.toNat p.length y) else ([], 3)
    else ([], 2)
  else ([], 1)
theorem fitL_bnd (xs : List Int) : (fitL xs).1.length ≤ 1048576 := by unfold fitL; split <;> simp <;> omega
theorem bndReplaceAt0 (x : List Int) (at' : Int) (p y : List Int) (h1 : x.length ≤ 1048576) (h2 : p.length ≤ 1048576) (h3 : y.length ≤ 1048576) : (replaceAt x at' p y).1.length ≤ 1048576 := by
  unfold replaceAt; split
  · split
    · split
      · exact fitL_bnd _
      · simp
    · simp
  · simp
theorem starts_le {x p : List Int} {k : Nat} (h : startsB x k p = true) : k + p.length ≤ x.length := by unfold startsB at h; simp at h; exact h.1
theorem starts_drop (x p : List Int) (k : Nat) (h : k ≤ x.length) : startsB (x.drop k) 0 p = startsB x k p := by
  unfold startsB
  simp only [List.drop_zero, List.length_drop, Nat.zero_add]
  congr 1
  rw [decide_eq_decide]; omega
theorem ends2 {v : Value} {a b : Int} (h : a = b) : Ending.returned (.tuple #[v, .int .i64 a]) = .returned (.tuple #[v, .int .i64 b]) := by rw [h]
/-- How the word laws end. -/
theorem own_nil' {w : World} {B : Nat} {r : List Int × Int} {k : Int} (h : r = ([], k)) : w.ownsRow B 2 1 (.slice none 0 0) r.1.length (r.1.map (.int .i64)) := by
  rw [h]; exact World.ownsRow_nil _ _ _ _
theorem own_fit {w : World} {B n : Nat} {v : Value} {r : List Int × Int} {k : Int} {xs : List Int} (h : r = (xs, k)) (hl : xs.length = n) (ho : w.ownsRow B 2 1 v n (xs.map (.int .i64))) : w.ownsRow B 2 1 v r.1.length (r.1.map (.int .i64)) := by
  subst hl; rw [h]; exact ho
end Go.Proofs.Ytdnkkmmkkfbhhaa

/- ReplaceFirst: the walks. -/
namespace Go.Proofs.Ytdnkkmmkkfbhhaa
open Go.RowKit
set_option linter.all false

/-- The places below a bound where a part stands. -/
def occTo (x p : List Int) (n : Nat) : List Nat := (List.range n).filter fun j => startsB x j p
def occL (x p : List Int) : List Nat := occTo x p (x.length + 1)
theorem occTo_yes {x p : List Int} {k : Nat} (h : startsB x k p = true) : occTo x p (k + 1) = occTo x p k ++ [k] := by
  unfold occTo; rw [List.range_succ, List.filter_append]; simp [h]
theorem occTo_no {x p : List Int} {k : Nat} (h : startsB x k p = false) : occTo x p (k + 1) = occTo x p k := by
  unfold occTo; rw [List.range_succ, List.filter_append]; simp [h]
theorem occTo_len (x p : List Int) (n : Nat) : (occTo x p n).length ≤ n := by
  unfold occTo; exact Nat.le_trans (List.length_filter_le _ _) (by simp)
theorem starts_past {x p : List Int} {j : Nat} (h : x.length < j + p.length) : startsB x j p = false := by
  unfold startsB; rw [decide_eq_false (by omega), Bool.false_and]
theorem occ_head_some {x p : List Int} {k n : Nat} (hk : k < n) (h : startsB x k p = true) (hj : ∀ j, j < k → startsB x j p = false) : (occTo x p n).head? = some k := by
  unfold occTo
  rw [List.head?_filter, List.find?_range_eq_some]
  exact ⟨h, by simpa using hk, fun j hj' => by simp [hj j hj']⟩
theorem occ_head_none {x p : List Int} {n : Nat} (hj : ∀ j, j < n → startsB x j p = false) : (occTo x p n).head? = none := by
  unfold occTo
  rw [List.head?_filter, List.find?_eq_none]
  intro j hj'
  simp [hj j (by simpa using hj')]
/-- The first place, or -1. -/
def firstI (l : List Nat) : Int := match l.head? with | none => -1 | some k => k
def replaceFirst (x p y : List Int) : List Int × Int :=
  if wordsB x p y then
    match (occL x p).head? with
    | none => ([], 3)
    | some k => fitL (putL x k p.length y)
  else ([], 1)
theorem bndReplaceFirst0 (x p y : List Int) (h1 : x.length ≤ 1048576) (h2 : p.length ≤ 1048576) (h3 : y.length ≤ 1048576) : (replaceFirst x p y).1.length ≤ 1048576 := by
  unfold replaceFirst; split
  · split
    · simp
    · exact fitL_bnd _
  · simp

theorem arg_of_own_any {w : World} {base : Nat} {e : TypeId} {n : Nat} {v : Value} {u : Value} {xs : List Value} (h : w.ownsRow base e 1 v n (u :: xs)) : ∃ b o c, v = .slice (some ⟨b, o, none⟩) n c ∧ Sl w b o (u :: xs) := by
  obtain ⟨A, c, rfl⟩ := own_form h
  have ha := arg_of_own h
  have hl := ha.1
  obtain ⟨b, o, rfl, hs⟩ := ha.sl (k := 0) (by simp at hl; omega)
  exact ⟨b, o, c, rfl, hs⟩
end Go.Proofs.Ytdnkkmmkkfbhhaa

/- Words of the call's own that have an address; steps on a nil word. Plain contracts, no conditions beyond the sizes. -/
namespace Go.Proofs.Ytdnkkmmkkfbhhaa
open Go.RowKit
set_option linter.all false

theorem own_adr {w : World} {base : Nat} {e : TypeId} {size n : Nat} {v : Value} {xs : List Value} (h : w.ownsRow base e size v n xs) (hne : v ≠ .slice none 0 0) : ∃ g d, v = .slice (some ⟨g, 0, none⟩) n d ∧ n ≤ d := by
  rcases h.2 with ⟨h0, _⟩ | ⟨g, cap, cur, h0, _, _, h1, _⟩
  · exact absurd h0 hne
  · exact ⟨g, cap, h0, h1⟩
/-- What is owned is nil and empty, or has an address. -/
theorem own_cases {w : World} {base : Nat} {e : TypeId} {size n : Nat} {v : Value} {xs : List Value} (h : w.ownsRow base e size v n xs) : (v = .slice none 0 0 ∧ n = 0) ∨ ∃ g d, v = .slice (some ⟨g, 0, none⟩) n d ∧ n ≤ d := by
  rcases h.2 with ⟨h0, h1⟩ | ⟨g, cap, cur, h0, _, _, h1, _⟩
  · exact .inl ⟨h0, h1⟩
  · exact .inr ⟨g, cap, h0, h1⟩
end Go.Proofs.Ytdnkkmmkkfbhhaa

/- Sorted lists of numbers: what l00Put builds is what Sort and Compact leave; a sorted list rises just where no number occurs twice. Plain lemmas. -/
namespace Go.Proofs.Ytdnkkmmkkfbhhaa
set_option linter.all false

def Asc (l : List Int) : Prop := l.Pairwise (· < ·)
def put (n : Int) : List Int → List Int
  | [] => [n]
  | y :: l => if n ≤ y then (if n < y then n :: y :: l else y :: l) else y :: put n l
theorem mem_put (n x : Int) (l : List Int) : x ∈ put n l ↔ x = n ∨ x ∈ l := by
  induction l with
  | nil => simp [put]
  | cons y l ih =>
    rw [put]
    by_cases h1 : n ≤ y
    · rw [if_pos h1]
      by_cases h2 : n < y
      · rw [if_pos h2]; simp
      · rw [if_neg h2]
        obtain rfl : n = y := by omega
        simp
    · rw [if_neg h1]
      simp only [List.mem_cons, ih]
      constructor
      · rintro (h | h | h)
        · exact .inr (.inl h)
        · exact .inl h
        · exact .inr (.inr h)
      · rintro (h | h | h)
        · exact .inr (.inl h)
        · exact .inl h
        · exact .inr (.inr h)
theorem put_len (n : Int) (l : List Int) : (put n l).length ≤ l.length + 1 := by
  induction l with
  | nil => simp [put]
  | cons y l ih =>
    rw [put]
    split
    · split <;> simp
    · simp; omega
theorem asc_put (n : Int) (l : List Int) (h : Asc l) : Asc (put n l) := by
  induction l with
  | nil => simp [put, Asc]
  | cons y l ih =>
    unfold Asc at h ⊢
    rw [List.pairwise_cons] at h
    rw [put]
    by_cases h1 : n ≤ y
    · rw [if_pos h1]
      by_cases h2 : n < y
      · rw [if_pos h2, List.pairwise_cons, List.pairwise_cons]
        refine ⟨fun a ha => ?_, h⟩
        rcases List.mem_cons.1 ha with rfl | ha
        · exact h2
        · have := h.1 a ha; omega
      · rw [if_neg h2, List.pairwise_cons]; exact h
    · rw [if_neg h1, List.pairwise_cons]
      refine ⟨fun a ha => ?_, ih h.2⟩
      rcases (mem_put _ _ _).1 ha with rfl | ha
      · omega
      · exact h.1 a ha
theorem asc_ext : ∀ (l1 l2 : List Int), Asc l1 → Asc l2 → (∀ x, x ∈ l1 ↔ x ∈ l2) → l1 = l2 := by
  intro l1
  induction l1 with
  | nil =>
    intro l2 _ _ h
    cases l2 with
    | nil => rfl
    | cons b l2 => exact absurd ((h b).2 (by simp)) (by simp)
  | cons a l1 ih =>
    intro l2 h1 h2 h
    cases l2 with
    | nil => exact absurd ((h a).1 (by simp)) (by simp)
    | cons b l2 =>
      unfold Asc at h1 h2
      rw [List.pairwise_cons] at h1 h2
      have e : a = b := by
        rcases List.mem_cons.1 ((h a).1 (by simp)) with e | e
        · exact e
        rcases List.mem_cons.1 ((h b).2 (by simp)) with e2 | e2
        · exact e2.symm
        have := h2.1 a e; have := h1.1 b e2; omega
      subst e
      rw [ih l2 h1.2 h2.2 fun x => ?_]
      constructor
      · intro hx
        rcases List.mem_cons.1 ((h x).1 (by simp [hx])) with e | e
        · subst e; have := h1.1 x hx; omega
        · exact e
      · intro hx
        rcases List.mem_cons.1 ((h x).2 (by simp [hx])) with e | e
        · subst e; have := h2.1 x hx; omega
        · exact e

def srt (xs : List Int) : List Int := xs.mergeSort fun x y => decide (x ≤ y)
theorem srt_perm (xs : List Int) : (srt xs).Perm xs := List.mergeSort_perm _ _
theorem srt_len (xs : List Int) : (srt xs).length = xs.length := (srt_perm xs).length_eq
theorem srt_le (xs : List Int) : (srt xs).Pairwise (· ≤ ·) := by
  have h := List.pairwise_mergeSort (le := fun x y : Int => decide (x ≤ y)) (by intro a b c; simp; omega) (by intro a b; simp; omega) xs
  exact h.imp (by intro a b; simp)
def sortU (xs : List Int) : List Int := Lib.compact (srt xs)

theorem compact_le (d : Array Int) (h : ∀ i j, i ≤ j → j < d.size → d[i]! ≤ d[j]!) : ∀ m, m ≤ d.size → Asc (Lib.compactUpTo d m) ∧ (∀ x, x ∈ Lib.compactUpTo d m ↔ ∃ j, j < m ∧ d[j]! = x) ∧ (∀ x ∈ Lib.compactUpTo d m, x ≤ d[m - 1]!) := by
  intro m
  induction m with
  | zero => intro _; exact ⟨by simp [Lib.compactUpTo, Asc], by simp [Lib.compactUpTo], by simp [Lib.compactUpTo]⟩
  | succ m ih =>
    intro hm
    obtain ⟨h1, h2, h3⟩ := ih (by omega)
    rw [Lib.compactUpTo_succ]
    cases hk : Lib.keeps d m with
    | true =>
      have hk' : m = 0 ∨ d[m]! ≠ d[m - 1]! := by simpa [Lib.keeps] using hk
      have hlt : ∀ x ∈ Lib.compactUpTo d m, x < d[m]! := by
        intro x hx
        have hx3 := h3 x hx
        rcases hk' with rfl | hk'
        · obtain ⟨j, hj, _⟩ := (h2 x).1 hx; omega
        · have := h (m - 1) m (by omega) (by omega)
          omega
      simp only [if_true]
      refine ⟨?_, ?_, ?_⟩
      · unfold Asc at h1 ⊢
        rw [List.pairwise_append]
        exact ⟨h1, by simp, fun a ha b hb => by rw [List.mem_singleton] at hb; subst hb; exact hlt a ha⟩
      · intro x
        rw [List.mem_append, h2]
        constructor
        · rintro (⟨j, hj, e⟩ | hx)
          · exact ⟨j, by omega, e⟩
          · exact ⟨m, by omega, (List.mem_singleton.1 hx).symm⟩
        · rintro ⟨j, hj, e⟩
          by_cases hjm : j = m
          · subst hjm; exact .inr (by simp [e])
          · exact .inl ⟨j, by omega, e⟩
      · intro x hx
        rw [List.mem_append] at hx
        show x ≤ d[m]!
        rcases hx with hx | hx
        · have := hlt x hx; omega
        · rw [List.mem_singleton] at hx; omega
    | false =>
      have hk' : ¬ (m = 0 ∨ d[m]! ≠ d[m - 1]!) := by simpa [Lib.keeps] using hk
      have hm0 : m ≠ 0 := fun e => hk' (.inl e)
      have he : d[m]! = d[m - 1]! := by
        by_cases e : d[m]! = d[m - 1]!
        · exact e
        · exact absurd (.inr e) hk'
      simp only [Bool.false_eq_true, if_false, List.append_nil]
      refine ⟨h1, fun x => ?_, fun x hx => ?_⟩
      · rw [h2]
        constructor
        · rintro ⟨j, hj, e⟩; exact ⟨j, by omega, e⟩
        · rintro ⟨j, hj, e⟩
          by_cases hjm : j = m
          · subst hjm; exact ⟨j - 1, by omega, by rw [← he]; exact e⟩
          · exact ⟨j, by omega, e⟩
      · show x ≤ d[m]!
        rw [he]; exact h3 x hx
theorem sortU_asc (xs : List Int) : Asc (sortU xs) ∧ ∀ x, x ∈ sortU xs ↔ x ∈ xs := by
  have hs := srt_le xs
  have hsz : (srt xs).toArray.size = (srt xs).length := by simp
  have hg : ∀ i, i < (srt xs).length → (srt xs).toArray[i]! = (srt xs)[i]! := by intro i hi; simp
  have := compact_le (srt xs).toArray (by
    intro i j hij hj
    rw [hsz] at hj
    rw [hg i (by omega), hg j hj, getElem!_pos _ i (by omega), getElem!_pos _ j hj]
    by_cases e : i = j
    · subst e; omega
    · exact List.pairwise_iff_getElem.1 hs i j (by omega) hj (by omega)) (srt xs).length (by simp)
  refine ⟨this.1, fun x => ?_⟩
  have h2 := this.2.1 x
  show x ∈ Lib.compactUpTo (srt xs).toArray (srt xs).length ↔ _
  rw [h2, ← (srt_perm xs).mem_iff]
  constructor
  · rintro ⟨j, hj, e⟩
    rw [hg j hj, getElem!_pos _ j hj] at e
    rw [← e]; exact List.getElem_mem _
  · intro hx
    obtain ⟨j, hj, e⟩ := List.mem_iff_getElem.1 hx
    exact ⟨j, hj, by rw [hg j hj, getElem!_pos _ j hj]; exact e⟩
theorem sortU_len (xs : List Int) : (sortU xs).length ≤ xs.length := by
  unfold sortU Lib.compact Lib.compactUpTo
  rw [List.length_map]
  have := List.length_filter_le (Lib.keeps (srt xs).toArray) (List.range (srt xs).length)
  rw [List.length_range, srt_len] at this
  rw [srt_len]
  exact this
/-- What l00Put builds, number by number. -/
def puts (acc xs : List Int) : List Int := xs.foldl (fun l n => put n l) acc
theorem puts_cons (acc xs : List Int) (n : Int) : puts acc (n :: xs) = puts (put n acc) xs := rfl
theorem puts_app (acc xs ys : List Int) : puts acc (xs ++ ys) = puts (puts acc xs) ys := by simp [puts]
theorem puts_spec (xs : List Int) : ∀ acc, Asc acc → Asc (puts acc xs) ∧ ∀ x, x ∈ puts acc xs ↔ x ∈ acc ∨ x ∈ xs := by
  induction xs with
  | nil => intro acc h; exact ⟨h, by simp [puts]⟩
  | cons n xs ih =>
    intro acc h
    rw [puts_cons]
    obtain ⟨h1, h2⟩ := ih (put n acc) (asc_put n acc h)
    refine ⟨h1, fun x => ?_⟩
    rw [h2, mem_put, List.mem_cons]
    constructor
    · rintro ((h | h) | h)
      · exact .inr (.inl h)
      · exact .inl h
      · exact .inr (.inr h)
    · rintro (h | h | h)
      · exact .inl (.inr h)
      · exact .inl (.inl h)
      · exact .inr h
theorem puts_eq (xs : List Int) : puts [] xs = sortU xs := by
  have h1 := puts_spec xs [] (by simp [Asc])
  have h2 := sortU_asc xs
  exact asc_ext _ _ h1.1 h2.1 fun x => by rw [h1.2, h2.2]; simp
theorem puts_len (xs : List Int) : ∀ acc, (puts acc xs).length ≤ acc.length + xs.length := by
  induction xs with
  | nil => intro acc; simp [puts]
  | cons n xs ih => intro acc; rw [puts_cons]; have := ih (put n acc); have := put_len n acc; simp; omega

/-- Each number is greater than the one before it. -/
def rises : List Int → Bool
  | [] => true
  | [_] => true
  | x :: y :: l => decide (x < y) && rises (y :: l)
theorem rises_iff (l : List Int) (h : l.Pairwise (· ≤ ·)) : rises l = true ↔ l.Nodup := by
  induction l with
  | nil => simp [rises]
  | cons x l ih =>
    rw [List.pairwise_cons] at h
    cases l with
    | nil => simp [rises]
    | cons y l =>
      rw [rises, Bool.and_eq_true, ih h.2, decide_eq_true_eq, List.nodup_cons (a := x)]
      constructor
      · rintro ⟨h1, h2⟩
        refine ⟨fun hm => ?_, h2⟩
        rcases List.mem_cons.1 hm with e | e
        · omega
        · have := (List.pairwise_cons.1 h.2).1 x e; omega
      · rintro ⟨h1, h2⟩
        refine ⟨?_, h2⟩
        have := h.1 y (by simp)
        have : x ≠ y := fun e => h1 (by simp [e])
        omega
/-- No number occurs twice. -/
def nodupB (l : List Int) : Bool := decide l.Nodup
theorem rises_srt (xs : List Int) : rises (srt xs) = nodupB xs := by
  rw [Bool.eq_iff_iff, rises_iff _ (srt_le xs), (srt_perm xs).nodup_iff]
  simp [nodupB]
/-- From place k on no number stands ahead of itself. -/
theorem nodup_step {xs : List Int} {k : Nat} {x : Int} (hx : xs[k]? = some x) (h : (xs.take k).Nodup) : (xs.take (k + 1)).Nodup ↔ x ∉ xs.take k := by
  rw [List.take_add_one, hx]
  simp only [Option.toList_some]
  rw [List.nodup_append]
  constructor
  · rintro ⟨_, _, h3⟩ hm
    exact h3 x hm x (by simp) rfl
  · intro hm
    exact ⟨h, by simp, fun a ha b hb => by rw [List.mem_singleton] at hb; subst hb; rintro rfl; exact hm ha⟩
theorem nodup_of_not {xs : List Int} {k : Nat} (h : ¬ (xs.take k).Nodup) : nodupB xs = false := by
  unfold nodupB
  rw [decide_eq_false_iff_not]
  intro hn
  exact h (hn.sublist (List.take_sublist _ _))
end Go.Proofs.Ytdnkkmmkkfbhhaa

/- What a sort leaves of a row of the call's own. Plain lemmas on worlds. -/
namespace Go.Proofs.Ytdnkkmmkkfbhhaa
open Go.RowKit Go.Sort
set_option linter.all false

theorem holds_of_own {w : World} {base : Nat} {e : TypeId} {g n cap : Nat} {zs : List Int} (h : w.ownsRow base e 1 (.slice (some ⟨g, 0, none⟩) n cap) n (zs.map (Value.int .i64))) : Holds (Value.int .i64) w g 0 zs.toArray := by
  intro j hj
  have hj' : j < zs.length := by simpa using hj
  have hn : zs.length = n := by have := h.1; simpa using this
  refine ⟨?_, by have := h.frozenAt (0 + j); simpa using this⟩
  have := h.cellAt j (by omega)
  rw [Nat.zero_add, this]
  simp [hj']
theorem own_putRow {w : World} {base : Nat} {e : TypeId} {g n cap : Nat} {xs : List Value} (h : w.ownsRow base e 1 (.slice (some ⟨g, 0, none⟩) n cap) n xs) (d : List Int) (hd : d.length = n) (q : Nat) :
    (putRow (Value.int .i64) (Sort.ahead w q) g 0 d.toArray).ownsRow base e 1 (.slice (some ⟨g, 0, none⟩) n cap) n (d.map (Value.int .i64)) ∧ w.grownBy (putRow (Value.int .i64) (Sort.ahead w q) g 0 d.toArray) (some g) := by
  rcases h.2 with ⟨h0, _⟩ | ⟨g', cap', cur, hv, hb, hg, hn, hm, hs, hx⟩
  · cases h0
  · injection hv with e1 e2 e3
    injection e1 with e1
    injection e1 with e1
    subst e1 e3
    refine ⟨⟨by simp [hd], .inr ⟨g, cap, putCells (Value.int .i64) 0 d.toArray cur, rfl, hb, ?_, hn, hm, by simp [putCells, hs], ?_⟩⟩, ?_⟩
    · show (w.heap.modify g (onCells (putCells (Value.int .i64) 0 d.toArray)))[g]? = _
      rw [Array.getElem?_modify, if_pos rfl, hg]
      rfl
    · apply List.ext_getElem?
      intro j
      by_cases hj : j < n
      · rw [List.getElem?_take, if_pos (by omega)]
        have hc : j < cur.size := by omega
        simp only [putCells, Array.getElem?_toList, Array.getElem?_mapIdx]
        rw [Array.getElem?_eq_getElem hc, Option.map_some, if_pos (by simp; omega)]
        simp [show j < d.length by omega]
      · rw [List.getElem?_eq_none (by simp; omega), List.getElem?_eq_none (by simp; omega)]
    · refine ⟨rfl, rfl, rfl, by simp, fun k hk hne => ?_⟩
      show (w.heap.modify g _)[k]? = _
      rw [Array.getElem?_modify, if_neg (by intro e; exact hne (by rw [e]))]
theorem below_growS (w : World) (os : Array Obj) : Below w.heap.size w (grow w os) := ⟨rfl, rfl, rfl, by simp, fun k hk => heap_grow_old w os hk⟩
theorem grown_grow {w w' : World} {g : Nat} (h : w.grownBy w' (some g)) (os : Array Obj) : w.grownBy (grow w' os) (some g) :=
  ⟨h.os, h.tape, h.output, by have := h.size; simp; omega, fun k hk hne => (heap_grow_old w' os (by have := h.size; omega)).trans (h.block k hk hne)⟩
/-- Fewer elements of a row of one's own. -/
theorem own_shorter {w : World} {base : Nat} {e : TypeId} {g n m cap : Nat} {xs : List Value} (h : w.ownsRow base e 1 (.slice (some ⟨g, 0, none⟩) n cap) n xs) (hm : m ≤ n) : w.ownsRow base e 1 (.slice (some ⟨g, 0, none⟩) m cap) m (xs.take m) := by
  have hl := h.1
  rcases h.2 with ⟨h0, _⟩ | ⟨g', cap', cur, hv, hb, hg, hn, hmx, hs, hx⟩
  · cases h0
  · injection hv with e1 e2 e3
    injection e1 with e1
    injection e1 with e1
    subst e1 e3
    refine ⟨by rw [List.length_take]; omega, .inr ⟨g, cap, cur, rfl, hb, hg, by omega, hmx, hs, ?_⟩⟩
    rw [← hx, List.take_take, Nat.min_eq_left (by omega), Nat.mul_one]
end Go.Proofs.Ytdnkkmmkkfbhhaa

/- Words turned round and blanks cut off, on both sides. -/
namespace Go.Proofs.Ytdnkkmmkkfbhhaa
open Go.RowKit Go.Sort
set_option linter.all false
end Go.Proofs.Ytdnkkmmkkfbhhaa

/- Configurations: the reference's tests; the letters of a machine. -/
namespace Go.Proofs.Ytdnkkmmkkfbhhaa
open Go.RowKit
set_option linter.all false

set_option maxRecDepth 100000 in
set_option maxHeartbeats 1000000 in
theorem l05Cells_is (gm : Nat) (S : Int) (A : Option Addr) (n c : Nat) (xs : List Int) (v : Bool) (hv : cellsB S xs = v) (w : World) (m0 : w.cell? ⟨gm, 0, none⟩ = some (.int .i64 S)) (hS : 0 ≤ S ∧ S ≤ 1000) (ha : Arg w A n (xs.map (Value.int .i64))) (hn : n ≤ 1048576) :
    Calls Try.prog 28 #[.pointer (some ⟨gm, 0, none⟩), .slice A n c] w fun e w' => e = .returned (.bool v) ∧ ∃ q, w' = w.drewN q := by
  subst hv
  have HL : Hid (xs.length = n) := by have := ha.1; rw [List.length_map] at this; exact this
  have ws : IntKind.i64.wrap (S - 1) = S - 1 := IntWalk.i64_in _ (by omega)
  have M0 := Lib.hid m0
  clear m0
  go_enter Try.func28, Try.ntmps28
  go_wp2_with fail
  go_loopw [5] (fun i wr => ∃ k q : Nat, k ≤ n ∧ i = .int .i64 k ∧ wr = w.drewN q ∧ Hid (∀ j x, j < k → xs[j]? = some x → inB x 0 (S - 1) = true)) (fun i _ => n - (intOf i).toNat)
  case atStart => exact ⟨0, 0, Nat.zero_le _, rfl, rfl, by intro j x hj; omega⟩
  case round =>
    obtain ⟨k, q, hk, rfl, rfl, HR⟩ := hrel
    have m0 : (w.drewN q).cell? ⟨gm, 0, none⟩ = some (.int .i64 S) := M0.out
    by_cases hlt : k < n
    · obtain ⟨y, HY, hy⟩ := map_at (Value.int .i64) xs (k := k) (by have := HL.out; omega)
      obtain ⟨b, off, rfl, hs⟩ := ha.sl hlt
      have hcb : w.cell? ⟨b, off + k, none⟩ = some (.int .i64 y) := hs.at hy
      have m0w : w.cell? ⟨gm, 0, none⟩ = some (.int .i64 S) := M0.out
      clear m0
      have hk0 : (0 : Int) ≤ (k : Int) := by omega
      have hkn : (k : Int) < (n : Int) := by omega
      clear hy
      rcases Bool.eq_false_or_eq_true (inB y 0 (S - 1)) with hb | hb
      rotate_left
      · have HB := Lib.hid hb
        clear hb
        have HF : Hid (cellsB S xs = false) := by unfold Hid cellsB; rw [all_no (p := fun x => inB x 0 (S - 1)) HY.out HB.out]; rfl
        go_wp2_with fail
        go_quiet ((go_at_call 26; exact quiet_eq2 (l00In_is y 0 (S - 1) _ HB.out _)))
        go_wp2_with fail
        go_ret
        exact ⟨ret_bool HF.out.symm, by first | exact ⟨_, rfl⟩ | exact ⟨_, World.drewN_drewN _ _ _⟩⟩
      · have HB := Lib.hid hb
        clear hb
        go_wp2_with fail
        go_quiet ((go_at_call 26; exact quiet_eq2 (l00In_is y 0 (S - 1) _ HB.out _)))
        go_wp2_with fail
        go_roundw
        case rel => exact ⟨k + 1, _, by omega, by go_num, (by first | rfl | exact World.drewN_drewN _ _ _), by
          intro j x hj hx
          by_cases ej : j = k
          · subst ej
            have h2 := HY.out
            rw [hx] at h2; injection h2 with h2; subst h2; exact HB.out
          · exact HR.out j x (by omega) hx⟩
        case measure => simp [intOf]; omega
    · have hall : xs.all (inB · 0 (S - 1)) = true := by
        rw [List.all_eq_true]
        intro x hx
        obtain ⟨j, hj⟩ := List.getElem?_of_mem hx
        exact HR.out j x (by have := HL.out; have := (List.getElem?_eq_some_iff.1 hj).1; omega) hj
      have HC : Hid (cellsB S xs = (decide (n ≤ 200) && (decide (n = 0) || decide (xs.getD (n - 1) 0 ≠ 0)))) := by unfold Hid cellsB; rw [hall, HL.out, Bool.true_and]
      clear hall
      by_cases h2 : n ≤ 200
      rotate_left
      · have HF : Hid (cellsB S xs = false) := by unfold Hid; rw [HC.out, decide_eq_false h2]; rfl
        go_wp2_with fail
        go_ret
        exact ⟨ret_bool HF.out.symm, _, rfl⟩
      rcases Nat.eq_zero_or_pos n with h0 | h0
      · subst h0
        have HF : Hid (cellsB S xs = true) := by unfold Hid; rw [HC.out]; rfl
        go_wp2_with fail
        go_ret
        exact ⟨ret_bool HF.out.symm, _, rfl⟩
      obtain ⟨p, rfl⟩ : ∃ p, n = p + 1 := ⟨n - 1, by omega⟩
      obtain ⟨a, HA, hat⟩ := map_at (Value.int .i64) xs (k := p) (by have := HL.out; omega)
      obtain ⟨b, off, rfl, hs⟩ := ha.sl (k := p) (by omega)
      have hca : (w.drewN q).cell? ⟨b, off + p, none⟩ = some (.int .i64 a) := hs.at hat
      have e1 : IntKind.i64.wrap (((p + 1 : Nat) : Int) - 1) = (p : Int) := by rw [IntWalk.i64_in _ (by omega)]; omega
      have hp0 : (0 : Int) ≤ (p : Int) := by omega
      have hpn : (p : Int) < ((p + 1 : Nat) : Int) := by omega
      have en : (((p + 1 : Nat) : Int) == 0) = false := by simp; omega
      clear hat
      by_cases hz : a = 0
      · have HF : Hid (cellsB S xs = false) := by unfold Hid; rw [HC.out, Nat.add_sub_cancel, getD_at HA.out, hz]; simp
        have ez : (a == 0) = true := by simpa using hz
        have ez2 : (a != 0) = false := by simp [bne, ez]
        clear hz
        go_wp2_with fail
        go_ret
        exact ⟨ret_bool HF.out.symm, _, rfl⟩
      · have HF : Hid (cellsB S xs = true) := by unfold Hid; rw [HC.out, Nat.add_sub_cancel, getD_at HA.out, decide_eq_true h2]; simp [hz]
        have ez : (a == 0) = false := by simpa using hz
        have ez2 : (a != 0) = true := by simp [bne, ez]
        clear hz
        go_wp2_with fail
        go_ret
        exact ⟨ret_bool HF.out.symm, _, rfl⟩

def goodB (S Q q : Int) (l r : List Int) : Bool := inB q 0 (Q - 1) && (cellsB S l && cellsB S r)
set_option maxRecDepth 100000 in
set_option maxHeartbeats 1000000 in
theorem l05Good_is (gm gc : Nat) (S Q q : Int) (A1 A2 : Option Addr) (n1 c1 n2 c2 : Nat) (l r : List Int) (v : Bool) (hv : goodB S Q q l r = v) (w : World) (m0 : w.cell? ⟨gm, 0, none⟩ = some (.int .i64 S)) (m1 : w.cell? ⟨gm, 1, none⟩ = some (.int .i64 Q))
    (k0 : w.cell? ⟨gc, 0, none⟩ = some (.int .i64 q)) (k1 : w.cell? ⟨gc, 1, none⟩ = some (.slice A1 n1 c1)) (k2 : w.cell? ⟨gc, 2, none⟩ = some (.slice A2 n2 c2)) (hS : 0 ≤ S ∧ S ≤ 1000) (hQ : 0 ≤ Q ∧ Q ≤ 1000) (ha1 : Arg w A1 n1 (l.map (Value.int .i64))) (ha2 : Arg w A2 n2 (r.map (Value.int .i64))) (hn1 : n1 ≤ 1048576) (hn2 : n2 ≤ 1048576) :
    Calls Try.prog 15 #[.pointer (some ⟨gm, 0, none⟩), .pointer (some ⟨gc, 0, none⟩)] w fun e w' => e = .returned (.bool v) ∧ ∃ q, w' = w.drewN q := by
  have wq : IntKind.i64.wrap (Q - 1) = Q - 1 := IntWalk.i64_in _ (by omega)
  obtain ⟨v1, h1⟩ : ∃ v1, inB q 0 (Q - 1) = v1 := ⟨_, rfl⟩
  obtain ⟨v2, h2⟩ : ∃ v2, cellsB S l = v2 := ⟨_, rfl⟩
  obtain ⟨v3, h3⟩ : ∃ v3, cellsB S r = v3 := ⟨_, rfl⟩
  have HV : Hid ((v1 && (v2 && v3)) = v) := by unfold Hid; rw [← hv, goodB, h1, h2, h3]
  have H1 := Lib.hid h1
  have H2 := Lib.hid (fun N : Nat => quiet_q (n := N) (l05Cells_is gm S A1 n1 c1 l v2 h2 (w.drewN N) m0 hS ha1 hn1))
  have H3 := Lib.hid (fun N : Nat => quiet_q (n := N) (l05Cells_is gm S A2 n2 c2 r v3 h3 (w.drewN N) m0 hS ha2 hn2))
  clear hv h1 h2 h3
  cases v1 <;> cases v2
  all_goals
    go_enter Try.func15, Try.ntmps15
    go_wp2_with fail
    go_quiet ((first | (go_at_call 26; exact quiet_eq (l00In_is q 0 (Q - 1) _ H1.out _)) | (go_at_call 28; first | with_reducible exact H2.out _ | with_reducible exact H3.out _)))
    go_wp2_with fail
    go_ret
    exact ⟨ret_bool (by rw [← HV.out]; first | done | simp), by first | exact ⟨_, rfl⟩ | exact ⟨_, World.drewN_drewN _ _ _⟩⟩
end Go.Proofs.Ytdnkkmmkkfbhhaa
