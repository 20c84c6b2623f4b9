/- Records of two, three and four numbers as rows of cells, and slices of elements of any size: plain lemmas, no conditions. -/
import Derived.Test.YtgcedfpjgdeakaaBase
namespace Go.Proofs.Ytgcedfpjgdeakaa
open Go.RowKit
set_option linter.all false

structure R2 where
  a : Int
  b : Int

structure R3 where
  a : Int
  b : Int
  c : Int

structure R4 where
  a : Int
  b : Int
  c : Int
  d : Int

theorem R2.ext' {x y : R2} (h1 : x.a = y.a) (h2 : x.b = y.b) : x = y := by cases x; cases y; simp_all
theorem R3.ext' {x y : R3} (h1 : x.a = y.a) (h2 : x.b = y.b) (h3 : x.c = y.c) : x = y := by cases x; cases y; simp_all
theorem R4.ext' {x y : R4} (h1 : x.a = y.a) (h2 : x.b = y.b) (h3 : x.c = y.c) (h4 : x.d = y.d) : x = y := by cases x; cases y; simp_all
instance : DecidableEq R2 := fun x y => decidable_of_iff (x.a = y.a ∧ x.b = y.b) ⟨fun h => R2.ext' h.1 h.2, fun h => by rw [h]; exact ⟨rfl, rfl⟩⟩
instance : DecidableEq R3 := fun x y => decidable_of_iff (x.a = y.a ∧ x.b = y.b ∧ x.c = y.c) ⟨fun h => R3.ext' h.1 h.2.1 h.2.2, fun h => by rw [h]; exact ⟨rfl, rfl, rfl⟩⟩
instance : DecidableEq R4 := fun x y => decidable_of_iff (x.a = y.a ∧ x.b = y.b ∧ x.c = y.c ∧ x.d = y.d) ⟨fun h => R4.ext' h.1 h.2.1 h.2.2.1 h.2.2.2, fun h => by rw [h]; exact ⟨rfl, rfl, rfl, rfl⟩⟩
def R2.vs (x : R2) : List Value := [.int .i64 x.a, .int .i64 x.b]
def R3.vs (x : R3) : List Value := [.int .i64 x.a, .int .i64 x.b, .int .i64 x.c]
def R4.vs (x : R4) : List Value := [.int .i64 x.a, .int .i64 x.b, .int .i64 x.c, .int .i64 x.d]
def R2.wf (x : R2) : Prop := Wf64 x.a ∧ Wf64 x.b
def R3.wf (x : R3) : Prop := Wf64 x.a ∧ Wf64 x.b ∧ Wf64 x.c
def R4.wf (x : R4) : Prop := Wf64 x.a ∧ Wf64 x.b ∧ Wf64 x.c ∧ Wf64 x.d
theorem R2.vs_len (x : R2) : x.vs.length = 2 := rfl
theorem R3.vs_len (x : R3) : x.vs.length = 3 := rfl
theorem R4.vs_len (x : R4) : x.vs.length = 4 := rfl

section
variable {α : Type}
/-- The cells of a list of records. -/
def rows (f : α → List Value) (xs : List α) : List Value := xs.flatMap f
theorem rows_nil (f : α → List Value) : rows f [] = [] := rfl
theorem rows_app (f : α → List Value) (xs ys : List α) : rows f (xs ++ ys) = rows f xs ++ rows f ys := by simp [rows]
theorem rows_one (f : α → List Value) (x : α) : rows f [x] = f x := by simp [rows]
theorem rows_len {f : α → List Value} {s : Nat} (hs : ∀ x, (f x).length = s) (xs : List α) : (rows f xs).length = xs.length * s := by
  induction xs with
  | nil => simp [rows]
  | cons x xs ih =>
    have : rows f (x :: xs) = f x ++ rows f xs := by simp [rows]
    rw [this, List.length_append, ih, hs, List.length_cons, Nat.succ_mul, Nat.add_comm]
theorem rows_at {f : α → List Value} {s : Nat} (hs : ∀ x, (f x).length = s) {xs : List α} {k : Nat} {x : α} (h : xs[k]? = some x) {j : Nat} (hj : j < s) : (rows f xs)[k * s + j]? = (f x)[j]? := by
  obtain ⟨hk, hx⟩ := List.getElem?_eq_some_iff.1 h
  have e : xs = xs.take k ++ (x :: xs.drop (k + 1)) := by
    conv => lhs; rw [← List.take_append_drop k xs, List.drop_eq_getElem_cons hk, hx]
  have l1 : (rows f (xs.take k)).length = k * s := by rw [rows_len hs, List.length_take, Nat.min_eq_left (by omega)]
  conv => lhs; rw [e, rows_app]
  rw [List.getElem?_append_right (by omega), l1, Nat.add_sub_cancel_left]
  have : rows f (x :: xs.drop (k + 1)) = f x ++ rows f (xs.drop (k + 1)) := by simp [rows]
  rw [this, List.getElem?_append_left (by rw [hs]; exact hj)]
theorem rows_drop {f : α → List Value} {s : Nat} (hs : ∀ x, (f x).length = s) (xs : List α) (k : Nat) : (rows f xs).drop (k * s) = rows f (xs.drop k) := by
  by_cases h : k ≤ xs.length
  · conv => lhs; rw [← List.take_append_drop k xs, rows_app]
    rw [List.drop_append_of_le_length (by rw [rows_len hs, List.length_take, Nat.min_eq_left h]; exact Nat.le_refl _)]
    rw [List.drop_of_length_le (by rw [rows_len hs, List.length_take, Nat.min_eq_left h]; exact Nat.le_refl _), List.nil_append]
  · rw [List.drop_of_length_le (by rw [rows_len hs]; exact Nat.mul_le_mul_right _ (by omega)), List.drop_of_length_le (by omega)]; rfl
theorem rows_take {f : α → List Value} {s : Nat} (hs : ∀ x, (f x).length = s) (xs : List α) (k : Nat) : (rows f xs).take (k * s) = rows f (xs.take k) := by
  by_cases h : k ≤ xs.length
  · conv => lhs; rw [← List.take_append_drop k xs, rows_app]
    rw [List.take_append_of_le_length (by rw [rows_len hs, List.length_take, Nat.min_eq_left h]; exact Nat.le_refl _)]
    rw [List.take_of_length_le (by rw [rows_len hs, List.length_take, Nat.min_eq_left h]; exact Nat.le_refl _)]
  · rw [List.take_of_length_le (by rw [rows_len hs]; exact Nat.mul_le_mul_right _ (by omega)), List.take_of_length_le (by omega)]
end

/-- A slice of elements of s cells that came in. -/
def Args (s : Nat) (w : World) (A : Option Addr) (n : Nat) (xs : List Value) : Prop :=
  xs.length = n * s ∧ (n = 0 ∨ ∃ b off, A = some ⟨b, off, none⟩ ∧ Sl w b off xs)
theorem Args.below {s : Nat} {w w' : World} {A : Option Addr} {n : Nat} {xs : List Value} (h : Args s w A n xs) (hb : Below w.heap.size w w') : Args s w' A n xs := by
  refine ⟨h.1, ?_⟩
  rcases h.2 with h0 | ⟨b, off, rfl, hs⟩
  · exact .inl h0
  · exact .inr ⟨b, off, rfl, hs.below' hb⟩
theorem Args.sl {s : Nat} {w : World} {A : Option Addr} {n : Nat} {xs : List Value} (h : Args s w A n xs) {k : Nat} (hk : k < n) : ∃ b off, A = some ⟨b, off, none⟩ ∧ Sl w b off xs := by
  rcases h.2 with h0 | h0
  · omega
  · exact h0
theorem Args.of_sl {s : Nat} {w : World} {b off n : Nat} {xs : List Value} (h : Sl w b off xs) (hn : xs.length = n * s) : Args s w (some ⟨b, off, none⟩) n xs := ⟨hn, .inr ⟨b, off, rfl, h⟩⟩
theorem Args.of_nil (s : Nat) (w : World) (A : Option Addr) : Args s w A 0 [] := ⟨by simp, .inl rfl⟩
theorem args_of_own {s : Nat} {w : World} {base : Nat} {e : TypeId} {A : Option Addr} {n cap : Nat} {xs : List Value} (h : w.ownsRow base e s (.slice A n cap) n xs) : Args s w A n xs := by
  refine ⟨h.1, ?_⟩
  rcases h.2 with ⟨h', h0⟩ | ⟨g, cap', cur, hv, _⟩
  · exact .inl h0
  · obtain ⟨rfl, rfl⟩ : A = some ⟨g, 0, none⟩ ∧ cap = cap' := by simpa using hv
    exact .inr ⟨g, 0, rfl, sl_of_own h⟩
/-- One record's cells. -/
theorem Sl.rec {α : Type} {f : α → List Value} {s : Nat} (hs : ∀ x, (f x).length = s) {w : World} {b off : Nat} {xs : List α} (h : Sl w b off (rows f xs)) {k : Nat} {x : α} (hx : xs[k]? = some x) {j : Nat} {u : Value} (hu : (f x)[j]? = some u) :
    w.cell? ⟨b, off + k * s + j, none⟩ = some u := by
  have hj : j < s := by rw [← hs x]; exact (List.getElem?_eq_some_iff.1 hu).1
  rw [Nat.add_assoc]
  exact h.at (by rw [rows_at hs hx hj]; exact hu)
theorem Sl.rec2 {w : World} {b off : Nat} {xs : List R2} (h : Sl w b off (rows R2.vs xs)) {k : Nat} {x : R2} (hx : xs[k]? = some x) :
    w.cell? ⟨b, off + k * 2, none⟩ = some (.int .i64 x.a) ∧ w.cell? ⟨b, off + k * 2 + 1, none⟩ = some (.int .i64 x.b) :=
  ⟨h.rec R2.vs_len hx (j := 0) rfl, h.rec R2.vs_len hx (j := 1) rfl⟩
theorem Sl.rec3 {w : World} {b off : Nat} {xs : List R3} (h : Sl w b off (rows R3.vs xs)) {k : Nat} {x : R3} (hx : xs[k]? = some x) :
    w.cell? ⟨b, off + k * 3, none⟩ = some (.int .i64 x.a) ∧ w.cell? ⟨b, off + k * 3 + 1, none⟩ = some (.int .i64 x.b) ∧ w.cell? ⟨b, off + k * 3 + 2, none⟩ = some (.int .i64 x.c) :=
  ⟨h.rec R3.vs_len hx (j := 0) rfl, h.rec R3.vs_len hx (j := 1) rfl, h.rec R3.vs_len hx (j := 2) rfl⟩
theorem Sl.rec4 {w : World} {b off : Nat} {xs : List R4} (h : Sl w b off (rows R4.vs xs)) {k : Nat} {x : R4} (hx : xs[k]? = some x) :
    w.cell? ⟨b, off + k * 4, none⟩ = some (.int .i64 x.a) ∧ w.cell? ⟨b, off + k * 4 + 1, none⟩ = some (.int .i64 x.b) ∧ w.cell? ⟨b, off + k * 4 + 2, none⟩ = some (.int .i64 x.c) ∧ w.cell? ⟨b, off + k * 4 + 3, none⟩ = some (.int .i64 x.d) :=
  ⟨h.rec R4.vs_len hx (j := 0) rfl, h.rec R4.vs_len hx (j := 1) rfl, h.rec R4.vs_len hx (j := 2) rfl, h.rec R4.vs_len hx (j := 3) rfl⟩
theorem hget {α : Type} {xs : List α} {n k : Nat} (H : Hid (xs.length = n)) (h : k < n) : ∃ x, Hid (xs[k]? = some x) := ⟨_, List.getElem?_eq_getElem (by have := H.out; omega)⟩
/-- A part of a slice of records. -/
theorem Sl.part {α : Type} {f : α → List Value} {s : Nat} (hs : ∀ x, (f x).length = s) {w : World} {b off : Nat} {xs : List α} (h : Sl w b off (rows f xs)) (i j : Nat) : Sl w b (off + i * s) (rows f ((xs.drop i).take j)) := by
  refine ⟨h.1, fun k u hu => ?_⟩
  rw [Nat.add_assoc]
  refine h.at ?_
  rw [← rows_take hs, ← rows_drop hs, List.getElem?_take] at hu
  split at hu
  · rw [List.getElem?_drop] at hu; exact hu
  · cases hu

theorem run_make_rows {P : Program} (t e : TypeId) (z : Value) (s bytes : Nat) (ht : P.underlying t = some (.slice e)) (hinfo : (P.info? e).map (fun i => (i.zero, i.size, i.bytes)) = some (some z, s, bytes))
    (kl kc : IntKind) (n : Nat) (hbytes : bytes * n ≤ 281474976710656) (h63 : n ≤ 9223372036854775807) (w : World) :
    (Instr.makeSlice t (.int kl (n : Int)) (.int kc (n : Int))).run P w = .ok (.slice (some ⟨w.heap.size, 0, none⟩) n n) (w.alloc (.cells (madeCells z.cells (n * s)) e)) := by
  obtain ⟨i, hi, hz, hsize, hb⟩ := info_parts hinfo
  have hb' : (i.bytes : Int) * (n : Int) ≤ 281474976710656 := by
    have h : ((i.bytes * n : Nat) : Int) ≤ 281474976710656 := by rw [hb]; omega
    rwa [Int.natCast_mul] at h
  have hr := run_make (P := P) w t e i z ht hi hz kl kc n n (by omega) (by omega) hb' (by omega)
  simp only [Int.toNat_natCast, hsize] at hr
  exact hr

/-- A row that was made: each cell is something. -/
theorem rowIs_mades (w : World) (zs : Array Value) (n : Nat) (t : TypeId) : ∃ f, (w.alloc (.cells (madeCells zs n) t)).rowIs w.heap.size t n f :=
  ⟨fun i => (madeCells zs n).getD i undef, madeCells zs n, Go.Deep.blk_alloc_new _ _, size_madeCells _ _, fun i hi => by
    have : i < (madeCells zs n).size := by rw [size_madeCells]; exact hi
    simp [Array.getD, this]⟩
/-- The cells up to k are told; the rest holds something. -/
def RowUp (w : World) (g : Nat) (t : TypeId) (n : Nat) (xs : List Value) (k : Nat) : Prop := ∃ f, w.rowIs g t n f ∧ ∀ j u, j < k → xs[j]? = some u → f j = u
theorem RowUp.zero {w : World} {g : Nat} {t : TypeId} {n : Nat} {f : Nat → Value} (h : w.rowIs g t n f) (xs : List Value) : RowUp w g t n xs 0 := ⟨f, h, by intro j u hj; omega⟩
theorem RowUp.cell {w : World} {g : Nat} {t : TypeId} {n k : Nat} {xs : List Value} (h : RowUp w g t n xs k) {i : Nat} (hi : i < n) : ∃ u, w.cell? ⟨g, i, none⟩ = some u := by
  obtain ⟨f, h1, _⟩ := h; exact ⟨_, h1.cell hi⟩
theorem RowUp.frozen {w : World} {g : Nat} {t : TypeId} {n k : Nat} {xs : List Value} (h : RowUp w g t n xs k) (i : Nat) : w.frozen? ⟨g, i, none⟩ = false := by
  obtain ⟨f, h1, _⟩ := h; exact h1.frozen i
theorem RowUp.set {w : World} {g : Nat} {t : TypeId} {n k : Nat} {xs : List Value} (h : RowUp w g t n xs k) {u : Value} (hu : xs[k]? = some u) : RowUp (w.setCell ⟨g, k, none⟩ u) g t n xs (k + 1) := by
  obtain ⟨f, h1, h2⟩ := h
  refine ⟨_, h1.set k u, fun j v hj hv => ?_⟩
  by_cases e : j = k
  · subst e; rw [hu] at hv; injection hv with hv; simp [hv]
  · simp only [if_neg e]; exact h2 j v (by omega) hv
theorem RowUp.below {w w' : World} {B g : Nat} {t : TypeId} {n k : Nat} {xs : List Value} (h : RowUp w g t n xs k) (hb : Below B w w') (hg : g < B) : RowUp w' g t n xs k := by
  obtain ⟨f, h1, h2⟩ := h
  exact ⟨f, h1.of_block (hb.block g hg), h2⟩
theorem RowUp.set2 {w : World} {g : Nat} {t : TypeId} {n k : Nat} {xs : List R2} (h : RowUp w g t n (rows R2.vs xs) (k * 2)) {x : R2} (hx : xs[k]? = some x) :
    RowUp ((w.setCell ⟨g, k * 2, none⟩ (.int .i64 x.a)).setCell ⟨g, k * 2 + 1, none⟩ (.int .i64 x.b)) g t n (rows R2.vs xs) ((k + 1) * 2) := by
  rw [show (k + 1) * 2 = k * 2 + 2 by omega]
  exact ((h.set (u := .int .i64 x.a) (by have := rows_at R2.vs_len hx (j := 0) (by omega); exact this)).set (u := .int .i64 x.b) (by have := rows_at R2.vs_len hx (j := 1) (by omega); exact this))
theorem below_set2 {w w1 : World} {g k : Nat} {x : R2} (h : Below g w w1) : Below g w ((w1.setCell ⟨g, k * 2, none⟩ (.int .i64 x.a)).setCell ⟨g, k * 2 + 1, none⟩ (.int .i64 x.b)) :=
  h.setCell (p := ⟨g, k * 2, none⟩) (Nat.le_refl _) (.int .i64 x.a) |>.setCell (p := ⟨g, k * 2 + 1, none⟩) (Nat.le_refl _) (.int .i64 x.b)
theorem RowUp.set3 {w : World} {g : Nat} {t : TypeId} {n k : Nat} {xs : List R3} (h : RowUp w g t n (rows R3.vs xs) (k * 3)) {x : R3} (hx : xs[k]? = some x) :
    RowUp (((w.setCell ⟨g, k * 3, none⟩ (.int .i64 x.a)).setCell ⟨g, k * 3 + 1, none⟩ (.int .i64 x.b)).setCell ⟨g, k * 3 + 2, none⟩ (.int .i64 x.c)) g t n (rows R3.vs xs) ((k + 1) * 3) := by
  rw [show (k + 1) * 3 = k * 3 + 3 by omega]
  exact (((h.set (u := .int .i64 x.a) (by have := rows_at R3.vs_len hx (j := 0) (by omega); exact this)).set (u := .int .i64 x.b) (by have := rows_at R3.vs_len hx (j := 1) (by omega); exact this)).set (u := .int .i64 x.c) (by have := rows_at R3.vs_len hx (j := 2) (by omega); exact this))
theorem below_set3 {w w1 : World} {g k : Nat} {x : R3} (h : Below g w w1) : Below g w (((w1.setCell ⟨g, k * 3, none⟩ (.int .i64 x.a)).setCell ⟨g, k * 3 + 1, none⟩ (.int .i64 x.b)).setCell ⟨g, k * 3 + 2, none⟩ (.int .i64 x.c)) :=
  h.setCell (p := ⟨g, k * 3, none⟩) (Nat.le_refl _) (.int .i64 x.a) |>.setCell (p := ⟨g, k * 3 + 1, none⟩) (Nat.le_refl _) (.int .i64 x.b) |>.setCell (p := ⟨g, k * 3 + 2, none⟩) (Nat.le_refl _) (.int .i64 x.c)
theorem RowUp.set4 {w : World} {g : Nat} {t : TypeId} {n k : Nat} {xs : List R4} (h : RowUp w g t n (rows R4.vs xs) (k * 4)) {x : R4} (hx : xs[k]? = some x) :
    RowUp ((((w.setCell ⟨g, k * 4, none⟩ (.int .i64 x.a)).setCell ⟨g, k * 4 + 1, none⟩ (.int .i64 x.b)).setCell ⟨g, k * 4 + 2, none⟩ (.int .i64 x.c)).setCell ⟨g, k * 4 + 3, none⟩ (.int .i64 x.d)) g t n (rows R4.vs xs) ((k + 1) * 4) := by
  rw [show (k + 1) * 4 = k * 4 + 4 by omega]
  exact ((((h.set (u := .int .i64 x.a) (by have := rows_at R4.vs_len hx (j := 0) (by omega); exact this)).set (u := .int .i64 x.b) (by have := rows_at R4.vs_len hx (j := 1) (by omega); exact this)).set (u := .int .i64 x.c) (by have := rows_at R4.vs_len hx (j := 2) (by omega); exact this)).set (u := .int .i64 x.d) (by have := rows_at R4.vs_len hx (j := 3) (by omega); exact this))
theorem below_set4 {w w1 : World} {g k : Nat} {x : R4} (h : Below g w w1) : Below g w ((((w1.setCell ⟨g, k * 4, none⟩ (.int .i64 x.a)).setCell ⟨g, k * 4 + 1, none⟩ (.int .i64 x.b)).setCell ⟨g, k * 4 + 2, none⟩ (.int .i64 x.c)).setCell ⟨g, k * 4 + 3, none⟩ (.int .i64 x.d)) :=
  h.setCell (p := ⟨g, k * 4, none⟩) (Nat.le_refl _) (.int .i64 x.a) |>.setCell (p := ⟨g, k * 4 + 1, none⟩) (Nat.le_refl _) (.int .i64 x.b) |>.setCell (p := ⟨g, k * 4 + 2, none⟩) (Nat.le_refl _) (.int .i64 x.c) |>.setCell (p := ⟨g, k * 4 + 3, none⟩) (Nat.le_refl _) (.int .i64 x.d)
theorem RowUp.lt {w : World} {g : Nat} {t : TypeId} {n k : Nat} {xs : List Value} (h : RowUp w g t n xs k) : g < w.heap.size := by
  obtain ⟨f, h1, _⟩ := h; exact h1.lt
theorem RowUp.own {w : World} {g base : Nat} {t : TypeId} {n s : Nat} {xs : List Value} (h : RowUp w g t (n * s) xs (n * s)) (hb : base ≤ g) (hm : n ≤ maxLen) (hl : xs.length = n * s) : w.ownsRow base t s (.slice (some ⟨g, 0, none⟩) n n) n xs := by
  obtain ⟨f, ⟨cur, hh, hs, hc⟩, h2⟩ := h
  refine ⟨hl, .inr ⟨g, n, cur, rfl, hb, hh, Nat.le_refl _, hm, hs, ?_⟩⟩
  apply List.ext_getElem?
  intro j
  by_cases hj : j < n * s
  · rw [List.getElem?_take, if_pos hj]
    have hx : xs[j]? = some (xs[j]'(by omega)) := List.getElem?_eq_getElem (by omega)
    rw [hx]
    have := hc j hj
    rw [h2 j _ hj hx] at this
    simpa using this
  · rw [List.getElem?_eq_none (by simp; omega), List.getElem?_eq_none (by omega)]

/-- The marks on records of s cells are the marks on their cells. -/
theorem marks_set' (f : Int → Value) (k : Int) (xs : List Value) (i : Nat) (h : i < xs.length) (v : Value) (hv : v = f (k + i)) : (marks f k i ++ xs.drop i).set i v = marks f k (i + 1) ++ xs.drop (i + 1) := by
  rw [hv]; exact marks_set f k xs i h
theorem own_some {w : World} {base : Nat} {e : TypeId} {size g n cap : Nat} {xs : List Value} (h : w.ownsRow base e size (.slice (some ⟨g, 0, none⟩) n cap) n xs) {j : Nat} (hj : j < n * size) : ∃ u, w.cell? ⟨g, j, none⟩ = some u := by
  rw [h.cellAt j hj]
  exact ⟨_, List.getElem?_eq_getElem (by have := h.1; omega)⟩
theorem own_mark1 {w wr : World} {base : Nat} {e : TypeId} {size g n cap : Nat} {xs : List Value} {k0 : Int} {j : Nat} (h : wr.ownsRow base e size (.slice (some ⟨g, 0, none⟩) n cap) n (marks (.int .i64) k0 j ++ xs.drop j)) (hg : w.grownBy wr (some g)) (hl : xs.length = n * size) (hj : j < n * size) {x : Int} (hx : x = k0 + j) :
    (wr.setCell ⟨g, j, none⟩ (.int .i64 x)).ownsRow base e size (.slice (some ⟨g, 0, none⟩) n cap) n (marks (.int .i64) k0 (j + 1) ++ xs.drop (j + 1)) ∧ w.grownBy (wr.setCell ⟨g, j, none⟩ (.int .i64 x)) (some g) := by
  have h1 := h.stored j (.int .i64 x)
  rw [marks_set' _ _ _ _ (by omega) _ (by rw [hx])] at h1
  exact ⟨h1.1, hg.trans h1.2⟩
theorem own_mark2 {w wr : World} {base : Nat} {e : TypeId} {g n cap : Nat} {xs : List Value} {k0 : Int} {k : Nat} (h : wr.ownsRow base e 2 (.slice (some ⟨g, 0, none⟩) n cap) n (marks (.int .i64) k0 (k * 2) ++ xs.drop (k * 2))) (hg : w.grownBy wr (some g)) (hl : xs.length = n * 2) (hk : k < n) :
    ((wr.setCell ⟨g, k * 2, none⟩ (.int .i64 (k0 + (k : Int) * 2))).setCell ⟨g, k * 2 + 1, none⟩ (.int .i64 (k0 + (k : Int) * 2 + 1))).ownsRow base e 2 (.slice (some ⟨g, 0, none⟩) n cap) n (marks (.int .i64) k0 ((k + 1) * 2) ++ xs.drop ((k + 1) * 2)) ∧ w.grownBy ((wr.setCell ⟨g, k * 2, none⟩ (.int .i64 (k0 + (k : Int) * 2))).setCell ⟨g, k * 2 + 1, none⟩ (.int .i64 (k0 + (k : Int) * 2 + 1))) (some g) := by
  rw [show (k + 1) * 2 = k * 2 + 2 by omega]
  have h0 := own_mark1 (j := k * 2) h hg hl (by omega) (x := k0 + (k : Int) * 2) (by omega)
  have h1 := own_mark1 (j := k * 2 + 1) h0.1 h0.2 hl (by omega) (x := k0 + (k : Int) * 2 + 1) (by omega)
  exact h1
theorem own_mark3 {w wr : World} {base : Nat} {e : TypeId} {g n cap : Nat} {xs : List Value} {k0 : Int} {k : Nat} (h : wr.ownsRow base e 3 (.slice (some ⟨g, 0, none⟩) n cap) n (marks (.int .i64) k0 (k * 3) ++ xs.drop (k * 3))) (hg : w.grownBy wr (some g)) (hl : xs.length = n * 3) (hk : k < n) :
    (((wr.setCell ⟨g, k * 3, none⟩ (.int .i64 (k0 + (k : Int) * 3))).setCell ⟨g, k * 3 + 1, none⟩ (.int .i64 (k0 + (k : Int) * 3 + 1))).setCell ⟨g, k * 3 + 2, none⟩ (.int .i64 (k0 + (k : Int) * 3 + 1 + 1))).ownsRow base e 3 (.slice (some ⟨g, 0, none⟩) n cap) n (marks (.int .i64) k0 ((k + 1) * 3) ++ xs.drop ((k + 1) * 3)) ∧ w.grownBy (((wr.setCell ⟨g, k * 3, none⟩ (.int .i64 (k0 + (k : Int) * 3))).setCell ⟨g, k * 3 + 1, none⟩ (.int .i64 (k0 + (k : Int) * 3 + 1))).setCell ⟨g, k * 3 + 2, none⟩ (.int .i64 (k0 + (k : Int) * 3 + 1 + 1))) (some g) := by
  rw [show (k + 1) * 3 = k * 3 + 3 by omega]
  have h0 := own_mark1 (j := k * 3) h hg hl (by omega) (x := k0 + (k : Int) * 3) (by omega)
  have h1 := own_mark1 (j := k * 3 + 1) h0.1 h0.2 hl (by omega) (x := k0 + (k : Int) * 3 + 1) (by omega)
  have h2 := own_mark1 (j := k * 3 + 2) h1.1 h1.2 hl (by omega) (x := k0 + (k : Int) * 3 + 1 + 1) (by omega)
  exact h2
theorem own_mark4 {w wr : World} {base : Nat} {e : TypeId} {g n cap : Nat} {xs : List Value} {k0 : Int} {k : Nat} (h : wr.ownsRow base e 4 (.slice (some ⟨g, 0, none⟩) n cap) n (marks (.int .i64) k0 (k * 4) ++ xs.drop (k * 4))) (hg : w.grownBy wr (some g)) (hl : xs.length = n * 4) (hk : k < n) :
    ((((wr.setCell ⟨g, k * 4, none⟩ (.int .i64 (k0 + (k : Int) * 4))).setCell ⟨g, k * 4 + 1, none⟩ (.int .i64 (k0 + (k : Int) * 4 + 1))).setCell ⟨g, k * 4 + 2, none⟩ (.int .i64 (k0 + (k : Int) * 4 + 1 + 1))).setCell ⟨g, k * 4 + 3, none⟩ (.int .i64 (k0 + (k : Int) * 4 + 1 + 1 + 1))).ownsRow base e 4 (.slice (some ⟨g, 0, none⟩) n cap) n (marks (.int .i64) k0 ((k + 1) * 4) ++ xs.drop ((k + 1) * 4)) ∧ w.grownBy ((((wr.setCell ⟨g, k * 4, none⟩ (.int .i64 (k0 + (k : Int) * 4))).setCell ⟨g, k * 4 + 1, none⟩ (.int .i64 (k0 + (k : Int) * 4 + 1))).setCell ⟨g, k * 4 + 2, none⟩ (.int .i64 (k0 + (k : Int) * 4 + 1 + 1))).setCell ⟨g, k * 4 + 3, none⟩ (.int .i64 (k0 + (k : Int) * 4 + 1 + 1 + 1))) (some g) := by
  rw [show (k + 1) * 4 = k * 4 + 4 by omega]
  have h0 := own_mark1 (j := k * 4) h hg hl (by omega) (x := k0 + (k : Int) * 4) (by omega)
  have h1 := own_mark1 (j := k * 4 + 1) h0.1 h0.2 hl (by omega) (x := k0 + (k : Int) * 4 + 1) (by omega)
  have h2 := own_mark1 (j := k * 4 + 2) h1.1 h1.2 hl (by omega) (x := k0 + (k : Int) * 4 + 1 + 1) (by omega)
  have h3 := own_mark1 (j := k * 4 + 3) h2.1 h2.2 hl (by omega) (x := k0 + (k : Int) * 4 + 1 + 1 + 1) (by omega)
  exact h3
/-- 'x[l:h]': one address, whether room is left or not. -/
theorem run_slice_part {P : Program} (t e : TypeId) {z : Value} {s bytes : Nat} (ht : P.underlying t = some (.slice e)) (hinfo : (P.info? e).map (fun i => (i.zero, i.size, i.bytes)) = some (some z, s, bytes))
    (b off n c l m : Nat) (i j : Int) (hi : i = l) (hj : j = (l + m : Nat)) (hh : l + m ≤ c) :
    ∃ o', (m = 0 ∨ o' = off + l * s) ∧ ∀ W, (Instr.slice t (.slice (some ⟨b, off, none⟩) n c) (some (.int .i64 i)) (some (.int .i64 j)) none).run P W = .ok (.slice (some ⟨b, o', none⟩) m (c - l)) W := by
  obtain ⟨ti, hti, hz, hsize, hb⟩ := info_parts hinfo
  have he : P.elem t = e := by simp [Program.elem, ht]
  refine ⟨if c = l then off else off + l * s, ?_, fun W => ?_⟩
  · by_cases h0 : c = l
    · exact .inl (by omega)
    · exact .inr (by rw [if_neg h0])
  · rw [run_slice_lh W t (some ⟨b, off, none⟩) n c (by rw [he]; exact ht) .i64 .i64 i j (by omega) (by omega) (by omega)]
    subst hi hj
    have hsz : ∀ W, (sizeOf (P.elem t)).run P W = .ok s W := by intro W; rw [he]; simp [sizeOf, typeInfo, hti, hsize]
    rw [hsz]
    simp only [Result.andThen, sliced, Int.toNat_natCast, Nat.add_sub_cancel_left]
    by_cases h0 : c = l
    · simp [h0]
    · simp only [if_neg h0, Option.map_some]
      have : (⟨b, off, none⟩ : Addr).add (l * s) = ⟨b, off + l * s, none⟩ := by
        unfold Addr.add
        split
        · rename_i h; simp [h]
        · rfl
      rw [this]
/-- Which part it is. -/
theorem args_part {α : Type} {f : α → List Value} {s : Nat} (hs : ∀ x, (f x).length = s) {w : World} {b off o' : Nat} {xs : List α} (h : Sl w b off (rows f xs)) (i m : Nat) (ho : m = 0 ∨ o' = off + i * s) (hl : i + m ≤ xs.length) : Args s w (some ⟨b, o', none⟩) m (rows f ((xs.drop i).take m)) := by
  have hlen : (rows f ((xs.drop i).take m)).length = m * s := by rw [rows_len hs, List.length_take, List.length_drop, Nat.min_eq_left (by omega)]
  rcases ho with h0 | rfl
  · exact ⟨hlen, .inl h0⟩
  · exact Args.of_sl (h.part hs i m) hlen
end Go.Proofs.Ytgcedfpjgdeakaa
