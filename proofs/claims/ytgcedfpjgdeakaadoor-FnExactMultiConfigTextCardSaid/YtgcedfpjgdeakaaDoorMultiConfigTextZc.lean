/- The law FnExactMultiConfigText returns true for every input, and each argument reads afterwards as before: the proof, part 3. No conditions. -/
import Derived.Test.YtgcedfpjgdeakaaDoorMultiConfigTextZb
import Derived.StillTailTactics
import Derived.Deep.DrawnRows
/- Contracts of the laws' helpers on MultiRule and []MultiRule: copy, compare, size, mark, look at the marks. -/
namespace Go.Proofs.YtgcedfpjgdeakaaDoor
open Go.RowKit
set_option linter.all false

/-- The data. -/
structure DMultiRule where
  f0 : Int
  f1 : List Int
  f2 : List Int
  f3 : List Int
  f4 : Int
instance : DecidableEq DMultiRule := fun x y => decidable_of_iff (x.f0 = y.f0 ∧ x.f1 = y.f1 ∧ x.f2 = y.f2 ∧ x.f3 = y.f3 ∧ x.f4 = y.f4) ⟨fun h => by cases x; cases y; simp_all, fun h => by subst h; exact ⟨rfl, rfl, rfl, rfl, rfl⟩⟩
/-- A record in memory. -/
structure EMultiRule where
  d : DMultiRule
  u1 : Value
  u2 : Value
  u3 : Value
def EMultiRule.vs (e : EMultiRule) : List Value := [.int .i64 e.d.f0, e.u1, e.u2, e.u3, .int .i64 e.d.f4]
def EMultiRule.us (e : EMultiRule) : List Value := [e.u1, e.u2, e.u3]
def EMultiRule.its (e : EMultiRule) : List (Nat × List Value) := [(e.d.f1.length, rows oneI e.d.f1), (e.d.f2.length, rows oneI e.d.f2), (e.d.f3.length, rows oneI e.d.f3)]
def kndMultiRule : Knd EMultiRule := ⟨EMultiRule.vs, EMultiRule.us, EMultiRule.its, 5, 3, fun _ => rfl, fun _ => rfl, fun _ => rfl⟩
def wlMultiRule (x : DMultiRule) : Nat := x.f1.length + x.f2.length + x.f3.length
def wbMultiRule (m : Nat) (x : DMultiRule) : Prop := x.f1.length ≤ m ∧ x.f2.length ≤ m ∧ x.f3.length ≤ m ∧ True
def DMultiRule.wf (x : DMultiRule) : Prop := Wf64 x.f0 ∧ Wf64 x.f4 ∧ (∀ y ∈ x.f1, Wf64 y) ∧ (∀ y ∈ x.f2, Wf64 y) ∧ (∀ y ∈ x.f3, Wf64 y)
def RdMultiRule (w : World) (e : EMultiRule) : Prop := (∃ A c, e.u1 = .slice A e.d.f1.length c ∧ Args 1 w A e.d.f1.length (rows oneI e.d.f1)) ∧ (∃ A c, e.u2 = .slice A e.d.f2.length c ∧ Args 1 w A e.d.f2.length (rows oneI e.d.f2)) ∧ (∃ A c, e.u3 = .slice A e.d.f3.length c ∧ Args 1 w A e.d.f3.length (rows oneI e.d.f3)) ∧ True
theorem RdMultiRule.below {w w' : World} {e : EMultiRule} (h : RdMultiRule w e) (hb : Below w.heap.size w w') : RdMultiRule w' e := by
  obtain ⟨⟨A1, c1, e1, h1⟩, ⟨A2, c2, e2, h2⟩, ⟨A3, c3, e3, h3⟩, -⟩ := h
  exact ⟨⟨A1, c1, e1, h1.below hb⟩, ⟨A2, c2, e2, h2.below hb⟩, ⟨A3, c3, e3, h3.below hb⟩, trivial⟩
def RdsMultiRule (w : World) (es : List EMultiRule) : Prop := ∀ e ∈ es, RdMultiRule w e
theorem RdsMultiRule.below {w w' : World} {es : List EMultiRule} (h : RdsMultiRule w es) (hb : Below w.heap.size w w') : RdsMultiRule w' es := fun e he => (h e he).below hb
theorem rdsMultiRule_of {base hi : Nat} {T Te : TypeId} {V : Value} {es : List EMultiRule} {W : World} (h : SGrid kndMultiRule base hi T Te 1 V es W) : RdsMultiRule W es := by
  intro e he
  obtain ⟨k, hk⟩ := List.getElem?_of_mem he
  refine ⟨?_, ?_, ?_, trivial⟩
  · have hr := h.row (j := 0) hk (v := e.u1) (it := (e.d.f1.length, rows oneI e.d.f1)) rfl rfl
    obtain ⟨A, c, e1⟩ := own_form hr
    rw [e1] at hr
    exact ⟨A, c, e1, args_of_own hr⟩
  · have hr := h.row (j := 1) hk (v := e.u2) (it := (e.d.f2.length, rows oneI e.d.f2)) rfl rfl
    obtain ⟨A, c, e1⟩ := own_form hr
    rw [e1] at hr
    exact ⟨A, c, e1, args_of_own hr⟩
  · have hr := h.row (j := 2) hk (v := e.u3) (it := (e.d.f3.length, rows oneI e.d.f3)) rfl rfl
    obtain ⟨A, c, e1⟩ := own_form hr
    rw [e1] at hr
    exact ⟨A, c, e1, args_of_own hr⟩
def mkMultiRule (k : Int) (e : EMultiRule) : EMultiRule := ⟨⟨k, runI (k + 1) e.d.f1.length, runI ((k + 1) + ((e.d.f1.length : Nat) : Int)) e.d.f2.length, runI (((k + 1) + ((e.d.f1.length : Nat) : Int)) + ((e.d.f2.length : Nat) : Int)) e.d.f3.length, ((((k + 1) + ((e.d.f1.length : Nat) : Int)) + ((e.d.f2.length : Nat) : Int)) + ((e.d.f3.length : Nat) : Int))⟩, e.u1, e.u2, e.u3⟩
def widMultiRule (e : EMultiRule) : Nat := 2 + wlMultiRule e.d * 1
theorem widMultiRule_eq (e : EMultiRule) : widMultiRule e = 1 + e.d.f1.length * 1 + e.d.f2.length * 1 + e.d.f3.length * 1 + 1 := by unfold widMultiRule wlMultiRule; omega
/-- Each of the record's slices has an address below m. -/
def adrMultiRule (m : Nat) (e : EMultiRule) : Prop := (∃ g : Nat, g < m ∧ e.u1 = .slice (some ⟨g, 0, none⟩) e.d.f1.length e.d.f1.length) ∧ (∃ g : Nat, g < m ∧ e.u2 = .slice (some ⟨g, 0, none⟩) e.d.f2.length e.d.f2.length) ∧ (∃ g : Nat, g < m ∧ e.u3 = .slice (some ⟨g, 0, none⟩) e.d.f3.length e.d.f3.length) ∧ True
theorem adrMultiRule.mono {m m' : Nat} {e : EMultiRule} (h : adrMultiRule m e) (hm : m ≤ m') : adrMultiRule m' e := by
  obtain ⟨⟨g1, l1, e1⟩, ⟨g2, l2, e2⟩, ⟨g3, l3, e3⟩, -⟩ := h
  exact ⟨⟨g1, Nat.lt_of_lt_of_le l1 hm, e1⟩, ⟨g2, Nat.lt_of_lt_of_le l2 hm, e2⟩, ⟨g3, Nat.lt_of_lt_of_le l3 hm, e3⟩, trivial⟩
theorem adrsMultiRule_snoc {m m' : Nat} {es : List EMultiRule} (h : ∀ e ∈ es, adrMultiRule m e) (hm : m ≤ m') {x : EMultiRule} (hx : adrMultiRule m' x) : ∀ e ∈ es ++ [x], adrMultiRule m' e := by
  intro e he
  rcases List.mem_append.1 he with h1 | h1
  · exact (h e h1).mono hm
  · rw [List.mem_singleton.1 h1]; exact hx
/-- Readable records whose slices have addresses. -/
def RcsMultiRule (w : World) (es : List EMultiRule) : Prop := RdsMultiRule w es ∧ ∀ e ∈ es, adrMultiRule w.heap.size e
theorem RcsMultiRule.below {w w' : World} {es : List EMultiRule} (h : RcsMultiRule w es) (hb : Below w.heap.size w w') : RcsMultiRule w' es := ⟨h.1.below hb, fun e he => (h.2 e he).mono hb.size⟩
theorem rcsMultiRule_of {base hi m : Nat} {T Te : TypeId} {V : Value} {es : List EMultiRule} {W : World} (h : SGrid kndMultiRule base hi T Te 1 V es W) (ha : ∀ e ∈ es, adrMultiRule m e) (hm : m ≤ W.heap.size) : RcsMultiRule W es := ⟨rdsMultiRule_of h, fun e he => (ha e he).mono hm⟩
/-- A record's slices read as lists. -/
theorem RcsMultiRule.at {w : World} {es : List EMultiRule} (h : RcsMultiRule w es) {e : EMultiRule} (he : e ∈ es) : (∃ g : Nat, e.u1 = .slice (some ⟨g, 0, none⟩) e.d.f1.length e.d.f1.length ∧ Sl w g 0 (e.d.f1.map (.int .i64))) ∧ (∃ g : Nat, e.u2 = .slice (some ⟨g, 0, none⟩) e.d.f2.length e.d.f2.length ∧ Sl w g 0 (e.d.f2.map (.int .i64))) ∧ (∃ g : Nat, e.u3 = .slice (some ⟨g, 0, none⟩) e.d.f3.length e.d.f3.length ∧ Sl w g 0 (e.d.f3.map (.int .i64))) ∧ True := by
  obtain ⟨⟨A1, c1, hu1, ha1⟩, ⟨A2, c2, hu2, ha2⟩, ⟨A3, c3, hu3, ha3⟩, -⟩ := h.1 e he
  obtain ⟨⟨g1, hl1, hg1⟩, ⟨g2, hl2, hg2⟩, ⟨g3, hl3, hg3⟩, -⟩ := h.2 e he
  refine ⟨?_, ?_, ?_, trivial⟩
  · refine ⟨g1, hg1, ?_⟩
    rw [hg1] at hu1
    injection hu1 with e1 e2 e3
    rcases ha1.2 with h0 | ⟨b, off, hA, hsl⟩
    · rw [List.eq_nil_of_length_eq_zero h0]; exact Sl.empty hl1
    · rw [hA] at e1
      injection e1 with e1
      injection e1 with e4 e5 e6
      subst e4; subst e5
      rw [rows_oneI] at hsl
      exact hsl
  · refine ⟨g2, hg2, ?_⟩
    rw [hg2] at hu2
    injection hu2 with e1 e2 e3
    rcases ha2.2 with h0 | ⟨b, off, hA, hsl⟩
    · rw [List.eq_nil_of_length_eq_zero h0]; exact Sl.empty hl2
    · rw [hA] at e1
      injection e1 with e1
      injection e1 with e4 e5 e6
      subst e4; subst e5
      rw [rows_oneI] at hsl
      exact hsl
  · refine ⟨g3, hg3, ?_⟩
    rw [hg3] at hu3
    injection hu3 with e1 e2 e3
    rcases ha3.2 with h0 | ⟨b, off, hA, hsl⟩
    · rw [List.eq_nil_of_length_eq_zero h0]; exact Sl.empty hl3
    · rw [hA] at e1
      injection e1 with e1
      injection e1 with e4 e5 e6
      subst e4; subst e5
      rw [rows_oneI] at hsl
      exact hsl
theorem infoMultiRule : (Tryd.prog.info? 90).map (fun i => (i.zero, i.size, i.bytes)) = some (some (.agg #[.int .i64 0, .slice none 0 0, .slice none 0 0, .slice none 0 0, .int .i64 0]), 5, 88) := by kernel_rfl

set_option maxRecDepth 100000 in
theorem toMultiRule_any (e : EMultiRule) (w : World) (h : RdMultiRule w e) (hl : wlMultiRule e.d ≤ 1048576) :
    Calls Tryd.prog 53 #[.agg #[.int .i64 e.d.f0, e.u1, e.u2, e.u3, .int .i64 e.d.f4]] w fun z w' => (∃ v1 v2 v3 : Nat, z = .returned (.agg #[.int .i64 e.d.f0, .slice (some ⟨v1, 0, none⟩) e.d.f1.length e.d.f1.length, .slice (some ⟨v2, 0, none⟩) e.d.f2.length e.d.f2.length, .slice (some ⟨v3, 0, none⟩) e.d.f3.length e.d.f3.length, .int .i64 e.d.f4]) ∧ Inn 1 2 w.heap.size w'.heap.size [.slice (some ⟨v1, 0, none⟩) e.d.f1.length e.d.f1.length, .slice (some ⟨v2, 0, none⟩) e.d.f2.length e.d.f2.length, .slice (some ⟨v3, 0, none⟩) e.d.f3.length e.d.f3.length] e.its w') ∧ Below w.heap.size w w' := by
  obtain ⟨⟨f0, f1, f2, f3, f4⟩, u1, u2, u3⟩ := e
  obtain ⟨⟨A1, c1, hu1, ha1⟩, ⟨A2, c2, hu2, ha2⟩, ⟨A3, c3, hu3, ha3⟩, -⟩ := h
  simp only [wlMultiRule] at hl hu1 ha1 hu2 ha2 hu3 ha3 ⊢
  unfold EMultiRule.its
  simp only
  subst hu1
  obtain ⟨n1, hn1⟩ : ∃ n, n = f1.length := ⟨_, rfl⟩
  rw [← hn1] at ha1 hl ⊢
  clear hn1
  subst hu2
  obtain ⟨n2, hn2⟩ : ∃ n, n = f2.length := ⟨_, rfl⟩
  rw [← hn2] at ha2 hl ⊢
  clear hn2
  subst hu3
  obtain ⟨n3, hn3⟩ : ∃ n, n = f3.length := ⟨_, rfl⟩
  rw [← hn3] at ha3 hl ⊢
  clear hn3
  obtain ⟨w0, HW0, B0, x0, y0, z0, sz0⟩ := al3 w (.cells #[.int .i64 f0, .slice A1 n1 c1, .slice A2 n2 c2, .slice A3 n3 c3, .int .i64 f4] 84) (.cells #[.int .i64 0, .slice none 0 0, .slice none 0 0, .slice none 0 0, .int .i64 0] 90) (.cells #[.int .i64 f0, .slice none 0 0, .slice none 0 0, .slice none 0 0, .int .i64 0] 90)
  have I0 := Inn.nil 1 w0.heap.size w0.heap.size 2 w0
  have L0 : w.heap.size + 1 + 1 < w0.heap.size := by omega
  go_enter Tryd.func53, Tryd.ntmps53
  go_wp2_with fail
  rw [← HW0.out]
  refine (inToInt64S A1 n1 c1 f1 _ (ha1.below B0) (by omega)).mono ?_
  rintro z w1a ⟨rfl, own1, b1⟩
  have B0a := below_step B0 b1
  have x0a := (b1.block _ (heap_lt x0)).trans x0
  have y0a := (b1.block _ (heap_lt y0)).trans y0
  have z0a := (b1.block _ (heap_lt z0)).trans z0
  have I0a := (I0.below b1).snoc (it := (n1, rows oneI f1)) own1 (Nat.le_refl _) (Nat.le_refl _) (Nat.le_refl _) b1.size
  obtain ⟨g1, hg1⟩ : ∃ g : Nat, g = w0.heap.size := ⟨_, rfl⟩
  have I0b : Inn 1 2 w0.heap.size w1a.heap.size [.slice (some ⟨g1, 0, none⟩) n1 n1] [(n1, rows oneI f1)] w1a := by rw [hg1]; exact I0a
  rw [← hg1]
  clear own1 hg1 I0a
  obtain ⟨w1, HW1, B1, x1, y1, z1, I1, SZ1⟩ : ∃ w1, Hid (w1 = (w1a.setCell ⟨w.heap.size + 1 + 1, 1, none⟩ (.slice (some ⟨g1, 0, none⟩) n1 n1))) ∧ Below w.heap.size w w1 ∧ w1.heap[w.heap.size]? = some (.cells #[.int .i64 f0, .slice A1 n1 c1, .slice A2 n2 c2, .slice A3 n3 c3, .int .i64 f4] 84 (0, 0)) ∧ w1.heap[w.heap.size + 1]? = some (.cells #[.int .i64 0, .slice none 0 0, .slice none 0 0, .slice none 0 0, .int .i64 0] 90 (0, 0)) ∧ w1.heap[w.heap.size + 1 + 1]? = some (.cells #[.int .i64 f0, .slice (some ⟨g1, 0, none⟩) n1 n1, .slice none 0 0, .slice none 0 0, .int .i64 0] 90 (0, 0)) ∧ Inn 1 2 w0.heap.size w1a.heap.size [.slice (some ⟨g1, 0, none⟩) n1 n1] [(n1, rows oneI f1)] w1 ∧ w1a.heap.size = w1.heap.size := by
    refine ⟨_, rfl, ?_, ?_, ?_, ?_, ?_, ?_⟩
    · exact (B0a.setCell (p := ⟨w.heap.size + 1 + 1, 1, none⟩) (by simp; omega) _)
    · exact (heap_set_other x0a ⟨w.heap.size + 1 + 1, 1, none⟩ (by dsimp only; omega) _)
    · exact (heap_set_other y0a ⟨w.heap.size + 1 + 1, 1, none⟩ (by dsimp only; omega) _)
    · exact (heap_set z0a (.slice (some ⟨g1, 0, none⟩) n1 n1))
    · exact (I0b.set_low (b := w.heap.size + 1 + 1) (o := 1) L0 _)
    · simp [World.setCell]
  have kz0 : w1a.frozen? ⟨w.heap.size + 1 + 1, 0, none⟩ = false := frozen_of_heap z0a
  have ez0_1 : ∃ u, w1a.cell? ⟨w.heap.size + 1 + 1, 1, none⟩ = some u := ⟨_, by rw [cell_of_heap z0a]; rfl⟩
  obtain ⟨oz0_1, ez0_1⟩ := ez0_1
  have fz0_1 : w1a.frozen? ⟨w.heap.size + 1 + 1, 1, none⟩ = false := frozen_of_heap z0a
  have cx0_2 : w1a.cell? ⟨w.heap.size, 2, none⟩ = some (.slice A2 n2 c2) := by rw [cell_of_heap x0a]; rfl
  have S1 : w0.heap.size ≤ w1.heap.size := Nat.le_trans b1.size (Nat.le_of_eq SZ1)
  clear HW0 x0 y0 z0 x0a b1 I0 I0b y0a z0a
  go_wp2_with fail
  rw [← HW1.out]
  refine (inToInt64S A2 n2 c2 f2 _ (ha2.below B1) (by omega)).mono ?_
  rintro z w2a ⟨rfl, own2, b2⟩
  have B1a := below_step B1 b2
  have x1a := (b2.block _ (heap_lt x1)).trans x1
  have y1a := (b2.block _ (heap_lt y1)).trans y1
  have z1a := (b2.block _ (heap_lt z1)).trans z1
  have I1a := (I1.below b2).snoc (it := (n2, rows oneI f2)) own2 (Nat.le_of_eq SZ1) S1 (Nat.le_refl _) (Nat.le_trans (Nat.le_of_eq SZ1) b2.size)
  obtain ⟨g2, hg2⟩ : ∃ g : Nat, g = w1.heap.size := ⟨_, rfl⟩
  have I1b : Inn 1 2 w0.heap.size w2a.heap.size [.slice (some ⟨g1, 0, none⟩) n1 n1, .slice (some ⟨g2, 0, none⟩) n2 n2] [(n1, rows oneI f1), (n2, rows oneI f2)] w2a := by rw [hg2]; exact I1a
  rw [← hg2]
  clear own2 hg2 I1a
  obtain ⟨w2, HW2, B2, x2, y2, z2, I2, SZ2⟩ : ∃ w2, Hid (w2 = (w2a.setCell ⟨w.heap.size + 1 + 1, 2, none⟩ (.slice (some ⟨g2, 0, none⟩) n2 n2))) ∧ Below w.heap.size w w2 ∧ w2.heap[w.heap.size]? = some (.cells #[.int .i64 f0, .slice A1 n1 c1, .slice A2 n2 c2, .slice A3 n3 c3, .int .i64 f4] 84 (0, 0)) ∧ w2.heap[w.heap.size + 1]? = some (.cells #[.int .i64 0, .slice none 0 0, .slice none 0 0, .slice none 0 0, .int .i64 0] 90 (0, 0)) ∧ w2.heap[w.heap.size + 1 + 1]? = some (.cells #[.int .i64 f0, .slice (some ⟨g1, 0, none⟩) n1 n1, .slice (some ⟨g2, 0, none⟩) n2 n2, .slice none 0 0, .int .i64 0] 90 (0, 0)) ∧ Inn 1 2 w0.heap.size w2a.heap.size [.slice (some ⟨g1, 0, none⟩) n1 n1, .slice (some ⟨g2, 0, none⟩) n2 n2] [(n1, rows oneI f1), (n2, rows oneI f2)] w2 ∧ w2a.heap.size = w2.heap.size := by
    refine ⟨_, rfl, ?_, ?_, ?_, ?_, ?_, ?_⟩
    · exact (B1a.setCell (p := ⟨w.heap.size + 1 + 1, 2, none⟩) (by simp; omega) _)
    · exact (heap_set_other x1a ⟨w.heap.size + 1 + 1, 2, none⟩ (by dsimp only; omega) _)
    · exact (heap_set_other y1a ⟨w.heap.size + 1 + 1, 2, none⟩ (by dsimp only; omega) _)
    · exact (heap_set z1a (.slice (some ⟨g2, 0, none⟩) n2 n2))
    · exact (I1b.set_low (b := w.heap.size + 1 + 1) (o := 2) L0 _)
    · simp [World.setCell]
  have kz1 : w2a.frozen? ⟨w.heap.size + 1 + 1, 0, none⟩ = false := frozen_of_heap z1a
  have ez1_2 : ∃ u, w2a.cell? ⟨w.heap.size + 1 + 1, 2, none⟩ = some u := ⟨_, by rw [cell_of_heap z1a]; rfl⟩
  obtain ⟨oz1_2, ez1_2⟩ := ez1_2
  have fz1_2 : w2a.frozen? ⟨w.heap.size + 1 + 1, 2, none⟩ = false := frozen_of_heap z1a
  have cx1_3 : w2a.cell? ⟨w.heap.size, 3, none⟩ = some (.slice A3 n3 c3) := by rw [cell_of_heap x1a]; rfl
  have S2 : w0.heap.size ≤ w2.heap.size := Nat.le_trans (Nat.le_trans S1 b2.size) (Nat.le_of_eq SZ2)
  clear HW1 x1 y1 z1 x1a b2 I1 I1b y1a z1a
  go_wp2_with fail
  rw [← HW2.out]
  refine (inToInt64S A3 n3 c3 f3 _ (ha3.below B2) (by omega)).mono ?_
  rintro z w3a ⟨rfl, own3, b3⟩
  have B2a := below_step B2 b3
  have x2a := (b3.block _ (heap_lt x2)).trans x2
  have y2a := (b3.block _ (heap_lt y2)).trans y2
  have z2a := (b3.block _ (heap_lt z2)).trans z2
  have I2a := (I2.below b3).snoc (it := (n3, rows oneI f3)) own3 (Nat.le_of_eq SZ2) S2 (Nat.le_refl _) (Nat.le_trans (Nat.le_of_eq SZ2) b3.size)
  obtain ⟨g3, hg3⟩ : ∃ g : Nat, g = w2.heap.size := ⟨_, rfl⟩
  have I2b : Inn 1 2 w0.heap.size w3a.heap.size [.slice (some ⟨g1, 0, none⟩) n1 n1, .slice (some ⟨g2, 0, none⟩) n2 n2, .slice (some ⟨g3, 0, none⟩) n3 n3] [(n1, rows oneI f1), (n2, rows oneI f2), (n3, rows oneI f3)] w3a := by rw [hg3]; exact I2a
  rw [← hg3]
  clear own3 hg3 I2a
  obtain ⟨w3, HW3, B3, x3, y3, z3, I3, SZ3⟩ : ∃ w3, Hid (w3 = ((w3a.setCell ⟨w.heap.size + 1 + 1, 3, none⟩ (.slice (some ⟨g3, 0, none⟩) n3 n3)).setCell ⟨w.heap.size + 1 + 1, 4, none⟩ (.int .i64 f4))) ∧ Below w.heap.size w w3 ∧ w3.heap[w.heap.size]? = some (.cells #[.int .i64 f0, .slice A1 n1 c1, .slice A2 n2 c2, .slice A3 n3 c3, .int .i64 f4] 84 (0, 0)) ∧ w3.heap[w.heap.size + 1]? = some (.cells #[.int .i64 0, .slice none 0 0, .slice none 0 0, .slice none 0 0, .int .i64 0] 90 (0, 0)) ∧ w3.heap[w.heap.size + 1 + 1]? = some (.cells #[.int .i64 f0, .slice (some ⟨g1, 0, none⟩) n1 n1, .slice (some ⟨g2, 0, none⟩) n2 n2, .slice (some ⟨g3, 0, none⟩) n3 n3, .int .i64 f4] 90 (0, 0)) ∧ Inn 1 2 w0.heap.size w3a.heap.size [.slice (some ⟨g1, 0, none⟩) n1 n1, .slice (some ⟨g2, 0, none⟩) n2 n2, .slice (some ⟨g3, 0, none⟩) n3 n3] [(n1, rows oneI f1), (n2, rows oneI f2), (n3, rows oneI f3)] w3 ∧ w3a.heap.size = w3.heap.size := by
    refine ⟨_, rfl, ?_, ?_, ?_, ?_, ?_, ?_⟩
    · exact ((B2a.setCell (p := ⟨w.heap.size + 1 + 1, 3, none⟩) (by simp; omega) _).setCell (p := ⟨w.heap.size + 1 + 1, 4, none⟩) (by simp; omega) _)
    · exact (heap_set_other (heap_set_other x2a ⟨w.heap.size + 1 + 1, 3, none⟩ (by dsimp only; omega) _) ⟨w.heap.size + 1 + 1, 4, none⟩ (by dsimp only; omega) _)
    · exact (heap_set_other (heap_set_other y2a ⟨w.heap.size + 1 + 1, 3, none⟩ (by dsimp only; omega) _) ⟨w.heap.size + 1 + 1, 4, none⟩ (by dsimp only; omega) _)
    · exact (heap_set (heap_set z2a (.slice (some ⟨g3, 0, none⟩) n3 n3)) (.int .i64 f4))
    · exact ((I2b.set_low (b := w.heap.size + 1 + 1) (o := 3) L0 _).set_low (b := w.heap.size + 1 + 1) (o := 4) L0 _)
    · simp [World.setCell]
  have kz2 : w3a.frozen? ⟨w.heap.size + 1 + 1, 0, none⟩ = false := frozen_of_heap z2a
  have ez2_3 : ∃ u, w3a.cell? ⟨w.heap.size + 1 + 1, 3, none⟩ = some u := ⟨_, by rw [cell_of_heap z2a]; rfl⟩
  obtain ⟨oz2_3, ez2_3⟩ := ez2_3
  have fz2_3 : w3a.frozen? ⟨w.heap.size + 1 + 1, 3, none⟩ = false := frozen_of_heap z2a
  have ez2_4 : ∃ u, w3a.cell? ⟨w.heap.size + 1 + 1, 4, none⟩ = some u := ⟨_, by rw [cell_of_heap z2a]; rfl⟩
  obtain ⟨oz2_4, ez2_4⟩ := ez2_4
  have fz2_4 : w3a.frozen? ⟨w.heap.size + 1 + 1, 4, none⟩ = false := frozen_of_heap z2a
  have cx2_4 : w3a.cell? ⟨w.heap.size, 4, none⟩ = some (.int .i64 f4) := by rw [cell_of_heap x2a]; rfl
  have S3 : w0.heap.size ≤ w3.heap.size := Nat.le_trans (Nat.le_trans S2 b3.size) (Nat.le_of_eq SZ3)
  clear HW2 x2 y2 z2 x2a b3 I2 I2b 
  have lz0 : w3a.cell? ⟨w.heap.size + 1 + 1, 0, none⟩ = some (.int .i64 f0) := by rw [cell_of_heap z2a]; rfl
  have ly0 : w3a.cell? ⟨w.heap.size + 1, 0, none⟩ = some (.int .i64 0) := by rw [cell_of_heap y2a]; rfl
  have fy0 : w3a.frozen? ⟨w.heap.size + 1, 0, none⟩ = false := frozen_of_heap y2a
  have lz1 : w3a.cell? ⟨w.heap.size + 1 + 1, 1, none⟩ = some (.slice (some ⟨g1, 0, none⟩) n1 n1) := by rw [cell_of_heap z2a]; rfl
  have ly1 : w3a.cell? ⟨w.heap.size + 1, 1, none⟩ = some (.slice none 0 0) := by rw [cell_of_heap y2a]; rfl
  have fy1 : w3a.frozen? ⟨w.heap.size + 1, 1, none⟩ = false := frozen_of_heap y2a
  have lz2 : w3a.cell? ⟨w.heap.size + 1 + 1, 2, none⟩ = some (.slice (some ⟨g2, 0, none⟩) n2 n2) := by rw [cell_of_heap z2a]; rfl
  have ly2 : w3a.cell? ⟨w.heap.size + 1, 2, none⟩ = some (.slice none 0 0) := by rw [cell_of_heap y2a]; rfl
  have fy2 : w3a.frozen? ⟨w.heap.size + 1, 2, none⟩ = false := frozen_of_heap y2a
  have ly3 : w3a.cell? ⟨w.heap.size + 1, 3, none⟩ = some (.slice none 0 0) := by rw [cell_of_heap y2a]; rfl
  have fy3 : w3a.frozen? ⟨w.heap.size + 1, 3, none⟩ = false := frozen_of_heap y2a
  have ly4 : w3a.cell? ⟨w.heap.size + 1, 4, none⟩ = some (.int .i64 0) := by rw [cell_of_heap y2a]; rfl
  have fy4 : w3a.frozen? ⟨w.heap.size + 1, 4, none⟩ = false := frozen_of_heap y2a
  clear y2a z2a
  go_wp2
  refine bodyPost_ret (v := .agg #[.int .i64 f0, .slice (some ⟨g1, 0, none⟩) n1 n1, .slice (some ⟨g2, 0, none⟩) n2 n2, .slice (some ⟨g3, 0, none⟩) n3 n3, .int .i64 f4]) (by simp [results, Tryd.results53, go_sem, ly0, ly1, ly2, ly3, ly4]) rfl ?_
  refine ⟨⟨g1, g2, g3, rfl, ?_⟩, ?_⟩
  · rw [← HW3.out]
    have hsz : ∀ (a b : World), a.heap.size = b.heap.size → a.heap.size ≤ b.heap.size := fun a b e => Nat.le_of_eq e
    refine Inn.wide (hi := w3.heap.size) ?_ (by simp [World.setCell])
    rw [← SZ3]
    have L1 : w.heap.size + 1 < w0.heap.size := by omega
    exact (((((I3.set_low (b := w.heap.size + 1) (o := 0) L1 _).set_low (b := w.heap.size + 1) (o := 1) L1 _).set_low (b := w.heap.size + 1) (o := 2) L1 _).set_low (b := w.heap.size + 1) (o := 3) L1 _).set_low (b := w.heap.size + 1) (o := 4) L1 _).lower B0.size
  · rw [← HW3.out]
    exact (((((B3.setCell (p := ⟨w.heap.size + 1, 0, none⟩) (by simp) _).setCell (p := ⟨w.heap.size + 1, 1, none⟩) (by simp) _).setCell (p := ⟨w.heap.size + 1, 2, none⟩) (by simp) _).setCell (p := ⟨w.heap.size + 1, 3, none⟩) (by simp) _).setCell (p := ⟨w.heap.size + 1, 4, none⟩) (by simp) _)

set_option maxRecDepth 100000 in
theorem eqMultiRule_any (e g : EMultiRule) (w : World) (he : RdMultiRule w e) (hg : RdMultiRule w g) (hl : wlMultiRule e.d ≤ 4194304) (hm : wlMultiRule g.d ≤ 4194304) :
    Calls Tryd.prog 65 #[.agg #[.int .i64 e.d.f0, e.u1, e.u2, e.u3, .int .i64 e.d.f4], .agg #[.int .i64 g.d.f0, g.u1, g.u2, g.u3, .int .i64 g.d.f4]] w fun z w' => z = .returned (.bool (decide (e.d = g.d))) ∧ Below w.heap.size w w' := by
  obtain ⟨⟨f0, f1, f2, f3, f4⟩, u1, u2, u3⟩ := e
  obtain ⟨⟨g0, g1, g2, g3, g4⟩, v1, v2, v3⟩ := g
  obtain ⟨⟨A1, c1, hu1, ha1⟩, ⟨A2, c2, hu2, ha2⟩, ⟨A3, c3, hu3, ha3⟩, -⟩ := he
  obtain ⟨⟨Z1, d1, hv1, hb1⟩, ⟨Z2, d2, hv2, hb2⟩, ⟨Z3, d3, hv3, hb3⟩, -⟩ := hg
  simp only [wlMultiRule] at hl hm hu1 ha1 hv1 hb1 hu2 ha2 hv2 hb2 hu3 ha3 hv3 hb3 ⊢
  subst hu1
  subst hv1
  obtain ⟨n1, hn1⟩ : ∃ n, n = f1.length := ⟨_, rfl⟩
  rw [← hn1] at ha1 hl ⊢
  obtain ⟨m1, hm1⟩ : ∃ n, n = g1.length := ⟨_, rfl⟩
  rw [← hm1] at hb1 hm ⊢
  clear hn1 hm1
  subst hu2
  subst hv2
  obtain ⟨n2, hn2⟩ : ∃ n, n = f2.length := ⟨_, rfl⟩
  rw [← hn2] at ha2 hl ⊢
  obtain ⟨m2, hm2⟩ : ∃ n, n = g2.length := ⟨_, rfl⟩
  rw [← hm2] at hb2 hm ⊢
  clear hn2 hm2
  subst hu3
  subst hv3
  obtain ⟨n3, hn3⟩ : ∃ n, n = f3.length := ⟨_, rfl⟩
  rw [← hn3] at ha3 hl ⊢
  obtain ⟨m3, hm3⟩ : ∃ n, n = g3.length := ⟨_, rfl⟩
  rw [← hm3] at hb3 hm ⊢
  clear hn3 hm3
  obtain ⟨w0, HW0, B0, x0, y0⟩ := al2 w (.cells #[.int .i64 f0, .slice A1 n1 c1, .slice A2 n2 c2, .slice A3 n3 c3, .int .i64 f4] 90) (.cells #[.int .i64 g0, .slice Z1 m1 d1, .slice Z2 m2 d2, .slice Z3 m3 d3, .int .i64 g4] 90)
  have HX0 := Lib.hid x0; have HY0 := Lib.hid y0; clear x0 y0
  have BL : Hid (Below w.heap.size w ((w.alloc (.cells #[.int .i64 f0, .slice A1 n1 c1, .slice A2 n2 c2, .slice A3 n3 c3, .int .i64 f4] 90)).alloc (.cells #[.int .i64 g0, .slice Z1 m1 d1, .slice Z2 m2 d2, .slice Z3 m3 d3, .int .i64 g4] 90))) := by have := HW0.out; rw [← this]; exact B0
  by_cases h0 : f0 = g0
  rotate_left
  · have NE := Lib.hid h0
    have e0 : (f0 != g0) = true := by simpa using h0

    clear h0
    go_enter Tryd.func65, Tryd.ntmps65
    go_wp2
    go_ret
    exact ⟨ret_bool (by simp [NE.out]), BL.out⟩
  subst h0
  by_cases h1 : f1 = g1
  rotate_left
  · have NE := Lib.hid h1
    have E1 := Lib.hid (decide_eq_false h1)
    clear h1
    go_enter Tryd.func65, Tryd.ntmps65
    go_wp2_with fail
    rw [← HW0.out]
    refine (inEqInt64S A1 Z1 n1 m1 c1 d1 f1 g1 false E1.out _ (ha1.below B0) (hb1.below B0) (by omega) (by omega)).mono ?_
    rintro z w1 ⟨rfl, b1⟩
    have B1 := below_step B0 b1
    have HX1 := Lib.hid ((b1.block _ (heap_lt HX0.out)).trans HX0.out)
    have HY1 := Lib.hid ((b1.block _ (heap_lt HY0.out)).trans HY0.out)
    clear b1
    go_wp2
    go_ret
    exact ⟨ret_bool (by simp [NE.out]), B1⟩
  subst h1
  by_cases h2 : f2 = g2
  rotate_left
  · have NE := Lib.hid h2
    have E2 := Lib.hid (decide_eq_false h2)
    clear h2
    go_enter Tryd.func65, Tryd.ntmps65
    go_wp2_with fail
    rw [← HW0.out]
    refine (inEqInt64S A1 Z1 n1 m1 c1 d1 f1 f1 true (decide_eq_true rfl) _ (ha1.below B0) (hb1.below B0) (by omega) (by omega)).mono ?_
    rintro z w1 ⟨rfl, b1⟩
    have B1 := below_step B0 b1
    have HX1 := Lib.hid ((b1.block _ (heap_lt HX0.out)).trans HX0.out)
    have HY1 := Lib.hid ((b1.block _ (heap_lt HY0.out)).trans HY0.out)
    have kx1_2 : w1.cell? ⟨w.heap.size, 2, none⟩ = some (.slice A2 n2 c2) := by rw [cell_of_heap HX1.out]; rfl
    have ky1_2 : w1.cell? ⟨w.heap.size + 1, 2, none⟩ = some (.slice Z2 m2 d2) := by rw [cell_of_heap HY1.out]; rfl
    clear b1
    go_wp2_with fail
    refine (inEqInt64S A2 Z2 n2 m2 c2 d2 f2 g2 false E2.out _ (ha2.below B1) (hb2.below B1) (by omega) (by omega)).mono ?_
    rintro z w2 ⟨rfl, b2⟩
    have B2 := below_step B1 b2
    have HX2 := Lib.hid ((b2.block _ (heap_lt HX1.out)).trans HX1.out)
    have HY2 := Lib.hid ((b2.block _ (heap_lt HY1.out)).trans HY1.out)
    clear b2
    go_wp2
    go_ret
    exact ⟨ret_bool (by simp [NE.out]), B2⟩
  subst h2
  by_cases h3 : f3 = g3
  rotate_left
  · have NE := Lib.hid h3
    have E3 := Lib.hid (decide_eq_false h3)
    clear h3
    go_enter Tryd.func65, Tryd.ntmps65
    go_wp2_with fail
    rw [← HW0.out]
    refine (inEqInt64S A1 Z1 n1 m1 c1 d1 f1 f1 true (decide_eq_true rfl) _ (ha1.below B0) (hb1.below B0) (by omega) (by omega)).mono ?_
    rintro z w1 ⟨rfl, b1⟩
    have B1 := below_step B0 b1
    have HX1 := Lib.hid ((b1.block _ (heap_lt HX0.out)).trans HX0.out)
    have HY1 := Lib.hid ((b1.block _ (heap_lt HY0.out)).trans HY0.out)
    have kx1_2 : w1.cell? ⟨w.heap.size, 2, none⟩ = some (.slice A2 n2 c2) := by rw [cell_of_heap HX1.out]; rfl
    have ky1_2 : w1.cell? ⟨w.heap.size + 1, 2, none⟩ = some (.slice Z2 m2 d2) := by rw [cell_of_heap HY1.out]; rfl
    clear b1
    go_wp2_with fail
    refine (inEqInt64S A2 Z2 n2 m2 c2 d2 f2 f2 true (decide_eq_true rfl) _ (ha2.below B1) (hb2.below B1) (by omega) (by omega)).mono ?_
    rintro z w2 ⟨rfl, b2⟩
    have B2 := below_step B1 b2
    have HX2 := Lib.hid ((b2.block _ (heap_lt HX1.out)).trans HX1.out)
    have HY2 := Lib.hid ((b2.block _ (heap_lt HY1.out)).trans HY1.out)
    have kx2_3 : w2.cell? ⟨w.heap.size, 3, none⟩ = some (.slice A3 n3 c3) := by rw [cell_of_heap HX2.out]; rfl
    have ky2_3 : w2.cell? ⟨w.heap.size + 1, 3, none⟩ = some (.slice Z3 m3 d3) := by rw [cell_of_heap HY2.out]; rfl
    clear b2
    go_wp2_with fail
    refine (inEqInt64S A3 Z3 n3 m3 c3 d3 f3 g3 false E3.out _ (ha3.below B2) (hb3.below B2) (by omega) (by omega)).mono ?_
    rintro z w3 ⟨rfl, b3⟩
    have B3 := below_step B2 b3
    have HX3 := Lib.hid ((b3.block _ (heap_lt HX2.out)).trans HX2.out)
    have HY3 := Lib.hid ((b3.block _ (heap_lt HY2.out)).trans HY2.out)
    clear b3
    go_wp2
    go_ret
    exact ⟨ret_bool (by simp [NE.out]), B3⟩
  subst h3
  by_cases h4 : f4 = g4
  rotate_left
  · have NE := Lib.hid h4
    have e4 : (f4 != g4) = true := by simpa using h4

    clear h4
    go_enter Tryd.func65, Tryd.ntmps65
    go_wp2_with fail
    rw [← HW0.out]
    refine (inEqInt64S A1 Z1 n1 m1 c1 d1 f1 f1 true (decide_eq_true rfl) _ (ha1.below B0) (hb1.below B0) (by omega) (by omega)).mono ?_
    rintro z w1 ⟨rfl, b1⟩
    have B1 := below_step B0 b1
    have HX1 := Lib.hid ((b1.block _ (heap_lt HX0.out)).trans HX0.out)
    have HY1 := Lib.hid ((b1.block _ (heap_lt HY0.out)).trans HY0.out)
    have kx1_2 : w1.cell? ⟨w.heap.size, 2, none⟩ = some (.slice A2 n2 c2) := by rw [cell_of_heap HX1.out]; rfl
    have ky1_2 : w1.cell? ⟨w.heap.size + 1, 2, none⟩ = some (.slice Z2 m2 d2) := by rw [cell_of_heap HY1.out]; rfl
    clear b1
    go_wp2_with fail
    refine (inEqInt64S A2 Z2 n2 m2 c2 d2 f2 f2 true (decide_eq_true rfl) _ (ha2.below B1) (hb2.below B1) (by omega) (by omega)).mono ?_
    rintro z w2 ⟨rfl, b2⟩
    have B2 := below_step B1 b2
    have HX2 := Lib.hid ((b2.block _ (heap_lt HX1.out)).trans HX1.out)
    have HY2 := Lib.hid ((b2.block _ (heap_lt HY1.out)).trans HY1.out)
    have kx2_3 : w2.cell? ⟨w.heap.size, 3, none⟩ = some (.slice A3 n3 c3) := by rw [cell_of_heap HX2.out]; rfl
    have ky2_3 : w2.cell? ⟨w.heap.size + 1, 3, none⟩ = some (.slice Z3 m3 d3) := by rw [cell_of_heap HY2.out]; rfl
    clear b2
    go_wp2_with fail
    refine (inEqInt64S A3 Z3 n3 m3 c3 d3 f3 f3 true (decide_eq_true rfl) _ (ha3.below B2) (hb3.below B2) (by omega) (by omega)).mono ?_
    rintro z w3 ⟨rfl, b3⟩
    have B3 := below_step B2 b3
    have HX3 := Lib.hid ((b3.block _ (heap_lt HX2.out)).trans HX2.out)
    have HY3 := Lib.hid ((b3.block _ (heap_lt HY2.out)).trans HY2.out)
    have kx3_4 : w3.cell? ⟨w.heap.size, 4, none⟩ = some (.int .i64 f4) := by rw [cell_of_heap HX3.out]; rfl
    have ky3_4 : w3.cell? ⟨w.heap.size + 1, 4, none⟩ = some (.int .i64 g4) := by rw [cell_of_heap HY3.out]; rfl
    clear b3
    go_wp2
    go_ret
    exact ⟨ret_bool (by simp [NE.out]), B3⟩
  subst h4
  go_enter Tryd.func65, Tryd.ntmps65
  go_wp2_with fail
  rw [← HW0.out]
  refine (inEqInt64S A1 Z1 n1 m1 c1 d1 f1 f1 true (decide_eq_true rfl) _ (ha1.below B0) (hb1.below B0) (by omega) (by omega)).mono ?_
  rintro z w1 ⟨rfl, b1⟩
  have B1 := below_step B0 b1
  have HX1 := Lib.hid ((b1.block _ (heap_lt HX0.out)).trans HX0.out)
  have HY1 := Lib.hid ((b1.block _ (heap_lt HY0.out)).trans HY0.out)
  have kx1_2 : w1.cell? ⟨w.heap.size, 2, none⟩ = some (.slice A2 n2 c2) := by rw [cell_of_heap HX1.out]; rfl
  have ky1_2 : w1.cell? ⟨w.heap.size + 1, 2, none⟩ = some (.slice Z2 m2 d2) := by rw [cell_of_heap HY1.out]; rfl
  clear b1
  go_wp2_with fail
  refine (inEqInt64S A2 Z2 n2 m2 c2 d2 f2 f2 true (decide_eq_true rfl) _ (ha2.below B1) (hb2.below B1) (by omega) (by omega)).mono ?_
  rintro z w2 ⟨rfl, b2⟩
  have B2 := below_step B1 b2
  have HX2 := Lib.hid ((b2.block _ (heap_lt HX1.out)).trans HX1.out)
  have HY2 := Lib.hid ((b2.block _ (heap_lt HY1.out)).trans HY1.out)
  have kx2_3 : w2.cell? ⟨w.heap.size, 3, none⟩ = some (.slice A3 n3 c3) := by rw [cell_of_heap HX2.out]; rfl
  have ky2_3 : w2.cell? ⟨w.heap.size + 1, 3, none⟩ = some (.slice Z3 m3 d3) := by rw [cell_of_heap HY2.out]; rfl
  clear b2
  go_wp2_with fail
  refine (inEqInt64S A3 Z3 n3 m3 c3 d3 f3 f3 true (decide_eq_true rfl) _ (ha3.below B2) (hb3.below B2) (by omega) (by omega)).mono ?_
  rintro z w3 ⟨rfl, b3⟩
  have B3 := below_step B2 b3
  have HX3 := Lib.hid ((b3.block _ (heap_lt HX2.out)).trans HX2.out)
  have HY3 := Lib.hid ((b3.block _ (heap_lt HY2.out)).trans HY2.out)
  have kx3_4 : w3.cell? ⟨w.heap.size, 4, none⟩ = some (.int .i64 f4) := by rw [cell_of_heap HX3.out]; rfl
  have ky3_4 : w3.cell? ⟨w.heap.size + 1, 4, none⟩ = some (.int .i64 f4) := by rw [cell_of_heap HY3.out]; rfl
  clear b3
  go_wp2
  go_ret
  exact ⟨ret_bool (by simp), B3⟩

theorem eqMultiRule_is (e g : EMultiRule) (v : Bool) (hv : decide (e.d = g.d) = v) (w : World) (he : RdMultiRule w e) (hg : RdMultiRule w g) (hl : wlMultiRule e.d ≤ 4194304) (hm : wlMultiRule g.d ≤ 4194304) :
    Calls Tryd.prog 65 #[.agg #[.int .i64 e.d.f0, e.u1, e.u2, e.u3, .int .i64 e.d.f4], .agg #[.int .i64 g.d.f0, g.u1, g.u2, g.u3, .int .i64 g.d.f4]] w fun z w' => z = .returned (.bool v) ∧ Below w.heap.size w w' := by
  subst hv; exact eqMultiRule_any e g w he hg hl hm

set_option maxRecDepth 100000 in
theorem szMultiRule_any (e : EMultiRule) (left : Int) (w : World) (he : RdMultiRule w e) (h0 : 0 ≤ left) (h1 : left ≤ 1048576) (hl : wbMultiRule 9223372036854775807 e.d) :
    Calls Tryd.prog 44 #[.agg #[.int .i64 e.d.f0, e.u1, e.u2, e.u3, .int .i64 e.d.f4], .int .i64 left] w fun z w' => (∃ q : Int, z = .returned (.int .i64 q) ∧ SzOut (wlMultiRule e.d) left q) ∧ Below w.heap.size w w' := by
  obtain ⟨⟨f0, f1, f2, f3, f4⟩, u1, u2, u3⟩ := e
  obtain ⟨⟨A1, c1, hu1, ha1⟩, ⟨A2, c2, hu2, ha2⟩, ⟨A3, c3, hu3, ha3⟩, -⟩ := he
  obtain ⟨z1, z2, z3, -⟩ := hl
  simp only [wlMultiRule] at hu1 ha1 z1 hu2 ha2 z2 hu3 ha3 z3 ⊢
  subst hu1
  obtain ⟨n1, hn1⟩ : ∃ n, n = f1.length := ⟨_, rfl⟩
  rw [← hn1] at ha1 z1 ⊢
  clear hn1 ha1
  subst hu2
  obtain ⟨n2, hn2⟩ : ∃ n, n = f2.length := ⟨_, rfl⟩
  rw [← hn2] at ha2 z2 ⊢
  clear hn2 ha2
  subst hu3
  obtain ⟨n3, hn3⟩ : ∃ n, n = f3.length := ⟨_, rfl⟩
  rw [← hn3] at ha3 z3 ⊢
  clear hn3 ha3
  have BL : Below w.heap.size w (w.alloc (.cells #[.int .i64 f0, .slice A1 n1 c1, .slice A2 n2 c2, .slice A3 n3 c3, .int .i64 f4] 84)) := laid_below _ _
  by_cases y1 : (n1 : Int) ≤ left
  rotate_left
  · have Y := Lib.hid y1
    go_enter Tryd.func44, Tryd.ntmps44
    go_wp2_with fail
    refine (inSzInt64S A1 n1 c1 (left) _ (by omega) (by omega) (by omega)).mono ?_
    rintro z w1 ⟨⟨q1, rfl, hq1⟩, rfl⟩
    unfold SzOut at hq1
    obtain rfl : q1 = -1 := by omega
    go_wp2_with fail
    go_ret
    exact ⟨⟨_, rfl, szOut_no (by omega)⟩, BL⟩
  by_cases y2 : (n1 : Int) + (n2 : Int) ≤ left
  rotate_left
  · have Y := Lib.hid y2
    go_enter Tryd.func44, Tryd.ntmps44
    go_wp2_with fail
    refine (inSzInt64S A1 n1 c1 (left) _ (by omega) (by omega) (by omega)).mono ?_
    rintro z w1 ⟨⟨q1, rfl, hq1⟩, rfl⟩
    unfold SzOut at hq1
    obtain rfl : q1 = left - (n1 : Int) := by omega
    have nn1 : ¬ left - (n1 : Int) < 0 := by omega
    clear hq1
    go_wp2_with fail
    refine (inSzInt64S A2 n2 c2 (left - (n1 : Int)) _ (by omega) (by omega) (by omega)).mono ?_
    rintro z w1 ⟨⟨q2, rfl, hq2⟩, rfl⟩
    unfold SzOut at hq2
    obtain rfl : q2 = -1 := by omega
    go_wp2_with fail
    go_ret
    exact ⟨⟨_, rfl, szOut_no (by omega)⟩, BL⟩
  by_cases y3 : (n1 : Int) + (n2 : Int) + (n3 : Int) ≤ left
  rotate_left
  · have Y := Lib.hid y3
    go_enter Tryd.func44, Tryd.ntmps44
    go_wp2_with fail
    refine (inSzInt64S A1 n1 c1 (left) _ (by omega) (by omega) (by omega)).mono ?_
    rintro z w1 ⟨⟨q1, rfl, hq1⟩, rfl⟩
    unfold SzOut at hq1
    obtain rfl : q1 = left - (n1 : Int) := by omega
    have nn1 : ¬ left - (n1 : Int) < 0 := by omega
    clear hq1
    go_wp2_with fail
    refine (inSzInt64S A2 n2 c2 (left - (n1 : Int)) _ (by omega) (by omega) (by omega)).mono ?_
    rintro z w1 ⟨⟨q2, rfl, hq2⟩, rfl⟩
    unfold SzOut at hq2
    obtain rfl : q2 = left - (n1 : Int) - (n2 : Int) := by omega
    have nn2 : ¬ left - (n1 : Int) - (n2 : Int) < 0 := by omega
    clear hq2
    go_wp2_with fail
    refine (inSzInt64S A3 n3 c3 (left - (n1 : Int) - (n2 : Int)) _ (by omega) (by omega) (by omega)).mono ?_
    rintro z w1 ⟨⟨q3, rfl, hq3⟩, rfl⟩
    unfold SzOut at hq3
    obtain rfl : q3 = -1 := by omega
    go_wp2_with fail
    go_ret
    exact ⟨⟨_, rfl, szOut_no (by omega)⟩, BL⟩
  go_enter Tryd.func44, Tryd.ntmps44
  go_wp2_with fail
  refine (inSzInt64S A1 n1 c1 (left) _ (by omega) (by omega) (by omega)).mono ?_
  rintro z w1 ⟨⟨q1, rfl, hq1⟩, rfl⟩
  unfold SzOut at hq1
  obtain rfl : q1 = left - (n1 : Int) := by omega
  have nn1 : ¬ left - (n1 : Int) < 0 := by omega
  clear hq1
  go_wp2_with fail
  refine (inSzInt64S A2 n2 c2 (left - (n1 : Int)) _ (by omega) (by omega) (by omega)).mono ?_
  rintro z w1 ⟨⟨q2, rfl, hq2⟩, rfl⟩
  unfold SzOut at hq2
  obtain rfl : q2 = left - (n1 : Int) - (n2 : Int) := by omega
  have nn2 : ¬ left - (n1 : Int) - (n2 : Int) < 0 := by omega
  clear hq2
  go_wp2_with fail
  refine (inSzInt64S A3 n3 c3 (left - (n1 : Int) - (n2 : Int)) _ (by omega) (by omega) (by omega)).mono ?_
  rintro z w1 ⟨⟨q3, rfl, hq3⟩, rfl⟩
  unfold SzOut at hq3
  obtain rfl : q3 = left - (n1 : Int) - (n2 : Int) - (n3 : Int) := by omega
  have nn3 : ¬ left - (n1 : Int) - (n2 : Int) - (n3 : Int) < 0 := by omega
  clear hq3
  go_wp2_with fail
  go_ret
  exact ⟨⟨_, rfl, szOut_yes (by omega) (by omega)⟩, BL⟩

/-- How many elements the records' slices have. -/
def sumMultiRule (xs : List DMultiRule) : Nat := (xs.map wlMultiRule).sum
theorem sumMultiRule_take {xs : List DMultiRule} {k : Nat} {x : DMultiRule} (h : xs[k]? = some x) : sumMultiRule (xs.take (k + 1)) = sumMultiRule (xs.take k) + wlMultiRule x := by rw [List.take_add_one, h]; simp [sumMultiRule]
theorem sumMultiRule_le (xs : List DMultiRule) (k : Nat) : sumMultiRule (xs.take k) ≤ sumMultiRule xs := by
  have h : ∀ a b : List DMultiRule, sumMultiRule a ≤ sumMultiRule (a ++ b) := by intro a b; simp [sumMultiRule]
  have := h (xs.take k) (xs.drop k)
  rwa [List.take_append_drop] at this
theorem sumMultiRule_at {xs : List DMultiRule} {k : Nat} {x : DMultiRule} (h : xs[k]? = some x) : wlMultiRule x ≤ sumMultiRule xs := by
  have := sumMultiRule_take h
  have := sumMultiRule_le xs (k + 1)
  omega

set_option maxRecDepth 100000 in
set_option maxHeartbeats 1000000 in
theorem toMultiRuleS_any (A : Option Addr) (n c : Nat) (es : List EMultiRule) (w : World) (ha : Args 5 w A n (rows EMultiRule.vs es)) (hr : RdsMultiRule w es) (hn : n ≤ 1048576) (hts : sumMultiRule (es.map (·.d)) ≤ 1048576) :
    Calls Tryd.prog 28 #[.slice A n c] w fun z w' => z = .returned (.slice (some ⟨w.heap.size, 0, none⟩) n n) ∧ (∃ es', SGrid kndMultiRule w.heap.size w'.heap.size 90 2 1 (.slice (some ⟨w.heap.size, 0, none⟩) n n) es' w' ∧ es'.map (·.d) = es.map (·.d) ∧ ∀ e ∈ es', adrMultiRule w'.heap.size e) ∧ Below w.heap.size w w' := by
  have HL : Hid (es.length = n) := by have := ha.1; rw [rows_len (s := 5) (fun _ => rfl)] at this; unfold Hid; omega
  have HS := Lib.hid hts; clear hts
  have hmk := fun W => run_make_rows (P := Tryd.prog) 37 90 _ 5 88 Tryd.underlying37 infoMultiRule .i64 .i64 n (by omega) (by omega) W
  simp only [Value.cells] at hmk
  have hown0 : (w.alloc (.cells (madeCells #[.int .i64 0, .slice none 0 0, .slice none 0 0, .slice none 0 0, .int .i64 0] (n * 5)) 90)).ownsRow w.heap.size 90 5 (.slice (some ⟨w.heap.size, 0, none⟩) n n) n (madeCells #[.int .i64 0, .slice none 0 0, .slice none 0 0, .slice none 0 0, .int .i64 0] (n * 5)).toList := own_laid w 90 5 n _ (size_madeCells _ _) (by unfold maxLen; omega)
  have hb0 := laid_below w (.cells (madeCells #[.int .i64 0, .slice none 0 0, .slice none 0 0, .slice none 0 0, .int .i64 0] (n * 5)) 90)
  go_enter Tryd.func28, Tryd.ntmps28
  go_wp2
  clear hmk
  go_loopw [4] (fun i wr => ∃ (k : Nat) (es' : List EMultiRule) (rest : List Value), k ≤ n ∧ es'.length = k ∧ i = .int .i64 k ∧ wr.ownsRow w.heap.size 90 5 (.slice (some ⟨w.heap.size, 0, none⟩) n n) n (rows EMultiRule.vs es' ++ rest) ∧ Inn 1 2 w.heap.size wr.heap.size (es'.flatMap EMultiRule.us) (es'.flatMap EMultiRule.its) wr ∧ Hid (es'.map (·.d) = (es.take k).map (·.d)) ∧ Below w.heap.size w wr ∧ Hid (∀ e ∈ es', adrMultiRule wr.heap.size e)) (fun i _ => n - (intOf i).toNat)
  case atStart => exact ⟨0, [], _, Nat.zero_le _, rfl, rfl, hown0, Inn.nil _ _ _ _ _, rfl, hb0, (by intro e he; cases he)⟩
  case round =>
    obtain ⟨k, es', rest, hk, hkl, rfl, hown, hinn, HD, hB, HADR⟩ := hrel
    clear hown0 hb0
    have HK := Lib.hid hkl; clear hkl
    by_cases hlt : k < n
    · obtain ⟨b, off, rfl, hs⟩ := ha.sl hlt
      obtain ⟨e, HX⟩ := hget HL hlt
      have hrd := hr e (List.mem_of_getElem? HX.out)
      have hwl := sumMultiRule_at (xs := es.map (·.d)) (k := k) (x := e.d) (by rw [List.getElem?_map, HX.out]; rfl)
      have hst := HS.out
      obtain ⟨⟨f0, f1, f2, f3, f4⟩, u1, u2, u3⟩ := e
      obtain ⟨⟨A1, c1, hu1, ha1⟩, ⟨A2, c2, hu2, ha2⟩, ⟨A3, c3, hu3, ha3⟩, -⟩ := hrd
      simp only [wlMultiRule] at hwl hu1 ha1 hu2 ha2 hu3 ha3
      subst hu1
      subst hu2
      subst hu3
      have hrd2 : RdMultiRule w (⟨⟨f0, f1, f2, f3, f4⟩, .slice A1 f1.length c1, .slice A2 f2.length c2, .slice A3 f3.length c3⟩ : EMultiRule) := ⟨⟨A1, c1, rfl, ha1⟩, ⟨A2, c2, rfl, ha2⟩, ⟨A3, c3, rfl, ha3⟩, trivial⟩
      have HT := Lib.hid (toMultiRule_any ⟨⟨f0, f1, f2, f3, f4⟩, .slice A1 f1.length c1, .slice A2 f2.length c2, .slice A3 f3.length c3⟩ wr (hrd2.below hB) (by simp only [wlMultiRule]; omega))
      unfold EMultiRule.its at HT
      simp only at HT
      have p0 : wr.cell? ⟨b, off + k * 5, none⟩ = some (.int .i64 f0) := Sl.rec (f := EMultiRule.vs) (s := 5) (fun _ => rfl) (hs.below' hB) HX.out (j := 0) rfl
      have p1 : wr.cell? ⟨b, off + k * 5 + 1, none⟩ = some (.slice A1 f1.length c1) := Sl.rec (f := EMultiRule.vs) (s := 5) (fun _ => rfl) (hs.below' hB) HX.out (j := 1) rfl
      have p2 : wr.cell? ⟨b, off + k * 5 + 2, none⟩ = some (.slice A2 f2.length c2) := Sl.rec (f := EMultiRule.vs) (s := 5) (fun _ => rfl) (hs.below' hB) HX.out (j := 2) rfl
      have p3 : wr.cell? ⟨b, off + k * 5 + 3, none⟩ = some (.slice A3 f3.length c3) := Sl.rec (f := EMultiRule.vs) (s := 5) (fun _ => rfl) (hs.below' hB) HX.out (j := 3) rfl
      have p4 : wr.cell? ⟨b, off + k * 5 + 4, none⟩ = some (.int .i64 f4) := Sl.rec (f := EMultiRule.vs) (s := 5) (fun _ => rfl) (hs.below' hB) HX.out (j := 4) rfl
      obtain ⟨n1, hn1⟩ : ∃ n, n = f1.length := ⟨_, rfl⟩
      rw [← hn1] at HT p1
      have HN1 := Lib.hid hn1
      clear hn1 ha1
      obtain ⟨n2, hn2⟩ : ∃ n, n = f2.length := ⟨_, rfl⟩
      rw [← hn2] at HT p2
      have HN2 := Lib.hid hn2
      clear hn2 ha2
      obtain ⟨n3, hn3⟩ : ∃ n, n = f3.length := ⟨_, rfl⟩
      rw [← hn3] at HT p3
      have HN3 := Lib.hid hn3
      clear hn3 ha3
      clear hrd2 hwl hst hs hr ha
      go_wp2_with fail
      refine HT.out.mono ?_
      rintro z w1 ⟨⟨v1, v2, v3, rfl, hin1⟩, hb1⟩
      have hown2 := own_below' hown hb1
      have hB1 := below_step hB hb1
      have hlen : (rows EMultiRule.vs es').length = k * 5 := by rw [rows_len (s := 5) (fun _ => rfl), HK.out]
      have hrl := rest_len (s := 5) hown2.1 hlen hlt
      obtain ⟨o0, q0⟩ := own_some hown2 (j := k * 5) (by omega)
      have z0 := hown2.frozenAt (k * 5)
      obtain ⟨o1, q1⟩ := own_some hown2 (j := k * 5 + 1) (by omega)
      have z1 := hown2.frozenAt (k * 5 + 1)
      obtain ⟨o2, q2⟩ := own_some hown2 (j := k * 5 + 2) (by omega)
      have z2 := hown2.frozenAt (k * 5 + 2)
      obtain ⟨o3, q3⟩ := own_some hown2 (j := k * 5 + 3) (by omega)
      have z3 := hown2.frozenAt (k * 5 + 3)
      obtain ⟨o4, q4⟩ := own_some hown2 (j := k * 5 + 4) (by omega)
      have z4 := hown2.frozenAt (k * 5 + 4)
      obtain ⟨hp1, hp2⟩ := own_put5 hown2 hlen hrl (.int .i64 f0) (.slice (some ⟨v1, 0, none⟩) n1 n1) (.slice (some ⟨v2, 0, none⟩) n2 n2) (.slice (some ⟨v3, 0, none⟩) n3 n3) (.int .i64 f4)
      have hin2 := (((hinn.below hb1).append hin1 hB.size hb1.size).kept hown2 hp2 (by decide)).wide hp2.size
      have HP1 := Lib.hid hp1; have HI2 := Lib.hid hin2
      have HB := Lib.hid (hB1.grown hp2 hB1.size (fun j hj => by injection hj with hj; omega))
      have HD2 : Hid ((es' ++ [(⟨⟨f0, f1, f2, f3, f4⟩, .slice (some ⟨v1, 0, none⟩) n1 n1, .slice (some ⟨v2, 0, none⟩) n2 n2, .slice (some ⟨v3, 0, none⟩) n3 n3⟩ : EMultiRule)]).map (·.d) = (es.take (k + 1)).map (·.d)) := by unfold Hid; rw [List.map_append, HD.out, List.take_add_one, HX.out, List.map_append]; rfl
      have HADR2 := Lib.hid (adrsMultiRule_snoc HADR.out (Nat.le_trans hb1.size hp2.size) (x := (⟨⟨f0, f1, f2, f3, f4⟩, .slice (some ⟨v1, 0, none⟩) n1 n1, .slice (some ⟨v2, 0, none⟩) n2 n2, .slice (some ⟨v3, 0, none⟩) n3 n3⟩ : EMultiRule)) ⟨⟨v1, Nat.lt_of_lt_of_le (hin1.top 0 _ v1 rfl rfl) hp2.size, by show Value.slice _ n1 n1 = .slice _ f1.length f1.length; rw [← HN1.out]⟩, ⟨v2, Nat.lt_of_lt_of_le (hin1.top 1 _ v2 rfl rfl) hp2.size, by show Value.slice _ n2 n2 = .slice _ f2.length f2.length; rw [← HN2.out]⟩, ⟨v3, Nat.lt_of_lt_of_le (hin1.top 2 _ v3 rfl rfl) hp2.size, by show Value.slice _ n3 n3 = .slice _ f3.length f3.length; rw [← HN3.out]⟩, trivial⟩)
      clear hown hown2 hinn hin1 hp1 hp2 hin2 hB1 hB hb1 hlen hrl HT p0 p1 p2 p3 p4
      go_wp2_with fail
      go_roundw
      case rel =>
        refine ⟨k + 1, es' ++ [(⟨⟨f0, f1, f2, f3, f4⟩, .slice (some ⟨v1, 0, none⟩) n1 n1, .slice (some ⟨v2, 0, none⟩) n2 n2, .slice (some ⟨v3, 0, none⟩) n3 n3⟩ : EMultiRule)], rest.drop 5, by omega, by simp [HK.out], by go_num, ?_, ?_, HD2.out, HB.out, HADR2.out⟩
        · rw [rows_app, rows_one]; exact HP1.out
        · rw [List.flatMap_append, List.flatMap_append]
          have := HI2.out
          simp only [List.flatMap_cons, List.flatMap_nil, List.append_nil, EMultiRule.us, EMultiRule.its, ← HN1.out, ← HN2.out, ← HN3.out]
          exact this
      case measure => simp [intOf]; omega
    · obtain rfl : n = k := by omega
      go_wp2
      go_ret
      have hr0 : rest = [] := by
        have := hown.1
        rw [List.length_append, rows_len (s := 5) (fun _ => rfl), HK.out] at this
        exact List.eq_nil_of_length_eq_zero (by omega)
      subst hr0
      rw [List.append_nil] at hown
      refine ⟨rfl, ⟨es', ⟨?_, hinn, fun q hq => (hown.lt q hq).2⟩, ?_, HADR.out⟩, hB⟩
      · rw [HK.out]; exact hown
      · rw [HD.out, List.take_of_length_le (by have := HL.out; omega)]

set_option maxRecDepth 100000 in
set_option maxHeartbeats 1000000 in
theorem eqMultiRuleS_any (A B : Option Addr) (n m c d : Nat) (es gs : List EMultiRule) (w : World) (ha : Args 5 w A n (rows EMultiRule.vs es)) (hra : RdsMultiRule w es) (hb : Args 5 w B m (rows EMultiRule.vs gs)) (hrb : RdsMultiRule w gs) (hn : n ≤ 4194304) (hm : m ≤ 4194304) (hx : sumMultiRule (es.map (·.d)) ≤ 4194304) (hy : sumMultiRule (gs.map (·.d)) ≤ 4194304) :
    Calls Tryd.prog 32 #[.slice A n c, .slice B m d] w fun z w' => z = .returned (.bool (decide (es.map (·.d) = gs.map (·.d)))) ∧ Below w.heap.size w w' := by
  have HA : Hid (es.length = n) := by have := ha.1; rw [rows_len (s := 5) (fun _ => rfl)] at this; unfold Hid; omega
  have HB : Hid (gs.length = m) := by have := hb.1; rw [rows_len (s := 5) (fun _ => rfl)] at this; unfold Hid; omega
  have HX := Lib.hid hx; have HY := Lib.hid hy; clear hx hy
  by_cases hnm : n = m
  rotate_left
  · have hne : ((n : Int) != (m : Int)) = true := by simp; omega
    go_enter Tryd.func32, Tryd.ntmps32
    go_wp2
    go_ret
    refine ⟨ret_bool ?_, Below.refl _ _⟩
    symm
    apply decide_eq_false
    intro h
    have := congrArg List.length h
    simp only [List.length_map] at this
    have h2 := HA.out
    have h3 := HB.out
    omega
  subst hnm
  go_enter Tryd.func32, Tryd.ntmps32
  go_wp2
  go_loopw [5] (fun i wr => ∃ k : Nat, k ≤ n ∧ i = .int .i64 k ∧ Below w.heap.size w wr ∧ Hid ((es.map (·.d)).take k = (gs.map (·.d)).take k)) (fun i _ => n - (intOf i).toNat)
  case atStart => exact ⟨0, Nat.zero_le _, rfl, Below.refl _ _, rfl⟩
  case round =>
    obtain ⟨k, hk, rfl, hB, HR⟩ := hrel
    by_cases hlt : k < n
    rotate_left
    · go_wp2
      go_ret
      refine ⟨ret_bool ?_, hB⟩
      have h1 := HR.out
      have h2 := HA.out
      have h3 := HB.out
      rw [List.take_of_length_le (by simp; omega), List.take_of_length_le (by simp; omega)] at h1
      simp [h1]
    obtain ⟨b1, o1, rfl, hs1⟩ := ha.sl hlt
    obtain ⟨b2, o2, rfl, hs2⟩ := hb.sl hlt
    obtain ⟨e, HE⟩ := hget HA hlt
    obtain ⟨g, HG⟩ := hget HB hlt
    have hrd1 := hra e (List.mem_of_getElem? HE.out)
    have hrd2 := hrb g (List.mem_of_getElem? HG.out)
    have hwl1 := sumMultiRule_at (xs := es.map (·.d)) (k := k) (x := e.d) (by rw [List.getElem?_map, HE.out]; rfl)
    have hwl2 := sumMultiRule_at (xs := gs.map (·.d)) (k := k) (x := g.d) (by rw [List.getElem?_map, HG.out]; rfl)
    have hst1 := HX.out; have hst2 := HY.out
    have HED : Hid ((es.map (·.d))[k]? = some e.d) := by unfold Hid; rw [List.getElem?_map, HE.out]; rfl
    have HGD : Hid ((gs.map (·.d))[k]? = some g.d) := by unfold Hid; rw [List.getElem?_map, HG.out]; rfl
    obtain ⟨v, hv⟩ : ∃ v, decide (e.d = g.d) = v := ⟨_, rfl⟩
    have HC := Lib.hid (fun W (hW : Below w.heap.size w W) => eqMultiRule_is e g v hv W (hrd1.below hW) (hrd2.below hW) (by omega) (by omega))
    have HV := Lib.hid hv
    obtain ⟨⟨A1, c1, hu1, ha1⟩, ⟨A2, c2, hu2, ha2⟩, ⟨A3, c3, hu3, ha3⟩, -⟩ := hrd1
    obtain ⟨⟨B1, d1, hv1, hb1⟩, ⟨B2, d2, hv2, hb2⟩, ⟨B3, d3, hv3, hb3⟩, -⟩ := hrd2
    have p0 : wr.cell? ⟨b1, o1 + k * 5, none⟩ = some (.int .i64 e.d.f0) := Sl.rec (f := EMultiRule.vs) (s := 5) (fun _ => rfl) (hs1.below' hB) HE.out (j := 0) rfl
    have p1 : wr.cell? ⟨b1, o1 + k * 5 + 1, none⟩ = some (e.u1) := Sl.rec (f := EMultiRule.vs) (s := 5) (fun _ => rfl) (hs1.below' hB) HE.out (j := 1) rfl
    have p2 : wr.cell? ⟨b1, o1 + k * 5 + 2, none⟩ = some (e.u2) := Sl.rec (f := EMultiRule.vs) (s := 5) (fun _ => rfl) (hs1.below' hB) HE.out (j := 2) rfl
    have p3 : wr.cell? ⟨b1, o1 + k * 5 + 3, none⟩ = some (e.u3) := Sl.rec (f := EMultiRule.vs) (s := 5) (fun _ => rfl) (hs1.below' hB) HE.out (j := 3) rfl
    have p4 : wr.cell? ⟨b1, o1 + k * 5 + 4, none⟩ = some (.int .i64 e.d.f4) := Sl.rec (f := EMultiRule.vs) (s := 5) (fun _ => rfl) (hs1.below' hB) HE.out (j := 4) rfl
    have q0 : wr.cell? ⟨b2, o2 + k * 5, none⟩ = some (.int .i64 g.d.f0) := Sl.rec (f := EMultiRule.vs) (s := 5) (fun _ => rfl) (hs2.below' hB) HG.out (j := 0) rfl
    have q1 : wr.cell? ⟨b2, o2 + k * 5 + 1, none⟩ = some (g.u1) := Sl.rec (f := EMultiRule.vs) (s := 5) (fun _ => rfl) (hs2.below' hB) HG.out (j := 1) rfl
    have q2 : wr.cell? ⟨b2, o2 + k * 5 + 2, none⟩ = some (g.u2) := Sl.rec (f := EMultiRule.vs) (s := 5) (fun _ => rfl) (hs2.below' hB) HG.out (j := 2) rfl
    have q3 : wr.cell? ⟨b2, o2 + k * 5 + 3, none⟩ = some (g.u3) := Sl.rec (f := EMultiRule.vs) (s := 5) (fun _ => rfl) (hs2.below' hB) HG.out (j := 3) rfl
    have q4 : wr.cell? ⟨b2, o2 + k * 5 + 4, none⟩ = some (.int .i64 g.d.f4) := Sl.rec (f := EMultiRule.vs) (s := 5) (fun _ => rfl) (hs2.below' hB) HG.out (j := 4) rfl
    rw [hu1] at HC p1
    rw [hv1] at HC q1
    obtain ⟨n1, hn1⟩ : ∃ n, n = e.d.f1.length := ⟨_, rfl⟩
    obtain ⟨m1, hm1⟩ : ∃ n, n = g.d.f1.length := ⟨_, rfl⟩
    rw [← hn1, ← hm1] at HC
    rw [← hn1] at p1
    rw [← hm1] at q1
    clear hn1 hm1 hu1 hv1 ha1 hb1
    rw [hu2] at HC p2
    rw [hv2] at HC q2
    obtain ⟨n2, hn2⟩ : ∃ n, n = e.d.f2.length := ⟨_, rfl⟩
    obtain ⟨m2, hm2⟩ : ∃ n, n = g.d.f2.length := ⟨_, rfl⟩
    rw [← hn2, ← hm2] at HC
    rw [← hn2] at p2
    rw [← hm2] at q2
    clear hn2 hm2 hu2 hv2 ha2 hb2
    rw [hu3] at HC p3
    rw [hv3] at HC q3
    obtain ⟨n3, hn3⟩ : ∃ n, n = e.d.f3.length := ⟨_, rfl⟩
    obtain ⟨m3, hm3⟩ : ∃ n, n = g.d.f3.length := ⟨_, rfl⟩
    rw [← hn3, ← hm3] at HC
    rw [← hn3] at p3
    rw [← hm3] at q3
    clear hn3 hm3 hu3 hv3 ha3 hb3
    clear hv hs1 hs2 ha hb hra hrb hwl1 hwl2 hst1 hst2
    cases v with
    | true =>
      have E2 : Hid (e.d = g.d) := of_decide_eq_true (p := e.d = g.d) HV.out
      go_wp2
      go_still_tail 8, (by kernel_rfl)
      change wpList _ _ _ _ _ wr.drew
      have hB2 := hB.drew
      clear hB p0 q0 p1 q1 p2 q2 p3 q3 p4 q4
      generalize wr.drew = w2 at hB2 ⊢
      go_wp2_with fail
      refine (HC.out _ hB2).mono ?_
      rintro z w3 ⟨rfl, hb3⟩
      go_wp2
      go_roundw
      case rel => exact ⟨k + 1, by omega, by go_num, below_step hB2 hb3, take_succ_eq HR.out HED.out HGD.out E2.out⟩
      case measure => simp [intOf]; omega
    | false =>
      have E2 : Hid (¬ e.d = g.d) := of_decide_eq_false (p := e.d = g.d) HV.out
      go_wp2
      go_still_tail 8, (by kernel_rfl)
      change wpList _ _ _ _ _ wr.drew
      have hB2 := hB.drew
      clear hB p0 q0 p1 q1 p2 q2 p3 q3 p4 q4
      generalize wr.drew = w2 at hB2 ⊢
      go_wp2_with fail
      refine (HC.out _ hB2).mono ?_
      rintro z w3 ⟨rfl, hb3⟩
      go_wp2
      go_ret
      exact ⟨ret_bool (by simp [ne_of_at HED.out HGD.out E2.out]), below_step hB2 hb3⟩

set_option maxRecDepth 100000 in
set_option maxHeartbeats 1000000 in
theorem szMultiRuleS_any (A : Option Addr) (n c : Nat) (es : List EMultiRule) (left : Int) (w : World) (ha : Args 5 w A n (rows EMultiRule.vs es)) (hr : RdsMultiRule w es) (h0 : 0 ≤ left) (h1 : left ≤ 1048576) (hn : n ≤ 9223372036854775807) (hw : ∀ e ∈ es, wbMultiRule 9223372036854775807 e.d) :
    Calls Tryd.prog 23 #[.slice A n c, .int .i64 left] w fun z w' => (∃ q : Int, z = .returned (.int .i64 q) ∧ SzOut (n + sumMultiRule (es.map (·.d))) left q) ∧ Below w.heap.size w w' := by
  have HL : Hid (es.length = n) := by have := ha.1; rw [rows_len (s := 5) (fun _ => rfl)] at this; unfold Hid; omega
  have HW := Lib.hid hw; clear hw
  by_cases h : (n : Int) ≤ left
  rotate_left
  · have h' : left - (n : Int) < 0 := by omega
    go_enter Tryd.func23, Tryd.ntmps23
    go_wp2
    go_ret
    exact ⟨⟨_, rfl, szOut_no (by omega)⟩, Below.refl _ _⟩
  have h' : ¬ left - (n : Int) < 0 := by omega
  go_enter Tryd.func23, Tryd.ntmps23
  go_wp2
  go_loopw [1, 5] (fun l i wr => ∃ k : Nat, k ≤ n ∧ i = .int .i64 k ∧ l = .int .i64 (left - (n : Int) - (sumMultiRule ((es.map (·.d)).take k) : Int)) ∧ (n : Int) + (sumMultiRule ((es.map (·.d)).take k) : Int) ≤ left ∧ Below w.heap.size w wr) (fun _ i _ => n - (intOf i).toNat)
  case atStart => exact ⟨0, Nat.zero_le _, rfl, by simp [sumMultiRule], by simpa [sumMultiRule] using h, Below.refl _ _⟩
  case round =>
    obtain ⟨k, hk, rfl, rfl, hle, hB⟩ := hrel
    by_cases hlt : k < n
    · obtain ⟨b, off, rfl, hs⟩ := ha.sl hlt
      obtain ⟨e, HX⟩ := hget HL hlt
      have hrd := hr e (List.mem_of_getElem? HX.out)
      have hwb := HW.out e (List.mem_of_getElem? HX.out)
      have HED : Hid ((es.map (·.d))[k]? = some e.d) := by unfold Hid; rw [List.getElem?_map, HX.out]; rfl
      have hst := sumMultiRule_take HED.out
      have hsl := sumMultiRule_le (es.map (·.d)) (k + 1)
      obtain ⟨p, hp⟩ : ∃ p, p = sumMultiRule ((es.map (·.d)).take k) := ⟨_, rfl⟩
      rw [← hp] at hle hst ⊢
      have HST := Lib.hid hst; have HSL := Lib.hid hsl
      have HC := Lib.hid (szMultiRule_any e (left - (n : Int) - (p : Int)) wr (hrd.below hB) (by omega) (by omega) hwb)
      obtain ⟨⟨A1, c1, hu1, ha1⟩, ⟨A2, c2, hu2, ha2⟩, ⟨A3, c3, hu3, ha3⟩, -⟩ := hrd
      have p0 : wr.cell? ⟨b, off + k * 5, none⟩ = some (.int .i64 e.d.f0) := Sl.rec (f := EMultiRule.vs) (s := 5) (fun _ => rfl) (hs.below' hB) HX.out (j := 0) rfl
      have p1 : wr.cell? ⟨b, off + k * 5 + 1, none⟩ = some (e.u1) := Sl.rec (f := EMultiRule.vs) (s := 5) (fun _ => rfl) (hs.below' hB) HX.out (j := 1) rfl
      have p2 : wr.cell? ⟨b, off + k * 5 + 2, none⟩ = some (e.u2) := Sl.rec (f := EMultiRule.vs) (s := 5) (fun _ => rfl) (hs.below' hB) HX.out (j := 2) rfl
      have p3 : wr.cell? ⟨b, off + k * 5 + 3, none⟩ = some (e.u3) := Sl.rec (f := EMultiRule.vs) (s := 5) (fun _ => rfl) (hs.below' hB) HX.out (j := 3) rfl
      have p4 : wr.cell? ⟨b, off + k * 5 + 4, none⟩ = some (.int .i64 e.d.f4) := Sl.rec (f := EMultiRule.vs) (s := 5) (fun _ => rfl) (hs.below' hB) HX.out (j := 4) rfl
      rw [hu1] at HC p1
      obtain ⟨n1, hn1⟩ : ∃ n, n = e.d.f1.length := ⟨_, rfl⟩
      rw [← hn1] at HC p1
      clear hn1 hu1 ha1
      rw [hu2] at HC p2
      obtain ⟨n2, hn2⟩ : ∃ n, n = e.d.f2.length := ⟨_, rfl⟩
      rw [← hn2] at HC p2
      clear hn2 hu2 ha2
      rw [hu3] at HC p3
      obtain ⟨n3, hn3⟩ : ∃ n, n = e.d.f3.length := ⟨_, rfl⟩
      rw [← hn3] at HC p3
      clear hn3 hu3 ha3
      obtain ⟨wl, hwl⟩ : ∃ wl, wl = wlMultiRule e.d := ⟨_, rfl⟩
      rw [← hwl] at HC HST
      clear hp hst hsl hs ha hr hwb h h' hwl
      have w1 : IntKind.i64.wrap (left - (n : Int) - (p : Int)) = left - (n : Int) - (p : Int) := IntWalk.i64_in _ (by omega)
      go_wp2_with fail
      refine HC.out.mono ?_
      rintro z w1 ⟨⟨q, rfl, hz⟩, hb1⟩
      unfold SzOut at hz
      have hB1 := below_step hB hb1
      rcases hz with ⟨z1, rfl⟩ | ⟨z1, rfl⟩
      · have z2 : ¬ left - (n : Int) - (p : Int) - (wl : Int) < 0 := by omega
        clear hb1 p0 p1 p2 p3 p4
        go_wp2_with fail
        go_roundw
        case rel => exact ⟨k + 1, by omega, by go_num, by rw [HST.out]; congr 1; omega, by rw [HST.out]; omega, hB1⟩
        case measure => simp [intOf]; omega
      · clear hb1 p0 p1 p2 p3 p4
        go_wp2_with fail
        go_ret
        exact ⟨⟨_, rfl, szOut_no (by have := HST.out; have := HSL.out; omega)⟩, hB1⟩
    · go_wp2
      go_ret
      obtain rfl : n = k := by omega
      rw [List.take_of_length_le (by rw [List.length_map]; have := HL.out; omega)] at hle ⊢
      exact ⟨⟨_, rfl, szOut_yes (by omega) (by omega)⟩, hB⟩

theorem szMultiRuleS_is (A : Option Addr) (n c left r : Nat) (es : List EMultiRule) (w : World) (ha : Args 5 w A n (rows EMultiRule.vs es)) (hr : RdsMultiRule w es) (h : r + (n + sumMultiRule (es.map (·.d))) = left) (h1 : left ≤ 1048576) (hw : ∀ e ∈ es, wbMultiRule 9223372036854775807 e.d) :
    Calls Tryd.prog 23 #[.slice A n c, .int .i64 left] w fun z w' => z = .returned (.int .i64 r) ∧ Below w.heap.size w w' := by
  refine (szMultiRuleS_any A n c es left w ha hr (by omega) (by omega) (by omega) hw).mono ?_
  rintro e w' ⟨⟨z, rfl, hz⟩, hb⟩
  unfold SzOut at hz
  exact ⟨ret_int (by omega), hb⟩

theorem szMultiRuleS_not (A : Option Addr) (n c left : Nat) (es : List EMultiRule) (w : World) (ha : Args 5 w A n (rows EMultiRule.vs es)) (hr : RdsMultiRule w es) (h : left < n + sumMultiRule (es.map (·.d))) (h1 : left ≤ 1048576) (hn : n ≤ 9223372036854775807) (hw : ∀ e ∈ es, wbMultiRule 9223372036854775807 e.d) :
    Calls Tryd.prog 23 #[.slice A n c, .int .i64 left] w fun z w' => z = .returned (.int .i64 (-1)) ∧ Below w.heap.size w w' := by
  refine (szMultiRuleS_any A n c es left w ha hr (by omega) (by omega) hn hw).mono ?_
  rintro e w' ⟨⟨z, rfl, hz⟩, hb⟩
  unfold SzOut at hz
  exact ⟨ret_int (by omega), hb⟩

theorem eqMultiRuleS_is (A B : Option Addr) (n m c d : Nat) (es gs : List EMultiRule) (xs : List DMultiRule) (w : World) (ha : Args 5 w A n (rows EMultiRule.vs es)) (hra : RdsMultiRule w es) (hb : Args 5 w B m (rows EMultiRule.vs gs)) (hrb : RdsMultiRule w gs) (he : es.map (·.d) = xs) (hg : gs.map (·.d) = xs) (hn : n ≤ 4194304) (hm : m ≤ 4194304) (hx : sumMultiRule xs ≤ 4194304) :
    Calls Tryd.prog 32 #[.slice A n c, .slice B m d] w fun z w' => z = .returned (.bool true) ∧ Below w.heap.size w w' := by
  refine (eqMultiRuleS_any A B n m c d es gs w ha hra hb hrb hn hm (by rw [he]; exact hx) (by rw [hg]; exact hx)).mono ?_
  rintro z w' ⟨rfl, hb⟩
  exact ⟨ret_bool (by rw [he, hg]; simp), hb⟩

theorem widSumMultiRule_of {es : List EMultiRule} {xs : List DMultiRule} (h : es.map (·.d) = xs) : widSum widMultiRule es = 2 * xs.length + sumMultiRule xs * 1 := by
  subst h
  induction es with
  | nil => simp [widSum, sumMultiRule]
  | cons e l ih =>
    simp only [widSum, sumMultiRule, widMultiRule, List.map_cons, List.sum_cons, List.length_cons] at ih ⊢
    rw [ih]
    omega
theorem lensMultiRule {es : List EMultiRule} {xs : List DMultiRule} (h : es.map (·.d) = xs) {m : Nat} (hm : sumMultiRule xs ≤ m) : ∀ e ∈ es, wlMultiRule e.d ≤ m := by
  intro e he
  have h1 : e.d ∈ xs := by rw [← h]; exact List.mem_map_of_mem he
  obtain ⟨k, hk⟩ := List.getElem?_of_mem h1
  exact Nat.le_trans (sumMultiRule_at hk) hm

end Go.Proofs.YtgcedfpjgdeakaaDoor

/- Contracts of the laws' helpers on []Loop: copy, compare, size, mark, look at the marks. For slices of at most 1048576 elements. -/
namespace Go.Proofs.YtgcedfpjgdeakaaDoor
open Go.RowKit
set_option linter.all false

theorem infoLoop : (Tryd.prog.info? 54).map (fun i => (i.zero, i.size, i.bytes)) = some (some (.agg #[.int .i64 0, .int .i64 0, .int .i64 0]), 3, 24) := by kernel_rfl

theorem eqLoop_any (x y : R3) (w : World) : Calls Tryd.prog 22 #[.agg #[.int .i64 x.a, .int .i64 x.b, .int .i64 x.c], .agg #[.int .i64 y.a, .int .i64 y.b, .int .i64 y.c]] w fun e w' => e = .returned (.bool (decide (x = y))) ∧ Below w.heap.size w w' := by
  obtain ⟨a, b, c⟩ := x
  obtain ⟨a', b', c'⟩ := y
  have h0 : Below w.heap.size w ((w.alloc (.cells #[.int .i64 a, .int .i64 b, .int .i64 c] 54)).alloc (.cells #[.int .i64 a', .int .i64 b', .int .i64 c'] 54)) := ((Below.refl _ _).alloc (Nat.le_refl _) _).alloc (by simp) _
  by_cases h1 : a = a'
  rotate_left
  · have e3 : (a != a') = true := by simpa using h1
    go_enter Tryd.func22, Tryd.ntmps22
    go_wp2
    go_ret
    exact ⟨ret_bool (by simp [h1]), h0⟩
  subst h1
  by_cases h2 : b = b'
  rotate_left
  · have e3 : (b != b') = true := by simpa using h2
    go_enter Tryd.func22, Tryd.ntmps22
    go_wp2
    go_ret
    exact ⟨ret_bool (by simp [h2]), h0⟩
  subst h2
  by_cases h3 : c = c'
  rotate_left
  · have e3 : (c != c') = true := by simpa using h3
    go_enter Tryd.func22, Tryd.ntmps22
    go_wp2
    go_ret
    exact ⟨ret_bool (by simp [h3]), h0⟩
  subst h3
  go_enter Tryd.func22, Tryd.ntmps22
  go_wp2
  go_ret
  exact ⟨ret_bool (by simp), h0⟩

theorem eqLoop_is (x y : R3) (v : Bool) (h : decide (x = y) = v) (w : World) : Calls Tryd.prog 22 #[.agg #[.int .i64 x.a, .int .i64 x.b, .int .i64 x.c], .agg #[.int .i64 y.a, .int .i64 y.b, .int .i64 y.c]] w fun e w' => e = .returned (.bool v) ∧ Below w.heap.size w w' := by
  subst h; exact eqLoop_any x y w

set_option maxRecDepth 100000 in
set_option maxHeartbeats 400000 in
theorem eqLoopS_any (A B : Option Addr) (n m c d : Nat) (xs ys : List R3) (w : World) (ha : Args 3 w A n (rows R3.vs xs)) (hb : Args 3 w B m (rows R3.vs ys)) (hn : n ≤ 4194304) (hm : m ≤ 4194304) :
    Calls Tryd.prog 7 #[.slice A n c, .slice B m d] w fun e w' => e = .returned (.bool (decide (xs = ys))) ∧ Below w.heap.size w w' := by
  have HA : Hid (xs.length = n) := by have := ha.1; rw [rows_len R3.vs_len] at this; unfold Hid; omega
  have HB : Hid (ys.length = m) := by have := hb.1; rw [rows_len R3.vs_len] at this; unfold Hid; omega
  by_cases hnm : n = m
  · subst hnm
    go_enter Tryd.func7, Tryd.ntmps7
    go_wp2
    go_loopw [5] (fun i wr => ∃ k : Nat, k ≤ n ∧ i = .int .i64 k ∧ Below w.heap.size w wr ∧ Hid (xs.take k = ys.take k)) (fun i _ => n - (intOf i).toNat)
    case atStart => exact ⟨0, Nat.zero_le _, rfl, Below.refl _ _, rfl⟩
    case round =>
      obtain ⟨k, hk, rfl, hB, HR⟩ := hrel
      by_cases hlt : k < n
      · obtain ⟨b1, o1, rfl, hs1⟩ := ha.sl hlt
        obtain ⟨b2, o2, rfl, hs2⟩ := hb.sl hlt
        obtain ⟨x, HX⟩ := hget HA hlt
        obtain ⟨y, HY⟩ := hget HB hlt
        obtain ⟨p0, p1, p2⟩ := (hs1.below' hB).rec3 HX.out
        obtain ⟨q0, q1, q2⟩ := (hs2.below' hB).rec3 HY.out
        clear hs1 hs2 ha hb
        by_cases e : x = y
        · have E := Lib.hid (decide_eq_true e)
          have E2 := Lib.hid e
          clear e
          go_wp2
          go_still_tail 8, (by kernel_rfl)
          change wpList _ _ _ _ _ wr.drew
          have hB2 := hB.drew
          clear p0 q0 p1 q1 p2 q2 hB
          generalize wr.drew = w2 at hB2 ⊢
          go_wp2_with fail
          refine (eqLoop_is x y true E.out _).mono ?_
          rintro e w3 ⟨rfl, hb3⟩
          go_wp2
          go_roundw
          case rel => exact ⟨k + 1, by omega, by go_num, below_step hB2 hb3, take_succ_eq HR.out HX.out HY.out E2.out⟩
          case measure => simp [intOf]; omega
        · have E := Lib.hid (decide_eq_false e)
          have HE := Lib.hid e
          clear e
          go_wp2
          go_still_tail 8, (by kernel_rfl)
          change wpList _ _ _ _ _ wr.drew
          have hB2 := hB.drew
          clear p0 q0 p1 q1 p2 q2 hB
          generalize wr.drew = w2 at hB2 ⊢
          go_wp2_with fail
          refine (eqLoop_is x y false E.out _).mono ?_
          rintro e w3 ⟨rfl, hb3⟩
          go_wp2
          go_ret
          exact ⟨ret_bool (by simp [ne_of_at HX.out HY.out HE.out]), below_step hB2 hb3⟩
      · go_wp2
        go_ret
        refine ⟨ret_bool ?_, hB⟩
        have h1 := HR.out
        have h2 := HA.out
        have h3 := HB.out
        rw [List.take_of_length_le (by omega), List.take_of_length_le (by omega)] at h1
        simp [h1]
  · have hne : ((n : Int) != (m : Int)) = true := by simp; omega
    go_enter Tryd.func7, Tryd.ntmps7
    go_wp2
    go_ret
    refine ⟨ret_bool ?_, Below.refl _ _⟩
    have h2 := HA.out
    have h3 := HB.out
    symm
    apply decide_eq_false
    rintro rfl
    omega

set_option maxHeartbeats 800000 in
theorem markLoopS_any (base : Nat) (v : Value) (n : Nat) (k0 : Int) (xs : List Value) (w : World) (ho : w.ownsRow base 54 3 v n xs) (hk0 : 0 ≤ k0) (hk1 : k0 ≤ 1099511627776) (hn : n ≤ 4194304) :
    Calls Tryd.prog 8 #[v, .int .i64 k0] w fun e w' => e = .returned (.int .i64 (k0 + (n * 3 : Nat))) ∧ w'.ownsRow base 54 3 v n (marks (.int .i64) k0 (n * 3)) ∧ w.grownBy w' v.ownBlock := by
  have HL : Hid (xs.length = n * 3) := ho.1
  rcases ho.2 with ⟨rfl, rfl⟩ | ⟨g, cap, cur, rfl, hbg, hh, hnc, hcm, hcs, htk⟩
  · go_enter Tryd.func8, Tryd.ntmps8
    go_wp2
    refine wp_loop_rounds 1 ?_
    rw [rounds_succ]
    go_wp2
    go_ret
    exact ⟨by simp, by simpa [marks] using World.ownsRow_nil _ _ _ _, World.grownBy.refl _ _⟩
  · clear hh hcs htk
    go_enter Tryd.func8, Tryd.ntmps8
    go_wp2
    go_loopw [1, 5] (fun kk i wr => ∃ k : Nat, k ≤ n ∧ i = .int .i64 k ∧ kk = .int .i64 (k0 + (k * 3 : Nat)) ∧ wr.ownsRow base 54 3 (.slice (some ⟨g, 0, none⟩) n cap) n (marks (.int .i64) k0 (k * 3) ++ xs.drop (k * 3)) ∧ w.grownBy wr (some g)) (fun _ i _ => n - (intOf i).toNat)
    case atStart => exact ⟨0, Nat.zero_le _, rfl, by simp, by simpa [marks] using ho, World.grownBy.refl _ _⟩
    case round =>
      obtain ⟨k, hk, rfl, rfl, hown, hgr⟩ := hrel
      clear ho
      by_cases hlt : k < n
      · obtain ⟨u0, c0⟩ := own_some hown (j := k * 3) (by omega)
        obtain ⟨u1, c1⟩ := own_some hown (j := k * 3 + 1) (by omega)
        obtain ⟨u2, c2⟩ := own_some hown (j := k * 3 + 2) (by omega)
        have z0 := hown.frozenAt (k * 3)
        have z1 := hown.frozenAt (k * 3 + 1)
        have z2 := hown.frozenAt (k * 3 + 2)
        have HS := Lib.hid (own_mark3 hown hgr HL.out hlt)
        have hm0 : ((k * 3 : Nat) : Int) = (k : Int) * 3 := by omega
        clear hown
        go_wp2
        go_roundw
        case rel => exact ⟨k + 1, by omega, by go_num, by go_num, by exact HS.out.1, by exact HS.out.2⟩
        case measure => simp [intOf]; omega
      · go_wp2
        go_ret
        obtain rfl : k = n := by omega
        refine ⟨rfl, ?_, hgr⟩
        rw [List.drop_of_length_le (by have := HL.out; omega), List.append_nil] at hown
        exact hown

set_option maxHeartbeats 800000 in
theorem heldLoopS_any (A : Option Addr) (n c : Nat) (k0 : Int) (w : World) (ha : Args 3 w A n (marks (.int .i64) k0 (n * 3))) (hk0 : 0 ≤ k0) (hk1 : k0 ≤ 1099511627776) (hn : n ≤ 4194304) :
    Calls Tryd.prog 9 #[.slice A n c, .int .i64 k0] w fun e w' => e = .returned (.int .i64 (k0 + (n * 3 : Nat))) ∧ w = w' := by
  go_enter Tryd.func9, Tryd.ntmps9
  go_wp2
  go_loop [1, 5] (fun kk i => ∃ k : Nat, k ≤ n ∧ i = .int .i64 k ∧ kk = .int .i64 (k0 + (k * 3 : Nat))) (fun _ i => n - (intOf i).toNat)
  case atStart => exact ⟨0, Nat.zero_le _, rfl, by simp⟩
  case round =>
    obtain ⟨k, hk, rfl, rfl⟩ := hrel
    by_cases hlt : k < n
    · obtain ⟨b, off, rfl, hs⟩ := ha.sl hlt
      have h0 : w.cell? ⟨b, off + k * 3, none⟩ = some (.int .i64 (k0 + (k : Int) * 3)) := by
        have := hs.at (marks_at (.int .i64) k0 (n * 3) (k * 3 + 0) (by omega))
        rw [show off + (k * 3 + 0) = off + k * 3 by omega, show k0 + ((k * 3 + 0 : Nat) : Int) = k0 + (k : Int) * 3 by omega] at this
        exact this
      have h1 : w.cell? ⟨b, off + k * 3 + 1, none⟩ = some (.int .i64 (k0 + (k : Int) * 3 + 1)) := by
        have := hs.at (marks_at (.int .i64) k0 (n * 3) (k * 3 + 1) (by omega))
        rw [show off + (k * 3 + 1) = off + k * 3 + 1 by omega, show k0 + ((k * 3 + 1 : Nat) : Int) = k0 + (k : Int) * 3 + 1 by omega] at this
        exact this
      have h2 : w.cell? ⟨b, off + k * 3 + 2, none⟩ = some (.int .i64 (k0 + (k : Int) * 3 + 2)) := by
        have := hs.at (marks_at (.int .i64) k0 (n * 3) (k * 3 + 2) (by omega))
        rw [show off + (k * 3 + 2) = off + k * 3 + 2 by omega, show k0 + ((k * 3 + 2 : Nat) : Int) = k0 + (k : Int) * 3 + 2 by omega] at this
        exact this
      clear hs ha
      go_wp2
      go_round
      case rel => exact ⟨k + 1, by omega, by go_num, by go_num⟩
      case measure => simp [intOf]; omega
    · go_wp2
      go_ret
      obtain rfl : k = n := by omega
      exact ⟨rfl, rfl⟩

end Go.Proofs.YtgcedfpjgdeakaaDoor

/- Loop programs: which are valid. Contracts of isVariable, isLoop, validLoops, ValidLoop and of the reference's l17Var, l17IsLoop, l17Part, l17Is, ValidLoop. -/
namespace Go.Proofs.YtgcedfpjgdeakaaDoor
open Go.RowKit
set_option linter.all false

def isLp (x : R3) : Bool := decide (x.a = 3) || decide (x.a = 4)
/-- A loop program is valid, d more bodies may lie one in another. -/
def vl (d : Nat) : List R3 → Bool
  | [] => true
  | x :: l => inB x.b 0 15 && (if isLp x then decide (0 < d) && inB x.c 0 l.length && vl (d - 1) (l.take x.c.toNat) && vl d (l.drop x.c.toNat)
      else if x.a = 2 then inB x.c 0 15 && vl d l else (decide (x.a = 0) || decide (x.a = 1)) && decide (x.c = 0) && vl d l)
  termination_by l => l.length
  decreasing_by all_goals simp_wf; try omega
theorem vl_nil (d : Nat) : vl d [] = true := by rw [vl]
theorem vl_cons (d : Nat) (x : R3) (l : List R3) : vl d (x :: l) = (inB x.b 0 15 && (if isLp x then decide (0 < d) && inB x.c 0 l.length && vl (d - 1) (l.take x.c.toNat) && vl d (l.drop x.c.toNat)
      else if x.a = 2 then inB x.c 0 15 && vl d l else (decide (x.a = 0) || decide (x.a = 1)) && decide (x.c = 0) && vl d l)) := by rw [vl]
def validL (xs : List R3) : Bool := decide (xs.length ≤ 150) && vl 7 xs

theorem isVariable_is (n : Int) (v : Bool) (h : inB n 0 15 = v) (w : World) : Calls Tryd.prog 75 #[.int .i64 n] w fun e w' => e = .returned (.bool v) ∧ w = w' := by
  go_enter Tryd.func75, Tryd.ntmps75
  go_wp2_with (go_at_call 56; refine (within_is _ _ _ v h _).mono ?_; rintro e w' ⟨rfl, rfl⟩)
  go_ret
  exact ⟨rfl, rfl⟩
theorem l17Var_is (n : Int) (v : Bool) (h : inB n 0 15 = v) (w : World) : Calls Tryd.prog 94 #[.int .i64 n] w fun e w' => e = .returned (.bool v) ∧ w = w' := by
  go_enter Tryd.func94, Tryd.ntmps94
  go_wp2_with (go_at_call 46; refine (l00In_is _ _ _ v h _).mono ?_; rintro e w' ⟨rfl, rfl⟩)
  go_ret
  exact ⟨rfl, rfl⟩

theorem isLoop_is (x : R3) (v : Bool) (h : isLp x = v) (w : World) : Calls Tryd.prog 76 #[.agg #[.int .i64 x.a, .int .i64 x.b, .int .i64 x.c]] w fun e w' => e = .returned (.bool v) ∧ Below w.heap.size w w' := by
  subst h
  obtain ⟨a, b, c⟩ := x
  have h0 : Below w.heap.size w (w.alloc (.cells #[.int .i64 a, .int .i64 b, .int .i64 c] 54)) := (Below.refl _ _).alloc (Nat.le_refl _) _
  by_cases h3 : a = 3
  · subst h3
    go_enter Tryd.func76, Tryd.ntmps76
    go_wp2
    go_ret
    exact ⟨rfl, h0⟩
  · by_cases h4 : a = 4
    · subst h4
      go_enter Tryd.func76, Tryd.ntmps76
      go_wp2
      go_ret
      exact ⟨rfl, h0⟩
    · have e3 : (a == 3) = false := by simpa using h3
      have e4 : (a == 4) = false := by simpa using h4
      go_enter Tryd.func76, Tryd.ntmps76
      go_wp2
      go_ret
      exact ⟨ret_bool (by simp [isLp, h3, h4]), h0⟩

theorem l17IsLoop_is (x : R3) (v : Bool) (h : isLp x = v) (g o : Nat) (w : World) (hc : w.cell? ⟨g, o, none⟩ = some (.int .i64 x.a)) : Calls Tryd.prog 95 #[.pointer (some ⟨g, o, none⟩)] w fun e w' => e = .returned (.bool v) ∧ w = w' := by
  subst h
  obtain ⟨a, b, c⟩ := x
  by_cases h3 : a = 3
  · subst h3
    go_enter Tryd.func95, Tryd.ntmps95
    go_wp2
    go_ret
    exact ⟨rfl, rfl⟩
  · by_cases h4 : a = 4
    · subst h4
      go_enter Tryd.func95, Tryd.ntmps95
      go_wp2
      go_ret
      exact ⟨rfl, rfl⟩
    · have e3 : (a == 3) = false := by simpa using h3
      have e4 : (a == 4) = false := by simpa using h4
      go_enter Tryd.func95, Tryd.ntmps95
      go_wp2
      go_ret
      exact ⟨ret_bool (by simp [isLp, h3, h4]), rfl⟩

theorem vl_no1 {d : Nat} {x : R3} {l : List R3} (h : inB x.b 0 15 = false) : vl d (x :: l) = false := by rw [vl_cons, h]; rfl
theorem vl_lp {d : Nat} {x : R3} {l : List R3} (h : inB x.b 0 15 = true) (h2 : isLp x = true) : vl d (x :: l) = (decide (0 < d) && inB x.c 0 l.length && vl (d - 1) (l.take x.c.toNat) && vl d (l.drop x.c.toNat)) := by
  rw [vl_cons, h, h2]; simp
theorem vl_cp {d : Nat} {x : R3} {l : List R3} (h : inB x.b 0 15 = true) (h2 : isLp x = false) (h3 : x.a = 2) : vl d (x :: l) = (inB x.c 0 15 && vl d l) := by
  rw [vl_cons, h, h2]; simp [h3]
theorem vl_el {d : Nat} {x : R3} {l : List R3} (h : inB x.b 0 15 = true) (h2 : isLp x = false) (h3 : x.a ≠ 2) : vl d (x :: l) = ((decide (x.a = 0) || decide (x.a = 1)) && decide (x.c = 0) && vl d l) := by
  rw [vl_cons, h, h2]; simp [h3]

set_option maxRecDepth 100000 in
set_option maxHeartbeats 1000000 in
theorem validLoops_any (d : Nat) : ∀ (A : Option Addr) (n c : Nat) (t : Int) (xs : List R3) (w : World) (ha : Args 3 w A n (rows R3.vs xs)) (hn : n ≤ 1048576) (hc : n ≤ c) (ht : t + d = 7) (ht0 : 0 ≤ t),
    Calls Tryd.prog 39 #[.slice A n c, .int .i64 t] w fun e w' => e = .returned (.bool (vl d xs)) ∧ Below w.heap.size w w' := by
  induction d using Nat.strongRecOn with
  | ind d ih =>
  intro A n c t xs w ha hn hc ht ht0
  have HT := Lib.hid ht; clear ht
  have IH := Lib.hid ih; clear ih
  have HL : Hid (xs.length = n) := by have := ha.1; rw [rows_len R3.vs_len] at this; unfold Hid; omega
  go_enter Tryd.func39, Tryd.ntmps39
  go_wp2
  go_loopw [5] (fun i wr => ∃ k : Nat, k ≤ n ∧ i = .int .i64 k ∧ Below w.heap.size w wr ∧ Hid (vl d xs = vl d (xs.drop k))) (fun i _ => n - (intOf i).toNat)
  case atStart => exact ⟨0, Nat.zero_le _, rfl, Below.refl _ _, rfl⟩
  case round =>
    obtain ⟨k, hk, rfl, hB, HV⟩ := hrel
    by_cases hlt : k < n
    · obtain ⟨b, off, rfl, hs⟩ := ha.sl hlt
      obtain ⟨x, HX⟩ := hget HL hlt
      have HV1 := Lib.hid (HV.out.trans (congrArg (vl d) (drop_at HX.out)))
      obtain ⟨p0, p1, p2⟩ := (hs.below' hB).rec3 HX.out
      have HR : Hid ((xs.drop (k + 1)).length = n - k - 1) := by have := HL.out; unfold Hid; rw [List.length_drop]; omega
      rcases Bool.eq_false_or_eq_true (inB x.b 0 15) with hv | hv
      · have HA := Lib.hid hv; clear hv
        go_wp2_with fail
        refine (isVariable_is _ true HA.out _).mono ?_
        rintro e w1 ⟨rfl, hw⟩
        obtain ⟨c0, c1, c2, hb1⟩ := alloc3 hw
        have hB1 := below_step hB hb1
        clear hw p0 p1 p2 hb1
        rcases Bool.eq_false_or_eq_true (isLp x) with hv | hv
        · have HI := Lib.hid hv; clear hv
          go_wp2_with fail
          refine (isLoop_is x true HI.out _).mono ?_
          rintro e w2 ⟨rfl, hb2⟩
          have d0 := cell_step c0 hb2
          have d2 := cell_step c2 hb2
          have hB2 := below_step hB1 hb2
          clear c0 c1 c2 hb2
          have HV2 := Lib.hid (HV1.out.trans (vl_lp HA.out HI.out)); 
          by_cases hd0 : d = 0
          · have ht7 : 7 ≤ t := by have := HT.out; omega
            subst hd0
            go_wp2
            go_ret
            exact ⟨ret_bool (by rw [HV2.out]; simp), hB2⟩
          · have ht7 : t < 7 := by have := HT.out; omega
            rcases Bool.eq_false_or_eq_true (inB x.c 0 ((n : Int) - k - 1)) with hv | hv
            · have HC := Lib.hid hv
              obtain ⟨xa, xb, xc⟩ := x
              obtain ⟨hc1, hc2⟩ := (inB_iff _ _ _).1 hv
              clear hv
              obtain ⟨m, hm⟩ : ∃ m : Nat, xc = m := ⟨xc.toNat, by simp at hc1; omega⟩
              subst hm
              simp only at hc1 hc2 d2 d0
              have hkm : k + 1 + m ≤ n := by omega
              go_wp2_with fail
              refine (within_is _ _ _ true HC.out _).mono ?_
              rintro e w3 ⟨rfl, rfl⟩
              obtain ⟨o', ho', hsl⟩ := run_slice_part (P := Tryd.prog) 22 54 Tryd.underlying22 infoLoop b off n c (k + 1) m ((k : Int) + 1) ((k : Int) + 1 + m) (by omega) (by omega) (by omega)
              have HS := Lib.hid (args_part R3.vs_len (hs.below' hB2) (k + 1) m ho' (by have := HL.out; omega))
              clear ho'
              have HD : Hid (t + 1 + ((d - 1 : Nat) : Int) = 7) := by have := HT.out; unfold Hid; omega
              have HV3 : Hid (vl d xs = (vl (d - 1) ((xs.drop (k + 1)).take m) && vl d (xs.drop (k + 1 + m)))) := by
                unfold Hid
                have h5 := HC.out
                rw [HV2.out, HR.out]
                rw [show ((n - k - 1 : Nat) : Int) = (n : Int) - k - 1 by omega, h5, decide_eq_true (show 0 < d by omega), Bool.true_and, Bool.true_and, Int.toNat_natCast, List.drop_drop]
              rcases Bool.eq_false_or_eq_true (vl (d - 1) ((xs.drop (k + 1)).take m)) with hv | hv
              · have HW := Lib.hid hv; clear hv
                go_wp2_with fail
                · refine (IH.out (d - 1) (by omega) _ m _ (t + 1) ((xs.drop (k + 1)).take m) _ HS.out (by omega) (by omega) HD.out (by omega)).mono ?_
                  rintro e w3 ⟨he, hb3⟩
                  clear hsl
                  rw [HW.out] at he
                  subst he
                  have e2 := cell_step d2 hb3
                  have hB3 := below_step hB2 hb3
                  clear hb3
                  go_wp2
                  go_roundw
                  case rel => exact ⟨k + 1 + m, by omega, by go_num, hB3, by unfold Hid; rw [HV3.out, HW.out, Bool.true_and]⟩
                  case measure => simp [intOf]; omega
              · have HW := Lib.hid hv; clear hv
                go_wp2_with fail
                · refine (IH.out (d - 1) (by omega) _ m _ (t + 1) ((xs.drop (k + 1)).take m) _ HS.out (by omega) (by omega) HD.out (by omega)).mono ?_
                  rintro e w3 ⟨he, hb3⟩
                  clear hsl
                  rw [HW.out] at he
                  subst he
                  have hB3 := below_step hB2 hb3
                  clear hb3
                  go_wp2
                  go_ret
                  exact ⟨ret_bool (by rw [HV3.out, HW.out, Bool.false_and]), hB3⟩
            · have HC := Lib.hid hv; clear hv
              go_wp2_with fail
              refine (within_is _ _ _ false HC.out _).mono ?_
              rintro e w3 ⟨rfl, rfl⟩
              go_wp2
              go_ret
              refine ⟨ret_bool ?_, hB2⟩
              rw [HV2.out, HR.out]
              have := HC.out
              rw [show ((n - k - 1 : Nat) : Int) = (n : Int) - k - 1 by omega, this]
              simp
        · have HI := Lib.hid hv; clear hv
          go_wp2_with fail
          refine (isLoop_is x false HI.out _).mono ?_
          rintro e w2 ⟨rfl, hb2⟩
          have d0 := cell_step c0 hb2
          have d2 := cell_step c2 hb2
          have hB2 := below_step hB1 hb2
          clear c0 c1 c2 hb2
          by_cases h2 : x.a = 2
          · have HV2 := Lib.hid (HV1.out.trans (vl_cp HA.out HI.out h2))
            rw [h2] at d0
            clear h2
            rcases Bool.eq_false_or_eq_true (inB x.c 0 15) with hv | hv
            · have HC := Lib.hid hv; clear hv
              go_wp2_with fail
              refine (isVariable_is _ true HC.out _).mono ?_
              rintro e w3 ⟨rfl, rfl⟩
              go_wp2
              go_roundw
              case rel => exact ⟨k + 1, by omega, by go_num, hB2, by unfold Hid; rw [HV2.out, HC.out, Bool.true_and]⟩
              case measure => simp [intOf]; omega
            · have HC := Lib.hid hv; clear hv
              go_wp2_with fail
              refine (isVariable_is _ false HC.out _).mono ?_
              rintro e w3 ⟨rfl, rfl⟩
              go_wp2
              go_ret
              exact ⟨ret_bool (by rw [HV2.out, HC.out, Bool.false_and]), hB2⟩
          · have HV2 := Lib.hid (HV1.out.trans (vl_el HA.out HI.out h2))
            have e2 : (x.a == 2) = false := by simpa using h2
            by_cases hc0 : x.c = 0
            · have ec : (x.c != 0) = false := by simpa using hc0
              have HC := Lib.hid hc0; clear hc0
              by_cases ha0 : x.a = 0
              · rw [ha0] at d0
                clear e2 h2
                have HA0 := Lib.hid ha0; clear ha0
                go_wp2
                go_roundw
                case rel => exact ⟨k + 1, by omega, by go_num, hB2, by unfold Hid; rw [HV2.out, HC.out, HA0.out]; simp⟩
                case measure => simp [intOf]; omega
              · by_cases ha1 : x.a = 1
                · rw [ha1] at d0
                  clear e2 h2 ha0
                  have HA0 := Lib.hid ha1; clear ha1
                  go_wp2
                  go_roundw
                  case rel => exact ⟨k + 1, by omega, by go_num, hB2, by unfold Hid; rw [HV2.out, HC.out, HA0.out]; simp⟩
                  case measure => simp [intOf]; omega
                · have e0 : (x.a != 0) = true := by simpa using ha0
                  have e1 : (x.a != 1) = true := by simpa using ha1
                  have HF : Hid ((decide (x.a = 0) || decide (x.a = 1)) = false) := by unfold Hid; simp [ha0, ha1]
                  clear ha0 ha1 h2
                  go_wp2
                  go_ret
                  exact ⟨ret_bool (by rw [HV2.out, HF.out]; simp), hB2⟩
            · have ec : (x.c != 0) = true := by simpa using hc0
              have HC : Hid (decide (x.c = 0) = false) := by unfold Hid; simp [hc0]
              clear hc0
              by_cases ha0 : x.a = 0
              · have e0 : (x.a != 0) = false := by simpa using ha0
                clear h2 ha0
                go_wp2
                go_ret
                exact ⟨ret_bool (by rw [HV2.out, HC.out]; simp), hB2⟩
              · have e0 : (x.a != 0) = true := by simpa using ha0
                by_cases ha1 : x.a = 1
                · have e1 : (x.a != 1) = false := by simpa using ha1
                  clear h2 ha0 ha1
                  go_wp2
                  go_ret
                  exact ⟨ret_bool (by rw [HV2.out, HC.out]; simp), hB2⟩
                · have e1 : (x.a != 1) = true := by simpa using ha1
                  clear h2 ha0 ha1
                  go_wp2
                  go_ret
                  exact ⟨ret_bool (by rw [HV2.out, HC.out]; simp), hB2⟩
      · have HA := Lib.hid hv; clear hv
        go_wp2_with fail
        refine (isVariable_is _ false HA.out _).mono ?_
        rintro e w1 ⟨rfl, hw⟩
        obtain ⟨c0, c1, c2, hb1⟩ := alloc3 hw
        have hB1 := below_step hB hb1
        clear hw p0 p1 p2 hb1
        go_wp2
        go_ret
        exact ⟨ret_bool (by rw [HV1.out, vl_no1 HA.out]), hB1⟩
    · go_wp2
      go_ret
      exact ⟨ret_bool (by rw [HV.out, List.drop_of_length_le (by have := HL.out; omega), vl_nil]), hB⟩

/-- The part from i up to t. -/
def seg {α : Type} (xs : List α) (i t : Nat) : List α := (xs.drop i).take (t - i)
theorem seg_at {α : Type} {xs : List α} {i t : Nat} {x : α} (h : xs[i]? = some x) (hit : i < t) : seg xs i t = x :: seg xs (i + 1) t := by
  unfold seg
  rw [drop_at h, show t - i = (t - (i + 1)) + 1 by omega, List.take_succ_cons]
theorem seg_len {α : Type} {xs : List α} {i t : Nat} (h : t ≤ xs.length) : (seg xs i t).length = t - i := by
  unfold seg; rw [List.length_take, List.length_drop]; omega
theorem seg_end {α : Type} {xs : List α} {i t : Nat} (h : t ≤ i) : seg xs i t = [] := by
  unfold seg; rw [show t - i = 0 by omega, List.take_zero]
theorem seg_all {α : Type} (xs : List α) : seg xs 0 xs.length = xs := by simp [seg]
theorem seg_take {α : Type} (xs : List α) (i t m : Nat) (h : i + m ≤ t) : (seg xs i t).take m = seg xs i (i + m) := by
  unfold seg; rw [List.take_take, show i + m - i = m by omega, Nat.min_eq_left (by omega)]
theorem seg_drop {α : Type} (xs : List α) (i t m : Nat) : (seg xs i t).drop m = seg xs (i + m) t := by
  unfold seg; rw [List.drop_take, List.drop_drop, show t - i - m = t - (i + m) by omega]
theorem vl_bad {d : Nat} {x : R3} {l : List R3} (h : inB x.a 0 4 = false) : vl d (x :: l) = false := by
  rw [inB_false] at h
  rw [vl_cons]
  have h1 : isLp x = false := by unfold isLp; simp; omega
  rw [h1]
  simp [show ¬ x.a = 2 by omega, show ¬ x.a = 0 by omega, show ¬ x.a = 1 by omega]

set_option maxRecDepth 100000 in
set_option maxHeartbeats 1000000 in
theorem l17Part_any (d : Nat) : ∀ (A : Option Addr) (n c fr to : Nat) (t : Int) (xs : List R3) (w : World) (ha : Args 3 w A n (rows R3.vs xs)) (hn : n ≤ 1048576) (hft : fr ≤ to) (hto : to ≤ n) (ht : t + d = 7) (ht0 : 0 ≤ t),
    Calls Tryd.prog 69 #[.slice A n c, .int .i64 fr, .int .i64 to, .int .i64 t] w fun e w' => e = .returned (.bool (vl d (seg xs fr to))) ∧ Below w.heap.size w w' := by
  induction d using Nat.strongRecOn with
  | ind d ih =>
  intro A n c fr to t xs w ha hn hft hto ht ht0
  have HT := Lib.hid ht; clear ht
  have IH := Lib.hid ih; clear ih
  have HL : Hid (xs.length = n) := by have := ha.1; rw [rows_len R3.vs_len] at this; unfold Hid; omega
  go_enter Tryd.func69, Tryd.ntmps69
  go_wp2
  go_loopw [9] (fun i wr => ∃ k : Nat, fr ≤ k ∧ k ≤ to ∧ i = .int .i64 k ∧ Below w.heap.size w wr ∧ Hid (vl d (seg xs fr to) = vl d (seg xs k to))) (fun i _ => to - (intOf i).toNat)
  case atStart => exact ⟨fr, Nat.le_refl _, hft, rfl, Below.refl _ _, rfl⟩
  case round =>
    obtain ⟨k, hfk, hk, rfl, hB, HV⟩ := hrel
    by_cases hlt : k < to
    · obtain ⟨b, off, rfl, hs⟩ := ha.sl (k := k) (by omega)
      obtain ⟨x, HX⟩ := hget (k := k) HL (by omega)
      have HV1 := Lib.hid (HV.out.trans (congrArg (vl d) (seg_at HX.out hlt)))
      obtain ⟨p0, p1, p2⟩ := (hs.below' hB).rec3 HX.out
      have HR : Hid ((seg xs (k + 1) to).length = to - k - 1) := by have := HL.out; unfold Hid; rw [seg_len (by omega)]; omega
      have hkn : k < n := by omega
      rcases Bool.eq_false_or_eq_true (inB x.a 0 4) with hv | hv
      rotate_left
      · have HK := Lib.hid hv; clear hv
        go_wp2_with fail
        refine (l00In_is _ _ _ false HK.out _).mono ?_
        rintro e w1 ⟨rfl, hw⟩
        obtain ⟨c0, c1, c2, hb1⟩ := alloc3 hw
        have hB1 := below_step hB hb1
        clear hw p0 p1 p2 hb1
        go_wp2
        go_ret
        exact ⟨ret_bool (by rw [HV1.out, vl_bad HK.out]), hB1⟩
      have HK := Lib.hid hv; clear hv
      rcases Bool.eq_false_or_eq_true (inB x.b 0 15) with hv | hv
      rotate_left
      · have HA := Lib.hid hv; clear hv
        go_wp2_with fail
        refine (l00In_is _ _ _ true HK.out _).mono ?_
        rintro e w1 ⟨rfl, hw⟩
        obtain ⟨c0, c1, c2, hb1⟩ := alloc3 hw
        have hB1 := below_step hB hb1
        clear hw p0 p1 p2 hb1
        go_wp2_with fail
        refine (l17Var_is _ false HA.out _).mono ?_
        rintro e w2 ⟨rfl, rfl⟩
        go_wp2
        go_ret
        exact ⟨ret_bool (by rw [HV1.out, vl_no1 HA.out]), hB1⟩
      have HA := Lib.hid hv; clear hv
      go_wp2_with fail
      refine (l00In_is _ _ _ true HK.out _).mono ?_
      rintro e w1 ⟨rfl, hw⟩
      obtain ⟨c0, c1, c2, hb1⟩ := alloc3 hw
      have hB1 := below_step hB hb1
      clear hw p0 p1 p2 hb1
      go_wp2_with fail
      refine (l17Var_is _ true HA.out _).mono ?_
      rintro e w2 ⟨rfl, rfl⟩
      by_cases h2 : x.a = 2
      · have HI : Hid (isLp x = false) := by unfold Hid isLp; simp [h2]
        have HV2 := Lib.hid (HV1.out.trans (vl_cp HA.out HI.out h2))
        rw [h2] at c0
        have H2 := Lib.hid h2; clear h2
        rcases Bool.eq_false_or_eq_true (inB x.c 0 15) with hv | hv
        · have HC := Lib.hid hv; clear hv
          go_wp2_with fail
          refine (l17Var_is _ true HC.out _).mono ?_
          rintro e w3 ⟨rfl, rfl⟩
          go_wp2_with fail
          refine (l17IsLoop_is x false HI.out _ _ _ (by rw [H2.out]; exact c0)).mono ?_
          rintro e w3 ⟨rfl, rfl⟩
          go_wp2
          go_roundw
          case rel => exact ⟨k + 1, by omega, by omega, by go_num, hB1, by unfold Hid; rw [HV2.out, HC.out, Bool.true_and]⟩
          case measure => simp [intOf]; omega
        · have HC := Lib.hid hv; clear hv
          go_wp2_with fail
          refine (l17Var_is _ false HC.out _).mono ?_
          rintro e w3 ⟨rfl, rfl⟩
          go_wp2
          go_ret
          exact ⟨ret_bool (by rw [HV2.out, HC.out, Bool.false_and]), hB1⟩
      · rcases Bool.eq_false_or_eq_true (isLp x) with hv | hv
        · have HI := Lib.hid hv
          have HV2 := Lib.hid (HV1.out.trans (vl_lp HA.out HI.out))
          have h34 : 3 ≤ x.a := by unfold isLp at hv; simp at hv; omega
          have e2 : (x.a == 2) = false := by simpa using h2
          have e3 : ¬ x.a < 2 := by omega
          clear hv h2
          by_cases hd0 : d = 0
          · have ht7 : 7 ≤ t := by have := HT.out; omega
            have HD := Lib.hid hd0; clear hd0
            go_wp2_with fail
            refine (l17IsLoop_is x true HI.out _ _ _ c0).mono ?_
            rintro e w3 ⟨rfl, rfl⟩
            go_wp2
            go_ret
            exact ⟨ret_bool (by rw [HV2.out, HD.out]; simp), hB1⟩
          · have ht7 : t < 7 := by have := HT.out; omega
            rcases Bool.eq_false_or_eq_true (inB x.c 0 ((to : Int) - k - 1)) with hv | hv
            · have HC := Lib.hid hv
              obtain ⟨hc1, hc2⟩ := (inB_iff _ _ _).1 hv
              clear hv
              obtain ⟨m, hm⟩ : ∃ m : Nat, x.c = m := ⟨x.c.toNat, by omega⟩
              rw [hm] at c2 hc1 hc2
              have HM := Lib.hid hm; clear hm
              have hkm : k + 1 + m ≤ to := by omega
              go_wp2_with fail
              refine (l17IsLoop_is x true HI.out _ _ _ c0).mono ?_
              rintro e w3 ⟨rfl, rfl⟩
              go_wp2_with fail
              refine (l00In_is _ _ _ true (by rw [← HM.out]; exact HC.out) _).mono ?_
              rintro e w3 ⟨rfl, rfl⟩
              have HS := Lib.hid (ha.below hB1)
              have HD : Hid (t + 1 + ((d - 1 : Nat) : Int) = 7) := by have := HT.out; unfold Hid; omega
              have HV3 : Hid (vl d (seg xs fr to) = (vl (d - 1) (seg xs (k + 1) (k + 1 + m)) && vl d (seg xs (k + 1 + m) to))) := by
                unfold Hid
                have h5 := HC.out
                rw [HV2.out, HR.out]
                rw [show ((to - k - 1 : Nat) : Int) = (to : Int) - k - 1 by omega, h5, decide_eq_true (show 0 < d by omega), Bool.true_and, Bool.true_and, HM.out, Int.toNat_natCast, seg_drop, seg_take _ _ _ _ hkm]
              rcases Bool.eq_false_or_eq_true (vl (d - 1) (seg xs (k + 1) (k + 1 + m))) with hv | hv
              · have HW := Lib.hid hv; clear hv
                go_wp2_with fail
                refine (IH.out (d - 1) (by omega) _ n _ (k + 1) (k + 1 + m) (t + 1) xs _ HS.out (by omega) (by omega) (by omega) HD.out (by omega)).mono ?_
                rintro e w3 ⟨he, hb3⟩
                rw [HW.out] at he
                subst he
                have e2 := cell_step c2 hb3
                have hB3 := below_step hB1 hb3
                clear hb3
                go_wp2
                go_roundw
                case rel => exact ⟨k + 1 + m, by omega, by omega, by go_num, hB3, by unfold Hid; rw [HV3.out, HW.out, Bool.true_and]⟩
                case measure => simp [intOf]; omega
              · have HW := Lib.hid hv; clear hv
                go_wp2_with fail
                refine (IH.out (d - 1) (by omega) _ n _ (k + 1) (k + 1 + m) (t + 1) xs _ HS.out (by omega) (by omega) (by omega) HD.out (by omega)).mono ?_
                rintro e w3 ⟨he, hb3⟩
                rw [HW.out] at he
                subst he
                have hB3 := below_step hB1 hb3
                clear hb3
                go_wp2
                go_ret
                exact ⟨ret_bool (by rw [HV3.out, HW.out, Bool.false_and]), hB3⟩
            · have HC := Lib.hid hv; clear hv
              go_wp2_with fail
              refine (l17IsLoop_is x true HI.out _ _ _ c0).mono ?_
              rintro e w3 ⟨rfl, rfl⟩
              go_wp2_with fail
              refine (l00In_is _ _ _ false HC.out _).mono ?_
              rintro e w3 ⟨rfl, rfl⟩
              go_wp2
              go_ret
              refine ⟨ret_bool ?_, hB1⟩
              rw [HV2.out, HR.out]
              have := HC.out
              rw [show ((to - k - 1 : Nat) : Int) = (to : Int) - k - 1 by omega, this]
              simp
        · have HI := Lib.hid hv
          have HV2 := Lib.hid (HV1.out.trans (vl_el HA.out HI.out h2))
          have h01 : x.a = 0 ∨ x.a = 1 := by
            have := (inB_iff _ _ _).1 HK.out
            unfold isLp at hv; simp at hv; omega
          have e2 : (x.a == 2) = false := by simpa using h2
          have e3 : x.a < 2 := by omega
          have H01 : Hid ((decide (x.a = 0) || decide (x.a = 1)) = true) := by unfold Hid; simpa using h01
          clear hv h2 h01
          by_cases hc0 : x.c = 0
          · have ec : (x.c != 0) = false := by simpa using hc0
            have HC := Lib.hid hc0; clear hc0
            go_wp2_with fail
            refine (l17IsLoop_is x false HI.out _ _ _ c0).mono ?_
            rintro e w3 ⟨rfl, rfl⟩
            go_wp2
            go_roundw
            case rel => exact ⟨k + 1, by omega, by omega, by go_num, hB1, by unfold Hid; rw [HV2.out, HC.out, H01.out]; simp⟩
            case measure => simp [intOf]; omega
          · have ec : (x.c != 0) = true := by simpa using hc0
            have HC : Hid (decide (x.c = 0) = false) := by unfold Hid; simp [hc0]
            clear hc0
            go_wp2
            go_ret
            exact ⟨ret_bool (by rw [HV2.out, HC.out]; simp), hB1⟩
    · go_wp2
      go_ret
      exact ⟨ret_bool (by rw [HV.out, seg_end (by omega), vl_nil]), hB⟩

theorem implValidLoop_is (b off n c : Nat) (xs : List R3) (v : Bool) (hv : validL xs = v) (w : World) (hs : Args 3 w (some ⟨b, off, none⟩) n (rows R3.vs xs)) (hn : n ≤ 1048576) (hc : n ≤ c) :
    Calls Tryd.prog 20 #[.slice (some ⟨b, off, none⟩) n c] w fun e w' => e = .returned (.bool v) ∧ Below w.heap.size w w' := by
  have HL : Hid (xs.length = n) := by have := hs.1; rw [rows_len R3.vs_len] at this; unfold Hid; omega
  subst hv
  by_cases h : n ≤ 150
  · have HV : Hid (validL xs = vl 7 xs) := by unfold Hid validL; rw [HL.out]; simp [h]
    go_enter Tryd.func20, Tryd.ntmps20
    go_wp2_with fail
    refine (validLoops_any 7 _ n c 0 xs _ hs hn hc (by omega) (by omega)).mono ?_
    rintro e w1 ⟨rfl, hb⟩
    go_wp2
    go_ret
    exact ⟨ret_bool HV.out.symm, hb⟩
  · have HV : Hid (validL xs = false) := by unfold Hid validL; rw [HL.out]; simp [h]
    go_enter Tryd.func20, Tryd.ntmps20
    go_wp2
    go_ret
    exact ⟨ret_bool HV.out.symm, Below.refl _ _⟩

theorem l17Is_is (b off n c : Nat) (xs : List R3) (v : Bool) (hv : validL xs = v) (w : World) (hs : Args 3 w (some ⟨b, off, none⟩) n (rows R3.vs xs)) (hn : n ≤ 1048576) :
    Calls Tryd.prog 35 #[.slice (some ⟨b, off, none⟩) n c] w fun e w' => e = .returned (.bool v) ∧ Below w.heap.size w w' := by
  have HL : Hid (xs.length = n) := by have := hs.1; rw [rows_len R3.vs_len] at this; unfold Hid; omega
  subst hv
  by_cases h : n ≤ 150
  · have HV : Hid (validL xs = vl 7 (seg xs 0 n)) := by unfold Hid validL; rw [← HL.out, seg_all, HL.out]; simp [h]
    go_enter Tryd.func35, Tryd.ntmps35
    go_wp2_with fail
    refine (l17Part_any 7 _ n c 0 n 0 xs _ hs hn (by omega) (by omega) (by omega) (by omega)).mono ?_
    rintro e w1 ⟨rfl, hb⟩
    go_wp2
    go_ret
    exact ⟨ret_bool HV.out.symm, hb⟩
  · have HV : Hid (validL xs = false) := by unfold Hid validL; rw [HL.out]; simp [h]
    go_enter Tryd.func35, Tryd.ntmps35
    go_wp2
    go_ret
    exact ⟨ret_bool HV.out.symm, Below.refl _ _⟩

theorem implValidLoop_any (b off n c : Nat) (xs : List R3) (w : World) (hs : Sl w b off (rows R3.vs xs)) (hl : xs.length = n) (hn : n ≤ 1048576) (hc : n ≤ c) (hf : ∀ x ∈ xs, x.wf) :
    Calls Tryd.prog 20 #[.slice (some ⟨b, off, none⟩) n c] w fun e w' => e = .returned (.bool (validL xs)) ∧ Below w.heap.size w w' :=
  implValidLoop_is b off n c xs _ rfl w (Args.of_sl hs (by rw [rows_len R3.vs_len, hl])) hn hc

end Go.Proofs.YtgcedfpjgdeakaaDoor

/- Loop programs without LoopAgain: slices.ContainsFunc and IndexFunc with IsBounded's closure, IsBounded, the reference's IsBounded. -/
namespace Go.Proofs.YtgcedfpjgdeakaaDoor
open Go.RowKit
set_option linter.all false

def isAgain (x : R3) : Bool := decide (x.a = 4)
def isBoundedB (xs : List R3) : Bool := validL xs && !xs.any isAgain

end Go.Proofs.YtgcedfpjgdeakaaDoor

/- Bodies of loop programs: bodies with whatever function value; nesting; NestingOf on both sides. -/
namespace Go.Proofs.YtgcedfpjgdeakaaDoor
open Go.RowKit
set_option linter.all false
attribute [local go_sem ↓] Go.wp_at_zero Go.wp_at_succ

/-- How many commands the body of a command has. -/
def bodyLen (x : R3) : Nat := if isLp x then x.c.toNat else 0
theorem bodyLen_lp {x : R3} (h : isLp x = true) : bodyLen x = x.c.toNat := by simp [bodyLen, h]
theorem bodyLen_no {x : R3} (h : isLp x = false) : bodyLen x = 0 := by simp [bodyLen, h]
/-- How deep loops are nested. -/
def nest : List R3 → Nat
  | [] => 0
  | x :: l => max (if isLp x then 1 + nest (l.take (bodyLen x)) else 0) (nest (l.drop (bodyLen x)))
  termination_by l => l.length
  decreasing_by all_goals simp_wf; try omega
theorem nest_nil : nest [] = 0 := by rw [nest]
theorem nest_cons (x : R3) (l : List R3) : nest (x :: l) = max (if isLp x then 1 + nest (l.take (bodyLen x)) else 0) (nest (l.drop (bodyLen x))) := by rw [nest]
theorem nest_le (n : Nat) : ∀ xs : List R3, xs.length ≤ n → nest xs ≤ xs.length := by
  induction n with
  | zero => intro xs h; have : xs = [] := List.length_eq_zero_iff.1 (by omega); subst this; rw [nest_nil]; simp
  | succ n ih =>
    intro xs h
    cases xs with
    | nil => rw [nest_nil]; simp
    | cons x l =>
      rw [nest_cons]
      simp only [List.length_cons] at h ⊢
      have h1 := ih (l.take (bodyLen x)) (by rw [List.length_take]; omega)
      have h2 := ih (l.drop (bodyLen x)) (by rw [List.length_drop]; omega)
      rw [List.length_take] at h1
      rw [List.length_drop] at h2
      split <;> omega

theorem vl_split {d : Nat} {x : R3} {l : List R3} (h : vl d (x :: l) = true) :
    bodyLen x ≤ l.length ∧ vl d (l.drop (bodyLen x)) = true ∧ (isLp x = true → vl (d - 1) (l.take (bodyLen x)) = true ∧ 0 ≤ x.c ∧ 0 < d) := by
  cases hb : inB x.b 0 15 with
  | false => rw [vl_no1 hb] at h; cases h
  | true =>
    cases hi : isLp x with
    | true =>
      rw [vl_lp hb hi] at h
      simp only [Bool.and_eq_true, decide_eq_true_eq] at h
      obtain ⟨⟨⟨h1, h2⟩, h3⟩, h4⟩ := h
      rw [inB_iff] at h2
      rw [bodyLen_lp hi]
      exact ⟨by omega, h4, fun _ => ⟨h3, by omega, h1⟩⟩
    | false =>
      rw [bodyLen_no hi]
      refine ⟨Nat.zero_le _, ?_, fun e => by cases e⟩
      rw [List.drop_zero]
      by_cases h2 : x.a = 2
      · rw [vl_cp hb hi h2] at h; exact (Bool.and_eq_true _ _ ▸ h).2
      · rw [vl_el hb hi h2] at h; exact (Bool.and_eq_true _ _ ▸ h).2
/-- A command of a valid program. -/
theorem vl_kind {d : Nat} {x : R3} {l : List R3} (h : vl d (x :: l) = true) : 0 ≤ x.b ∧ x.b ≤ 15 ∧ (x.a = 0 ∨ x.a = 1 ∨ x.a = 3 ∨ x.a = 4 ∨ (x.a = 2 ∧ 0 ≤ x.c ∧ x.c ≤ 15)) := by
  cases hb : inB x.b 0 15 with
  | false => rw [vl_no1 hb] at h; cases h
  | true =>
    have hb' := (inB_iff _ _ _).1 hb
    refine ⟨hb'.1, hb'.2, ?_⟩
    cases hi : isLp x with
    | true => unfold isLp at hi; simp at hi; omega
    | false =>
      by_cases h2 : x.a = 2
      · rw [vl_cp hb hi h2] at h
        have := (inB_iff _ _ _).1 (Bool.and_eq_true _ _ ▸ h).1
        omega
      · rw [vl_el hb hi h2] at h
        have := (Bool.and_eq_true _ _ ▸ (Bool.and_eq_true _ _ ▸ h).1).1
        simp at this
        omega
theorem vl_step {d k : Nat} {x : R3} {xs : List R3} (hx : xs[k]? = some x) (h : vl d (xs.drop k) = true) :
    k + 1 + bodyLen x ≤ xs.length ∧ vl d (xs.drop (k + 1 + bodyLen x)) = true ∧ (isLp x = true → vl (d - 1) ((xs.drop (k + 1)).take (bodyLen x)) = true ∧ 0 ≤ x.c ∧ 0 < d) := by
  have hk := (List.getElem?_eq_some_iff.1 hx).1
  rw [drop_at hx] at h
  obtain ⟨h1, h2, h3⟩ := vl_split h
  rw [List.length_drop] at h1
  rw [List.drop_drop] at h2
  exact ⟨by omega, h2, h3⟩
theorem nest_step {k : Nat} {x : R3} {xs : List R3} (hx : xs[k]? = some x) : nest (xs.drop k) = max (if isLp x then 1 + nest ((xs.drop (k + 1)).take (bodyLen x)) else 0) (nest (xs.drop (k + 1 + bodyLen x))) := by
  rw [drop_at hx, nest_cons, List.drop_drop]
theorem Args.at_some {s : Nat} {w : World} {b off n : Nat} {xs : List Value} (h : Args s w (some ⟨b, off, none⟩) n xs) {k : Nat} (hk : k < n) : Sl w b off xs := by
  obtain ⟨b', off', e, h⟩ := h.sl hk
  injection e with e
  injection e with e1 e2
  subst e1 e2
  exact h

set_option maxRecDepth 100000 in
set_option maxHeartbeats 1000000 in
theorem bodies_any (F : FuncId) (caps : Array Value) (d : Nat) (I : Nat → World → Prop) (A : Option Addr) (n c : Nat) (xs : List R3) (w : World) (ha : Args 3 w A n (rows R3.vs xs)) (hn : n ≤ 1048576) (hc : n ≤ c) (hv : vl d xs = true)
    (hE : ∀ (args : Array Value) (W : World), (callFunc F args).run Tryd.prog W = .ok (.enter F args) W)
    (hI : Hid (∀ k W W', I k W → Below W.heap.size W W' → I k W')) (hA : Hid (∀ k W, I k W → Args 3 W A n (rows R3.vs xs)))
    (hF : Hid (∀ (k : Nat) (x : R3) (m : Nat) (A' : Option Addr) (c' : Nat) (W : World), xs[k]? = some x → bodyLen x = m → vl d (xs.drop k) = true → k + 1 + m ≤ n → m ≤ c' → Args 3 W A' m (rows R3.vs ((xs.drop (k + 1)).take m)) → I k W →
      Calls Tryd.prog F (#[.agg #[.int .i64 x.a, .int .i64 x.b, .int .i64 x.c], .slice A' m c'] ++ caps) W fun e w' => e = .returned (.tuple #[]) ∧ I (k + 1 + m) w'))
    (h0 : I 0 w) : Calls Tryd.prog 40 #[.slice A n c, .func (.func F) #[] caps] w fun e w' => e = .returned (.tuple #[]) ∧ I n w' := by
  have HL : Hid (xs.length = n) := by have := ha.1; rw [rows_len R3.vs_len] at this; unfold Hid; omega
  have HV0 := Lib.hid hv; clear hv
  go_enter Tryd.func40, Tryd.ntmps40
  go_wp2
  go_loopw [4] (fun i wr => ∃ k : Nat, k ≤ n ∧ i = .int .i64 k ∧ I k wr ∧ Hid (vl d (xs.drop k) = true)) (fun i _ => n - (intOf i).toNat)
  case atStart => exact ⟨0, Nat.zero_le _, rfl, h0, by have := HV0.out; simpa [Hid] using this⟩
  case round =>
    obtain ⟨k, hk, rfl, hIk, HV⟩ := hrel
    by_cases hlt : k < n
    · obtain ⟨b, off, rfl, hs⟩ := ha.sl hlt
      obtain ⟨x, HX⟩ := hget HL hlt
      obtain ⟨s1, s2, s3⟩ := vl_step HX.out HV.out
      have HV2 := Lib.hid s2; clear s2
      have S3 := Lib.hid s3; clear s3
      have hkm : k + 1 + bodyLen x ≤ n := by have := HL.out; omega
      clear s1
      obtain ⟨p0, p1, p2⟩ := (((hA.out k wr hIk).at_some hlt).below' (laid_below wr (.cells #[] 54))).rec3 HX.out
      rcases Bool.eq_false_or_eq_true (isLp x) with hv | hv
      · have HI := Lib.hid hv; clear hv
        go_wp2_with fail
        refine (isLoop_is x true HI.out _).mono ?_
        rintro e w1 ⟨rfl, hb1⟩
        have hI1 := hI.out k wr w1 hIk (below_step (laid_below _ _) hb1)
        obtain ⟨q0, q1, q2⟩ := ((hA.out k w1 hI1).at_some hlt).rec3 HX.out
        have HS0 := Lib.hid ((hA.out k w1 hI1).at_some hlt)
        clear hb1 p0 p1 p2
        obtain ⟨m, hm⟩ : ∃ m : Nat, x.c = m := ⟨x.c.toNat, by have := (S3.out HI.out).2.1; omega⟩
        have HB : Hid (bodyLen x = m) := by unfold Hid; rw [bodyLen_lp HI.out, hm]; simp
        rw [HB.out] at hkm HV2
        have hx3 : Value.agg #[.int .i64 x.a, .int .i64 x.b, .int .i64 x.c] = Value.agg #[.int .i64 x.a, .int .i64 x.b, .int .i64 (m : Int)] := by rw [hm]
        have HX3 := Lib.hid hx3; clear hx3
        have HM := Lib.hid hm; clear hm
        rw [HM.out] at q2
        obtain ⟨o', ho', hsl⟩ := run_slice_part (P := Tryd.prog) 22 54 Tryd.underlying22 infoLoop b off n c (k + 1) m ((k : Int) + 1) ((k : Int) + 1 + m) (by omega) (by omega) (by omega)
        have HS := Lib.hid (args_part R3.vs_len HS0.out (k + 1) m ho' (by have := HL.out; omega))
        clear ho'
        have hF1 := Lib.hid (hF.out k x m _ (c - (k + 1)) w1 HX.out HB.out HV.out (by omega) (by omega) HS.out hI1)
        rw [HX3.out] at hF1
        go_wp2_with fail
        · refine hF1.out.mono ?_
          rintro e w2 ⟨rfl, hI2⟩
          clear hsl q0 q1 q2
          go_wp2
          go_roundw
          case rel => exact ⟨k + 1 + m, by omega, by go_num, hI2, HV2⟩
          case measure => simp [intOf]; omega
      · have HI := Lib.hid hv; clear hv
        go_wp2_with fail
        refine (isLoop_is x false HI.out _).mono ?_
        rintro e w1 ⟨rfl, hb1⟩
        have hI1 := hI.out k wr w1 hIk (below_step (laid_below _ _) hb1)
        obtain ⟨q0, q1, q2⟩ := ((hA.out k w1 hI1).at_some hlt).rec3 HX.out
        clear hb1 p0 p1 p2
        have HB := Lib.hid (bodyLen_no HI.out)
        rw [HB.out] at hkm HV2
        have HF1 := Lib.hid (hF.out k x 0 (some ⟨wr.heap.size, 0, none⟩) 0 w1 HX.out HB.out HV.out (by omega) (by omega) ⟨by simp [rows], .inl rfl⟩ hI1)
        go_wp2_with fail
        · refine HF1.out.mono ?_
          rintro e w2 ⟨rfl, hI2⟩
          clear q0 q1 q2
          go_wp2
          go_roundw
          case rel => exact ⟨k + 1, by omega, by go_num, hI2, HV2⟩
          case measure => simp [intOf]; omega
    · obtain rfl : n = k := by omega
      go_wp2
      go_end0
      exact ⟨rfl, hIk⟩

end Go.Proofs.YtgcedfpjgdeakaaDoor
