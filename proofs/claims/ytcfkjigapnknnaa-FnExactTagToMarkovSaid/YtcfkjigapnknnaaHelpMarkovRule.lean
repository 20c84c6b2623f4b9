/- Contracts of the laws' helpers on MarkovRule and []MarkovRule: copy, compare, size, mark, look at the marks. -/
import Derived.Test.YtcfkjigapnknnaaSGrid
import Derived.Test.YtcfkjigapnknnaaSeq
import Derived.Test.YtcfkjigapnknnaaInInt64S
import Derived.Test.YtcfkjigapnknnaaRunI
import Derived.Test.YtcfkjigapnknnaaWords
import Derived.StillTailTactics
namespace Go.Proofs.Ytcfkjigapnknnaa
open Go.RowKit
set_option linter.all false

/-- The data. -/
structure DMarkovRule where
  f0 : List Int
  f1 : List Int
  f2 : Bool
instance : DecidableEq DMarkovRule := fun x y => decidable_of_iff (x.f0 = y.f0 ∧ x.f1 = y.f1 ∧ x.f2 = y.f2) ⟨fun h => by cases x; cases y; simp_all, fun h => by subst h; exact ⟨rfl, rfl, rfl⟩⟩
/-- A record in memory. -/
structure EMarkovRule where
  d : DMarkovRule
  u0 : Value
  u1 : Value
def EMarkovRule.vs (e : EMarkovRule) : List Value := [e.u0, e.u1, .bool e.d.f2]
def EMarkovRule.us (e : EMarkovRule) : List Value := [e.u0, e.u1]
def EMarkovRule.its (e : EMarkovRule) : List (Nat × List Value) := [(e.d.f0.length, rows oneI e.d.f0), (e.d.f1.length, rows oneI e.d.f1)]
def kndMarkovRule : Knd EMarkovRule := ⟨EMarkovRule.vs, EMarkovRule.us, EMarkovRule.its, 3, 2, fun _ => rfl, fun _ => rfl, fun _ => rfl⟩
def wlMarkovRule (x : DMarkovRule) : Nat := x.f0.length + x.f1.length
def wbMarkovRule (m : Nat) (x : DMarkovRule) : Prop := x.f0.length ≤ m ∧ x.f1.length ≤ m ∧ True
def DMarkovRule.wf (x : DMarkovRule) : Prop := (∀ y ∈ x.f0, Wf64 y) ∧ (∀ y ∈ x.f1, Wf64 y)
def RdMarkovRule (w : World) (e : EMarkovRule) : Prop := (∃ A c, e.u0 = .slice A e.d.f0.length c ∧ Args 1 w A e.d.f0.length (rows oneI e.d.f0)) ∧ (∃ A c, e.u1 = .slice A e.d.f1.length c ∧ Args 1 w A e.d.f1.length (rows oneI e.d.f1)) ∧ True
theorem RdMarkovRule.below {w w' : World} {e : EMarkovRule} (h : RdMarkovRule w e) (hb : Below w.heap.size w w') : RdMarkovRule w' e := by
  obtain ⟨⟨A0, c0, e0, h0⟩, ⟨A1, c1, e1, h1⟩, -⟩ := h
  exact ⟨⟨A0, c0, e0, h0.below hb⟩, ⟨A1, c1, e1, h1.below hb⟩, trivial⟩
def RdsMarkovRule (w : World) (es : List EMarkovRule) : Prop := ∀ e ∈ es, RdMarkovRule w e
theorem RdsMarkovRule.below {w w' : World} {es : List EMarkovRule} (h : RdsMarkovRule w es) (hb : Below w.heap.size w w') : RdsMarkovRule w' es := fun e he => (h e he).below hb
theorem rdsMarkovRule_of {base hi : Nat} {T Te : TypeId} {V : Value} {es : List EMarkovRule} {W : World} (h : SGrid kndMarkovRule base hi T Te 1 V es W) : RdsMarkovRule W es := by
  intro e he
  obtain ⟨k, hk⟩ := List.getElem?_of_mem he
  refine ⟨?_, ?_, trivial⟩
  · have hr := h.row (j := 0) hk (v := e.u0) (it := (e.d.f0.length, rows oneI e.d.f0)) rfl rfl
    obtain ⟨A, c, e1⟩ := own_form hr
    rw [e1] at hr
    exact ⟨A, c, e1, args_of_own hr⟩
  · have hr := h.row (j := 1) hk (v := e.u1) (it := (e.d.f1.length, rows oneI e.d.f1)) rfl rfl
    obtain ⟨A, c, e1⟩ := own_form hr
    rw [e1] at hr
    exact ⟨A, c, e1, args_of_own hr⟩
def mkMarkovRule (k : Int) (e : EMarkovRule) : EMarkovRule := ⟨⟨runI k e.d.f0.length, runI (k + ((e.d.f0.length : Nat) : Int)) e.d.f1.length, (((k + ((e.d.f0.length : Nat) : Int)) + ((e.d.f1.length : Nat) : Int)) % 3 == 0)⟩, e.u0, e.u1⟩
def widMarkovRule (e : EMarkovRule) : Nat := 1 + wlMarkovRule e.d * 1
theorem widMarkovRule_eq (e : EMarkovRule) : widMarkovRule e = e.d.f0.length * 1 + e.d.f1.length * 1 + 1 := by unfold widMarkovRule wlMarkovRule; omega
/-- Each of the record's slices has an address below m. -/
def adrMarkovRule (m : Nat) (e : EMarkovRule) : Prop := (∃ g c : Nat, g < m ∧ e.u0 = .slice (some ⟨g, 0, none⟩) e.d.f0.length c ∧ e.d.f0.length ≤ c) ∧ (∃ g c : Nat, g < m ∧ e.u1 = .slice (some ⟨g, 0, none⟩) e.d.f1.length c ∧ e.d.f1.length ≤ c) ∧ True
theorem adrMarkovRule.mono {m m' : Nat} {e : EMarkovRule} (h : adrMarkovRule m e) (hm : m ≤ m') : adrMarkovRule m' e := by
  obtain ⟨⟨g0, d0, l0, e0⟩, ⟨g1, d1, l1, e1⟩, -⟩ := h
  exact ⟨⟨g0, d0, Nat.lt_of_lt_of_le l0 hm, e0⟩, ⟨g1, d1, Nat.lt_of_lt_of_le l1 hm, e1⟩, trivial⟩
theorem adrsMarkovRule_snoc {m m' : Nat} {es : List EMarkovRule} (h : ∀ e ∈ es, adrMarkovRule m e) (hm : m ≤ m') {x : EMarkovRule} (hx : adrMarkovRule m' x) : ∀ e ∈ es ++ [x], adrMarkovRule m' e := by
  intro e he
  rcases List.mem_append.1 he with h1 | h1
  · exact (h e h1).mono hm
  · rw [List.mem_singleton.1 h1]; exact hx
/-- Readable records whose slices have addresses. -/
def RcsMarkovRule (w : World) (es : List EMarkovRule) : Prop := RdsMarkovRule w es ∧ ∀ e ∈ es, adrMarkovRule w.heap.size e
theorem RcsMarkovRule.below {w w' : World} {es : List EMarkovRule} (h : RcsMarkovRule w es) (hb : Below w.heap.size w w') : RcsMarkovRule w' es := ⟨h.1.below hb, fun e he => (h.2 e he).mono hb.size⟩
theorem rcsMarkovRule_of {base hi m : Nat} {T Te : TypeId} {V : Value} {es : List EMarkovRule} {W : World} (h : SGrid kndMarkovRule base hi T Te 1 V es W) (ha : ∀ e ∈ es, adrMarkovRule m e) (hm : m ≤ W.heap.size) : RcsMarkovRule W es := ⟨rdsMarkovRule_of h, fun e he => (ha e he).mono hm⟩
/-- A record's slices read as lists. -/
theorem RcsMarkovRule.at {w : World} {es : List EMarkovRule} (h : RcsMarkovRule w es) {e : EMarkovRule} (he : e ∈ es) : (∃ g c : Nat, e.u0 = .slice (some ⟨g, 0, none⟩) e.d.f0.length c ∧ e.d.f0.length ≤ c ∧ Sl w g 0 (e.d.f0.map (.int .i64))) ∧ (∃ g c : Nat, e.u1 = .slice (some ⟨g, 0, none⟩) e.d.f1.length c ∧ e.d.f1.length ≤ c ∧ Sl w g 0 (e.d.f1.map (.int .i64))) ∧ True := by
  obtain ⟨⟨A0, c0, hu0, ha0⟩, ⟨A1, c1, hu1, ha1⟩, -⟩ := h.1 e he
  obtain ⟨⟨g0, d0, hl0, hg0, hc0⟩, ⟨g1, d1, hl1, hg1, hc1⟩, -⟩ := h.2 e he
  refine ⟨?_, ?_, trivial⟩
  · refine ⟨g0, d0, hg0, hc0, ?_⟩
    rw [hg0] at hu0
    injection hu0 with e1 e2 e3
    rcases ha0.2 with h0 | ⟨b, off, hA, hsl⟩
    · rw [List.eq_nil_of_length_eq_zero h0]; exact Sl.empty hl0
    · rw [hA] at e1
      injection e1 with e1
      injection e1 with e4 e5 e6
      subst e4; subst e5
      rw [rows_oneI] at hsl
      exact hsl
  · refine ⟨g1, d1, hg1, hc1, ?_⟩
    rw [hg1] at hu1
    injection hu1 with e1 e2 e3
    rcases ha1.2 with h0 | ⟨b, off, hA, hsl⟩
    · rw [List.eq_nil_of_length_eq_zero h0]; exact Sl.empty hl1
    · rw [hA] at e1
      injection e1 with e1
      injection e1 with e4 e5 e6
      subst e4; subst e5
      rw [rows_oneI] at hsl
      exact hsl
theorem infoMarkovRule : (Try.prog.info? 117).map (fun i => (i.zero, i.size, i.bytes)) = some (some (.agg #[.slice none 0 0, .slice none 0 0, .bool false]), 3, 56) := by kernel_rfl

set_option maxRecDepth 100000 in
theorem eqMarkovRule_any (e g : EMarkovRule) (w : World) (he : RdMarkovRule w e) (hg : RdMarkovRule w g) (hl : wlMarkovRule e.d ≤ 4194304) (hm : wlMarkovRule g.d ≤ 4194304) :
    Calls Try.prog 73 #[.agg #[e.u0, e.u1, .bool e.d.f2], .agg #[g.u0, g.u1, .bool g.d.f2]] w fun z w' => z = .returned (.bool (decide (e.d = g.d))) ∧ Below w.heap.size w w' := by
  obtain ⟨⟨f0, f1, f2⟩, u0, u1⟩ := e
  obtain ⟨⟨g0, g1, g2⟩, v0, v1⟩ := g
  obtain ⟨⟨A0, c0, hu0, ha0⟩, ⟨A1, c1, hu1, ha1⟩, -⟩ := he
  obtain ⟨⟨Z0, d0, hv0, hb0⟩, ⟨Z1, d1, hv1, hb1⟩, -⟩ := hg
  simp only [wlMarkovRule] at hl hm hu0 ha0 hv0 hb0 hu1 ha1 hv1 hb1 ⊢
  subst hu0
  subst hv0
  obtain ⟨n0, hn0⟩ : ∃ n, n = f0.length := ⟨_, rfl⟩
  rw [← hn0] at ha0 hl ⊢
  obtain ⟨m0, hm0⟩ : ∃ n, n = g0.length := ⟨_, rfl⟩
  rw [← hm0] at hb0 hm ⊢
  clear hn0 hm0
  subst hu1
  subst hv1
  obtain ⟨n1, hn1⟩ : ∃ n, n = f1.length := ⟨_, rfl⟩
  rw [← hn1] at ha1 hl ⊢
  obtain ⟨m1, hm1⟩ : ∃ n, n = g1.length := ⟨_, rfl⟩
  rw [← hm1] at hb1 hm ⊢
  clear hn1 hm1
  obtain ⟨w0, HW0, B0, x0, y0⟩ := al2 w (.cells #[.slice A0 n0 c0, .slice A1 n1 c1, .bool f2] 117) (.cells #[.slice Z0 m0 d0, .slice Z1 m1 d1, .bool g2] 117)
  have HX0 := Lib.hid x0; have HY0 := Lib.hid y0; clear x0 y0
  have BL : Hid (Below w.heap.size w ((w.alloc (.cells #[.slice A0 n0 c0, .slice A1 n1 c1, .bool f2] 117)).alloc (.cells #[.slice Z0 m0 d0, .slice Z1 m1 d1, .bool g2] 117))) := by have := HW0.out; rw [← this]; exact B0
  by_cases h0 : f0 = g0
  rotate_left
  · have NE := Lib.hid h0
    have E0 := Lib.hid (decide_eq_false h0)
    clear h0
    go_enter Try.func73, Try.ntmps73
    go_wp2_with fail
    rw [← HW0.out]
    refine (inEqInt64S A0 Z0 n0 m0 c0 d0 f0 g0 false E0.out _ (ha0.below B0) (hb0.below B0) (by omega) (by omega)).mono ?_
    rintro z w1 ⟨rfl, b1⟩
    have B1 := below_step B0 b1
    have HX1 := Lib.hid ((b1.block _ (heap_lt HX0.out)).trans HX0.out)
    have HY1 := Lib.hid ((b1.block _ (heap_lt HY0.out)).trans HY0.out)
    clear b1
    go_wp2
    go_ret
    exact ⟨ret_bool (by simp [NE.out]), B1⟩
  subst h0
  by_cases h1 : f1 = g1
  rotate_left
  · have NE := Lib.hid h1
    have E1 := Lib.hid (decide_eq_false h1)
    clear h1
    go_enter Try.func73, Try.ntmps73
    go_wp2_with fail
    rw [← HW0.out]
    refine (inEqInt64S A0 Z0 n0 m0 c0 d0 f0 f0 true (decide_eq_true rfl) _ (ha0.below B0) (hb0.below B0) (by omega) (by omega)).mono ?_
    rintro z w1 ⟨rfl, b1⟩
    have B1 := below_step B0 b1
    have HX1 := Lib.hid ((b1.block _ (heap_lt HX0.out)).trans HX0.out)
    have HY1 := Lib.hid ((b1.block _ (heap_lt HY0.out)).trans HY0.out)
    have kx1_1 : w1.cell? ⟨w.heap.size, 1, none⟩ = some (.slice A1 n1 c1) := by rw [cell_of_heap HX1.out]; rfl
    have ky1_1 : w1.cell? ⟨w.heap.size + 1, 1, none⟩ = some (.slice Z1 m1 d1) := by rw [cell_of_heap HY1.out]; rfl
    clear b1
    go_wp2_with fail
    refine (inEqInt64S A1 Z1 n1 m1 c1 d1 f1 g1 false E1.out _ (ha1.below B1) (hb1.below B1) (by omega) (by omega)).mono ?_
    rintro z w2 ⟨rfl, b2⟩
    have B2 := below_step B1 b2
    have HX2 := Lib.hid ((b2.block _ (heap_lt HX1.out)).trans HX1.out)
    have HY2 := Lib.hid ((b2.block _ (heap_lt HY1.out)).trans HY1.out)
    clear b2
    go_wp2
    go_ret
    exact ⟨ret_bool (by simp [NE.out]), B2⟩
  subst h1
  by_cases h2 : f2 = g2
  rotate_left
  · have NE := Lib.hid h2
    have e2 : (f2 != g2) = true := by simpa using h2
    have e2b : (f2 == g2) = false := by simpa using h2
    clear h2
    go_enter Try.func73, Try.ntmps73
    go_wp2_with fail
    rw [← HW0.out]
    refine (inEqInt64S A0 Z0 n0 m0 c0 d0 f0 f0 true (decide_eq_true rfl) _ (ha0.below B0) (hb0.below B0) (by omega) (by omega)).mono ?_
    rintro z w1 ⟨rfl, b1⟩
    have B1 := below_step B0 b1
    have HX1 := Lib.hid ((b1.block _ (heap_lt HX0.out)).trans HX0.out)
    have HY1 := Lib.hid ((b1.block _ (heap_lt HY0.out)).trans HY0.out)
    have kx1_1 : w1.cell? ⟨w.heap.size, 1, none⟩ = some (.slice A1 n1 c1) := by rw [cell_of_heap HX1.out]; rfl
    have ky1_1 : w1.cell? ⟨w.heap.size + 1, 1, none⟩ = some (.slice Z1 m1 d1) := by rw [cell_of_heap HY1.out]; rfl
    clear b1
    go_wp2_with fail
    refine (inEqInt64S A1 Z1 n1 m1 c1 d1 f1 f1 true (decide_eq_true rfl) _ (ha1.below B1) (hb1.below B1) (by omega) (by omega)).mono ?_
    rintro z w2 ⟨rfl, b2⟩
    have B2 := below_step B1 b2
    have HX2 := Lib.hid ((b2.block _ (heap_lt HX1.out)).trans HX1.out)
    have HY2 := Lib.hid ((b2.block _ (heap_lt HY1.out)).trans HY1.out)
    have kx2_2 : w2.cell? ⟨w.heap.size, 2, none⟩ = some (.bool f2) := by rw [cell_of_heap HX2.out]; rfl
    have ky2_2 : w2.cell? ⟨w.heap.size + 1, 2, none⟩ = some (.bool g2) := by rw [cell_of_heap HY2.out]; rfl
    clear b2
    go_wp2
    go_ret
    exact ⟨ret_bool (by simp [NE.out]), B2⟩
  subst h2
  go_enter Try.func73, Try.ntmps73
  go_wp2_with fail
  rw [← HW0.out]
  refine (inEqInt64S A0 Z0 n0 m0 c0 d0 f0 f0 true (decide_eq_true rfl) _ (ha0.below B0) (hb0.below B0) (by omega) (by omega)).mono ?_
  rintro z w1 ⟨rfl, b1⟩
  have B1 := below_step B0 b1
  have HX1 := Lib.hid ((b1.block _ (heap_lt HX0.out)).trans HX0.out)
  have HY1 := Lib.hid ((b1.block _ (heap_lt HY0.out)).trans HY0.out)
  have kx1_1 : w1.cell? ⟨w.heap.size, 1, none⟩ = some (.slice A1 n1 c1) := by rw [cell_of_heap HX1.out]; rfl
  have ky1_1 : w1.cell? ⟨w.heap.size + 1, 1, none⟩ = some (.slice Z1 m1 d1) := by rw [cell_of_heap HY1.out]; rfl
  clear b1
  go_wp2_with fail
  refine (inEqInt64S A1 Z1 n1 m1 c1 d1 f1 f1 true (decide_eq_true rfl) _ (ha1.below B1) (hb1.below B1) (by omega) (by omega)).mono ?_
  rintro z w2 ⟨rfl, b2⟩
  have B2 := below_step B1 b2
  have HX2 := Lib.hid ((b2.block _ (heap_lt HX1.out)).trans HX1.out)
  have HY2 := Lib.hid ((b2.block _ (heap_lt HY1.out)).trans HY1.out)
  have kx2_2 : w2.cell? ⟨w.heap.size, 2, none⟩ = some (.bool f2) := by rw [cell_of_heap HX2.out]; rfl
  have ky2_2 : w2.cell? ⟨w.heap.size + 1, 2, none⟩ = some (.bool f2) := by rw [cell_of_heap HY2.out]; rfl
  clear b2
  go_wp2
  go_ret
  exact ⟨ret_bool (by simp), B2⟩

theorem eqMarkovRule_is (e g : EMarkovRule) (v : Bool) (hv : decide (e.d = g.d) = v) (w : World) (he : RdMarkovRule w e) (hg : RdMarkovRule w g) (hl : wlMarkovRule e.d ≤ 4194304) (hm : wlMarkovRule g.d ≤ 4194304) :
    Calls Try.prog 73 #[.agg #[e.u0, e.u1, .bool e.d.f2], .agg #[g.u0, g.u1, .bool g.d.f2]] w fun z w' => z = .returned (.bool v) ∧ Below w.heap.size w w' := by
  subst hv; exact eqMarkovRule_any e g w he hg hl hm

/-- How many elements the records' slices have. -/
def sumMarkovRule (xs : List DMarkovRule) : Nat := (xs.map wlMarkovRule).sum
theorem sumMarkovRule_take {xs : List DMarkovRule} {k : Nat} {x : DMarkovRule} (h : xs[k]? = some x) : sumMarkovRule (xs.take (k + 1)) = sumMarkovRule (xs.take k) + wlMarkovRule x := by rw [List.take_add_one, h]; simp [sumMarkovRule]
theorem sumMarkovRule_le (xs : List DMarkovRule) (k : Nat) : sumMarkovRule (xs.take k) ≤ sumMarkovRule xs := by
  have h : ∀ a b : List DMarkovRule, sumMarkovRule a ≤ sumMarkovRule (a ++ b) := by intro a b; simp [sumMarkovRule]
  have := h (xs.take k) (xs.drop k)
  rwa [List.take_append_drop] at this
theorem sumMarkovRule_at {xs : List DMarkovRule} {k : Nat} {x : DMarkovRule} (h : xs[k]? = some x) : wlMarkovRule x ≤ sumMarkovRule xs := by
  have := sumMarkovRule_take h
  have := sumMarkovRule_le xs (k + 1)
  omega

set_option maxRecDepth 100000 in
set_option maxHeartbeats 1000000 in
theorem eqMarkovRuleS_any (A B : Option Addr) (n m c d : Nat) (es gs : List EMarkovRule) (w : World) (ha : Args 3 w A n (rows EMarkovRule.vs es)) (hra : RdsMarkovRule w es) (hb : Args 3 w B m (rows EMarkovRule.vs gs)) (hrb : RdsMarkovRule w gs) (hn : n ≤ 4194304) (hm : m ≤ 4194304) (hx : sumMarkovRule (es.map (·.d)) ≤ 4194304) (hy : sumMarkovRule (gs.map (·.d)) ≤ 4194304) :
    Calls Try.prog 33 #[.slice A n c, .slice B m d] w fun z w' => z = .returned (.bool (decide (es.map (·.d) = gs.map (·.d)))) ∧ Below w.heap.size w w' := by
  have HA : Hid (es.length = n) := by have := ha.1; rw [rows_len (s := 3) (fun _ => rfl)] at this; unfold Hid; omega
  have HB : Hid (gs.length = m) := by have := hb.1; rw [rows_len (s := 3) (fun _ => rfl)] at this; unfold Hid; omega
  have HX := Lib.hid hx; have HY := Lib.hid hy; clear hx hy
  by_cases hnm : n = m
  rotate_left
  · have hne : ((n : Int) != (m : Int)) = true := by simp; omega
    go_enter Try.func33, Try.ntmps33
    go_wp2
    go_ret
    refine ⟨ret_bool ?_, Below.refl _ _⟩
    symm
    apply decide_eq_false
    intro h
    have := congrArg List.length h
    simp only [List.length_map] at this
    have h2 := HA.out
    have h3 := HB.out
    omega
  subst hnm
  go_enter Try.func33, Try.ntmps33
  go_wp2
  go_loopw [5] (fun i wr => ∃ k : Nat, k ≤ n ∧ i = .int .i64 k ∧ Below w.heap.size w wr ∧ Hid ((es.map (·.d)).take k = (gs.map (·.d)).take k)) (fun i _ => n - (intOf i).toNat)
  case atStart => exact ⟨0, Nat.zero_le _, rfl, Below.refl _ _, rfl⟩
  case round =>
    obtain ⟨k, hk, rfl, hB, HR⟩ := hrel
    by_cases hlt : k < n
    rotate_left
    · go_wp2
      go_ret
      refine ⟨ret_bool ?_, hB⟩
      have h1 := HR.out
      have h2 := HA.out
      have h3 := HB.out
      rw [List.take_of_length_le (by simp; omega), List.take_of_length_le (by simp; omega)] at h1
      simp [h1]
    obtain ⟨b1, o1, rfl, hs1⟩ := ha.sl hlt
    obtain ⟨b2, o2, rfl, hs2⟩ := hb.sl hlt
    obtain ⟨e, HE⟩ := hget HA hlt
    obtain ⟨g, HG⟩ := hget HB hlt
    have hrd1 := hra e (List.mem_of_getElem? HE.out)
    have hrd2 := hrb g (List.mem_of_getElem? HG.out)
    have hwl1 := sumMarkovRule_at (xs := es.map (·.d)) (k := k) (x := e.d) (by rw [List.getElem?_map, HE.out]; rfl)
    have hwl2 := sumMarkovRule_at (xs := gs.map (·.d)) (k := k) (x := g.d) (by rw [List.getElem?_map, HG.out]; rfl)
    have hst1 := HX.out; have hst2 := HY.out
    have HED : Hid ((es.map (·.d))[k]? = some e.d) := by unfold Hid; rw [List.getElem?_map, HE.out]; rfl
    have HGD : Hid ((gs.map (·.d))[k]? = some g.d) := by unfold Hid; rw [List.getElem?_map, HG.out]; rfl
    obtain ⟨v, hv⟩ : ∃ v, decide (e.d = g.d) = v := ⟨_, rfl⟩
    have HC := Lib.hid (fun W (hW : Below w.heap.size w W) => eqMarkovRule_is e g v hv W (hrd1.below hW) (hrd2.below hW) (by omega) (by omega))
    have HV := Lib.hid hv
    obtain ⟨⟨A0, c0, hu0, ha0⟩, ⟨A1, c1, hu1, ha1⟩, -⟩ := hrd1
    obtain ⟨⟨B0, d0, hv0, hb0⟩, ⟨B1, d1, hv1, hb1⟩, -⟩ := hrd2
    have p0 : wr.cell? ⟨b1, o1 + k * 3, none⟩ = some (e.u0) := Sl.rec (f := EMarkovRule.vs) (s := 3) (fun _ => rfl) (hs1.below' hB) HE.out (j := 0) rfl
    have p1 : wr.cell? ⟨b1, o1 + k * 3 + 1, none⟩ = some (e.u1) := Sl.rec (f := EMarkovRule.vs) (s := 3) (fun _ => rfl) (hs1.below' hB) HE.out (j := 1) rfl
    have p2 : wr.cell? ⟨b1, o1 + k * 3 + 2, none⟩ = some (.bool e.d.f2) := Sl.rec (f := EMarkovRule.vs) (s := 3) (fun _ => rfl) (hs1.below' hB) HE.out (j := 2) rfl
    have q0 : wr.cell? ⟨b2, o2 + k * 3, none⟩ = some (g.u0) := Sl.rec (f := EMarkovRule.vs) (s := 3) (fun _ => rfl) (hs2.below' hB) HG.out (j := 0) rfl
    have q1 : wr.cell? ⟨b2, o2 + k * 3 + 1, none⟩ = some (g.u1) := Sl.rec (f := EMarkovRule.vs) (s := 3) (fun _ => rfl) (hs2.below' hB) HG.out (j := 1) rfl
    have q2 : wr.cell? ⟨b2, o2 + k * 3 + 2, none⟩ = some (.bool g.d.f2) := Sl.rec (f := EMarkovRule.vs) (s := 3) (fun _ => rfl) (hs2.below' hB) HG.out (j := 2) rfl
    rw [hu0] at HC p0
    rw [hv0] at HC q0
    obtain ⟨n0, hn0⟩ : ∃ n, n = e.d.f0.length := ⟨_, rfl⟩
    obtain ⟨m0, hm0⟩ : ∃ n, n = g.d.f0.length := ⟨_, rfl⟩
    rw [← hn0, ← hm0] at HC
    rw [← hn0] at p0
    rw [← hm0] at q0
    clear hn0 hm0 hu0 hv0 ha0 hb0
    rw [hu1] at HC p1
    rw [hv1] at HC q1
    obtain ⟨n1, hn1⟩ : ∃ n, n = e.d.f1.length := ⟨_, rfl⟩
    obtain ⟨m1, hm1⟩ : ∃ n, n = g.d.f1.length := ⟨_, rfl⟩
    rw [← hn1, ← hm1] at HC
    rw [← hn1] at p1
    rw [← hm1] at q1
    clear hn1 hm1 hu1 hv1 ha1 hb1
    clear hv hs1 hs2 ha hb hra hrb hwl1 hwl2 hst1 hst2
    cases v with
    | true =>
      have E2 : Hid (e.d = g.d) := of_decide_eq_true (p := e.d = g.d) HV.out
      go_wp2
      go_still_tail 8, (by kernel_rfl)
      change wpList _ _ _ _ _ wr.drew
      have hB2 := hB.drew
      clear hB p0 q0 p1 q1 p2 q2
      generalize wr.drew = w2 at hB2 ⊢
      go_wp2_with fail
      refine (HC.out _ hB2).mono ?_
      rintro z w3 ⟨rfl, hb3⟩
      go_wp2
      go_roundw
      case rel => exact ⟨k + 1, by omega, by go_num, below_step hB2 hb3, take_succ_eq HR.out HED.out HGD.out E2.out⟩
      case measure => simp [intOf]; omega
    | false =>
      have E2 : Hid (¬ e.d = g.d) := of_decide_eq_false (p := e.d = g.d) HV.out
      go_wp2
      go_still_tail 8, (by kernel_rfl)
      change wpList _ _ _ _ _ wr.drew
      have hB2 := hB.drew
      clear hB p0 q0 p1 q1 p2 q2
      generalize wr.drew = w2 at hB2 ⊢
      go_wp2_with fail
      refine (HC.out _ hB2).mono ?_
      rintro z w3 ⟨rfl, hb3⟩
      go_wp2
      go_ret
      exact ⟨ret_bool (by simp [ne_of_at HED.out HGD.out E2.out]), below_step hB2 hb3⟩

set_option maxRecDepth 100000 in
set_option maxHeartbeats 2000000 in
theorem markMarkovRuleS_any (base hi : Nat) (V : Value) (es : List EMarkovRule) (k0 : Int) (w : World) (hg : SGrid kndMarkovRule base hi 117 2 1 V es w) (hk0 : 0 ≤ k0) (hk1 : k0 + (widSum widMarkovRule es : Nat) ≤ 1099511627776) (hn : es.length ≤ 4194304) (hit : ∀ e ∈ es, wlMarkovRule e.d ≤ 4194304) :
    Calls Try.prog 36 #[V, .int .i64 k0] w fun z w' => z = .returned (.int .i64 (k0 + (widSum widMarkovRule es : Nat))) ∧ SGrid kndMarkovRule base hi 117 2 1 V (markL widMarkovRule mkMarkovRule k0 es) w' ∧ Touch base hi w w' := by
  obtain ⟨n, hnn⟩ : ∃ n, n = es.length := ⟨_, rfl⟩
  have HL : Hid (es.length = n) := hnn.symm
  rw [← hnn] at hn
  clear hnn
  have HTL := Lib.hid hit; clear hit
  rcases Nat.eq_zero_or_pos n with hz | hz
  · subst hz
    have he : es = [] := List.eq_nil_of_length_eq_zero HL.out
    subst he
    obtain ⟨A, cap, rfl⟩ := own_form hg.own
    have HG := Lib.hid hg; clear hg
    go_enter Try.func36, Try.ntmps36
    go_wp2
    refine wp_loop_rounds 1 ?_
    rw [rounds_succ]
    go_wp2
    go_ret
    exact ⟨by simp [widSum], HG.out, Touch.refl _ _ _⟩
  obtain ⟨g, cap, rfl⟩ := hg.addr HL.out hz
  obtain ⟨tt, htt⟩ : ∃ t, t = widSum widMarkovRule es := ⟨_, rfl⟩
  rw [← htt] at hk1
  have HT := Lib.hid htt; clear htt
  have HG0 := Lib.hid hg; clear hg
  go_enter Try.func36, Try.ntmps36
  go_wp2
  go_loopw [1, 5] (fun kk i wr => ∃ k : Nat, k ≤ n ∧ i = .int .i64 k ∧ kk = .int .i64 (k0 + (widSum widMarkovRule (es.take k) : Nat)) ∧ Hid (SGrid kndMarkovRule base hi 117 2 1 (.slice (some ⟨g, 0, none⟩) n cap) (markL widMarkovRule mkMarkovRule k0 (es.take k) ++ es.drop k) (wr)) ∧ Touch base hi w wr) (fun _ i _ => n - (intOf i).toNat)
  case atStart => exact ⟨0, Nat.zero_le _, rfl, by simp [widSum], by simpa [markL, Hid] using HG0.out, Touch.refl _ _ _⟩
  case round =>
    obtain ⟨k, hk, rfl, rfl, HG, hto⟩ := hrel
    by_cases hlt : k < n
    rotate_left
    · obtain rfl : n = k := by omega
      have hg := HG.out
      rw [List.take_of_length_le (by have := HL.out; omega), List.drop_of_length_le (by have := HL.out; omega), List.append_nil] at hg
      rw [List.take_of_length_le (by have := HL.out; omega)]
      have HG2 := Lib.hid hg; clear hg
      go_wp2
      go_ret
      exact ⟨rfl, HG2.out, hto⟩
    obtain ⟨e, HX⟩ := hget HL hlt
    have hk_0 := markL_cur widMarkovRule mkMarkovRule HX.out k0
    have hc1 := widSum_take widMarkovRule HX.out
    have hc2 := widSum_le widMarkovRule es (k + 1)
    have hwe := widMarkovRule_eq e
    have hlen := HTL.out e (List.mem_of_getElem? HX.out)
    unfold wlMarkovRule at hlen
    obtain ⟨p, hp⟩ : ∃ p, p = widSum widMarkovRule (es.take k) := ⟨_, rfl⟩
    rw [← hp, hwe] at hc1
    rw [← hp]
    have hpt : p + (e.d.f0.length * 1 + e.d.f1.length * 1 + 1) ≤ tt := by have := HT.out; omega
    have HP := Lib.hid hp; have HC1 := Lib.hid hc1
    have s_0 := HG.out
    have cwr_0 : wr.cell? ⟨g, k * 3, none⟩ = some (e.u0) := s_0.cell (j := 0) hk_0 rfl
    have cwr_1 : wr.cell? ⟨g, k * 3 + 1, none⟩ = some (e.u1) := s_0.cell (j := 1) hk_0 rfl
    have cwr_2 : wr.cell? ⟨g, k * 3 + 2, none⟩ = some (.bool e.d.f2) := s_0.cell (j := 2) hk_0 rfl
    have zwr_2 : wr.frozen? ⟨g, k * 3 + 2, none⟩ = false := s_0.thaw _
    clear hp hc1 hc2 hwe
    have r0 := SGrid.row (j := 0) s_0 hk_0 (v := e.u0) (it := (e.d.f0.length, rows oneI e.d.f0)) rfl rfl
    go_wp2_with fail
    refine (inMarkInt64S base e.u0 e.d.f0.length ((k0 + (p : Int))) _ _ r0 (by omega) (by omega) (by omega)).mono ?_
    rintro z wb0 ⟨rfl, ow0, gr0⟩
    have st_1 := SGrid.mark (k := k) (j := 0) (e' := (⟨⟨runI ((k0 + (p : Int))) e.d.f0.length, e.d.f1, e.d.f2⟩, e.u0, e.u1⟩ : EMarkovRule)) s_0 hk_0 (v := e.u0) (it := (e.d.f0.length, rows oneI e.d.f0)) rfl rfl gr0 ow0 rfl rfl (by show EMarkovRule.its _ = (EMarkovRule.its _).set 0 _; simp only [EMarkovRule.its, runI_len, rows_runI]; rfl) (by decide)
    have s_1 : SGrid kndMarkovRule base hi 117 2 1 (.slice (some ⟨g, 0, none⟩) n cap) ((markL widMarkovRule mkMarkovRule k0 (es.take k) ++ es.drop k).set k (⟨⟨runI ((k0 + (p : Int))) e.d.f0.length, e.d.f1, e.d.f2⟩, e.u0, e.u1⟩ : EMarkovRule)) (wb0) := st_1.1
    have t_1 : Touch base hi w wb0 := hto.trans st_1.2
    have hk_1 : ((markL widMarkovRule mkMarkovRule k0 (es.take k) ++ es.drop k).set k (⟨⟨runI ((k0 + (p : Int))) e.d.f0.length, e.d.f1, e.d.f2⟩, e.u0, e.u1⟩ : EMarkovRule))[k]? = some (⟨⟨runI ((k0 + (p : Int))) e.d.f0.length, e.d.f1, e.d.f2⟩, e.u0, e.u1⟩ : EMarkovRule) := get_set' hk_0 _
    clear st_1 r0 ow0 gr0
    have cwb0_1 : wb0.cell? ⟨g, k * 3 + 1, none⟩ = some (e.u1) := s_1.cell (j := 1) hk_1 rfl
    have cwb0_2 : wb0.cell? ⟨g, k * 3 + 2, none⟩ = some (.bool e.d.f2) := s_1.cell (j := 2) hk_1 rfl
    have zwb0_2 : wb0.frozen? ⟨g, k * 3 + 2, none⟩ = false := s_1.thaw _
    have r1 := SGrid.row (j := 1) s_1 hk_1 (v := e.u1) (it := (e.d.f1.length, rows oneI e.d.f1)) rfl rfl
    go_wp2_with fail
    refine (inMarkInt64S base e.u1 e.d.f1.length ((k0 + (p : Int)) + ((e.d.f0.length : Nat) : Int)) _ _ r1 (by omega) (by omega) (by omega)).mono ?_
    rintro z wb1 ⟨rfl, ow1, gr1⟩
    have st_2 := SGrid.mark (k := k) (j := 1) (e' := (⟨⟨runI ((k0 + (p : Int))) e.d.f0.length, runI ((k0 + (p : Int)) + ((e.d.f0.length : Nat) : Int)) e.d.f1.length, e.d.f2⟩, e.u0, e.u1⟩ : EMarkovRule)) s_1 hk_1 (v := e.u1) (it := (e.d.f1.length, rows oneI e.d.f1)) rfl rfl gr1 ow1 rfl rfl (by show EMarkovRule.its _ = (EMarkovRule.its _).set 1 _; simp only [EMarkovRule.its, runI_len, rows_runI]; rfl) (by decide)
    have s_2 : SGrid kndMarkovRule base hi 117 2 1 (.slice (some ⟨g, 0, none⟩) n cap) ((markL widMarkovRule mkMarkovRule k0 (es.take k) ++ es.drop k).set k (⟨⟨runI ((k0 + (p : Int))) e.d.f0.length, runI ((k0 + (p : Int)) + ((e.d.f0.length : Nat) : Int)) e.d.f1.length, e.d.f2⟩, e.u0, e.u1⟩ : EMarkovRule)) (wb1) := by have := st_2.1; rw [set_set'] at this; exact this
    have t_2 : Touch base hi w wb1 := t_1.trans st_2.2
    have hk_2 : ((markL widMarkovRule mkMarkovRule k0 (es.take k) ++ es.drop k).set k (⟨⟨runI ((k0 + (p : Int))) e.d.f0.length, runI ((k0 + (p : Int)) + ((e.d.f0.length : Nat) : Int)) e.d.f1.length, e.d.f2⟩, e.u0, e.u1⟩ : EMarkovRule))[k]? = some (⟨⟨runI ((k0 + (p : Int))) e.d.f0.length, runI ((k0 + (p : Int)) + ((e.d.f0.length : Nat) : Int)) e.d.f1.length, e.d.f2⟩, e.u0, e.u1⟩ : EMarkovRule) := get_set' hk_0 _
    clear st_2 r1 ow1 gr1
    have cwb1_2 : wb1.cell? ⟨g, k * 3 + 2, none⟩ = some (.bool e.d.f2) := s_2.cell (j := 2) hk_2 rfl
    have zwb1_2 : wb1.frozen? ⟨g, k * 3 + 2, none⟩ = false := s_2.thaw _
    have st_3 := SGrid.store (k := k) (j := 2) (e' := (⟨⟨runI ((k0 + (p : Int))) e.d.f0.length, runI ((k0 + (p : Int)) + ((e.d.f0.length : Nat) : Int)) e.d.f1.length, (((k0 + (p : Int)) + ((e.d.f0.length : Nat) : Int) + ((e.d.f1.length : Nat) : Int)) % 3 == 0)⟩, e.u0, e.u1⟩ : EMarkovRule)) (u := .bool ((((k0 + (p : Int)) + ((e.d.f0.length : Nat) : Int) + ((e.d.f1.length : Nat) : Int)) % 3 == 0))) s_2 hk_2 (by decide) rfl rfl rfl (by decide)
    have s_3 : SGrid kndMarkovRule base hi 117 2 1 (.slice (some ⟨g, 0, none⟩) n cap) ((markL widMarkovRule mkMarkovRule k0 (es.take k) ++ es.drop k).set k (⟨⟨runI ((k0 + (p : Int))) e.d.f0.length, runI ((k0 + (p : Int)) + ((e.d.f0.length : Nat) : Int)) e.d.f1.length, (((k0 + (p : Int)) + ((e.d.f0.length : Nat) : Int) + ((e.d.f1.length : Nat) : Int)) % 3 == 0)⟩, e.u0, e.u1⟩ : EMarkovRule)) ((wb1).setCell ⟨g, k * 3 + 2, none⟩ (.bool ((((k0 + (p : Int)) + ((e.d.f0.length : Nat) : Int) + ((e.d.f1.length : Nat) : Int)) % 3 == 0)))) := by have := st_3.1; rw [set_set'] at this; exact this
    have t_3 : Touch base hi w ((wb1).setCell ⟨g, k * 3 + 2, none⟩ (.bool ((((k0 + (p : Int)) + ((e.d.f0.length : Nat) : Int) + ((e.d.f1.length : Nat) : Int)) % 3 == 0)))) := t_2.trans st_3.2
    have hk_3 : ((markL widMarkovRule mkMarkovRule k0 (es.take k) ++ es.drop k).set k (⟨⟨runI ((k0 + (p : Int))) e.d.f0.length, runI ((k0 + (p : Int)) + ((e.d.f0.length : Nat) : Int)) e.d.f1.length, (((k0 + (p : Int)) + ((e.d.f0.length : Nat) : Int) + ((e.d.f1.length : Nat) : Int)) % 3 == 0)⟩, e.u0, e.u1⟩ : EMarkovRule))[k]? = some (⟨⟨runI ((k0 + (p : Int))) e.d.f0.length, runI ((k0 + (p : Int)) + ((e.d.f0.length : Nat) : Int)) e.d.f1.length, (((k0 + (p : Int)) + ((e.d.f0.length : Nat) : Int) + ((e.d.f1.length : Nat) : Int)) % 3 == 0)⟩, e.u0, e.u1⟩ : EMarkovRule) := get_set' hk_0 _
    clear st_3
    have HN : Hid (SGrid kndMarkovRule base hi 117 2 1 (.slice (some ⟨g, 0, none⟩) n cap) (markL widMarkovRule mkMarkovRule k0 (es.take (k + 1)) ++ es.drop (k + 1)) ((wb1).setCell ⟨g, k * 3 + 2, none⟩ (.bool ((((k0 + (p : Int)) + ((e.d.f0.length : Nat) : Int) + ((e.d.f1.length : Nat) : Int)) % 3 == 0))))) := by
      have := markL_next widMarkovRule mkMarkovRule HX.out k0 (e' := (⟨⟨runI ((k0 + (p : Int))) e.d.f0.length, runI ((k0 + (p : Int)) + ((e.d.f0.length : Nat) : Int)) e.d.f1.length, (((k0 + (p : Int)) + ((e.d.f0.length : Nat) : Int) + ((e.d.f1.length : Nat) : Int)) % 3 == 0)⟩, e.u0, e.u1⟩ : EMarkovRule)) (by rw [← HP.out]; rfl)
      unfold Hid
      rw [← this]
      exact s_3
    have HTT := Lib.hid t_3
    clear s_0 s_1 s_2 s_3 t_1 t_2 t_3 hk_0 hk_1 hk_2 hk_3
    go_wp2_with fail
    go_roundw
    case rel => exact ⟨k + 1, by omega, by go_num, by rw [HC1.out]; congr 1; omega, HN, HTT.out⟩
    case measure => simp [intOf]; omega

set_option maxRecDepth 100000 in
set_option maxHeartbeats 2000000 in
theorem heldMarkovRuleS_any (base hi : Nat) (V : Value) (es : List EMarkovRule) (k0 : Int) (w : World) (hg : SGrid kndMarkovRule base hi 117 2 1 V (markL widMarkovRule mkMarkovRule k0 es) w) (hk0 : 0 ≤ k0) (hk1 : k0 + (widSum widMarkovRule es : Nat) ≤ 1099511627776) (hn : es.length ≤ 4194304) (hit : ∀ e ∈ es, wlMarkovRule e.d ≤ 4194304) :
    Calls Try.prog 37 #[V, .int .i64 k0] w fun z w' => z = .returned (.int .i64 (k0 + (widSum widMarkovRule es : Nat))) ∧ w = w' := by
  obtain ⟨n, hnn⟩ : ∃ n, n = es.length := ⟨_, rfl⟩
  have HL : Hid (es.length = n) := hnn.symm
  rw [← hnn] at hn
  clear hnn
  have HTL := Lib.hid hit; clear hit
  have hml : (markL widMarkovRule mkMarkovRule k0 es).length = n := by rw [length_markL, HL.out]
  rcases Nat.eq_zero_or_pos n with hz | hz
  · subst hz
    have he : es = [] := List.eq_nil_of_length_eq_zero HL.out
    subst he
    obtain ⟨A, cap, rfl⟩ := own_form hg.own
    clear hg
    go_enter Try.func37, Try.ntmps37
    go_wp2
    refine wp_loop_rounds 1 ?_
    rw [rounds_succ]
    go_wp2
    go_ret
    exact ⟨by simp [widSum], rfl⟩
  obtain ⟨g, cap, rfl⟩ := hg.addr hml hz
  obtain ⟨tt, htt⟩ : ∃ t, t = widSum widMarkovRule es := ⟨_, rfl⟩
  rw [← htt] at hk1
  have HT := Lib.hid htt; clear htt
  have HG := Lib.hid hg; clear hg hml
  go_enter Try.func37, Try.ntmps37
  go_wp2
  go_loop [1, 5] (fun kk i => ∃ k : Nat, k ≤ n ∧ i = .int .i64 k ∧ kk = .int .i64 (k0 + (widSum widMarkovRule (es.take k) : Nat))) (fun _ i => n - (intOf i).toNat)
  case atStart => exact ⟨0, Nat.zero_le _, rfl, by simp [widSum]⟩
  case round =>
    obtain ⟨k, hk, rfl, rfl⟩ := hrel
    by_cases hlt : k < n
    rotate_left
    · obtain rfl : n = k := by omega
      rw [List.take_of_length_le (by have := HL.out; omega)]
      go_wp2
      go_ret
      exact ⟨rfl, rfl⟩
    obtain ⟨e, HX⟩ := hget HL hlt
    have hkm := markL_at widMarkovRule mkMarkovRule HX.out k0
    have hc1 := widSum_take widMarkovRule HX.out
    have hc2 := widSum_le widMarkovRule es (k + 1)
    have hwe := widMarkovRule_eq e
    have hlen := HTL.out e (List.mem_of_getElem? HX.out)
    unfold wlMarkovRule at hlen
    obtain ⟨p, hp⟩ : ∃ p, p = widSum widMarkovRule (es.take k) := ⟨_, rfl⟩
    rw [← hp, hwe] at hc1
    rw [← hp] at hkm ⊢
    have hpt : p + (e.d.f0.length * 1 + e.d.f1.length * 1 + 1) ≤ tt := by have := HT.out; omega
    have HC1 := Lib.hid hc1
    have r0 := HG.out.row (j := 0) hkm (v := e.u0) (it := ((runI ((k0 + (p : Int))) e.d.f0.length).length, rows oneI (runI ((k0 + (p : Int))) e.d.f0.length))) rfl rfl
    simp only [runI_len, rows_runI] at r0
    obtain ⟨A0, c0, e0⟩ := own_form r0
    rw [e0] at r0
    have a0 := args_of_own r0
    clear r0
    have r1 := HG.out.row (j := 1) hkm (v := e.u1) (it := ((runI ((k0 + (p : Int)) + ((e.d.f0.length : Nat) : Int)) e.d.f1.length).length, rows oneI (runI ((k0 + (p : Int)) + ((e.d.f0.length : Nat) : Int)) e.d.f1.length))) rfl rfl
    simp only [runI_len, rows_runI] at r1
    obtain ⟨A1, c1, e1⟩ := own_form r1
    rw [e1] at r1
    have a1 := args_of_own r1
    clear r1
    have k_0 : w.cell? ⟨g, k * 3, none⟩ = some (e.u0) := HG.out.cell (j := 0) hkm rfl
    rw [e0] at k_0
    clear e0
    have k_1 : w.cell? ⟨g, k * 3 + 1, none⟩ = some (e.u1) := HG.out.cell (j := 1) hkm rfl
    rw [e1] at k_1
    clear e1
    have k_2 : w.cell? ⟨g, k * 3 + 2, none⟩ = some (.bool ((((k0 + (p : Int)) + ((e.d.f0.length : Nat) : Int) + ((e.d.f1.length : Nat) : Int)) % 3 == 0))) := HG.out.cell (j := 2) hkm rfl
    clear hp hc1 hc2 hwe hkm
    go_wp2_with fail
    refine (inHeldInt64S A0 e.d.f0.length c0 ((k0 + (p : Int))) _ a0 (by omega) (by omega) (by omega)).mono ?_
    rintro z w1 ⟨rfl, rfl⟩
    have nn0 : ¬ (k0 + (p : Int)) + ((e.d.f0.length : Nat) : Int) < 0 := by omega
    go_wp2_with fail
    refine (inHeldInt64S A1 e.d.f1.length c1 ((k0 + (p : Int)) + ((e.d.f0.length : Nat) : Int)) _ a1 (by omega) (by omega) (by omega)).mono ?_
    rintro z w1 ⟨rfl, rfl⟩
    have nn1 : ¬ (k0 + (p : Int)) + ((e.d.f0.length : Nat) : Int) + ((e.d.f1.length : Nat) : Int) < 0 := by omega
    go_wp2_with fail
    go_round
    case rel => exact ⟨k + 1, by omega, by go_num, by rw [HC1.out]; congr 1; omega⟩
    case measure => simp [intOf]; omega

theorem markMarkovRuleS_is (base hi : Nat) (V : Value) (es : List EMarkovRule) (k0 : Int) (q : Nat) (w : World) (hg : SGrid kndMarkovRule base hi 117 2 1 V es w) (hq : widSum widMarkovRule es = q) (hk0 : 0 ≤ k0) (hk1 : k0 + (q : Int) ≤ 1099511627776) (hn : es.length ≤ 4194304) (hit : ∀ e ∈ es, wlMarkovRule e.d ≤ 4194304) :
    Calls Try.prog 36 #[V, .int .i64 k0] w fun z w' => z = .returned (.int .i64 (k0 + (q : Int))) ∧ SGrid kndMarkovRule base hi 117 2 1 V (markL widMarkovRule mkMarkovRule k0 es) w' ∧ Touch base hi w w' := by
  subst hq
  exact markMarkovRuleS_any base hi V es k0 w hg hk0 hk1 hn hit

theorem heldMarkovRuleS_is (base hi : Nat) (V : Value) (es : List EMarkovRule) (k0 : Int) (q : Nat) (w : World) (hg : SGrid kndMarkovRule base hi 117 2 1 V (markL widMarkovRule mkMarkovRule k0 es) w) (hq : widSum widMarkovRule es = q) (hk0 : 0 ≤ k0) (hk1 : k0 + (q : Int) ≤ 1099511627776) (hn : es.length ≤ 4194304) (hit : ∀ e ∈ es, wlMarkovRule e.d ≤ 4194304) :
    Calls Try.prog 37 #[V, .int .i64 k0] w fun z w' => z = .returned (.int .i64 (k0 + (q : Int))) ∧ w = w' := by
  subst hq
  exact heldMarkovRuleS_any base hi V es k0 w hg hk0 hk1 hn hit

theorem eqMarkovRuleS_is (A B : Option Addr) (n m c d : Nat) (es gs : List EMarkovRule) (xs : List DMarkovRule) (w : World) (ha : Args 3 w A n (rows EMarkovRule.vs es)) (hra : RdsMarkovRule w es) (hb : Args 3 w B m (rows EMarkovRule.vs gs)) (hrb : RdsMarkovRule w gs) (he : es.map (·.d) = xs) (hg : gs.map (·.d) = xs) (hn : n ≤ 4194304) (hm : m ≤ 4194304) (hx : sumMarkovRule xs ≤ 4194304) :
    Calls Try.prog 33 #[.slice A n c, .slice B m d] w fun z w' => z = .returned (.bool true) ∧ Below w.heap.size w w' := by
  refine (eqMarkovRuleS_any A B n m c d es gs w ha hra hb hrb hn hm (by rw [he]; exact hx) (by rw [hg]; exact hx)).mono ?_
  rintro z w' ⟨rfl, hb⟩
  exact ⟨ret_bool (by rw [he, hg]; simp), hb⟩

theorem widSumMarkovRule_of {es : List EMarkovRule} {xs : List DMarkovRule} (h : es.map (·.d) = xs) : widSum widMarkovRule es = 1 * xs.length + sumMarkovRule xs * 1 := by
  subst h
  induction es with
  | nil => simp [widSum, sumMarkovRule]
  | cons e l ih =>
    simp only [widSum, sumMarkovRule, widMarkovRule, List.map_cons, List.sum_cons, List.length_cons] at ih ⊢
    rw [ih]
    omega
theorem lensMarkovRule {es : List EMarkovRule} {xs : List DMarkovRule} (h : es.map (·.d) = xs) {m : Nat} (hm : sumMarkovRule xs ≤ m) : ∀ e ∈ es, wlMarkovRule e.d ≤ m := by
  intro e he
  have h1 : e.d ∈ xs := by rw [← h]; exact List.mem_map_of_mem he
  obtain ⟨k, hk⟩ := List.getElem?_of_mem h1
  exact Nat.le_trans (sumMarkovRule_at hk) hm

end Go.Proofs.Ytcfkjigapnknnaa
