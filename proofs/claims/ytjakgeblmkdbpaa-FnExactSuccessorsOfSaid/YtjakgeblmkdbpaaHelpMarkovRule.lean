/- Contracts of the laws' helpers on MarkovRule and []MarkovRule: copy, compare, size, mark, look at the marks. -/
import Derived.Test.YtjakgeblmkdbpaaSGrid
import Derived.Test.YtjakgeblmkdbpaaSeq
import Derived.Test.YtjakgeblmkdbpaaInInt64S
import Derived.Test.YtjakgeblmkdbpaaRunI
import Derived.Test.YtjakgeblmkdbpaaWords
import Derived.StillTailTactics
namespace Go.Proofs.Ytjakgeblmkdbpaa
open Go.RowKit
set_option linter.all false

/-- The data. -/
structure DMarkovRule where
  f0 : List Int
  f1 : List Int
  f2 : Bool
instance : DecidableEq DMarkovRule := fun x y => decidable_of_iff (x.f0 = y.f0 ∧ x.f1 = y.f1 ∧ x.f2 = y.f2) ⟨fun h => by cases x; cases y; simp_all, fun h => by subst h; exact ⟨rfl, rfl, rfl⟩⟩
/-- A record in memory. -/
structure EMarkovRule where
  d : DMarkovRule
  u0 : Value
  u1 : Value
def EMarkovRule.vs (e : EMarkovRule) : List Value := [e.u0, e.u1, .bool e.d.f2]
def EMarkovRule.us (e : EMarkovRule) : List Value := [e.u0, e.u1]
def EMarkovRule.its (e : EMarkovRule) : List (Nat × List Value) := [(e.d.f0.length, rows oneI e.d.f0), (e.d.f1.length, rows oneI e.d.f1)]
def kndMarkovRule : Knd EMarkovRule := ⟨EMarkovRule.vs, EMarkovRule.us, EMarkovRule.its, 3, 2, fun _ => rfl, fun _ => rfl, fun _ => rfl⟩
def wlMarkovRule (x : DMarkovRule) : Nat := x.f0.length + x.f1.length
def wbMarkovRule (m : Nat) (x : DMarkovRule) : Prop := x.f0.length ≤ m ∧ x.f1.length ≤ m ∧ True
def DMarkovRule.wf (x : DMarkovRule) : Prop := (∀ y ∈ x.f0, Wf64 y) ∧ (∀ y ∈ x.f1, Wf64 y)
def RdMarkovRule (w : World) (e : EMarkovRule) : Prop := (∃ A c, e.u0 = .slice A e.d.f0.length c ∧ Args 1 w A e.d.f0.length (rows oneI e.d.f0)) ∧ (∃ A c, e.u1 = .slice A e.d.f1.length c ∧ Args 1 w A e.d.f1.length (rows oneI e.d.f1)) ∧ True
theorem RdMarkovRule.below {w w' : World} {e : EMarkovRule} (h : RdMarkovRule w e) (hb : Below w.heap.size w w') : RdMarkovRule w' e := by
  obtain ⟨⟨A0, c0, e0, h0⟩, ⟨A1, c1, e1, h1⟩, -⟩ := h
  exact ⟨⟨A0, c0, e0, h0.below hb⟩, ⟨A1, c1, e1, h1.below hb⟩, trivial⟩
def RdsMarkovRule (w : World) (es : List EMarkovRule) : Prop := ∀ e ∈ es, RdMarkovRule w e
theorem RdsMarkovRule.below {w w' : World} {es : List EMarkovRule} (h : RdsMarkovRule w es) (hb : Below w.heap.size w w') : RdsMarkovRule w' es := fun e he => (h e he).below hb
theorem rdsMarkovRule_of {base hi : Nat} {T Te : TypeId} {V : Value} {es : List EMarkovRule} {W : World} (h : SGrid kndMarkovRule base hi T Te 1 V es W) : RdsMarkovRule W es := by
  intro e he
  obtain ⟨k, hk⟩ := List.getElem?_of_mem he
  refine ⟨?_, ?_, trivial⟩
  · have hr := h.row (j := 0) hk (v := e.u0) (it := (e.d.f0.length, rows oneI e.d.f0)) rfl rfl
    obtain ⟨A, c, e1⟩ := own_form hr
    rw [e1] at hr
    exact ⟨A, c, e1, args_of_own hr⟩
  · have hr := h.row (j := 1) hk (v := e.u1) (it := (e.d.f1.length, rows oneI e.d.f1)) rfl rfl
    obtain ⟨A, c, e1⟩ := own_form hr
    rw [e1] at hr
    exact ⟨A, c, e1, args_of_own hr⟩
def mkMarkovRule (k : Int) (e : EMarkovRule) : EMarkovRule := ⟨⟨runI k e.d.f0.length, runI (k + ((e.d.f0.length : Nat) : Int)) e.d.f1.length, (((k + ((e.d.f0.length : Nat) : Int)) + ((e.d.f1.length : Nat) : Int)) % 3 == 0)⟩, e.u0, e.u1⟩
def widMarkovRule (e : EMarkovRule) : Nat := 1 + wlMarkovRule e.d * 1
theorem widMarkovRule_eq (e : EMarkovRule) : widMarkovRule e = e.d.f0.length * 1 + e.d.f1.length * 1 + 1 := by unfold widMarkovRule wlMarkovRule; omega
/-- Each of the record's slices has an address below m. -/
def adrMarkovRule (m : Nat) (e : EMarkovRule) : Prop := (∃ g c : Nat, g < m ∧ e.u0 = .slice (some ⟨g, 0, none⟩) e.d.f0.length c ∧ e.d.f0.length ≤ c) ∧ (∃ g c : Nat, g < m ∧ e.u1 = .slice (some ⟨g, 0, none⟩) e.d.f1.length c ∧ e.d.f1.length ≤ c) ∧ True
theorem adrMarkovRule.mono {m m' : Nat} {e : EMarkovRule} (h : adrMarkovRule m e) (hm : m ≤ m') : adrMarkovRule m' e := by
  obtain ⟨⟨g0, d0, l0, e0⟩, ⟨g1, d1, l1, e1⟩, -⟩ := h
  exact ⟨⟨g0, d0, Nat.lt_of_lt_of_le l0 hm, e0⟩, ⟨g1, d1, Nat.lt_of_lt_of_le l1 hm, e1⟩, trivial⟩
theorem adrsMarkovRule_snoc {m m' : Nat} {es : List EMarkovRule} (h : ∀ e ∈ es, adrMarkovRule m e) (hm : m ≤ m') {x : EMarkovRule} (hx : adrMarkovRule m' x) : ∀ e ∈ es ++ [x], adrMarkovRule m' e := by
  intro e he
  rcases List.mem_append.1 he with h1 | h1
  · exact (h e h1).mono hm
  · rw [List.mem_singleton.1 h1]; exact hx
/-- Readable records whose slices have addresses. -/
def RcsMarkovRule (w : World) (es : List EMarkovRule) : Prop := RdsMarkovRule w es ∧ ∀ e ∈ es, adrMarkovRule w.heap.size e
theorem RcsMarkovRule.below {w w' : World} {es : List EMarkovRule} (h : RcsMarkovRule w es) (hb : Below w.heap.size w w') : RcsMarkovRule w' es := ⟨h.1.below hb, fun e he => (h.2 e he).mono hb.size⟩
theorem rcsMarkovRule_of {base hi m : Nat} {T Te : TypeId} {V : Value} {es : List EMarkovRule} {W : World} (h : SGrid kndMarkovRule base hi T Te 1 V es W) (ha : ∀ e ∈ es, adrMarkovRule m e) (hm : m ≤ W.heap.size) : RcsMarkovRule W es := ⟨rdsMarkovRule_of h, fun e he => (ha e he).mono hm⟩
/-- A record's slices read as lists. -/
theorem RcsMarkovRule.at {w : World} {es : List EMarkovRule} (h : RcsMarkovRule w es) {e : EMarkovRule} (he : e ∈ es) : (∃ g c : Nat, e.u0 = .slice (some ⟨g, 0, none⟩) e.d.f0.length c ∧ e.d.f0.length ≤ c ∧ Sl w g 0 (e.d.f0.map (.int .i64))) ∧ (∃ g c : Nat, e.u1 = .slice (some ⟨g, 0, none⟩) e.d.f1.length c ∧ e.d.f1.length ≤ c ∧ Sl w g 0 (e.d.f1.map (.int .i64))) ∧ True := by
  obtain ⟨⟨A0, c0, hu0, ha0⟩, ⟨A1, c1, hu1, ha1⟩, -⟩ := h.1 e he
  obtain ⟨⟨g0, d0, hl0, hg0, hc0⟩, ⟨g1, d1, hl1, hg1, hc1⟩, -⟩ := h.2 e he
  refine ⟨?_, ?_, trivial⟩
  · refine ⟨g0, d0, hg0, hc0, ?_⟩
    rw [hg0] at hu0
    injection hu0 with e1 e2 e3
    rcases ha0.2 with h0 | ⟨b, off, hA, hsl⟩
    · rw [List.eq_nil_of_length_eq_zero h0]; exact Sl.empty hl0
    · rw [hA] at e1
      injection e1 with e1
      injection e1 with e4 e5 e6
      subst e4; subst e5
      rw [rows_oneI] at hsl
      exact hsl
  · refine ⟨g1, d1, hg1, hc1, ?_⟩
    rw [hg1] at hu1
    injection hu1 with e1 e2 e3
    rcases ha1.2 with h0 | ⟨b, off, hA, hsl⟩
    · rw [List.eq_nil_of_length_eq_zero h0]; exact Sl.empty hl1
    · rw [hA] at e1
      injection e1 with e1
      injection e1 with e4 e5 e6
      subst e4; subst e5
      rw [rows_oneI] at hsl
      exact hsl

/-- How many elements the records' slices have. -/
def sumMarkovRule (xs : List DMarkovRule) : Nat := (xs.map wlMarkovRule).sum
theorem sumMarkovRule_take {xs : List DMarkovRule} {k : Nat} {x : DMarkovRule} (h : xs[k]? = some x) : sumMarkovRule (xs.take (k + 1)) = sumMarkovRule (xs.take k) + wlMarkovRule x := by rw [List.take_add_one, h]; simp [sumMarkovRule]
theorem sumMarkovRule_le (xs : List DMarkovRule) (k : Nat) : sumMarkovRule (xs.take k) ≤ sumMarkovRule xs := by
  have h : ∀ a b : List DMarkovRule, sumMarkovRule a ≤ sumMarkovRule (a ++ b) := by intro a b; simp [sumMarkovRule]
  have := h (xs.take k) (xs.drop k)
  rwa [List.take_append_drop] at this
theorem sumMarkovRule_at {xs : List DMarkovRule} {k : Nat} {x : DMarkovRule} (h : xs[k]? = some x) : wlMarkovRule x ≤ sumMarkovRule xs := by
  have := sumMarkovRule_take h
  have := sumMarkovRule_le xs (k + 1)
  omega

theorem widSumMarkovRule_of {es : List EMarkovRule} {xs : List DMarkovRule} (h : es.map (·.d) = xs) : widSum widMarkovRule es = 1 * xs.length + sumMarkovRule xs * 1 := by
  subst h
  induction es with
  | nil => simp [widSum, sumMarkovRule]
  | cons e l ih =>
    simp only [widSum, sumMarkovRule, widMarkovRule, List.map_cons, List.sum_cons, List.length_cons] at ih ⊢
    rw [ih]
    omega
theorem lensMarkovRule {es : List EMarkovRule} {xs : List DMarkovRule} (h : es.map (·.d) = xs) {m : Nat} (hm : sumMarkovRule xs ≤ m) : ∀ e ∈ es, wlMarkovRule e.d ≤ m := by
  intro e he
  have h1 : e.d ∈ xs := by rw [← h]; exact List.mem_map_of_mem he
  obtain ⟨k, hk⟩ := List.getElem?_of_mem h1
  exact Nat.le_trans (sumMarkovRule_at hk) hm

end Go.Proofs.Ytjakgeblmkdbpaa
