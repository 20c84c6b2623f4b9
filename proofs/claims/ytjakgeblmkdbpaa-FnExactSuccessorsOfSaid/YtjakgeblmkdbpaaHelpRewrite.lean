/- Contracts of the laws' helpers on Rewrite and []Rewrite: copy, compare, size, mark, look at the marks. -/
import Derived.Test.YtjakgeblmkdbpaaSGrid
import Derived.Test.YtjakgeblmkdbpaaSeq
import Derived.Test.YtjakgeblmkdbpaaInInt64S
import Derived.Test.YtjakgeblmkdbpaaRunI
import Derived.Test.YtjakgeblmkdbpaaWords
import Derived.StillTailTactics
namespace Go.Proofs.Ytjakgeblmkdbpaa
open Go.RowKit
set_option linter.all false

/-- The data. -/
structure DRewrite where
  f0 : List Int
  f1 : List Int
instance : DecidableEq DRewrite := fun x y => decidable_of_iff (x.f0 = y.f0 ∧ x.f1 = y.f1) ⟨fun h => by cases x; cases y; simp_all, fun h => by subst h; exact ⟨rfl, rfl⟩⟩
/-- A record in memory. -/
structure ERewrite where
  d : DRewrite
  u0 : Value
  u1 : Value
def ERewrite.vs (e : ERewrite) : List Value := [e.u0, e.u1]
def ERewrite.us (e : ERewrite) : List Value := [e.u0, e.u1]
def ERewrite.its (e : ERewrite) : List (Nat × List Value) := [(e.d.f0.length, rows oneI e.d.f0), (e.d.f1.length, rows oneI e.d.f1)]
def kndRewrite : Knd ERewrite := ⟨ERewrite.vs, ERewrite.us, ERewrite.its, 2, 2, fun _ => rfl, fun _ => rfl, fun _ => rfl⟩
def wlRewrite (x : DRewrite) : Nat := x.f0.length + x.f1.length
def wbRewrite (m : Nat) (x : DRewrite) : Prop := x.f0.length ≤ m ∧ x.f1.length ≤ m ∧ True
def DRewrite.wf (x : DRewrite) : Prop := (∀ y ∈ x.f0, Wf64 y) ∧ (∀ y ∈ x.f1, Wf64 y)
def RdRewrite (w : World) (e : ERewrite) : Prop := (∃ A c, e.u0 = .slice A e.d.f0.length c ∧ Args 1 w A e.d.f0.length (rows oneI e.d.f0)) ∧ (∃ A c, e.u1 = .slice A e.d.f1.length c ∧ Args 1 w A e.d.f1.length (rows oneI e.d.f1)) ∧ True
theorem RdRewrite.below {w w' : World} {e : ERewrite} (h : RdRewrite w e) (hb : Below w.heap.size w w') : RdRewrite w' e := by
  obtain ⟨⟨A0, c0, e0, h0⟩, ⟨A1, c1, e1, h1⟩, -⟩ := h
  exact ⟨⟨A0, c0, e0, h0.below hb⟩, ⟨A1, c1, e1, h1.below hb⟩, trivial⟩
def RdsRewrite (w : World) (es : List ERewrite) : Prop := ∀ e ∈ es, RdRewrite w e
theorem RdsRewrite.below {w w' : World} {es : List ERewrite} (h : RdsRewrite w es) (hb : Below w.heap.size w w') : RdsRewrite w' es := fun e he => (h e he).below hb
theorem rdsRewrite_of {base hi : Nat} {T Te : TypeId} {V : Value} {es : List ERewrite} {W : World} (h : SGrid kndRewrite base hi T Te 1 V es W) : RdsRewrite W es := by
  intro e he
  obtain ⟨k, hk⟩ := List.getElem?_of_mem he
  refine ⟨?_, ?_, trivial⟩
  · have hr := h.row (j := 0) hk (v := e.u0) (it := (e.d.f0.length, rows oneI e.d.f0)) rfl rfl
    obtain ⟨A, c, e1⟩ := own_form hr
    rw [e1] at hr
    exact ⟨A, c, e1, args_of_own hr⟩
  · have hr := h.row (j := 1) hk (v := e.u1) (it := (e.d.f1.length, rows oneI e.d.f1)) rfl rfl
    obtain ⟨A, c, e1⟩ := own_form hr
    rw [e1] at hr
    exact ⟨A, c, e1, args_of_own hr⟩
def mkRewrite (k : Int) (e : ERewrite) : ERewrite := ⟨⟨runI k e.d.f0.length, runI (k + ((e.d.f0.length : Nat) : Int)) e.d.f1.length⟩, e.u0, e.u1⟩
def widRewrite (e : ERewrite) : Nat := 0 + wlRewrite e.d * 1
theorem widRewrite_eq (e : ERewrite) : widRewrite e = e.d.f0.length * 1 + e.d.f1.length * 1 := by unfold widRewrite wlRewrite; omega
/-- Each of the record's slices has an address below m. -/
def adrRewrite (m : Nat) (e : ERewrite) : Prop := (∃ g : Nat, g < m ∧ e.u0 = .slice (some ⟨g, 0, none⟩) e.d.f0.length e.d.f0.length) ∧ (∃ g : Nat, g < m ∧ e.u1 = .slice (some ⟨g, 0, none⟩) e.d.f1.length e.d.f1.length) ∧ True
theorem adrRewrite.mono {m m' : Nat} {e : ERewrite} (h : adrRewrite m e) (hm : m ≤ m') : adrRewrite m' e := by
  obtain ⟨⟨g0, l0, e0⟩, ⟨g1, l1, e1⟩, -⟩ := h
  exact ⟨⟨g0, Nat.lt_of_lt_of_le l0 hm, e0⟩, ⟨g1, Nat.lt_of_lt_of_le l1 hm, e1⟩, trivial⟩
theorem adrsRewrite_snoc {m m' : Nat} {es : List ERewrite} (h : ∀ e ∈ es, adrRewrite m e) (hm : m ≤ m') {x : ERewrite} (hx : adrRewrite m' x) : ∀ e ∈ es ++ [x], adrRewrite m' e := by
  intro e he
  rcases List.mem_append.1 he with h1 | h1
  · exact (h e h1).mono hm
  · rw [List.mem_singleton.1 h1]; exact hx
/-- Readable records whose slices have addresses. -/
def RcsRewrite (w : World) (es : List ERewrite) : Prop := RdsRewrite w es ∧ ∀ e ∈ es, adrRewrite w.heap.size e
theorem RcsRewrite.below {w w' : World} {es : List ERewrite} (h : RcsRewrite w es) (hb : Below w.heap.size w w') : RcsRewrite w' es := ⟨h.1.below hb, fun e he => (h.2 e he).mono hb.size⟩
theorem rcsRewrite_of {base hi m : Nat} {T Te : TypeId} {V : Value} {es : List ERewrite} {W : World} (h : SGrid kndRewrite base hi T Te 1 V es W) (ha : ∀ e ∈ es, adrRewrite m e) (hm : m ≤ W.heap.size) : RcsRewrite W es := ⟨rdsRewrite_of h, fun e he => (ha e he).mono hm⟩
/-- A record's slices read as lists. -/
theorem RcsRewrite.at {w : World} {es : List ERewrite} (h : RcsRewrite w es) {e : ERewrite} (he : e ∈ es) : (∃ g : Nat, e.u0 = .slice (some ⟨g, 0, none⟩) e.d.f0.length e.d.f0.length ∧ Sl w g 0 (e.d.f0.map (.int .i64))) ∧ (∃ g : Nat, e.u1 = .slice (some ⟨g, 0, none⟩) e.d.f1.length e.d.f1.length ∧ Sl w g 0 (e.d.f1.map (.int .i64))) ∧ True := by
  obtain ⟨⟨A0, c0, hu0, ha0⟩, ⟨A1, c1, hu1, ha1⟩, -⟩ := h.1 e he
  obtain ⟨⟨g0, hl0, hg0⟩, ⟨g1, hl1, hg1⟩, -⟩ := h.2 e he
  refine ⟨?_, ?_, trivial⟩
  · refine ⟨g0, hg0, ?_⟩
    rw [hg0] at hu0
    injection hu0 with e1 e2 e3
    rcases ha0.2 with h0 | ⟨b, off, hA, hsl⟩
    · rw [List.eq_nil_of_length_eq_zero h0]; exact Sl.empty hl0
    · rw [hA] at e1
      injection e1 with e1
      injection e1 with e4 e5 e6
      subst e4; subst e5
      rw [rows_oneI] at hsl
      exact hsl
  · refine ⟨g1, hg1, ?_⟩
    rw [hg1] at hu1
    injection hu1 with e1 e2 e3
    rcases ha1.2 with h0 | ⟨b, off, hA, hsl⟩
    · rw [List.eq_nil_of_length_eq_zero h0]; exact Sl.empty hl1
    · rw [hA] at e1
      injection e1 with e1
      injection e1 with e4 e5 e6
      subst e4; subst e5
      rw [rows_oneI] at hsl
      exact hsl

theorem infoRewrite : (Try.prog.info? 96).map (fun i => (i.zero, i.size, i.bytes)) = some (some (.agg #[.slice none 0 0, .slice none 0 0]), 2, 48) := by kernel_rfl

set_option maxRecDepth 100000 in
theorem toRewrite_any (e : ERewrite) (w : World) (h : RdRewrite w e) (hl : wlRewrite e.d ≤ 1048576) :
    Calls Try.prog 61 #[.agg #[e.u0, e.u1]] w fun z w' => (∃ v0 v1 : Nat, z = .returned (.agg #[.slice (some ⟨v0, 0, none⟩) e.d.f0.length e.d.f0.length, .slice (some ⟨v1, 0, none⟩) e.d.f1.length e.d.f1.length]) ∧ Inn 1 2 w.heap.size w'.heap.size [.slice (some ⟨v0, 0, none⟩) e.d.f0.length e.d.f0.length, .slice (some ⟨v1, 0, none⟩) e.d.f1.length e.d.f1.length] e.its w') ∧ Below w.heap.size w w' := by
  obtain ⟨⟨f0, f1⟩, u0, u1⟩ := e
  obtain ⟨⟨A0, c0, hu0, ha0⟩, ⟨A1, c1, hu1, ha1⟩, -⟩ := h
  simp only [wlRewrite] at hl hu0 ha0 hu1 ha1 ⊢
  unfold ERewrite.its
  simp only
  subst hu0
  obtain ⟨n0, hn0⟩ : ∃ n, n = f0.length := ⟨_, rfl⟩
  rw [← hn0] at ha0 hl ⊢
  clear hn0
  subst hu1
  obtain ⟨n1, hn1⟩ : ∃ n, n = f1.length := ⟨_, rfl⟩
  rw [← hn1] at ha1 hl ⊢
  clear hn1
  obtain ⟨w0, HW0, B0, x0, y0, z0, sz0⟩ := al3 w (.cells #[.slice A0 n0 c0, .slice A1 n1 c1] 91) (.cells #[.slice none 0 0, .slice none 0 0] 96) (.cells #[.slice none 0 0, .slice none 0 0] 96)
  have I0 := Inn.nil 1 w0.heap.size w0.heap.size 2 w0
  have L0 : w.heap.size + 1 + 1 < w0.heap.size := by omega
  go_enter Try.func61, Try.ntmps61
  go_wp2_with fail
  rw [← HW0.out]
  refine (inToInt64S A0 n0 c0 f0 _ (ha0.below B0) (by omega)).mono ?_
  rintro z w1a ⟨rfl, own0, b0⟩
  have B0a := below_step B0 b0
  have x0a := (b0.block _ (heap_lt x0)).trans x0
  have y0a := (b0.block _ (heap_lt y0)).trans y0
  have z0a := (b0.block _ (heap_lt z0)).trans z0
  have I0a := (I0.below b0).snoc (it := (n0, rows oneI f0)) own0 (Nat.le_refl _) (Nat.le_refl _) (Nat.le_refl _) b0.size
  obtain ⟨g0, hg0⟩ : ∃ g : Nat, g = w0.heap.size := ⟨_, rfl⟩
  have I0b : Inn 1 2 w0.heap.size w1a.heap.size [.slice (some ⟨g0, 0, none⟩) n0 n0] [(n0, rows oneI f0)] w1a := by rw [hg0]; exact I0a
  rw [← hg0]
  clear own0 hg0 I0a
  obtain ⟨w1, HW1, B1, x1, y1, z1, I1, SZ1⟩ : ∃ w1, Hid (w1 = (w1a.setCell ⟨w.heap.size + 1 + 1, 0, none⟩ (.slice (some ⟨g0, 0, none⟩) n0 n0))) ∧ Below w.heap.size w w1 ∧ w1.heap[w.heap.size]? = some (.cells #[.slice A0 n0 c0, .slice A1 n1 c1] 91 (0, 0)) ∧ w1.heap[w.heap.size + 1]? = some (.cells #[.slice none 0 0, .slice none 0 0] 96 (0, 0)) ∧ w1.heap[w.heap.size + 1 + 1]? = some (.cells #[.slice (some ⟨g0, 0, none⟩) n0 n0, .slice none 0 0] 96 (0, 0)) ∧ Inn 1 2 w0.heap.size w1a.heap.size [.slice (some ⟨g0, 0, none⟩) n0 n0] [(n0, rows oneI f0)] w1 ∧ w1a.heap.size = w1.heap.size := by
    refine ⟨_, rfl, ?_, ?_, ?_, ?_, ?_, ?_⟩
    · exact (B0a.setCell (p := ⟨w.heap.size + 1 + 1, 0, none⟩) (by simp; omega) _)
    · exact (heap_set_other x0a ⟨w.heap.size + 1 + 1, 0, none⟩ (by dsimp only; omega) _)
    · exact (heap_set_other y0a ⟨w.heap.size + 1 + 1, 0, none⟩ (by dsimp only; omega) _)
    · exact (heap_set z0a (.slice (some ⟨g0, 0, none⟩) n0 n0))
    · exact (I0b.set_low (b := w.heap.size + 1 + 1) (o := 0) L0 _)
    · simp [World.setCell]
  have kz0 : w1a.frozen? ⟨w.heap.size + 1 + 1, 0, none⟩ = false := frozen_of_heap z0a
  have ez0_0 : ∃ u, w1a.cell? ⟨w.heap.size + 1 + 1, 0, none⟩ = some u := ⟨_, by rw [cell_of_heap z0a]; rfl⟩
  obtain ⟨oz0_0, ez0_0⟩ := ez0_0
  have fz0_0 : w1a.frozen? ⟨w.heap.size + 1 + 1, 0, none⟩ = false := frozen_of_heap z0a
  have cx0_1 : w1a.cell? ⟨w.heap.size, 1, none⟩ = some (.slice A1 n1 c1) := by rw [cell_of_heap x0a]; rfl
  have S1 : w0.heap.size ≤ w1.heap.size := Nat.le_trans b0.size (Nat.le_of_eq SZ1)
  clear HW0 x0 y0 z0 x0a b0 I0 I0b y0a z0a
  go_wp2_with fail
  rw [← HW1.out]
  refine (inToInt64S A1 n1 c1 f1 _ (ha1.below B1) (by omega)).mono ?_
  rintro z w2a ⟨rfl, own1, b1⟩
  have B1a := below_step B1 b1
  have x1a := (b1.block _ (heap_lt x1)).trans x1
  have y1a := (b1.block _ (heap_lt y1)).trans y1
  have z1a := (b1.block _ (heap_lt z1)).trans z1
  have I1a := (I1.below b1).snoc (it := (n1, rows oneI f1)) own1 (Nat.le_of_eq SZ1) S1 (Nat.le_refl _) (Nat.le_trans (Nat.le_of_eq SZ1) b1.size)
  obtain ⟨g1, hg1⟩ : ∃ g : Nat, g = w1.heap.size := ⟨_, rfl⟩
  have I1b : Inn 1 2 w0.heap.size w2a.heap.size [.slice (some ⟨g0, 0, none⟩) n0 n0, .slice (some ⟨g1, 0, none⟩) n1 n1] [(n0, rows oneI f0), (n1, rows oneI f1)] w2a := by rw [hg1]; exact I1a
  rw [← hg1]
  clear own1 hg1 I1a
  obtain ⟨w2, HW2, B2, x2, y2, z2, I2, SZ2⟩ : ∃ w2, Hid (w2 = (w2a.setCell ⟨w.heap.size + 1 + 1, 1, none⟩ (.slice (some ⟨g1, 0, none⟩) n1 n1))) ∧ Below w.heap.size w w2 ∧ w2.heap[w.heap.size]? = some (.cells #[.slice A0 n0 c0, .slice A1 n1 c1] 91 (0, 0)) ∧ w2.heap[w.heap.size + 1]? = some (.cells #[.slice none 0 0, .slice none 0 0] 96 (0, 0)) ∧ w2.heap[w.heap.size + 1 + 1]? = some (.cells #[.slice (some ⟨g0, 0, none⟩) n0 n0, .slice (some ⟨g1, 0, none⟩) n1 n1] 96 (0, 0)) ∧ Inn 1 2 w0.heap.size w2a.heap.size [.slice (some ⟨g0, 0, none⟩) n0 n0, .slice (some ⟨g1, 0, none⟩) n1 n1] [(n0, rows oneI f0), (n1, rows oneI f1)] w2 ∧ w2a.heap.size = w2.heap.size := by
    refine ⟨_, rfl, ?_, ?_, ?_, ?_, ?_, ?_⟩
    · exact (B1a.setCell (p := ⟨w.heap.size + 1 + 1, 1, none⟩) (by simp; omega) _)
    · exact (heap_set_other x1a ⟨w.heap.size + 1 + 1, 1, none⟩ (by dsimp only; omega) _)
    · exact (heap_set_other y1a ⟨w.heap.size + 1 + 1, 1, none⟩ (by dsimp only; omega) _)
    · exact (heap_set z1a (.slice (some ⟨g1, 0, none⟩) n1 n1))
    · exact (I1b.set_low (b := w.heap.size + 1 + 1) (o := 1) L0 _)
    · simp [World.setCell]
  have kz1 : w2a.frozen? ⟨w.heap.size + 1 + 1, 0, none⟩ = false := frozen_of_heap z1a
  have ez1_1 : ∃ u, w2a.cell? ⟨w.heap.size + 1 + 1, 1, none⟩ = some u := ⟨_, by rw [cell_of_heap z1a]; rfl⟩
  obtain ⟨oz1_1, ez1_1⟩ := ez1_1
  have fz1_1 : w2a.frozen? ⟨w.heap.size + 1 + 1, 1, none⟩ = false := frozen_of_heap z1a
  have S2 : w0.heap.size ≤ w2.heap.size := Nat.le_trans (Nat.le_trans S1 b1.size) (Nat.le_of_eq SZ2)
  clear HW1 x1 y1 z1 x1a b1 I1 I1b 
  have lz0 : w2a.cell? ⟨w.heap.size + 1 + 1, 0, none⟩ = some (.slice (some ⟨g0, 0, none⟩) n0 n0) := by rw [cell_of_heap z1a]; rfl
  have ly0 : w2a.cell? ⟨w.heap.size + 1, 0, none⟩ = some (.slice none 0 0) := by rw [cell_of_heap y1a]; rfl
  have fy0 : w2a.frozen? ⟨w.heap.size + 1, 0, none⟩ = false := frozen_of_heap y1a
  have ly1 : w2a.cell? ⟨w.heap.size + 1, 1, none⟩ = some (.slice none 0 0) := by rw [cell_of_heap y1a]; rfl
  have fy1 : w2a.frozen? ⟨w.heap.size + 1, 1, none⟩ = false := frozen_of_heap y1a
  clear y1a z1a
  go_wp2
  refine bodyPost_ret (v := .agg #[.slice (some ⟨g0, 0, none⟩) n0 n0, .slice (some ⟨g1, 0, none⟩) n1 n1]) (by simp [results, Try.results61, go_sem, ly0, ly1]) rfl ?_
  refine ⟨⟨g0, g1, rfl, ?_⟩, ?_⟩
  · rw [← HW2.out]
    have hsz : ∀ (a b : World), a.heap.size = b.heap.size → a.heap.size ≤ b.heap.size := fun a b e => Nat.le_of_eq e
    refine Inn.wide (hi := w2.heap.size) ?_ (by simp [World.setCell])
    rw [← SZ2]
    have L1 : w.heap.size + 1 < w0.heap.size := by omega
    exact ((I2.set_low (b := w.heap.size + 1) (o := 0) L1 _).set_low (b := w.heap.size + 1) (o := 1) L1 _).lower B0.size
  · rw [← HW2.out]
    exact ((B2.setCell (p := ⟨w.heap.size + 1, 0, none⟩) (by simp) _).setCell (p := ⟨w.heap.size + 1, 1, none⟩) (by simp) _)

set_option maxRecDepth 100000 in
theorem eqRewrite_any (e g : ERewrite) (w : World) (he : RdRewrite w e) (hg : RdRewrite w g) (hl : wlRewrite e.d ≤ 4194304) (hm : wlRewrite g.d ≤ 4194304) :
    Calls Try.prog 66 #[.agg #[e.u0, e.u1], .agg #[g.u0, g.u1]] w fun z w' => z = .returned (.bool (decide (e.d = g.d))) ∧ Below w.heap.size w w' := by
  obtain ⟨⟨f0, f1⟩, u0, u1⟩ := e
  obtain ⟨⟨g0, g1⟩, v0, v1⟩ := g
  obtain ⟨⟨A0, c0, hu0, ha0⟩, ⟨A1, c1, hu1, ha1⟩, -⟩ := he
  obtain ⟨⟨Z0, d0, hv0, hb0⟩, ⟨Z1, d1, hv1, hb1⟩, -⟩ := hg
  simp only [wlRewrite] at hl hm hu0 ha0 hv0 hb0 hu1 ha1 hv1 hb1 ⊢
  subst hu0
  subst hv0
  obtain ⟨n0, hn0⟩ : ∃ n, n = f0.length := ⟨_, rfl⟩
  rw [← hn0] at ha0 hl ⊢
  obtain ⟨m0, hm0⟩ : ∃ n, n = g0.length := ⟨_, rfl⟩
  rw [← hm0] at hb0 hm ⊢
  clear hn0 hm0
  subst hu1
  subst hv1
  obtain ⟨n1, hn1⟩ : ∃ n, n = f1.length := ⟨_, rfl⟩
  rw [← hn1] at ha1 hl ⊢
  obtain ⟨m1, hm1⟩ : ∃ n, n = g1.length := ⟨_, rfl⟩
  rw [← hm1] at hb1 hm ⊢
  clear hn1 hm1
  obtain ⟨w0, HW0, B0, x0, y0⟩ := al2 w (.cells #[.slice A0 n0 c0, .slice A1 n1 c1] 96) (.cells #[.slice Z0 m0 d0, .slice Z1 m1 d1] 96)
  have HX0 := Lib.hid x0; have HY0 := Lib.hid y0; clear x0 y0
  have BL : Hid (Below w.heap.size w ((w.alloc (.cells #[.slice A0 n0 c0, .slice A1 n1 c1] 96)).alloc (.cells #[.slice Z0 m0 d0, .slice Z1 m1 d1] 96))) := by have := HW0.out; rw [← this]; exact B0
  by_cases h0 : f0 = g0
  rotate_left
  · have NE := Lib.hid h0
    have E0 := Lib.hid (decide_eq_false h0)
    clear h0
    go_enter Try.func66, Try.ntmps66
    go_wp2_with fail
    rw [← HW0.out]
    refine (inEqInt64S A0 Z0 n0 m0 c0 d0 f0 g0 false E0.out _ (ha0.below B0) (hb0.below B0) (by omega) (by omega)).mono ?_
    rintro z w1 ⟨rfl, b1⟩
    have B1 := below_step B0 b1
    have HX1 := Lib.hid ((b1.block _ (heap_lt HX0.out)).trans HX0.out)
    have HY1 := Lib.hid ((b1.block _ (heap_lt HY0.out)).trans HY0.out)
    clear b1
    go_wp2
    go_ret
    exact ⟨ret_bool (by simp [NE.out]), B1⟩
  subst h0
  by_cases h1 : f1 = g1
  rotate_left
  · have NE := Lib.hid h1
    have E1 := Lib.hid (decide_eq_false h1)
    clear h1
    go_enter Try.func66, Try.ntmps66
    go_wp2_with fail
    rw [← HW0.out]
    refine (inEqInt64S A0 Z0 n0 m0 c0 d0 f0 f0 true (decide_eq_true rfl) _ (ha0.below B0) (hb0.below B0) (by omega) (by omega)).mono ?_
    rintro z w1 ⟨rfl, b1⟩
    have B1 := below_step B0 b1
    have HX1 := Lib.hid ((b1.block _ (heap_lt HX0.out)).trans HX0.out)
    have HY1 := Lib.hid ((b1.block _ (heap_lt HY0.out)).trans HY0.out)
    have kx1_1 : w1.cell? ⟨w.heap.size, 1, none⟩ = some (.slice A1 n1 c1) := by rw [cell_of_heap HX1.out]; rfl
    have ky1_1 : w1.cell? ⟨w.heap.size + 1, 1, none⟩ = some (.slice Z1 m1 d1) := by rw [cell_of_heap HY1.out]; rfl
    clear b1
    go_wp2_with fail
    refine (inEqInt64S A1 Z1 n1 m1 c1 d1 f1 g1 false E1.out _ (ha1.below B1) (hb1.below B1) (by omega) (by omega)).mono ?_
    rintro z w2 ⟨rfl, b2⟩
    have B2 := below_step B1 b2
    have HX2 := Lib.hid ((b2.block _ (heap_lt HX1.out)).trans HX1.out)
    have HY2 := Lib.hid ((b2.block _ (heap_lt HY1.out)).trans HY1.out)
    clear b2
    go_wp2
    go_ret
    exact ⟨ret_bool (by simp [NE.out]), B2⟩
  subst h1
  go_enter Try.func66, Try.ntmps66
  go_wp2_with fail
  rw [← HW0.out]
  refine (inEqInt64S A0 Z0 n0 m0 c0 d0 f0 f0 true (decide_eq_true rfl) _ (ha0.below B0) (hb0.below B0) (by omega) (by omega)).mono ?_
  rintro z w1 ⟨rfl, b1⟩
  have B1 := below_step B0 b1
  have HX1 := Lib.hid ((b1.block _ (heap_lt HX0.out)).trans HX0.out)
  have HY1 := Lib.hid ((b1.block _ (heap_lt HY0.out)).trans HY0.out)
  have kx1_1 : w1.cell? ⟨w.heap.size, 1, none⟩ = some (.slice A1 n1 c1) := by rw [cell_of_heap HX1.out]; rfl
  have ky1_1 : w1.cell? ⟨w.heap.size + 1, 1, none⟩ = some (.slice Z1 m1 d1) := by rw [cell_of_heap HY1.out]; rfl
  clear b1
  go_wp2_with fail
  refine (inEqInt64S A1 Z1 n1 m1 c1 d1 f1 f1 true (decide_eq_true rfl) _ (ha1.below B1) (hb1.below B1) (by omega) (by omega)).mono ?_
  rintro z w2 ⟨rfl, b2⟩
  have B2 := below_step B1 b2
  have HX2 := Lib.hid ((b2.block _ (heap_lt HX1.out)).trans HX1.out)
  have HY2 := Lib.hid ((b2.block _ (heap_lt HY1.out)).trans HY1.out)
  clear b2
  go_wp2
  go_ret
  exact ⟨ret_bool (by simp), B2⟩

theorem eqRewrite_is (e g : ERewrite) (v : Bool) (hv : decide (e.d = g.d) = v) (w : World) (he : RdRewrite w e) (hg : RdRewrite w g) (hl : wlRewrite e.d ≤ 4194304) (hm : wlRewrite g.d ≤ 4194304) :
    Calls Try.prog 66 #[.agg #[e.u0, e.u1], .agg #[g.u0, g.u1]] w fun z w' => z = .returned (.bool v) ∧ Below w.heap.size w w' := by
  subst hv; exact eqRewrite_any e g w he hg hl hm

set_option maxRecDepth 100000 in
theorem szRewrite_any (e : ERewrite) (left : Int) (w : World) (he : RdRewrite w e) (h0 : 0 ≤ left) (h1 : left ≤ 1048576) (hl : wbRewrite 9223372036854775807 e.d) :
    Calls Try.prog 57 #[.agg #[e.u0, e.u1], .int .i64 left] w fun z w' => (∃ q : Int, z = .returned (.int .i64 q) ∧ SzOut (wlRewrite e.d) left q) ∧ Below w.heap.size w w' := by
  obtain ⟨⟨f0, f1⟩, u0, u1⟩ := e
  obtain ⟨⟨A0, c0, hu0, ha0⟩, ⟨A1, c1, hu1, ha1⟩, -⟩ := he
  obtain ⟨z0, z1, -⟩ := hl
  simp only [wlRewrite] at hu0 ha0 z0 hu1 ha1 z1 ⊢
  subst hu0
  obtain ⟨n0, hn0⟩ : ∃ n, n = f0.length := ⟨_, rfl⟩
  rw [← hn0] at ha0 z0 ⊢
  clear hn0 ha0
  subst hu1
  obtain ⟨n1, hn1⟩ : ∃ n, n = f1.length := ⟨_, rfl⟩
  rw [← hn1] at ha1 z1 ⊢
  clear hn1 ha1
  have BL : Below w.heap.size w (w.alloc (.cells #[.slice A0 n0 c0, .slice A1 n1 c1] 91)) := laid_below _ _
  by_cases y0 : (n0 : Int) ≤ left
  rotate_left
  · have Y := Lib.hid y0
    go_enter Try.func57, Try.ntmps57
    go_wp2_with fail
    refine (inSzInt64S A0 n0 c0 (left) _ (by omega) (by omega) (by omega)).mono ?_
    rintro z w1 ⟨⟨q0, rfl, hq0⟩, rfl⟩
    unfold SzOut at hq0
    obtain rfl : q0 = -1 := by omega
    go_wp2_with fail
    go_ret
    exact ⟨⟨_, rfl, szOut_no (by omega)⟩, BL⟩
  by_cases y1 : (n0 : Int) + (n1 : Int) ≤ left
  rotate_left
  · have Y := Lib.hid y1
    go_enter Try.func57, Try.ntmps57
    go_wp2_with fail
    refine (inSzInt64S A0 n0 c0 (left) _ (by omega) (by omega) (by omega)).mono ?_
    rintro z w1 ⟨⟨q0, rfl, hq0⟩, rfl⟩
    unfold SzOut at hq0
    obtain rfl : q0 = left - (n0 : Int) := by omega
    have nn0 : ¬ left - (n0 : Int) < 0 := by omega
    clear hq0
    go_wp2_with fail
    refine (inSzInt64S A1 n1 c1 (left - (n0 : Int)) _ (by omega) (by omega) (by omega)).mono ?_
    rintro z w1 ⟨⟨q1, rfl, hq1⟩, rfl⟩
    unfold SzOut at hq1
    obtain rfl : q1 = -1 := by omega
    go_wp2_with fail
    go_ret
    exact ⟨⟨_, rfl, szOut_no (by omega)⟩, BL⟩
  go_enter Try.func57, Try.ntmps57
  go_wp2_with fail
  refine (inSzInt64S A0 n0 c0 (left) _ (by omega) (by omega) (by omega)).mono ?_
  rintro z w1 ⟨⟨q0, rfl, hq0⟩, rfl⟩
  unfold SzOut at hq0
  obtain rfl : q0 = left - (n0 : Int) := by omega
  have nn0 : ¬ left - (n0 : Int) < 0 := by omega
  clear hq0
  go_wp2_with fail
  refine (inSzInt64S A1 n1 c1 (left - (n0 : Int)) _ (by omega) (by omega) (by omega)).mono ?_
  rintro z w1 ⟨⟨q1, rfl, hq1⟩, rfl⟩
  unfold SzOut at hq1
  obtain rfl : q1 = left - (n0 : Int) - (n1 : Int) := by omega
  have nn1 : ¬ left - (n0 : Int) - (n1 : Int) < 0 := by omega
  clear hq1
  go_wp2_with fail
  go_ret
  exact ⟨⟨_, rfl, szOut_yes (by omega) (by omega)⟩, BL⟩

/-- How many elements the records' slices have. -/
def sumRewrite (xs : List DRewrite) : Nat := (xs.map wlRewrite).sum
theorem sumRewrite_take {xs : List DRewrite} {k : Nat} {x : DRewrite} (h : xs[k]? = some x) : sumRewrite (xs.take (k + 1)) = sumRewrite (xs.take k) + wlRewrite x := by rw [List.take_add_one, h]; simp [sumRewrite]
theorem sumRewrite_le (xs : List DRewrite) (k : Nat) : sumRewrite (xs.take k) ≤ sumRewrite xs := by
  have h : ∀ a b : List DRewrite, sumRewrite a ≤ sumRewrite (a ++ b) := by intro a b; simp [sumRewrite]
  have := h (xs.take k) (xs.drop k)
  rwa [List.take_append_drop] at this
theorem sumRewrite_at {xs : List DRewrite} {k : Nat} {x : DRewrite} (h : xs[k]? = some x) : wlRewrite x ≤ sumRewrite xs := by
  have := sumRewrite_take h
  have := sumRewrite_le xs (k + 1)
  omega

set_option maxRecDepth 100000 in
set_option maxHeartbeats 1000000 in
theorem toRewriteS_any (A : Option Addr) (n c : Nat) (es : List ERewrite) (w : World) (ha : Args 2 w A n (rows ERewrite.vs es)) (hr : RdsRewrite w es) (hn : n ≤ 1048576) (hts : sumRewrite (es.map (·.d)) ≤ 1048576) :
    Calls Try.prog 17 #[.slice A n c] w fun z w' => z = .returned (.slice (some ⟨w.heap.size, 0, none⟩) n n) ∧ (∃ es', SGrid kndRewrite w.heap.size w'.heap.size 96 2 1 (.slice (some ⟨w.heap.size, 0, none⟩) n n) es' w' ∧ es'.map (·.d) = es.map (·.d) ∧ ∀ e ∈ es', adrRewrite w'.heap.size e) ∧ Below w.heap.size w w' := by
  have HL : Hid (es.length = n) := by have := ha.1; rw [rows_len (s := 2) (fun _ => rfl)] at this; unfold Hid; omega
  have HS := Lib.hid hts; clear hts
  have hmk := fun W => run_make_rows (P := Try.prog) 46 96 _ 2 48 Try.underlying46 infoRewrite .i64 .i64 n (by omega) (by omega) W
  simp only [Value.cells] at hmk
  have hown0 : (w.alloc (.cells (madeCells #[.slice none 0 0, .slice none 0 0] (n * 2)) 96)).ownsRow w.heap.size 96 2 (.slice (some ⟨w.heap.size, 0, none⟩) n n) n (madeCells #[.slice none 0 0, .slice none 0 0] (n * 2)).toList := own_laid w 96 2 n _ (size_madeCells _ _) (by unfold maxLen; omega)
  have hb0 := laid_below w (.cells (madeCells #[.slice none 0 0, .slice none 0 0] (n * 2)) 96)
  go_enter Try.func17, Try.ntmps17
  go_wp2
  clear hmk
  go_loopw [4] (fun i wr => ∃ (k : Nat) (es' : List ERewrite) (rest : List Value), k ≤ n ∧ es'.length = k ∧ i = .int .i64 k ∧ wr.ownsRow w.heap.size 96 2 (.slice (some ⟨w.heap.size, 0, none⟩) n n) n (rows ERewrite.vs es' ++ rest) ∧ Inn 1 2 w.heap.size wr.heap.size (es'.flatMap ERewrite.us) (es'.flatMap ERewrite.its) wr ∧ Hid (es'.map (·.d) = (es.take k).map (·.d)) ∧ Below w.heap.size w wr ∧ Hid (∀ e ∈ es', adrRewrite wr.heap.size e)) (fun i _ => n - (intOf i).toNat)
  case atStart => exact ⟨0, [], _, Nat.zero_le _, rfl, rfl, hown0, Inn.nil _ _ _ _ _, rfl, hb0, (by intro e he; cases he)⟩
  case round =>
    obtain ⟨k, es', rest, hk, hkl, rfl, hown, hinn, HD, hB, HADR⟩ := hrel
    clear hown0 hb0
    have HK := Lib.hid hkl; clear hkl
    by_cases hlt : k < n
    · obtain ⟨b, off, rfl, hs⟩ := ha.sl hlt
      obtain ⟨e, HX⟩ := hget HL hlt
      have hrd := hr e (List.mem_of_getElem? HX.out)
      have hwl := sumRewrite_at (xs := es.map (·.d)) (k := k) (x := e.d) (by rw [List.getElem?_map, HX.out]; rfl)
      have hst := HS.out
      obtain ⟨⟨f0, f1⟩, u0, u1⟩ := e
      obtain ⟨⟨A0, c0, hu0, ha0⟩, ⟨A1, c1, hu1, ha1⟩, -⟩ := hrd
      simp only [wlRewrite] at hwl hu0 ha0 hu1 ha1
      subst hu0
      subst hu1
      have hrd2 : RdRewrite w (⟨⟨f0, f1⟩, .slice A0 f0.length c0, .slice A1 f1.length c1⟩ : ERewrite) := ⟨⟨A0, c0, rfl, ha0⟩, ⟨A1, c1, rfl, ha1⟩, trivial⟩
      have HT := Lib.hid (toRewrite_any ⟨⟨f0, f1⟩, .slice A0 f0.length c0, .slice A1 f1.length c1⟩ wr (hrd2.below hB) (by simp only [wlRewrite]; omega))
      unfold ERewrite.its at HT
      simp only at HT
      have p0 : wr.cell? ⟨b, off + k * 2, none⟩ = some (.slice A0 f0.length c0) := Sl.rec (f := ERewrite.vs) (s := 2) (fun _ => rfl) (hs.below' hB) HX.out (j := 0) rfl
      have p1 : wr.cell? ⟨b, off + k * 2 + 1, none⟩ = some (.slice A1 f1.length c1) := Sl.rec (f := ERewrite.vs) (s := 2) (fun _ => rfl) (hs.below' hB) HX.out (j := 1) rfl
      obtain ⟨n0, hn0⟩ : ∃ n, n = f0.length := ⟨_, rfl⟩
      rw [← hn0] at HT p0
      have HN0 := Lib.hid hn0
      clear hn0 ha0
      obtain ⟨n1, hn1⟩ : ∃ n, n = f1.length := ⟨_, rfl⟩
      rw [← hn1] at HT p1
      have HN1 := Lib.hid hn1
      clear hn1 ha1
      clear hrd2 hwl hst hs hr ha
      go_wp2_with fail
      refine HT.out.mono ?_
      rintro z w1 ⟨⟨v0, v1, rfl, hin1⟩, hb1⟩
      have hown2 := own_below' hown hb1
      have hB1 := below_step hB hb1
      have hlen : (rows ERewrite.vs es').length = k * 2 := by rw [rows_len (s := 2) (fun _ => rfl), HK.out]
      have hrl := rest_len (s := 2) hown2.1 hlen hlt
      obtain ⟨o0, q0⟩ := own_some hown2 (j := k * 2) (by omega)
      have z0 := hown2.frozenAt (k * 2)
      obtain ⟨o1, q1⟩ := own_some hown2 (j := k * 2 + 1) (by omega)
      have z1 := hown2.frozenAt (k * 2 + 1)
      obtain ⟨hp1, hp2⟩ := own_put2 hown2 hlen hrl (.slice (some ⟨v0, 0, none⟩) n0 n0) (.slice (some ⟨v1, 0, none⟩) n1 n1)
      have hin2 := (((hinn.below hb1).append hin1 hB.size hb1.size).kept hown2 hp2 (by decide)).wide hp2.size
      have HP1 := Lib.hid hp1; have HI2 := Lib.hid hin2
      have HB := Lib.hid (hB1.grown hp2 hB1.size (fun j hj => by injection hj with hj; omega))
      have HD2 : Hid ((es' ++ [(⟨⟨f0, f1⟩, .slice (some ⟨v0, 0, none⟩) n0 n0, .slice (some ⟨v1, 0, none⟩) n1 n1⟩ : ERewrite)]).map (·.d) = (es.take (k + 1)).map (·.d)) := by unfold Hid; rw [List.map_append, HD.out, List.take_add_one, HX.out, List.map_append]; rfl
      have HADR2 := Lib.hid (adrsRewrite_snoc HADR.out (Nat.le_trans hb1.size hp2.size) (x := (⟨⟨f0, f1⟩, .slice (some ⟨v0, 0, none⟩) n0 n0, .slice (some ⟨v1, 0, none⟩) n1 n1⟩ : ERewrite)) ⟨⟨v0, Nat.lt_of_lt_of_le (hin1.top 0 _ v0 rfl rfl) hp2.size, by show Value.slice _ n0 n0 = .slice _ f0.length f0.length; rw [← HN0.out]⟩, ⟨v1, Nat.lt_of_lt_of_le (hin1.top 1 _ v1 rfl rfl) hp2.size, by show Value.slice _ n1 n1 = .slice _ f1.length f1.length; rw [← HN1.out]⟩, trivial⟩)
      clear hown hown2 hinn hin1 hp1 hp2 hin2 hB1 hB hb1 hlen hrl HT p0 p1
      go_wp2_with fail
      go_roundw
      case rel =>
        refine ⟨k + 1, es' ++ [(⟨⟨f0, f1⟩, .slice (some ⟨v0, 0, none⟩) n0 n0, .slice (some ⟨v1, 0, none⟩) n1 n1⟩ : ERewrite)], rest.drop 2, by omega, by simp [HK.out], by go_num, ?_, ?_, HD2.out, HB.out, HADR2.out⟩
        · rw [rows_app, rows_one]; exact HP1.out
        · rw [List.flatMap_append, List.flatMap_append]
          have := HI2.out
          simp only [List.flatMap_cons, List.flatMap_nil, List.append_nil, ERewrite.us, ERewrite.its, ← HN0.out, ← HN1.out]
          exact this
      case measure => simp [intOf]; omega
    · obtain rfl : n = k := by omega
      go_wp2
      go_ret
      have hr0 : rest = [] := by
        have := hown.1
        rw [List.length_append, rows_len (s := 2) (fun _ => rfl), HK.out] at this
        exact List.eq_nil_of_length_eq_zero (by omega)
      subst hr0
      rw [List.append_nil] at hown
      refine ⟨rfl, ⟨es', ⟨?_, hinn, fun q hq => (hown.lt q hq).2⟩, ?_, HADR.out⟩, hB⟩
      · rw [HK.out]; exact hown
      · rw [HD.out, List.take_of_length_le (by have := HL.out; omega)]

set_option maxRecDepth 100000 in
set_option maxHeartbeats 1000000 in
theorem eqRewriteS_any (A B : Option Addr) (n m c d : Nat) (es gs : List ERewrite) (w : World) (ha : Args 2 w A n (rows ERewrite.vs es)) (hra : RdsRewrite w es) (hb : Args 2 w B m (rows ERewrite.vs gs)) (hrb : RdsRewrite w gs) (hn : n ≤ 4194304) (hm : m ≤ 4194304) (hx : sumRewrite (es.map (·.d)) ≤ 4194304) (hy : sumRewrite (gs.map (·.d)) ≤ 4194304) :
    Calls Try.prog 21 #[.slice A n c, .slice B m d] w fun z w' => z = .returned (.bool (decide (es.map (·.d) = gs.map (·.d)))) ∧ Below w.heap.size w w' := by
  have HA : Hid (es.length = n) := by have := ha.1; rw [rows_len (s := 2) (fun _ => rfl)] at this; unfold Hid; omega
  have HB : Hid (gs.length = m) := by have := hb.1; rw [rows_len (s := 2) (fun _ => rfl)] at this; unfold Hid; omega
  have HX := Lib.hid hx; have HY := Lib.hid hy; clear hx hy
  by_cases hnm : n = m
  rotate_left
  · have hne : ((n : Int) != (m : Int)) = true := by simp; omega
    go_enter Try.func21, Try.ntmps21
    go_wp2
    go_ret
    refine ⟨ret_bool ?_, Below.refl _ _⟩
    symm
    apply decide_eq_false
    intro h
    have := congrArg List.length h
    simp only [List.length_map] at this
    have h2 := HA.out
    have h3 := HB.out
    omega
  subst hnm
  go_enter Try.func21, Try.ntmps21
  go_wp2
  go_loopw [5] (fun i wr => ∃ k : Nat, k ≤ n ∧ i = .int .i64 k ∧ Below w.heap.size w wr ∧ Hid ((es.map (·.d)).take k = (gs.map (·.d)).take k)) (fun i _ => n - (intOf i).toNat)
  case atStart => exact ⟨0, Nat.zero_le _, rfl, Below.refl _ _, rfl⟩
  case round =>
    obtain ⟨k, hk, rfl, hB, HR⟩ := hrel
    by_cases hlt : k < n
    rotate_left
    · go_wp2
      go_ret
      refine ⟨ret_bool ?_, hB⟩
      have h1 := HR.out
      have h2 := HA.out
      have h3 := HB.out
      rw [List.take_of_length_le (by simp; omega), List.take_of_length_le (by simp; omega)] at h1
      simp [h1]
    obtain ⟨b1, o1, rfl, hs1⟩ := ha.sl hlt
    obtain ⟨b2, o2, rfl, hs2⟩ := hb.sl hlt
    obtain ⟨e, HE⟩ := hget HA hlt
    obtain ⟨g, HG⟩ := hget HB hlt
    have hrd1 := hra e (List.mem_of_getElem? HE.out)
    have hrd2 := hrb g (List.mem_of_getElem? HG.out)
    have hwl1 := sumRewrite_at (xs := es.map (·.d)) (k := k) (x := e.d) (by rw [List.getElem?_map, HE.out]; rfl)
    have hwl2 := sumRewrite_at (xs := gs.map (·.d)) (k := k) (x := g.d) (by rw [List.getElem?_map, HG.out]; rfl)
    have hst1 := HX.out; have hst2 := HY.out
    have HED : Hid ((es.map (·.d))[k]? = some e.d) := by unfold Hid; rw [List.getElem?_map, HE.out]; rfl
    have HGD : Hid ((gs.map (·.d))[k]? = some g.d) := by unfold Hid; rw [List.getElem?_map, HG.out]; rfl
    obtain ⟨v, hv⟩ : ∃ v, decide (e.d = g.d) = v := ⟨_, rfl⟩
    have HC := Lib.hid (fun W (hW : Below w.heap.size w W) => eqRewrite_is e g v hv W (hrd1.below hW) (hrd2.below hW) (by omega) (by omega))
    have HV := Lib.hid hv
    obtain ⟨⟨A0, c0, hu0, ha0⟩, ⟨A1, c1, hu1, ha1⟩, -⟩ := hrd1
    obtain ⟨⟨B0, d0, hv0, hb0⟩, ⟨B1, d1, hv1, hb1⟩, -⟩ := hrd2
    have p0 : wr.cell? ⟨b1, o1 + k * 2, none⟩ = some (e.u0) := Sl.rec (f := ERewrite.vs) (s := 2) (fun _ => rfl) (hs1.below' hB) HE.out (j := 0) rfl
    have p1 : wr.cell? ⟨b1, o1 + k * 2 + 1, none⟩ = some (e.u1) := Sl.rec (f := ERewrite.vs) (s := 2) (fun _ => rfl) (hs1.below' hB) HE.out (j := 1) rfl
    have q0 : wr.cell? ⟨b2, o2 + k * 2, none⟩ = some (g.u0) := Sl.rec (f := ERewrite.vs) (s := 2) (fun _ => rfl) (hs2.below' hB) HG.out (j := 0) rfl
    have q1 : wr.cell? ⟨b2, o2 + k * 2 + 1, none⟩ = some (g.u1) := Sl.rec (f := ERewrite.vs) (s := 2) (fun _ => rfl) (hs2.below' hB) HG.out (j := 1) rfl
    rw [hu0] at HC p0
    rw [hv0] at HC q0
    obtain ⟨n0, hn0⟩ : ∃ n, n = e.d.f0.length := ⟨_, rfl⟩
    obtain ⟨m0, hm0⟩ : ∃ n, n = g.d.f0.length := ⟨_, rfl⟩
    rw [← hn0, ← hm0] at HC
    rw [← hn0] at p0
    rw [← hm0] at q0
    clear hn0 hm0 hu0 hv0 ha0 hb0
    rw [hu1] at HC p1
    rw [hv1] at HC q1
    obtain ⟨n1, hn1⟩ : ∃ n, n = e.d.f1.length := ⟨_, rfl⟩
    obtain ⟨m1, hm1⟩ : ∃ n, n = g.d.f1.length := ⟨_, rfl⟩
    rw [← hn1, ← hm1] at HC
    rw [← hn1] at p1
    rw [← hm1] at q1
    clear hn1 hm1 hu1 hv1 ha1 hb1
    clear hv hs1 hs2 ha hb hra hrb hwl1 hwl2 hst1 hst2
    cases v with
    | true =>
      have E2 : Hid (e.d = g.d) := of_decide_eq_true (p := e.d = g.d) HV.out
      go_wp2
      go_still_tail 8, (by kernel_rfl)
      change wpList _ _ _ _ _ wr.drew
      have hB2 := hB.drew
      clear hB p0 q0 p1 q1
      generalize wr.drew = w2 at hB2 ⊢
      go_wp2_with fail
      refine (HC.out _ hB2).mono ?_
      rintro z w3 ⟨rfl, hb3⟩
      go_wp2
      go_roundw
      case rel => exact ⟨k + 1, by omega, by go_num, below_step hB2 hb3, take_succ_eq HR.out HED.out HGD.out E2.out⟩
      case measure => simp [intOf]; omega
    | false =>
      have E2 : Hid (¬ e.d = g.d) := of_decide_eq_false (p := e.d = g.d) HV.out
      go_wp2
      go_still_tail 8, (by kernel_rfl)
      change wpList _ _ _ _ _ wr.drew
      have hB2 := hB.drew
      clear hB p0 q0 p1 q1
      generalize wr.drew = w2 at hB2 ⊢
      go_wp2_with fail
      refine (HC.out _ hB2).mono ?_
      rintro z w3 ⟨rfl, hb3⟩
      go_wp2
      go_ret
      exact ⟨ret_bool (by simp [ne_of_at HED.out HGD.out E2.out]), below_step hB2 hb3⟩

set_option maxRecDepth 100000 in
set_option maxHeartbeats 1000000 in
theorem szRewriteS_any (A : Option Addr) (n c : Nat) (es : List ERewrite) (left : Int) (w : World) (ha : Args 2 w A n (rows ERewrite.vs es)) (hr : RdsRewrite w es) (h0 : 0 ≤ left) (h1 : left ≤ 1048576) (hn : n ≤ 9223372036854775807) (hw : ∀ e ∈ es, wbRewrite 9223372036854775807 e.d) :
    Calls Try.prog 15 #[.slice A n c, .int .i64 left] w fun z w' => (∃ q : Int, z = .returned (.int .i64 q) ∧ SzOut (n + sumRewrite (es.map (·.d))) left q) ∧ Below w.heap.size w w' := by
  have HL : Hid (es.length = n) := by have := ha.1; rw [rows_len (s := 2) (fun _ => rfl)] at this; unfold Hid; omega
  have HW := Lib.hid hw; clear hw
  by_cases h : (n : Int) ≤ left
  rotate_left
  · have h' : left - (n : Int) < 0 := by omega
    go_enter Try.func15, Try.ntmps15
    go_wp2
    go_ret
    exact ⟨⟨_, rfl, szOut_no (by omega)⟩, Below.refl _ _⟩
  have h' : ¬ left - (n : Int) < 0 := by omega
  go_enter Try.func15, Try.ntmps15
  go_wp2
  go_loopw [1, 5] (fun l i wr => ∃ k : Nat, k ≤ n ∧ i = .int .i64 k ∧ l = .int .i64 (left - (n : Int) - (sumRewrite ((es.map (·.d)).take k) : Int)) ∧ (n : Int) + (sumRewrite ((es.map (·.d)).take k) : Int) ≤ left ∧ Below w.heap.size w wr) (fun _ i _ => n - (intOf i).toNat)
  case atStart => exact ⟨0, Nat.zero_le _, rfl, by simp [sumRewrite], by simpa [sumRewrite] using h, Below.refl _ _⟩
  case round =>
    obtain ⟨k, hk, rfl, rfl, hle, hB⟩ := hrel
    by_cases hlt : k < n
    · obtain ⟨b, off, rfl, hs⟩ := ha.sl hlt
      obtain ⟨e, HX⟩ := hget HL hlt
      have hrd := hr e (List.mem_of_getElem? HX.out)
      have hwb := HW.out e (List.mem_of_getElem? HX.out)
      have HED : Hid ((es.map (·.d))[k]? = some e.d) := by unfold Hid; rw [List.getElem?_map, HX.out]; rfl
      have hst := sumRewrite_take HED.out
      have hsl := sumRewrite_le (es.map (·.d)) (k + 1)
      obtain ⟨p, hp⟩ : ∃ p, p = sumRewrite ((es.map (·.d)).take k) := ⟨_, rfl⟩
      rw [← hp] at hle hst ⊢
      have HST := Lib.hid hst; have HSL := Lib.hid hsl
      have HC := Lib.hid (szRewrite_any e (left - (n : Int) - (p : Int)) wr (hrd.below hB) (by omega) (by omega) hwb)
      obtain ⟨⟨A0, c0, hu0, ha0⟩, ⟨A1, c1, hu1, ha1⟩, -⟩ := hrd
      have p0 : wr.cell? ⟨b, off + k * 2, none⟩ = some (e.u0) := Sl.rec (f := ERewrite.vs) (s := 2) (fun _ => rfl) (hs.below' hB) HX.out (j := 0) rfl
      have p1 : wr.cell? ⟨b, off + k * 2 + 1, none⟩ = some (e.u1) := Sl.rec (f := ERewrite.vs) (s := 2) (fun _ => rfl) (hs.below' hB) HX.out (j := 1) rfl
      rw [hu0] at HC p0
      obtain ⟨n0, hn0⟩ : ∃ n, n = e.d.f0.length := ⟨_, rfl⟩
      rw [← hn0] at HC p0
      clear hn0 hu0 ha0
      rw [hu1] at HC p1
      obtain ⟨n1, hn1⟩ : ∃ n, n = e.d.f1.length := ⟨_, rfl⟩
      rw [← hn1] at HC p1
      clear hn1 hu1 ha1
      obtain ⟨wl, hwl⟩ : ∃ wl, wl = wlRewrite e.d := ⟨_, rfl⟩
      rw [← hwl] at HC HST
      clear hp hst hsl hs ha hr hwb h h' hwl
      have w1 : IntKind.i64.wrap (left - (n : Int) - (p : Int)) = left - (n : Int) - (p : Int) := IntWalk.i64_in _ (by omega)
      go_wp2_with fail
      refine HC.out.mono ?_
      rintro z w1 ⟨⟨q, rfl, hz⟩, hb1⟩
      unfold SzOut at hz
      have hB1 := below_step hB hb1
      rcases hz with ⟨z1, rfl⟩ | ⟨z1, rfl⟩
      · have z2 : ¬ left - (n : Int) - (p : Int) - (wl : Int) < 0 := by omega
        clear hb1 p0 p1
        go_wp2_with fail
        go_roundw
        case rel => exact ⟨k + 1, by omega, by go_num, by rw [HST.out]; congr 1; omega, by rw [HST.out]; omega, hB1⟩
        case measure => simp [intOf]; omega
      · clear hb1 p0 p1
        go_wp2_with fail
        go_ret
        exact ⟨⟨_, rfl, szOut_no (by have := HST.out; have := HSL.out; omega)⟩, hB1⟩
    · go_wp2
      go_ret
      obtain rfl : n = k := by omega
      rw [List.take_of_length_le (by rw [List.length_map]; have := HL.out; omega)] at hle ⊢
      exact ⟨⟨_, rfl, szOut_yes (by omega) (by omega)⟩, hB⟩

theorem szRewriteS_is (A : Option Addr) (n c left r : Nat) (es : List ERewrite) (w : World) (ha : Args 2 w A n (rows ERewrite.vs es)) (hr : RdsRewrite w es) (h : r + (n + sumRewrite (es.map (·.d))) = left) (h1 : left ≤ 1048576) (hw : ∀ e ∈ es, wbRewrite 9223372036854775807 e.d) :
    Calls Try.prog 15 #[.slice A n c, .int .i64 left] w fun z w' => z = .returned (.int .i64 r) ∧ Below w.heap.size w w' := by
  refine (szRewriteS_any A n c es left w ha hr (by omega) (by omega) (by omega) hw).mono ?_
  rintro e w' ⟨⟨z, rfl, hz⟩, hb⟩
  unfold SzOut at hz
  exact ⟨ret_int (by omega), hb⟩

theorem szRewriteS_not (A : Option Addr) (n c left : Nat) (es : List ERewrite) (w : World) (ha : Args 2 w A n (rows ERewrite.vs es)) (hr : RdsRewrite w es) (h : left < n + sumRewrite (es.map (·.d))) (h1 : left ≤ 1048576) (hn : n ≤ 9223372036854775807) (hw : ∀ e ∈ es, wbRewrite 9223372036854775807 e.d) :
    Calls Try.prog 15 #[.slice A n c, .int .i64 left] w fun z w' => z = .returned (.int .i64 (-1)) ∧ Below w.heap.size w w' := by
  refine (szRewriteS_any A n c es left w ha hr (by omega) (by omega) hn hw).mono ?_
  rintro e w' ⟨⟨z, rfl, hz⟩, hb⟩
  unfold SzOut at hz
  exact ⟨ret_int (by omega), hb⟩

set_option maxRecDepth 100000 in
set_option maxHeartbeats 2000000 in
theorem markRewriteS_any (base hi : Nat) (V : Value) (es : List ERewrite) (k0 : Int) (w : World) (hg : SGrid kndRewrite base hi 96 2 1 V es w) (hk0 : 0 ≤ k0) (hk1 : k0 + (widSum widRewrite es : Nat) ≤ 1099511627776) (hn : es.length ≤ 4194304) (hit : ∀ e ∈ es, wlRewrite e.d ≤ 4194304) :
    Calls Try.prog 23 #[V, .int .i64 k0] w fun z w' => z = .returned (.int .i64 (k0 + (widSum widRewrite es : Nat))) ∧ SGrid kndRewrite base hi 96 2 1 V (markL widRewrite mkRewrite k0 es) w' ∧ Touch base hi w w' := by
  obtain ⟨n, hnn⟩ : ∃ n, n = es.length := ⟨_, rfl⟩
  have HL : Hid (es.length = n) := hnn.symm
  rw [← hnn] at hn
  clear hnn
  have HTL := Lib.hid hit; clear hit
  rcases Nat.eq_zero_or_pos n with hz | hz
  · subst hz
    have he : es = [] := List.eq_nil_of_length_eq_zero HL.out
    subst he
    obtain ⟨A, cap, rfl⟩ := own_form hg.own
    have HG := Lib.hid hg; clear hg
    go_enter Try.func23, Try.ntmps23
    go_wp2
    refine wp_loop_rounds 1 ?_
    rw [rounds_succ]
    go_wp2
    go_ret
    exact ⟨by simp [widSum], HG.out, Touch.refl _ _ _⟩
  obtain ⟨g, cap, rfl⟩ := hg.addr HL.out hz
  obtain ⟨tt, htt⟩ : ∃ t, t = widSum widRewrite es := ⟨_, rfl⟩
  rw [← htt] at hk1
  have HT := Lib.hid htt; clear htt
  have HG0 := Lib.hid hg; clear hg
  go_enter Try.func23, Try.ntmps23
  go_wp2
  go_loopw [1, 5] (fun kk i wr => ∃ k : Nat, k ≤ n ∧ i = .int .i64 k ∧ kk = .int .i64 (k0 + (widSum widRewrite (es.take k) : Nat)) ∧ Hid (SGrid kndRewrite base hi 96 2 1 (.slice (some ⟨g, 0, none⟩) n cap) (markL widRewrite mkRewrite k0 (es.take k) ++ es.drop k) (wr)) ∧ Touch base hi w wr) (fun _ i _ => n - (intOf i).toNat)
  case atStart => exact ⟨0, Nat.zero_le _, rfl, by simp [widSum], by simpa [markL, Hid] using HG0.out, Touch.refl _ _ _⟩
  case round =>
    obtain ⟨k, hk, rfl, rfl, HG, hto⟩ := hrel
    by_cases hlt : k < n
    rotate_left
    · obtain rfl : n = k := by omega
      have hg := HG.out
      rw [List.take_of_length_le (by have := HL.out; omega), List.drop_of_length_le (by have := HL.out; omega), List.append_nil] at hg
      rw [List.take_of_length_le (by have := HL.out; omega)]
      have HG2 := Lib.hid hg; clear hg
      go_wp2
      go_ret
      exact ⟨rfl, HG2.out, hto⟩
    obtain ⟨e, HX⟩ := hget HL hlt
    have hk_0 := markL_cur widRewrite mkRewrite HX.out k0
    have hc1 := widSum_take widRewrite HX.out
    have hc2 := widSum_le widRewrite es (k + 1)
    have hwe := widRewrite_eq e
    have hlen := HTL.out e (List.mem_of_getElem? HX.out)
    unfold wlRewrite at hlen
    obtain ⟨p, hp⟩ : ∃ p, p = widSum widRewrite (es.take k) := ⟨_, rfl⟩
    rw [← hp, hwe] at hc1
    rw [← hp]
    have hpt : p + (e.d.f0.length * 1 + e.d.f1.length * 1) ≤ tt := by have := HT.out; omega
    have HP := Lib.hid hp; have HC1 := Lib.hid hc1
    have s_0 := HG.out
    have cwr_0 : wr.cell? ⟨g, k * 2, none⟩ = some (e.u0) := s_0.cell (j := 0) hk_0 rfl
    have cwr_1 : wr.cell? ⟨g, k * 2 + 1, none⟩ = some (e.u1) := s_0.cell (j := 1) hk_0 rfl
    clear hp hc1 hc2 hwe
    have r0 := SGrid.row (j := 0) s_0 hk_0 (v := e.u0) (it := (e.d.f0.length, rows oneI e.d.f0)) rfl rfl
    go_wp2_with fail
    refine (inMarkInt64S base e.u0 e.d.f0.length ((k0 + (p : Int))) _ _ r0 (by omega) (by omega) (by omega)).mono ?_
    rintro z wb0 ⟨rfl, ow0, gr0⟩
    have st_1 := SGrid.mark (k := k) (j := 0) (e' := (⟨⟨runI ((k0 + (p : Int))) e.d.f0.length, e.d.f1⟩, e.u0, e.u1⟩ : ERewrite)) s_0 hk_0 (v := e.u0) (it := (e.d.f0.length, rows oneI e.d.f0)) rfl rfl gr0 ow0 rfl rfl (by show ERewrite.its _ = (ERewrite.its _).set 0 _; simp only [ERewrite.its, runI_len, rows_runI]; rfl) (by decide)
    have s_1 : SGrid kndRewrite base hi 96 2 1 (.slice (some ⟨g, 0, none⟩) n cap) ((markL widRewrite mkRewrite k0 (es.take k) ++ es.drop k).set k (⟨⟨runI ((k0 + (p : Int))) e.d.f0.length, e.d.f1⟩, e.u0, e.u1⟩ : ERewrite)) (wb0) := st_1.1
    have t_1 : Touch base hi w wb0 := hto.trans st_1.2
    have hk_1 : ((markL widRewrite mkRewrite k0 (es.take k) ++ es.drop k).set k (⟨⟨runI ((k0 + (p : Int))) e.d.f0.length, e.d.f1⟩, e.u0, e.u1⟩ : ERewrite))[k]? = some (⟨⟨runI ((k0 + (p : Int))) e.d.f0.length, e.d.f1⟩, e.u0, e.u1⟩ : ERewrite) := get_set' hk_0 _
    clear st_1 r0 ow0 gr0
    have cwb0_1 : wb0.cell? ⟨g, k * 2 + 1, none⟩ = some (e.u1) := s_1.cell (j := 1) hk_1 rfl
    have r1 := SGrid.row (j := 1) s_1 hk_1 (v := e.u1) (it := (e.d.f1.length, rows oneI e.d.f1)) rfl rfl
    go_wp2_with fail
    refine (inMarkInt64S base e.u1 e.d.f1.length ((k0 + (p : Int)) + ((e.d.f0.length : Nat) : Int)) _ _ r1 (by omega) (by omega) (by omega)).mono ?_
    rintro z wb1 ⟨rfl, ow1, gr1⟩
    have st_2 := SGrid.mark (k := k) (j := 1) (e' := (⟨⟨runI ((k0 + (p : Int))) e.d.f0.length, runI ((k0 + (p : Int)) + ((e.d.f0.length : Nat) : Int)) e.d.f1.length⟩, e.u0, e.u1⟩ : ERewrite)) s_1 hk_1 (v := e.u1) (it := (e.d.f1.length, rows oneI e.d.f1)) rfl rfl gr1 ow1 rfl rfl (by show ERewrite.its _ = (ERewrite.its _).set 1 _; simp only [ERewrite.its, runI_len, rows_runI]; rfl) (by decide)
    have s_2 : SGrid kndRewrite base hi 96 2 1 (.slice (some ⟨g, 0, none⟩) n cap) ((markL widRewrite mkRewrite k0 (es.take k) ++ es.drop k).set k (⟨⟨runI ((k0 + (p : Int))) e.d.f0.length, runI ((k0 + (p : Int)) + ((e.d.f0.length : Nat) : Int)) e.d.f1.length⟩, e.u0, e.u1⟩ : ERewrite)) (wb1) := by have := st_2.1; rw [set_set'] at this; exact this
    have t_2 : Touch base hi w wb1 := t_1.trans st_2.2
    have hk_2 : ((markL widRewrite mkRewrite k0 (es.take k) ++ es.drop k).set k (⟨⟨runI ((k0 + (p : Int))) e.d.f0.length, runI ((k0 + (p : Int)) + ((e.d.f0.length : Nat) : Int)) e.d.f1.length⟩, e.u0, e.u1⟩ : ERewrite))[k]? = some (⟨⟨runI ((k0 + (p : Int))) e.d.f0.length, runI ((k0 + (p : Int)) + ((e.d.f0.length : Nat) : Int)) e.d.f1.length⟩, e.u0, e.u1⟩ : ERewrite) := get_set' hk_0 _
    clear st_2 r1 ow1 gr1
    have HN : Hid (SGrid kndRewrite base hi 96 2 1 (.slice (some ⟨g, 0, none⟩) n cap) (markL widRewrite mkRewrite k0 (es.take (k + 1)) ++ es.drop (k + 1)) (wb1)) := by
      have := markL_next widRewrite mkRewrite HX.out k0 (e' := (⟨⟨runI ((k0 + (p : Int))) e.d.f0.length, runI ((k0 + (p : Int)) + ((e.d.f0.length : Nat) : Int)) e.d.f1.length⟩, e.u0, e.u1⟩ : ERewrite)) (by rw [← HP.out]; rfl)
      unfold Hid
      rw [← this]
      exact s_2
    have HTT := Lib.hid t_2
    clear s_0 s_1 s_2 t_1 t_2 hk_0 hk_1 hk_2
    go_wp2_with fail
    go_roundw
    case rel => exact ⟨k + 1, by omega, by go_num, by rw [HC1.out]; congr 1; omega, HN, HTT.out⟩
    case measure => simp [intOf]; omega

theorem markRewriteS_is (base hi : Nat) (V : Value) (es : List ERewrite) (k0 : Int) (q : Nat) (w : World) (hg : SGrid kndRewrite base hi 96 2 1 V es w) (hq : widSum widRewrite es = q) (hk0 : 0 ≤ k0) (hk1 : k0 + (q : Int) ≤ 1099511627776) (hn : es.length ≤ 4194304) (hit : ∀ e ∈ es, wlRewrite e.d ≤ 4194304) :
    Calls Try.prog 23 #[V, .int .i64 k0] w fun z w' => z = .returned (.int .i64 (k0 + (q : Int))) ∧ SGrid kndRewrite base hi 96 2 1 V (markL widRewrite mkRewrite k0 es) w' ∧ Touch base hi w w' := by
  subst hq
  exact markRewriteS_any base hi V es k0 w hg hk0 hk1 hn hit

theorem eqRewriteS_is (A B : Option Addr) (n m c d : Nat) (es gs : List ERewrite) (xs : List DRewrite) (w : World) (ha : Args 2 w A n (rows ERewrite.vs es)) (hra : RdsRewrite w es) (hb : Args 2 w B m (rows ERewrite.vs gs)) (hrb : RdsRewrite w gs) (he : es.map (·.d) = xs) (hg : gs.map (·.d) = xs) (hn : n ≤ 4194304) (hm : m ≤ 4194304) (hx : sumRewrite xs ≤ 4194304) :
    Calls Try.prog 21 #[.slice A n c, .slice B m d] w fun z w' => z = .returned (.bool true) ∧ Below w.heap.size w w' := by
  refine (eqRewriteS_any A B n m c d es gs w ha hra hb hrb hn hm (by rw [he]; exact hx) (by rw [hg]; exact hx)).mono ?_
  rintro z w' ⟨rfl, hb⟩
  exact ⟨ret_bool (by rw [he, hg]; simp), hb⟩

theorem widSumRewrite_of {es : List ERewrite} {xs : List DRewrite} (h : es.map (·.d) = xs) : widSum widRewrite es = 0 * xs.length + sumRewrite xs * 1 := by
  subst h
  induction es with
  | nil => simp [widSum, sumRewrite]
  | cons e l ih =>
    simp only [widSum, sumRewrite, widRewrite, List.map_cons, List.sum_cons, List.length_cons] at ih ⊢
    rw [ih]
    omega
theorem lensRewrite {es : List ERewrite} {xs : List DRewrite} (h : es.map (·.d) = xs) {m : Nat} (hm : sumRewrite xs ≤ m) : ∀ e ∈ es, wlRewrite e.d ≤ m := by
  intro e he
  have h1 : e.d ∈ xs := by rw [← h]; exact List.mem_map_of_mem he
  obtain ⟨k, hk⟩ := List.getElem?_of_mem h1
  exact Nat.le_trans (sumRewrite_at hk) hm

end Go.Proofs.Ytjakgeblmkdbpaa
