/- Loop programs of recursive functions, the reference's side: words, the kinds 0, 1, 2. -/
import Derived.Test.YtfmfpknigafnoaaLpPlain
import Derived.Test.YtfmfpknigafnoaaFSpec3
import Derived.Test.YtfmfpknigafnoaaHelpLoop
import Derived.Test.YtfmfpknigafnoaaAppAt
import Derived.Deep.RegionLaw
namespace Go.Proofs.Ytfmfpknigafnoaa
open Go.RowKit
set_option linter.all false

def part3 (T : List R3) (k m : Nat) : List R3 := (T.drop k).take m
theorem part3_cons {T : List R3} {k m : Nat} {x : R3} (hx : T[k]? = some x) : part3 T k (m + 1) = x :: part3 T (k + 1) m := by unfold part3; rw [drop_at hx, List.take_succ_cons]
theorem part3_take {T : List R3} {k m q : Nat} (h : q ≤ m) : (part3 T k m).take q = part3 T k q := by unfold part3; rw [List.take_take, Nat.min_eq_left h]
theorem part3_drop {T : List R3} {k m q : Nat} : (part3 T k m).drop q = part3 T (k + q) (m - q) := by unfold part3; rw [List.drop_take, List.drop_drop]
theorem part3_len {T : List R3} {k m : Nat} (h : k + m ≤ T.length) : (part3 T k m).length = m := by unfold part3; rw [List.length_take, List.length_drop]; omega
theorem tPosAt_ext {α : Type} (fol : α → Nat) (l : List α) : ∀ a k q m : Nat, tPosAt fol a k (l.take m) = ((k + q : Nat) : Int) → tPosAt fol a k l = ((k + q : Nat) : Int) := by
  induction l with
  | nil => intro a k q m h; rw [List.take_nil] at h; exact h
  | cons x l ih =>
    intro a k q m h
    cases a with
    | zero => rw [tPosAt_zero] at h ⊢; exact h
    | succ a =>
      cases m with
      | zero => rw [List.take_zero, tPosAt_none] at h; omega
      | succ m =>
        rw [List.take_succ_cons, tPosAt_succ] at h
        rw [tPosAt_succ]
        have hq : 1 ≤ q := by
          rcases tPosAt_shift fol (l.take m) (a + fol x) (k + 1) 0 with ⟨h1, _⟩ | ⟨q', h1, _⟩
          · rw [h1] at h; omega
          · rw [h1] at h; omega
        obtain ⟨q', rfl⟩ : ∃ q', q = q' + 1 := ⟨q - 1, by omega⟩
        rw [ih _ (k + 1) q' m (by rw [h]; congr 1; omega)]
        congr 1; omega
theorem poss_cut (T : List R3) : ∀ (st : List Int) (k m : Nat), k + m ≤ T.length → fRun st (part3 T k m) = some [] → ∀ (i : Nat), i < st.length → ∃ p len, (poss st.length k (T.drop k))[i]? = some p ∧ (cut st.length (part3 T k m))[i]? = some (part3 T p len) ∧ p + len ≤ k + m ∧ k ≤ p := by
  intro st
  induction st with
  | nil => intro k m _ _ i hi; simp at hi
  | cons a st ih =>
    intro k m hk h i hi
    obtain ⟨h1, h2, h3, h4, h5, h6⟩ := fRun_one h
    rw [part3_len hk] at h1
    have he : (tPosAt fMany 1 0 (T.drop k)).toNat = endL (part3 T k m) := by
      have := tPosAt_ext fMany (T.drop k) 1 0 (endL (part3 T k m)) m (by rw [Nat.zero_add]; exact h3)
      rw [this, Nat.zero_add]; simp
    rw [List.length_cons, poss, cut, he, List.drop_drop]
    rw [part3_drop] at h6
    cases i with
    | zero => exact ⟨k, endL (part3 T k m), rfl, by rw [List.getElem?_cons_zero, part3_take h1], by omega, Nat.le_refl _⟩
    | succ i =>
      rw [List.getElem?_cons_succ, List.getElem?_cons_succ, part3_drop]
      obtain ⟨p, len, g1, g2, g3, g4⟩ := ih (k + endL (part3 T k m)) (m - endL (part3 T k m)) (by omega) h6 i (by simpa using hi)
      exact ⟨p, len, g1, g2, by omega, by omega⟩

/-- What a way to the loop program gives. -/
def LpOk (w : World) (cs : List R3) (e : Ending) (w' : World) : Prop := (∃ v, e = .returned v ∧ w'.ownsRow w.heap.size 128 3 v cs.length (rows R3.vs cs)) ∧ Below w.heap.size w w'
theorem one_rows_R3 (xs : List R3) : ∀ u ∈ rows R3.vs xs, u.oneCell' = true := by
  intro u hu
  simp only [rows, List.mem_flatMap, R3.vs] at hu
  obtain ⟨x, _, hu⟩ := hu
  simp at hu
  rcases hu with rfl | rfl | rfl <;> rfl
/-- The induction of the reference's way. -/
def LpIH (b off n c : Nat) (T : List R3) (N : Nat) : Prop := ∀ (k m : Nat) (kk : Int) (A : Option Addr) (na ca : Nat) (xs : List Int) (out v : Int) (w : World), kk = (k : Int) → m ≤ N → k + m ≤ n → Sl w b off (rows R3.vs T) → Src 1 w (.slice A na ca) na (xs.map (Value.int .i64)) → na ≤ ca → na ≤ 10 →
  fRun [(xs.length : Int)] (part3 T k m) = some [] → 0 ≤ v → v + 4 * m ≤ 1000 → Calls Try.prog 134 #[.slice (some ⟨b, off, none⟩) n c, .int .i64 kk, .slice A na ca, .int .i64 out, .int .i64 v] w (LpOk w (lpF N (part3 T k m) xs out v))
/-- A function's nodes, valid as a whole. -/
structure FAll (T : List R3) (n : Nat) : Prop where
  len : T.length = n
  le : n ≤ 60
  ok : T.all fOkN = true
  fits : fit fMany 1 T = true

/-- Behind l11Parts: the box of the node, the places of the parts. -/
structure FSt (w0 : World) (bx g : Nat) (x : R3) (ps : List Nat) (w1 : World) : Prop where
  c0 : w1.cell? ⟨bx, 0, none⟩ = some (.int .i64 x.a)
  c1 : w1.cell? ⟨bx, 1, none⟩ = some (.int .i64 x.b)
  c2 : w1.cell? ⟨bx, 2, none⟩ = some (.int .i64 x.c)
  row : Sl w1 g 0 (ps.map fun p : Nat => Value.int .i64 p)
theorem FSt.below {w0 w1 w2 : World} {bx g : Nat} {x : R3} {ps : List Nat} (h : FSt w0 bx g x ps w1) (hb : Below w1.heap.size w1 w2) : FSt w0 bx g x ps w2 :=
  ⟨cell_step h.c0 hb, cell_step h.c1 hb, cell_step h.c2 hb, h.row.below' hb⟩
theorem FSt.at {w0 w1 : World} {bx g : Nat} {x : R3} {ps : List Nat} (h : FSt w0 bx g x ps w1) {j p : Nat} (hp : ps[j]? = some p) : w1.cell? ⟨g, j, none⟩ = some (.int .i64 (p : Int)) := by
  have := h.row.at (j := j) (u := .int .i64 (p : Int)) (by rw [List.getElem?_map, hp]; rfl)
  rw [Nat.zero_add] at this; exact this

set_option maxRecDepth 100000 in
set_option maxHeartbeats 1000000 in
theorem l17Simple_any (b off n c : Nat) (T : List R3) (hT : FAll T n) (N k m : Nat) (x : R3) (hx : T[k]? = some x) (A : Option Addr) (na ca : Nat) (xs : List Int) (out v : Int) (w : World) (hs : Sl w b off (rows R3.vs T)) (ha : Arg w A na (xs.map (Value.int .i64)))
    (hb : x.b = (xs.length : Int)) (hok : fOkN x = true) (hk : x.a = 0 ∨ x.a = 1 ∨ x.a = 2) (l : List R3) :
    Calls Try.prog 134 #[.slice (some ⟨b, off, none⟩) n c, .int .i64 k, .slice A na ca, .int .i64 out, .int .i64 v] w (LpOk w (lpF (N + 1) (x :: l) xs out v)) := by
  have HL := Lib.hid hT.len
  have HX := Lib.hid hx
  have hn60 := hT.le
  have hlt : k < n := by have := (List.getElem?_eq_some_iff.1 hx).1; have := hT.len; omega
  have hna : xs.length = na := by have := ha.1; simpa using this
  have HNA := Lib.hid hna
  have hcs := (fOkN_iff x).1 hok
  obtain ⟨bb, hbb⟩ := fit_next hT.fits hx
  obtain ⟨p0, p1, p2⟩ := hs.rec3 HX.out
  obtain ⟨w0, HW0, B0, y0⟩ := al1 w (.cells #[.int .i64 x.a, .int .i64 x.b, .int .i64 x.c] 115)
  have n0 : w0.cell? ⟨w.heap.size, 0, none⟩ = some (.int .i64 x.a) := by rw [cell_of_heap y0]; rfl
  have n2 : w0.cell? ⟨w.heap.size, 2, none⟩ = some (.int .i64 x.c) := by rw [cell_of_heap y0]; rfl
  have HPA := Lib.hid (l11Parts_any (some ⟨b, off, none⟩) n c k bb k rfl T x hx hT.ok hbb w0 (Args.of_sl (hs.below' B0) (by rw [rows_len R3.vs_len, HL.out])) (by omega))
  have HB0 := Lib.hid B0
  have hk0 : (0 : Int) ≤ (k : Int) := by omega
  have hkn : (k : Int) < (n : Int) := by omega
  rcases hk with h0 | h0 | h0
  · have HR := Lib.hid (lp0 (N := N) (l := l) (xs := xs) (out := out) (v := v) h0)
    have e0 : (x.a == 0) = true := by rw [h0]; rfl
    clear hx hok hb hcs hbb h0 hT hna y0 B0
    go_enter Try.func134, Try.ntmps134
    go_wp2_with fail
    rw [← HW0.out]
    refine HPA.out.mono ?_
    rintro e w1 ⟨v1, rfl, own1, b1⟩
    obtain ⟨A1, c1, rfl⟩ := own_form own1
    have q0 := cell_step (by exact n0) b1
    have B1 := below_step HB0.out b1
    clear own1 b1 p0 p1 p2
    go_wp2
    go_ret
    rw [HR.out]
    exact ⟨⟨_, rfl, own_base (own_laid w1 128 3 1 #[.int .i64 0, .int .i64 out, .int .i64 0] rfl (by simp [maxLen])) B1.size⟩, below_step B1 (laid_below _ _)⟩
  · have HR := Lib.hid (lp1 (N := N) (l := l) (xs := xs) (out := out) (v := v) h0)
    have e0 : (x.a == 0) = false := by rw [h0]; rfl
    have e1 : (x.a == 1) = true := by rw [h0]; rfl
    have hna1 : 0 < na := by omega
    obtain ⟨ba, offa, rfl, hsa⟩ := ha.sl hna1
    obtain ⟨z, HZ, hz⟩ := map_at (Value.int .i64) xs (k := 0) (by omega)
    have HG : Hid (xs.getD 0 0 = z) := getD_at HZ.out
    have ha1 : (0 : Int) < (na : Int) := by omega
    clear hx hok hb hcs hbb h0 hT hna y0 B0
    go_enter Try.func134, Try.ntmps134
    go_wp2_with fail
    rw [← HW0.out]
    refine HPA.out.mono ?_
    rintro e w1 ⟨v1, rfl, own1, b1⟩
    obtain ⟨A1, c1, rfl⟩ := own_form own1
    have q0 := cell_step (by exact n0) b1
    have B1 := below_step HB0.out b1
    have r0 := (hsa.below' B1).at hz
    rw [Nat.add_zero] at r0
    clear own1 b1 p0 p1 p2 hz
    go_wp2
    go_ret
    rw [HR.out, HG.out]
    exact ⟨⟨_, rfl, own_base (own_laid w1 128 3 2 #[.int .i64 2, .int .i64 out, .int .i64 z, .int .i64 1, .int .i64 out, .int .i64 0] rfl (by simp [maxLen])) B1.size⟩, below_step B1 (laid_below _ _)⟩
  · have HR := Lib.hid (lp2 (N := N) (l := l) (xs := xs) (out := out) (v := v) h0)
    have e0 : (x.a == 0) = false := by rw [h0]; rfl
    have e1 : (x.a == 1) = false := by rw [h0]; rfl
    have e2 : (x.a == 2) = true := by rw [h0]; rfl
    obtain ⟨ic, hic⟩ : ∃ ic : Nat, x.c = (ic : Int) := ⟨x.c.toNat, by omega⟩
    have hna1 : ic < na := by omega
    obtain ⟨ba, offa, rfl, hsa⟩ := ha.sl hna1
    obtain ⟨z, HZ, hz⟩ := map_at (Value.int .i64) xs (k := ic) (by omega)
    have HG : Hid (xs.getD x.c.toNat 0 = z) := by unfold Hid; rw [hic, Int.toNat_natCast]; exact getD_at HZ.out
    have ha0 : (0 : Int) ≤ (ic : Int) := by omega
    have ha1 : (ic : Int) < (na : Int) := by omega
    rw [hic] at n2 HW0 p2
    clear hx hok hb hcs hbb h0 hT hna y0 B0 hic
    go_enter Try.func134, Try.ntmps134
    go_wp2_with fail
    rw [← HW0.out]
    refine HPA.out.mono ?_
    rintro e w1 ⟨v1, rfl, own1, b1⟩
    obtain ⟨A1, c1, rfl⟩ := own_form own1
    have q0 := cell_step (by exact n0) b1
    have q2 := cell_step (by exact n2) b1
    have B1 := below_step HB0.out b1
    have r0 := (hsa.below' B1).at hz
    clear own1 b1 p0 p1 p2 hz
    go_wp2
    go_ret
    rw [HR.out, HG.out]
    exact ⟨⟨_, rfl, own_base (own_laid w1 128 3 1 #[.int .i64 2, .int .i64 out, .int .i64 z] rfl (by simp [maxLen])) B1.size⟩, below_step B1 (laid_below _ _)⟩
end Go.Proofs.Ytfmfpknigafnoaa
