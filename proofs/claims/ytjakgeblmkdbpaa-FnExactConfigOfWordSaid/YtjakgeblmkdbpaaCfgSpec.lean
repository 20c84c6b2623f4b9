/- What a word shows, by the reference. -/
import Derived.Test.YtjakgeblmkdbpaaCfgImpl
import Derived.Deep.DeepCutAuto
namespace Go.Proofs.Ytjakgeblmkdbpaa
open Go.RowKit
set_option linter.all false

theorem splitS_at {S : Int} : ∀ {cs : List Int} {k : Nat} {a : Int}, (∀ (i : Nat) x, i < k → cs[i]? = some x → x < S) → cs[k]? = some a → S ≤ a → splitS S cs = some (cs.take k, a, cs.drop (k + 1)) := by
  intro cs
  induction cs with
  | nil => intro k a _ h _; simp at h
  | cons y ys ih =>
    intro k a h1 h2 h3
    cases k with
    | zero =>
      simp at h2; subst h2
      rw [splitS, if_pos h3]; rfl
    | succ k =>
      have hy := h1 0 y (by omega) rfl
      have := ih (k := k) (a := a) (fun i x hi hx => h1 (i + 1) x (by omega) (by simpa using hx)) (by simpa using h2) h3
      rw [splitS, if_neg (by omega), this]; rfl
theorem splitS_blank {S : Int} : ∀ {cs : List Int}, (∀ (i : Nat) x, cs[i]? = some x → x < S) → splitS S cs = none := by
  intro cs
  induction cs with
  | nil => intro _; rfl
  | cons y ys ih =>
    intro h
    have hy := h 0 y rfl
    rw [splitS, if_neg (by omega), ih fun i x hx => h (i + 1) x (by simpa using hx)]
theorem at_alloc {W0 W : World} {o : Obj} (h : Below (W0.alloc o).heap.size (W0.alloc o) W) : W.heap[W0.heap.size]? = some o :=
  (h.block _ (heap_lt (heap_alloc_new W0 o))).trans (heap_alloc_new W0 o)
theorem cell_far1 {w : World} {p q : Addr} {u v : Value} (h : w.cell? q = some v) (hne : q.block ≠ p.block) : (w.setCell p u).cell? q = some v := by
  unfold World.cell? at h ⊢
  rw [Below.heap_setCell w p u q.block hne]
  exact h
theorem size_of {w w' : World} (h : Below w.heap.size w w') : w.heap.size ≤ w'.heap.size := h.size
theorem cell_far3 {w wX : World} {b o T : Nat} {u x y z : Value} (h : w.cell? ⟨b, o, none⟩ = some u) (hb : Below w.heap.size w wX) (hT : w.heap.size ≤ T) : (((wX.setCell ⟨T, 0, none⟩ x).setCell ⟨T, 1, none⟩ y).setCell ⟨T, 2, none⟩ z).cell? ⟨b, o, none⟩ = some u := by
  have hlt := World.block_lt_of_cell? w _ h
  have hne : b ≠ T := Nat.ne_of_lt (Nat.lt_of_lt_of_le hlt hT)
  exact cell_far1 (cell_far1 (cell_far1 (cell_step h hb) hne) hne) hne
theorem cells_part {xs : List Int} {k : Nat} : (cellsOf xs).take k = (xs.drop 1).take (min k (xs.length - 2)) ∧ (cellsOf xs).drop k = (xs.drop (1 + k)).take (xs.length - 2 - k) := by
  unfold cellsOf
  refine ⟨by rw [List.take_take], ?_⟩
  rw [List.drop_take, List.drop_drop]
theorem cfgW_of {S Q a : Int} {xs l r : List Int} (h : showW S (S + Q) xs = some (a - S, l, r)) (ha : S ≤ a ∧ a < S + Q) (hl : ∀ x ∈ l, 0 ≤ x ∧ x ≤ S - 1) (hr : ∀ x ∈ r, 0 ≤ x ∧ x ≤ S - 1) :
    goodB S Q (a - S) (trimL l.reverse) (trimL r) = decide ((cfgW S (S + Q) xs).2 = 0) ∧ ((cfgW S (S + Q) xs).2 = 0 → (cfgW S (S + Q) xs).1 = trimC (a - S) l r) := by
  have h1 : inB (a - S) 0 (Q - 1) = true := by rw [inB_iff]; omega
  have h2 : cellsB S (trimL l.reverse) = decide ((trimL l.reverse).length ≤ 200) := cellsB_trim fun x hx => hl x (by simpa using hx)
  have h3 : cellsB S (trimL r) = decide ((trimL r).length ≤ 200) := cellsB_trim hr
  rw [goodB, h1, h2, h3, Bool.true_and, cfgW_some h]
  refine ⟨?_, fun h => ?_⟩
  · change roomC l r = _
    cases roomC l r <;> rfl
  · split at h
    · rename_i hr; rw [if_pos hr]
    · cases h
/-- l16Config's answer. -/
def L16Res (B : Nat) (R : DConfig × Int) (e : Ending) (W : World) : Prop := ∃ x0 A1 n1 c1 A2 n2 c2, e = .returned (.tuple #[.agg #[.int .i64 x0, .slice A1 n1 c1, .slice A2 n2 c2], .bool (decide (R.2 = 0))]) ∧
  (R.2 = 0 → x0 = R.1.f0 ∧ W.ownsRow B 2 1 (.slice A1 n1 c1) R.1.f1.length (R.1.f1.map (Value.int .i64)) ∧ W.ownsRow B 2 1 (.slice A2 n2 c2) R.1.f2.length (R.1.f2.map (Value.int .i64)) ∧ ((Value.slice A1 n1 c1).ownBlock = none ∨ (Value.slice A1 n1 c1).ownBlock ≠ (Value.slice A2 n2 c2).ownBlock))
theorem L16Res.none {B : Nat} {R : DConfig × Int} (h : R = (⟨0, [], []⟩, 3)) (W : World) : L16Res B R (.returned (.tuple #[.agg #[.int .i64 0, .slice Option.none 0 0, .slice Option.none 0 0], .bool false])) W := by
  subst h; exact ⟨0, Option.none, 0, 0, Option.none, 0, 0, rfl, fun h => by cases h⟩

set_option maxRecDepth 100000 in
set_option maxHeartbeats 20000000 in
theorem l16Config_any (gm : Nat) (S Q : Int) (b o n c : Nat) (xs : List Int) (w : World) (m0 : w.cell? ⟨gm, 0, none⟩ = some (.int .i64 S)) (m1 : w.cell? ⟨gm, 1, none⟩ = some (.int .i64 Q)) (hs : Sl w b o (xs.map (Value.int .i64))) (hl : xs.length = n) (hn : n ≤ 1000) (hc : n ≤ c) (hS : 2 ≤ S ∧ S ≤ 6) (hQ : 1 ≤ Q ∧ Q ≤ 1000) (hx : ∀ x ∈ xs, 0 ≤ x ∧ x ≤ 9) :
    Calls Try.prog 69 #[.pointer (some ⟨gm, 0, none⟩), .slice (some ⟨b, o, none⟩) n c] w fun e w' => L16Res w.heap.size (cfgW S (S + Q) xs) e w' ∧ Below w.heap.size w w' := by
  obtain ⟨w1, HW1, B1, yb⟩ := al1 w (.cells #[.int .i64 0, .slice none 0 0, .slice none 0 0] 36)
  have l0 := cell_step (by exact m0) B1
  have l1 := cell_step (by exact m1) B1
  have hs1 := hs.below' B1
  have hblt : b < w.heap.size := hs.lt
  have HGM := Lib.hid (World.block_lt_of_cell? w _ m0)
  have HL := Lib.hid hl; have HX := Lib.hid hx
  have HB := Lib.hid (l16Border_is gm S Q w1 l0 l1 (by omega) (by omega))
  have hy : ∀ q, (w1.drewN q).heap[w.heap.size]? = some (.cells #[.int .i64 0, .slice none 0 0, .slice none 0 0] 36 (0, 0)) := fun q => yb
  have YB := Lib.hid hy
  clear yb hs hx m0 m1 hy
  have hfin : ∀ q : Nat, Below w.heap.size w ((((w1.drewN q).setCell ⟨w.heap.size, 0, none⟩ (.int .i64 0)).setCell ⟨w.heap.size, 1, none⟩ (.slice none 0 0)).setCell ⟨w.heap.size, 2, none⟩ (.slice none 0 0)) :=
    fun q => below_setC3 (below_drewN B1 q) (Nat.le_refl _) _ _ _
  have HFIN := Lib.hid hfin; clear hfin
  go_enter Try.func69, Try.ntmps69
  go_wp2_with fail
  rw [← HW1.out]
  refine HB.out.mono ?_
  rintro e w2 ⟨rfl, q, rfl⟩
  by_cases h3 : n < 3
  · have HF : Hid (cfgW S (S + Q) xs = (⟨0, [], []⟩, 3)) := cfgW_none (showW_front (by unfold frontB; rw [hl, decide_eq_false (by omega)]; rfl))
    have yc := YB.out q
    have y0 : (w1.drewN q).cell? ⟨w.heap.size, 0, none⟩ = some (.int .i64 0) := by rw [cell_of_heap yc]; rfl
    have y1 : (w1.drewN q).cell? ⟨w.heap.size, 1, none⟩ = some (.slice none 0 0) := by rw [cell_of_heap yc]; rfl
    have y2 : (w1.drewN q).cell? ⟨w.heap.size, 2, none⟩ = some (.slice none 0 0) := by rw [cell_of_heap yc]; rfl
    have z0 : (w1.drewN q).frozen? ⟨w.heap.size, 0, none⟩ = false := frozen_of_heap yc
    have z1 : (w1.drewN q).frozen? ⟨w.heap.size, 1, none⟩ = false := frozen_of_heap yc
    have z2 : (w1.drewN q).frozen? ⟨w.heap.size, 2, none⟩ = false := frozen_of_heap yc
    have BQ := HFIN.out q
    have hb1 : decide ((n : Int) < 3) = true := decide_eq_true (by omega)
    clear yc l0 l1 hs1
    generalize w1.drewN q = wq at *
    go_wp2_with fail
    refine bodyPost_ret (v := .tuple #[.agg #[.int .i64 0, .slice none 0 0, .slice none 0 0], .bool false]) (by simp [results, Try.results69, go_sem, y0, y1, y2]) rfl ?_
    exact ⟨L16Res.none HF.out _, BQ⟩
  obtain ⟨p, rfl⟩ : ∃ p, n = p + 1 := ⟨n - 1, by omega⟩
  obtain ⟨m, hnm⟩ : ∃ m, p = m + 1 := ⟨p - 1, by omega⟩
  obtain ⟨a0, HA0, ha0⟩ := map_at (Value.int .i64) xs (k := 0) (by omega)
  obtain ⟨aN, HAN, haN⟩ := map_at (Value.int .i64) xs (k := p) (by omega)
  have c0 : (w1.drewN q).cell? ⟨b, o, none⟩ = some (.int .i64 a0) := by have := hs1.at ha0; simpa using this
  have cN : (w1.drewN q).cell? ⟨b, o + p, none⟩ = some (.int .i64 aN) := hs1.at haN
  have hi0 : (0 : Int) ≤ (p : Int) := by omega
  have hiN : (p : Int) < ((p + 1 : Nat) : Int) := by omega
  have hn0 : 0 < p + 1 := by omega
  have hpp : p < p + 1 := by omega
  have hb1 : decide (((p + 1 : Nat) : Int) < 3) = false := decide_eq_false (by omega)
  have hb1' : ¬ ((p : Int) + 1 < 3) := by omega
  have hm1000 : 1 ≤ m ∧ m ≤ 1000 := by omega
  have HFR : Hid (frontB (S + Q) xs = (decide (a0 = S + Q) && decide (aN = S + Q))) := by
    unfold Hid frontB; rw [hl, decide_eq_true (by omega), Bool.true_and, getD_at HA0.out, Nat.add_sub_cancel, getD_at HAN.out]
  obtain ⟨u0, e0⟩ : ∃ u, (a0 == S + Q) = u := ⟨_, rfl⟩
  obtain ⟨uN, eN⟩ : ∃ u, (aN == S + Q) = u := ⟨_, rfl⟩
  have e0' : (a0 != S + Q) = !u0 := by rw [← e0]; rfl
  have eN' : (aN != S + Q) = !uN := by rw [← eN]; rfl
  have HFR2 : Hid (frontB (S + Q) xs = (u0 && uN)) := by unfold Hid; rw [HFR.out, ← e0, ← eN]; rfl
  have hcl : (cellsOf xs).length = m := by rw [cellsOf_len (by omega), hl, hnm]; omega
  have HCL := Lib.hid hcl
  have HNM := Lib.hid hnm
  clear ha0 haN h3 hl hcl hnm
  rcases Bool.eq_false_or_eq_true (u0 && uN) with hu | hu
  rotate_left
  · have HF : Hid (cfgW S (S + Q) xs = (⟨0, [], []⟩, 3)) := cfgW_none (showW_front (by rw [HFR2.out, hu]))
    have yc := YB.out q
    have y0 : (w1.drewN q).cell? ⟨w.heap.size, 0, none⟩ = some (.int .i64 0) := by rw [cell_of_heap yc]; rfl
    have y1 : (w1.drewN q).cell? ⟨w.heap.size, 1, none⟩ = some (.slice none 0 0) := by rw [cell_of_heap yc]; rfl
    have y2 : (w1.drewN q).cell? ⟨w.heap.size, 2, none⟩ = some (.slice none 0 0) := by rw [cell_of_heap yc]; rfl
    have z0 : (w1.drewN q).frozen? ⟨w.heap.size, 0, none⟩ = false := frozen_of_heap yc
    have z1 : (w1.drewN q).frozen? ⟨w.heap.size, 1, none⟩ = false := frozen_of_heap yc
    have z2 : (w1.drewN q).frozen? ⟨w.heap.size, 2, none⟩ = false := frozen_of_heap yc
    have BQ := HFIN.out q
    clear yc l0 l1 hs1
    generalize w1.drewN q = wq at *
    cases u0
    · go_wp2_with fail
      refine bodyPost_ret (v := .tuple #[.agg #[.int .i64 0, .slice none 0 0, .slice none 0 0], .bool false]) (by simp [results, Try.results69, go_sem, y0, y1, y2]) rfl ?_
      exact ⟨L16Res.none HF.out _, BQ⟩
    · cases uN
      · go_wp2_with fail
        refine bodyPost_ret (v := .tuple #[.agg #[.int .i64 0, .slice none 0 0, .slice none 0 0], .bool false]) (by simp [results, Try.results69, go_sem, y0, y1, y2]) rfl ?_
        exact ⟨L16Res.none HF.out _, BQ⟩
      · exact absurd hu (by decide)
  have hu2 : u0 = true ∧ uN = true := by rw [Bool.and_eq_true] at hu; exact hu
  have HF0 : Hid (frontB (S + Q) xs = true) := by unfold Hid; rw [HFR2.out, hu]
  obtain ⟨rfl, rfl⟩ := hu2
  clear hu hb1
  have HXC : Hid (∀ t, 1 ≤ t → t < p → (cellsOf xs)[t - 1]? = xs[t]?) := by
    intro t h1 h2
    rw [cellsOf_at (by have := HL.out; omega), show t - 1 + 1 = t by omega]
  have L0 := Lib.hid l0; have L1 := Lib.hid l1; have HS1 := Lib.hid hs1
  go_wp2_with fail
  clear c0 cN e0 e0' eN eN'
  go_loopw [8, 9] (fun at' i wr => ∃ (t q : Nat) (z : Int), 1 ≤ t ∧ t ≤ p ∧ i = .int .i64 t ∧ at' = .int .i64 z ∧ wr = w1.drewN q ∧ ((Hid (z = -1) ∧ Hid (∀ (j : Nat) x, 1 ≤ j → j < t → xs[j]? = some x → x < S)) ∨ (∃ (k : Nat) (a : Int), Hid (z = (k : Int)) ∧ Hid (1 ≤ k ∧ k < t) ∧ Hid (xs[k]? = some a) ∧ Hid (S ≤ a ∧ a < S + Q) ∧ Hid (∀ (j : Nat) x, 1 ≤ j → j < t → j ≠ k → xs[j]? = some x → x < S)))) (fun _ i _ => p - (intOf i).toNat)
  case atStart => exact ⟨1, q, -1, Nat.le_refl _, by omega, rfl, rfl, rfl, .inl ⟨rfl, by intro j x h1 h2; omega⟩⟩
  case round =>
    obtain ⟨t, q3, z, ht1, htp, rfl, rfl, rfl, hst⟩ := hrel
    clear l0 l1 hs1
    have l0 := L0.out
    by_cases hlt : t < p
    · obtain ⟨x, HXT, hxt⟩ := map_at (Value.int .i64) xs (k := t) (by have := HL.out; omega)
      have hcx := HS1.out.at hxt
      have ht0 : (0 : Int) ≤ (t : Int) := by omega
      have htn : (t : Int) < ((p + 1 : Nat) : Int) := by omega
      have htn2 : t < p + 1 := by omega
      have htI : (t : Int) < (p : Int) := by omega
      clear hxt
      by_cases hSx : S ≤ x
      · have hbS : decide (S ≤ x) = true := decide_eq_true hSx
        rcases hst with ⟨hz, HA⟩ | ⟨k, a, hz, hk, hka, hSa, HB2⟩
        · have hz2 := hz.out
          subst hz2
          have hbz : decide ((0 : Int) ≤ -1) = false := rfl
          by_cases hBx : S + Q ≤ x
          · have hbB : decide (S + Q ≤ x) = true := decide_eq_true hBx
            have HF : Hid (cfgW S (S + Q) xs = (⟨0, [], []⟩, 3)) := by
              refine cfgW_none ?_
              have hsp := splitS_at (S := S) (cs := cellsOf xs) (k := t - 1) (a := x) (fun j y hj hy => HA.out (j + 1) y (by omega) (by omega) (by rw [← HXC.out (j + 1) (by omega) (by omega)]; exact hy)) (by rw [HXC.out t ht1 hlt]; exact HXT.out) hSx
              rw [showW_split HF0.out hsp, decide_eq_false (by omega)]; rfl
            clear hSx hBx HA hz
            go_wp2_with fail
            go_quiet (fail)
            rw [World.drewN_drewN]
            have yc := YB.out (q3 + nq)
            have y0 : (w1.drewN ((q3 + nq))).cell? ⟨w.heap.size, 0, none⟩ = some (.int .i64 0) := by rw [cell_of_heap yc]; rfl
            have y1 : (w1.drewN ((q3 + nq))).cell? ⟨w.heap.size, 1, none⟩ = some (.slice none 0 0) := by rw [cell_of_heap yc]; rfl
            have y2 : (w1.drewN ((q3 + nq))).cell? ⟨w.heap.size, 2, none⟩ = some (.slice none 0 0) := by rw [cell_of_heap yc]; rfl
            have z0 : (w1.drewN ((q3 + nq))).frozen? ⟨w.heap.size, 0, none⟩ = false := frozen_of_heap yc
            have z1 : (w1.drewN ((q3 + nq))).frozen? ⟨w.heap.size, 1, none⟩ = false := frozen_of_heap yc
            have z2 : (w1.drewN ((q3 + nq))).frozen? ⟨w.heap.size, 2, none⟩ = false := frozen_of_heap yc
            have BQ := HFIN.out (q3 + nq)
            clear yc
            clear l0 hcx
            generalize w1.drewN (q3 + nq) = wq at *
            go_wp2_with fail
            refine bodyPost_ret (v := .tuple #[.agg #[.int .i64 0, .slice none 0 0, .slice none 0 0], .bool false]) (by simp [results, Try.results69, go_sem, y0, y1, y2]) rfl ?_
            exact ⟨L16Res.none HF.out _, BQ⟩
          · have hbB : decide (S + Q ≤ x) = false := decide_eq_false hBx
            clear hSx hz
            go_wp2_with fail
            go_quiet (fail)
            go_wp2_with fail
            go_quiet (fail)
            go_wp2_with fail
            go_roundw
            case rel => exact ⟨t + 1, _, (t : Int), by omega, by omega, by go_num, rfl, (by first | rfl | (rw [World.drewN_drewN, World.drewN_drewN])), .inr ⟨t, x, rfl, ⟨ht1, by omega⟩, HXT, ⟨of_decide_eq_true hbS, by omega⟩, fun j y h1 h2 h3 hy => HA.out j y h1 (by omega) hy⟩⟩
            case measure => simp [intOf]; omega
        · have hz2 := hz.out
          have hk2 := hk.out
          have hbz : decide ((0 : Int) ≤ z) = true := decide_eq_true (by omega)
          have HF : Hid (cfgW S (S + Q) xs = (⟨0, [], []⟩, 3)) := by
            refine cfgW_none ?_
            have hsp := splitS_at (S := S) (cs := cellsOf xs) (k := k - 1) (a := a) (fun j y hj hy => HB2.out (j + 1) y (by omega) (by omega) (by omega) (by rw [← HXC.out (j + 1) (by omega) (by omega)]; exact hy)) (by rw [HXC.out k hk2.1 (by omega)]; exact hka.out) hSa.out.1
            have hno : ((cellsOf xs).drop (k - 1 + 1)).all (inB · 0 (S - 1)) = false := by
              rw [Bool.eq_false_iff]; intro hall
              have hmem : x ∈ (cellsOf xs).drop (k - 1 + 1) := by
                have h1 : ((cellsOf xs).drop (k - 1 + 1))[t - 1 - (k - 1 + 1)]? = some x := by
                  rw [List.getElem?_drop, show k - 1 + 1 + (t - 1 - (k - 1 + 1)) = t - 1 by omega, HXC.out t ht1 hlt]; exact HXT.out
                exact List.mem_of_getElem? h1
              have := (inB_iff _ _ _).1 (List.all_eq_true.1 hall x hmem)
              omega
            rw [showW_split HF0.out hsp, hno, Bool.and_false]; rfl
          clear hSx hz hz2 hk hk2
          go_wp2_with fail
          go_quiet (fail)
          rw [World.drewN_drewN]
          have yc := YB.out (q3 + nq)
          have y0 : (w1.drewN ((q3 + nq))).cell? ⟨w.heap.size, 0, none⟩ = some (.int .i64 0) := by rw [cell_of_heap yc]; rfl
          have y1 : (w1.drewN ((q3 + nq))).cell? ⟨w.heap.size, 1, none⟩ = some (.slice none 0 0) := by rw [cell_of_heap yc]; rfl
          have y2 : (w1.drewN ((q3 + nq))).cell? ⟨w.heap.size, 2, none⟩ = some (.slice none 0 0) := by rw [cell_of_heap yc]; rfl
          have z0 : (w1.drewN ((q3 + nq))).frozen? ⟨w.heap.size, 0, none⟩ = false := frozen_of_heap yc
          have z1 : (w1.drewN ((q3 + nq))).frozen? ⟨w.heap.size, 1, none⟩ = false := frozen_of_heap yc
          have z2 : (w1.drewN ((q3 + nq))).frozen? ⟨w.heap.size, 2, none⟩ = false := frozen_of_heap yc
          have BQ := HFIN.out (q3 + nq)
          clear yc
          clear l0 hcx
          generalize w1.drewN (q3 + nq) = wq at *
          go_wp2_with fail
          refine bodyPost_ret (v := .tuple #[.agg #[.int .i64 0, .slice none 0 0, .slice none 0 0], .bool false]) (by simp [results, Try.results69, go_sem, y0, y1, y2]) rfl ?_
          exact ⟨L16Res.none HF.out _, BQ⟩
      · have hbS : decide (S ≤ x) = false := decide_eq_false hSx
        have HSX : Hid (x < S) := by unfold Hid; omega
        clear hSx
        go_wp2_with fail
        go_quiet (fail)
        go_wp2_with fail
        go_quiet (fail)
        go_wp2_with fail
        go_roundw
        case rel => exact ⟨t + 1, _, z, by omega, by omega, by go_num, rfl, (by first | rfl | (rw [World.drewN_drewN, World.drewN_drewN])), by
          rcases hst with ⟨hz, HA⟩ | ⟨k, a, hz, hk, hka, hSa, HB2⟩
          · refine .inl ⟨hz, fun j y h1 h2 hy => ?_⟩
            by_cases ej : j = t
            · subst ej; rw [HXT.out] at hy; injection hy with hy; subst hy; exact HSX.out
            · exact HA.out j y h1 (by omega) hy
          · refine .inr ⟨k, a, hz, ⟨hk.out.1, by have := hk.out.2; omega⟩, hka, hSa, fun j y h1 h2 h3 hy => ?_⟩
            by_cases ej : j = t
            · subst ej; rw [HXT.out] at hy; injection hy with hy; subst hy; exact HSX.out
            · exact HB2.out j y h1 (by omega) h3 hy⟩
        case measure => simp [intOf]; omega
    · obtain rfl : p = t := by omega
      rcases hst with ⟨hz, HA⟩ | ⟨k, a, hz, hk, hka, hSa, HB2⟩
      · have hz2 := hz.out
        subst hz2
        have HF : Hid (cfgW S (S + Q) xs = (⟨0, [], []⟩, 3)) := by
          refine cfgW_none (showW_blank (splitS_blank fun j y hy => ?_))
          have hj := (List.getElem?_eq_some_iff.1 hy).1
          rw [HCL.out] at hj
          have := HNM.out
          exact HA.out (j + 1) y (by omega) (by omega) (by rw [← HXC.out (j + 1) (by omega) (by omega)]; exact hy)
        have yc := YB.out q3
        have y0 : (w1.drewN (q3)).cell? ⟨w.heap.size, 0, none⟩ = some (.int .i64 0) := by rw [cell_of_heap yc]; rfl
        have y1 : (w1.drewN (q3)).cell? ⟨w.heap.size, 1, none⟩ = some (.slice none 0 0) := by rw [cell_of_heap yc]; rfl
        have y2 : (w1.drewN (q3)).cell? ⟨w.heap.size, 2, none⟩ = some (.slice none 0 0) := by rw [cell_of_heap yc]; rfl
        have z0 : (w1.drewN (q3)).frozen? ⟨w.heap.size, 0, none⟩ = false := frozen_of_heap yc
        have z1 : (w1.drewN (q3)).frozen? ⟨w.heap.size, 1, none⟩ = false := frozen_of_heap yc
        have z2 : (w1.drewN (q3)).frozen? ⟨w.heap.size, 2, none⟩ = false := frozen_of_heap yc
        have BQ := HFIN.out q3
        clear yc
        clear l0 hz HA
        generalize w1.drewN q3 = wq at *
        go_wp2_with fail
        refine bodyPost_ret (v := .tuple #[.agg #[.int .i64 0, .slice none 0 0, .slice none 0 0], .bool false]) (by simp [results, Try.results69, go_sem, y0, y1, y2]) rfl ?_
        exact ⟨L16Res.none HF.out _, BQ⟩
      · have hz2 := hz.out
        subst hz2
        have hk2 := hk.out
        have hSa2 := hSa.out
        have hpl : 2 ≤ xs.length := by have := HL.out; omega
        obtain ⟨l, hl0⟩ : ∃ l, (cellsOf xs).take (k - 1) = l := ⟨_, rfl⟩
        obtain ⟨r, hr0⟩ : ∃ r, (cellsOf xs).drop k = r := ⟨_, rfl⟩
        have hfar : ∀ (j : Nat) x, j + 1 ≠ k → (cellsOf xs)[j]? = some x → 0 ≤ x ∧ x ≤ S - 1 := by
          intro j x hj hx
          have hjl := (List.getElem?_eq_some_iff.1 hx).1
          rw [HCL.out] at hjl
          have := HNM.out
          have hx2 : xs[j + 1]? = some x := by rw [← HXC.out (j + 1) (by omega) (by omega)]; exact hx
          have h1 := HB2.out (j + 1) x (by omega) (by omega) hj hx2
          have h2 := HX.out x (List.mem_of_getElem? hx2)
          omega
        have hls : ∀ x ∈ l, 0 ≤ x ∧ x ≤ S - 1 := by
          intro x hx
          rw [← hl0] at hx
          obtain ⟨j, hj⟩ := List.getElem?_of_mem hx
          rw [List.getElem?_take] at hj
          split at hj
          · rename_i hjk; exact hfar j x (by omega) hj
          · cases hj
        have hrs : ∀ x ∈ r, 0 ≤ x ∧ x ≤ S - 1 := by
          intro x hx
          rw [← hr0] at hx
          obtain ⟨j, hj⟩ := List.getElem?_of_mem hx
          rw [List.getElem?_drop] at hj
          exact hfar (k + j) x (by omega) hj
        have hS0 : showW S (S + Q) xs = some (a - S, l, r) := by
          have hsp := splitS_at (S := S) (cs := cellsOf xs) (k := k - 1) (a := a) (fun j y hj hy => by have := hfar j y (by omega) hy; omega) (by rw [HXC.out k hk2.1 (by omega)]; exact hka.out) hSa2.1
          rw [hl0, show k - 1 + 1 = k by omega, hr0] at hsp
          have hall : r.all (inB · 0 (S - 1)) = true := by rw [List.all_eq_true]; intro x hx; rw [inB_iff]; exact hrs x hx
          rw [showW_split HF0.out hsp, decide_eq_true (by omega), hall]; rfl
        have HGD := Lib.hid (cfgW_of hS0 hSa2 hls hrs)
        have hll : l.length = k - 1 := by rw [← hl0, List.length_take, HCL.out]; have := HNM.out; omega
        have hrl : r.length = p - (k + 1) := by rw [← hr0, List.length_drop, HCL.out]; have := HNM.out; omega
        have HLR : Hid (l.reverse.length = k - 1) := by unfold Hid; rw [List.length_reverse, hll]
        have HLL := Lib.hid hll
        have HRL := Lib.hid hrl
        have EL : Hid (trimN l.reverse (k - 1) = (trimL l.reverse).length) := by unfold Hid; rw [trimL_len, HLR.out]
        have ER : Hid (trimN r (p - (k + 1)) = (trimL r).length) := by unfold Hid; rw [trimL_len, hrl]
        obtain ⟨o1, ho1, hslice1⟩ := run_slice_part (P := Try.prog) 25 2 Try.underlying25 infoInt64S b o (p + 1) c 1 (k - 1) 1 (k : Int) rfl (by omega) (by omega)
        obtain ⟨o2, ho2, hslice2⟩ := run_slice_part (P := Try.prog) 25 2 Try.underlying25 infoInt64S b o (p + 1) c (k + 1) (p - (k + 1)) ((k : Int) + 1) (p : Int) (by omega) (by omega) (by omega)
        have hsl1 : Sl w1 b o1 (l.map (Value.int .i64)) := by
          rcases ho1 with h | h
          · rw [List.eq_nil_of_length_eq_zero (hll.trans h)]; exact Sl.empty HS1.out.1
          · have := HS1.out.cut 1 (min (k - 1) (xs.length - 2))
            rw [← cells_part.1, hl0] at this
            rw [h, Nat.mul_one]; exact this
        have hsl2 : Sl w1 b o2 (r.map (Value.int .i64)) := by
          rcases ho2 with h | h
          · rw [List.eq_nil_of_length_eq_zero (hrl.trans h)]; exact Sl.empty HS1.out.1
          · have := HS1.out.cut (1 + k) (xs.length - 2 - k)
            rw [← cells_part.2, hr0] at this
            rw [h, Nat.mul_one, Nat.add_comm k 1]; exact this
        have hca : w1.cell? ⟨b, o + k, none⟩ = some (.int .i64 a) := HS1.out.at (by rw [List.getElem?_map, hka.out]; rfl)
        have hab := HX.out a (List.mem_of_getElem? hka.out)
        have wsa : IntKind.i64.wrap (a - S) = a - S := IntWalk.i64_in _ (by omega)
        have wk1 : IntKind.i64.wrap ((k : Int) + 1) = (k : Int) + 1 := IntWalk.i64_in _ (by omega)
        have hk0 : (0 : Int) ≤ (k : Int) := by omega
        have hkN : (k : Int) < ((p + 1 : Nat) : Int) := by omega
        have hkN2 : k < p + 1 := by omega
        have hkN3 : (k : Int) < (p : Int) + 1 := by omega
        have hkN4 : (k : Int) ≤ (p : Int) := by omega
        have wp1 : IntKind.i64.wrap (((p + 1 : Nat) : Int) - 1) = (p : Int) := by rw [IntWalk.i64_in _ (by omega)]; omega
        have wp2 : IntKind.i64.wrap ((p : Int) + 1 - 1) = (p : Int) := by rw [IntWalk.i64_in _ (by omega)]; omega
        have wp3 : IntKind.i64.wrap (p : Int) = (p : Int) := IntWalk.i64_in _ (by omega)
        have hb5 : decide ((k : Int) < 0) = false := decide_eq_false (by omega)
        have BW : Below w.heap.size w (w1.drewN q3) := below_drewN B1 q3
        have SLV : Hid (Sl (w1.drewN q3) b o1 (l.map (Value.int .i64))) := hsl1
        have SRV : Hid (Sl (w1.drewN q3) b o2 (r.map (Value.int .i64))) := hsl2
        have p0 : (w1.drewN q3).cell? ⟨b, o + k, none⟩ = some (.int .i64 a) := hca
        have p1 : (w1.drewN q3).cell? ⟨gm, 0, none⟩ = some (.int .i64 S) := L0.out
        have P0 := Lib.hid (show (w1.drewN q3).cell? ⟨gm, 0, none⟩ = some (.int .i64 S) from L0.out)
        have P1 := Lib.hid (show (w1.drewN q3).cell? ⟨gm, 1, none⟩ = some (.int .i64 Q) from L1.out)
        have YBV : Hid ((w1.drewN q3).heap[w.heap.size]? = some (.cells #[.int .i64 0, .slice none 0 0, .slice none 0 0] 36 (0, 0))) := YB.out q3
        have hbv : b < (w1.drewN q3).heap.size := hsl1.1
        clear hl0 hr0 hfar hls hrs hS0 hll hrl ho1 ho2 hsl1 hsl2 hca hab hpl l0 hz HB2 hSa hka hk
        generalize w1.drewN q3 = wv at *
        have HREV : Hid (∀ W, Below wv.heap.size wv W → Calls Try.prog 116 #[.slice (some ⟨b, o1, none⟩) (k - 1) (c - 1)] W fun e W' => ∃ g d, e = .returned (.slice (some ⟨g, 0, none⟩) (k - 1) d) ∧ W'.ownsRow wv.heap.size 2 1 (.slice (some ⟨g, 0, none⟩) (k - 1) d) (k - 1) (l.reverse.map (Value.int .i64)) ∧ Below W.heap.size W W' ∧ k - 1 ≤ d) :=
          fun W hW => (l03Reverse_any b o1 (k - 1) (c - 1) l W (SLV.out.below' hW) HLL.out (by omega)).mono fun e W' ⟨g, d, h1, h2, h3, h4⟩ => ⟨g, d, h1, own_base h2 hW.size, h3, h4⟩
        have HTR : Hid (∀ W, Below wv.heap.size wv W → Calls Try.prog 115 #[.slice (some ⟨b, o2, none⟩) (p - (k + 1)) (c - (k + 1))] W fun e W' => ∃ g d, e = .returned (.slice (some ⟨g, 0, none⟩) (trimN r (p - (k + 1))) d) ∧ W'.ownsRow wv.heap.size 2 1 (.slice (some ⟨g, 0, none⟩) (trimN r (p - (k + 1))) d) (trimN r (p - (k + 1))) ((trimL r).map (Value.int .i64)) ∧ W.heap.size ≤ g ∧ Below W.heap.size W W') :=
          fun W hW => (l05Trim_any b o2 (p - (k + 1)) (c - (k + 1)) r W (SRV.out.below' hW) HRL.out (by omega) (by omega)).mono fun e W' ⟨g, d, h1, h2, h3, h4⟩ => ⟨g, d, h1, own_base h2 hW.size, (h2.lt g rfl).1, h3⟩
        have HTL : Hid (∀ (W W1 : World) (g d : Nat), Below wv.heap.size wv W → W1.ownsRow wv.heap.size 2 1 (.slice (some ⟨g, 0, none⟩) (k - 1) d) (k - 1) (l.reverse.map (Value.int .i64)) → k - 1 ≤ d → Below W1.heap.size W1 W → Calls Try.prog 115 #[.slice (some ⟨g, 0, none⟩) (k - 1) d] W fun e W' => ∃ g d, e = .returned (.slice (some ⟨g, 0, none⟩) (trimN l.reverse (k - 1)) d) ∧ W'.ownsRow wv.heap.size 2 1 (.slice (some ⟨g, 0, none⟩) (trimN l.reverse (k - 1)) d) (trimN l.reverse (k - 1)) ((trimL l.reverse).map (Value.int .i64)) ∧ W.heap.size ≤ g ∧ Below W.heap.size W W') :=
          fun W W1 g d hW ho hd h1 => (l05Trim_any g 0 (k - 1) d l.reverse W ((sl_of_own ho).below' h1) HLR.out (by omega) hd).mono fun e W' ⟨g, d, h1, h2, h3, h4⟩ => ⟨g, d, h1, own_base h2 hW.size, (h2.lt g rfl).1, h3⟩
        go_upto_region 15 with fail
        go_cut [10] (fun s10 wx => ∃ T gL dL gR dR : Nat, s10 = .pointer (some ⟨T, 0, none⟩) ∧ wx.heap[T]? = some (.cells #[.int .i64 (a - S), .slice (some ⟨gL, 0, none⟩) (trimN l.reverse (k - 1)) dL, .slice (some ⟨gR, 0, none⟩) (trimN r (p - (k + 1))) dR] 36 (0, 0)) ∧ wx.ownsRow wv.heap.size 2 1 (.slice (some ⟨gL, 0, none⟩) (trimN l.reverse (k - 1)) dL) (trimN l.reverse (k - 1)) ((trimL l.reverse).map (Value.int .i64)) ∧ wx.ownsRow wv.heap.size 2 1 (.slice (some ⟨gR, 0, none⟩) (trimN r (p - (k + 1))) dR) (trimN r (p - (k + 1))) ((trimL r).map (Value.int .i64)) ∧ gL ≠ gR ∧ Below wv.heap.size wv wx ∧ wv.heap.size ≤ T)
        case first =>
          go_region_held3 (fun W => W.cell? ⟨b, o + k, none⟩ = some (.int .i64 a) ∧ W.cell? ⟨gm, 0, none⟩ = some (.int .i64 S)) (first | go_keep | exact ⟨p0, p1⟩ | exact ⟨cell_far3 p0 (by ((repeat (first | exact Below.refl _ _ | refine below_step ?_ (by assumption) | refine below_step ?_ (laid_below _ _) | refine Below.drew ?_)); first | done | fail)) (size_of (by ((repeat (first | exact Below.refl _ _ | refine below_step ?_ (by assumption) | refine below_step ?_ (laid_below _ _) | refine Below.drew ?_)); first | done | fail))), cell_far3 p1 (by ((repeat (first | exact Below.refl _ _ | refine below_step ?_ (by assumption) | refine below_step ?_ (laid_below _ _) | refine Below.drew ?_)); first | done | fail)) (size_of (by ((repeat (first | exact Below.refl _ _ | refine below_step ?_ (by assumption) | refine below_step ?_ (laid_below _ _) | refine Below.drew ?_)); first | done | fail)))⟩ | exact ⟨cell_step p0 (by ((repeat (first | exact Below.refl _ _ | refine below_step ?_ (by assumption) | refine below_step ?_ (laid_below _ _) | refine Below.drew ?_)); first | done | fail)), cell_step p1 (by ((repeat (first | exact Below.refl _ _ | refine below_step ?_ (by assumption) | refine below_step ?_ (laid_below _ _) | refine Below.drew ?_)); first | done | fail))⟩)
            (first
              | (go_at_call 116; refine (HREV.out _ (by ((repeat (first | exact Below.refl _ _ | refine below_step ?_ (by assumption) | refine below_step ?_ (laid_below _ _) | refine Below.drew ?_)); first | done | fail))).mono ?_; rintro e wA ⟨gA, dA, rfl, ownA, bA, hdA⟩; (first | (have zz : wA.heap[wv.heap.size]? = some (.cells #[.int .i64 0, .slice none 0 0, .slice none 0 0] 36 (0, 0)) := at_alloc (by ((repeat (first | exact Below.refl _ _ | refine below_step ?_ (by assumption) | refine below_step ?_ (laid_below _ _) | refine Below.drew ?_)); first | done | fail)); have e0 : wA.cell? ⟨wv.heap.size, 0, none⟩ = some (.int .i64 0) := (by rw [cell_of_heap zz]; rfl); have e1 : wA.cell? ⟨wv.heap.size, 1, none⟩ = some (.slice none 0 0) := (by rw [cell_of_heap zz]; rfl); have e2 : wA.cell? ⟨wv.heap.size, 2, none⟩ = some (.slice none 0 0) := (by rw [cell_of_heap zz]; rfl); have f0 : wA.frozen? ⟨wv.heap.size, 0, none⟩ = false := frozen_of_heap zz; have f1 : wA.frozen? ⟨wv.heap.size, 1, none⟩ = false := frozen_of_heap zz; have f2 : wA.frozen? ⟨wv.heap.size, 2, none⟩ = false := frozen_of_heap zz) | (have zz : wA.heap[wR.heap.size]? = some (.cells #[.int .i64 0, .slice none 0 0, .slice none 0 0] 36 (0, 0)) := at_alloc (by ((repeat (first | exact Below.refl _ _ | refine below_step ?_ (by assumption) | refine below_step ?_ (laid_below _ _) | refine Below.drew ?_)); first | done | fail)); have e0 : wA.cell? ⟨wR.heap.size, 0, none⟩ = some (.int .i64 0) := (by rw [cell_of_heap zz]; rfl); have e1 : wA.cell? ⟨wR.heap.size, 1, none⟩ = some (.slice none 0 0) := (by rw [cell_of_heap zz]; rfl); have e2 : wA.cell? ⟨wR.heap.size, 2, none⟩ = some (.slice none 0 0) := (by rw [cell_of_heap zz]; rfl); have f0 : wA.frozen? ⟨wR.heap.size, 0, none⟩ = false := frozen_of_heap zz; have f1 : wA.frozen? ⟨wR.heap.size, 1, none⟩ = false := frozen_of_heap zz; have f2 : wA.frozen? ⟨wR.heap.size, 2, none⟩ = false := frozen_of_heap zz) | skip))
              | (go_at_call_of 115 dA; refine (HTL.out _ _ gA dA (by ((repeat (first | exact Below.refl _ _ | refine below_step ?_ (by assumption) | refine below_step ?_ (laid_below _ _) | refine Below.drew ?_)); first | done | fail)) ownA hdA (by ((repeat (first | exact Below.refl _ _ | refine below_step ?_ (by assumption) | refine below_step ?_ (laid_below _ _) | refine Below.drew ?_)); first | done | fail))).mono ?_; rintro e wL ⟨gL, dL, rfl, ownL, hgL, bL⟩; (first | (have zz : wL.heap[wv.heap.size]? = some (.cells #[.int .i64 0, .slice none 0 0, .slice none 0 0] 36 (0, 0)) := at_alloc (by ((repeat (first | exact Below.refl _ _ | refine below_step ?_ (by assumption) | refine below_step ?_ (laid_below _ _) | refine Below.drew ?_)); first | done | fail)); have e0 : wL.cell? ⟨wv.heap.size, 0, none⟩ = some (.int .i64 0) := (by rw [cell_of_heap zz]; rfl); have e1 : wL.cell? ⟨wv.heap.size, 1, none⟩ = some (.slice none 0 0) := (by rw [cell_of_heap zz]; rfl); have e2 : wL.cell? ⟨wv.heap.size, 2, none⟩ = some (.slice none 0 0) := (by rw [cell_of_heap zz]; rfl); have f0 : wL.frozen? ⟨wv.heap.size, 0, none⟩ = false := frozen_of_heap zz; have f1 : wL.frozen? ⟨wv.heap.size, 1, none⟩ = false := frozen_of_heap zz; have f2 : wL.frozen? ⟨wv.heap.size, 2, none⟩ = false := frozen_of_heap zz) | (have zz : wL.heap[wR.heap.size]? = some (.cells #[.int .i64 0, .slice none 0 0, .slice none 0 0] 36 (0, 0)) := at_alloc (by ((repeat (first | exact Below.refl _ _ | refine below_step ?_ (by assumption) | refine below_step ?_ (laid_below _ _) | refine Below.drew ?_)); first | done | fail)); have e0 : wL.cell? ⟨wR.heap.size, 0, none⟩ = some (.int .i64 0) := (by rw [cell_of_heap zz]; rfl); have e1 : wL.cell? ⟨wR.heap.size, 1, none⟩ = some (.slice none 0 0) := (by rw [cell_of_heap zz]; rfl); have e2 : wL.cell? ⟨wR.heap.size, 2, none⟩ = some (.slice none 0 0) := (by rw [cell_of_heap zz]; rfl); have f0 : wL.frozen? ⟨wR.heap.size, 0, none⟩ = false := frozen_of_heap zz; have f1 : wL.frozen? ⟨wR.heap.size, 1, none⟩ = false := frozen_of_heap zz; have f2 : wL.frozen? ⟨wR.heap.size, 2, none⟩ = false := frozen_of_heap zz) | (have zz : wL.heap[wA.heap.size]? = some (.cells #[.int .i64 0, .slice none 0 0, .slice none 0 0] 36 (0, 0)) := at_alloc (by ((repeat (first | exact Below.refl _ _ | refine below_step ?_ (by assumption) | refine below_step ?_ (laid_below _ _) | refine Below.drew ?_)); first | done | fail)); have e0 : wL.cell? ⟨wA.heap.size, 0, none⟩ = some (.int .i64 0) := (by rw [cell_of_heap zz]; rfl); have e1 : wL.cell? ⟨wA.heap.size, 1, none⟩ = some (.slice none 0 0) := (by rw [cell_of_heap zz]; rfl); have e2 : wL.cell? ⟨wA.heap.size, 2, none⟩ = some (.slice none 0 0) := (by rw [cell_of_heap zz]; rfl); have f0 : wL.frozen? ⟨wA.heap.size, 0, none⟩ = false := frozen_of_heap zz; have f1 : wL.frozen? ⟨wA.heap.size, 1, none⟩ = false := frozen_of_heap zz; have f2 : wL.frozen? ⟨wA.heap.size, 2, none⟩ = false := frozen_of_heap zz) | skip))
              | (go_at_call_of 115 o2; refine (HTR.out _ (by ((repeat (first | exact Below.refl _ _ | refine below_step ?_ (by assumption) | refine below_step ?_ (laid_below _ _) | refine Below.drew ?_)); first | done | fail))).mono ?_; rintro e wR ⟨gR, dR, rfl, ownR, hgR, bR⟩; (first | (have zz : wR.heap[wv.heap.size]? = some (.cells #[.int .i64 0, .slice none 0 0, .slice none 0 0] 36 (0, 0)) := at_alloc (by ((repeat (first | exact Below.refl _ _ | refine below_step ?_ (by assumption) | refine below_step ?_ (laid_below _ _) | refine Below.drew ?_)); first | done | fail)); have e0 : wR.cell? ⟨wv.heap.size, 0, none⟩ = some (.int .i64 0) := (by rw [cell_of_heap zz]; rfl); have e1 : wR.cell? ⟨wv.heap.size, 1, none⟩ = some (.slice none 0 0) := (by rw [cell_of_heap zz]; rfl); have e2 : wR.cell? ⟨wv.heap.size, 2, none⟩ = some (.slice none 0 0) := (by rw [cell_of_heap zz]; rfl); have f0 : wR.frozen? ⟨wv.heap.size, 0, none⟩ = false := frozen_of_heap zz; have f1 : wR.frozen? ⟨wv.heap.size, 1, none⟩ = false := frozen_of_heap zz; have f2 : wR.frozen? ⟨wv.heap.size, 2, none⟩ = false := frozen_of_heap zz) | (have zz : wR.heap[wA.heap.size]? = some (.cells #[.int .i64 0, .slice none 0 0, .slice none 0 0] 36 (0, 0)) := at_alloc (by ((repeat (first | exact Below.refl _ _ | refine below_step ?_ (by assumption) | refine below_step ?_ (laid_below _ _) | refine Below.drew ?_)); first | done | fail)); have e0 : wR.cell? ⟨wA.heap.size, 0, none⟩ = some (.int .i64 0) := (by rw [cell_of_heap zz]; rfl); have e1 : wR.cell? ⟨wA.heap.size, 1, none⟩ = some (.slice none 0 0) := (by rw [cell_of_heap zz]; rfl); have e2 : wR.cell? ⟨wA.heap.size, 2, none⟩ = some (.slice none 0 0) := (by rw [cell_of_heap zz]; rfl); have f0 : wR.frozen? ⟨wA.heap.size, 0, none⟩ = false := frozen_of_heap zz; have f1 : wR.frozen? ⟨wA.heap.size, 1, none⟩ = false := frozen_of_heap zz; have f2 : wR.frozen? ⟨wA.heap.size, 2, none⟩ = false := frozen_of_heap zz) | (have zz : wR.heap[wL.heap.size]? = some (.cells #[.int .i64 0, .slice none 0 0, .slice none 0 0] 36 (0, 0)) := at_alloc (by ((repeat (first | exact Below.refl _ _ | refine below_step ?_ (by assumption) | refine below_step ?_ (laid_below _ _) | refine Below.drew ?_)); first | done | fail)); have e0 : wR.cell? ⟨wL.heap.size, 0, none⟩ = some (.int .i64 0) := (by rw [cell_of_heap zz]; rfl); have e1 : wR.cell? ⟨wL.heap.size, 1, none⟩ = some (.slice none 0 0) := (by rw [cell_of_heap zz]; rfl); have e2 : wR.cell? ⟨wL.heap.size, 2, none⟩ = some (.slice none 0 0) := (by rw [cell_of_heap zz]; rfl); have f0 : wR.frozen? ⟨wL.heap.size, 0, none⟩ = false := frozen_of_heap zz; have f1 : wR.frozen? ⟨wL.heap.size, 1, none⟩ = false := frozen_of_heap zz; have f2 : wR.frozen? ⟨wL.heap.size, 2, none⟩ = false := frozen_of_heap zz) | skip)))
          all_goals (go_wp2_with fail; go_meet)
          all_goals
            have hap : gL ≠ gR := fun e => by
              have h1 := (ownL.lt gL rfl).2
              have h2 := (laid_below wL (.cells #[.int .i64 0, .slice none 0 0, .slice none 0 0] 36)).size
              first | omega | (have h3 := Nat.le_trans h2 hgR; omega)
            have ownL2 := own_below' ownL (show Below wL.heap.size wL wR by ((repeat (first | exact Below.refl _ _ | refine below_step ?_ (by assumption) | refine below_step ?_ (laid_below _ _) | refine Below.drew ?_)); first | done | fail))
            have BZ : Below wv.heap.size wv wR := by ((repeat (first | exact Below.refl _ _ | refine below_step ?_ (by assumption) | refine below_step ?_ (laid_below _ _) | refine Below.drew ?_)); first | done | fail)
            first
              | exact ⟨wR.heap.size, gL, dL, gR, dR, rfl, heap_alloc_new wR _, own_below' ownL2 (laid_below _ _), own_below' ownR (laid_below _ _), hap, below_step BZ (laid_below _ _), BZ.size⟩
              | exact ⟨wL.heap.size, gL, dL, gR, dR, rfl, heap_set (heap_set (heap_set zz _) _) _, own_setC3 ownL2 zz (by decide) _ _ _, own_setC3 ownR zz (by decide) _ _ _, hap, below_setC3 BZ (size_of (by ((repeat (first | exact Below.refl _ _ | refine below_step ?_ (by assumption) | refine below_step ?_ (laid_below _ _) | refine Below.drew ?_)); first | done | fail))) _ _ _, size_of (by ((repeat (first | exact Below.refl _ _ | refine below_step ?_ (by assumption) | refine below_step ?_ (laid_below _ _) | refine Below.drew ?_)); first | done | fail))⟩
              | exact ⟨wA.heap.size, gL, dL, gR, dR, rfl, heap_set (heap_set (heap_set zz _) _) _, own_setC3 ownL2 zz (by decide) _ _ _, own_setC3 ownR zz (by decide) _ _ _, hap, below_setC3 BZ (size_of (by ((repeat (first | exact Below.refl _ _ | refine below_step ?_ (by assumption) | refine below_step ?_ (laid_below _ _) | refine Below.drew ?_)); first | done | fail))) _ _ _, size_of (by ((repeat (first | exact Below.refl _ _ | refine below_step ?_ (by assumption) | refine below_step ?_ (laid_below _ _) | refine Below.drew ?_)); first | done | fail))⟩
              | exact ⟨wv.heap.size, gL, dL, gR, dR, rfl, heap_set (heap_set (heap_set zz _) _) _, own_setC3 ownL2 zz (by decide) _ _ _, own_setC3 ownR zz (by decide) _ _ _, hap, below_setC3 BZ (Nat.le_refl _) _ _ _, Nat.le_refl _⟩
        case rest =>
          obtain ⟨T, gL, dL, gR, dR, rfl, hT, oL, oR, hap, Bc, hTl⟩ := hcut
          have x0 : wc.heap[w.heap.size]? = some (.cells #[.int .i64 0, .slice none 0 0, .slice none 0 0] 36 (0, 0)) := (Bc.block _ (heap_lt YBV.out)).trans YBV.out
          have hxT : T ≠ w.heap.size := by have := heap_lt YBV.out; omega
          have m0 := cell_step (by exact P0.out) Bc
          have m1 := cell_step (by exact P1.out) Bc
          have u0 : wc.cell? ⟨T, 0, none⟩ = some (.int .i64 (a - S)) := by rw [cell_of_heap hT]; rfl
          have u1 : wc.cell? ⟨T, 1, none⟩ = some (.slice (some ⟨gL, 0, none⟩) (trimN l.reverse (k - 1)) dL) := by rw [cell_of_heap hT]; rfl
          have u2 : wc.cell? ⟨T, 2, none⟩ = some (.slice (some ⟨gR, 0, none⟩) (trimN r (p - (k + 1))) dR) := by rw [cell_of_heap hT]; rfl
          have y0 : wc.cell? ⟨w.heap.size, 0, none⟩ = some (.int .i64 0) := by rw [cell_of_heap x0]; rfl
          have y1 : wc.cell? ⟨w.heap.size, 1, none⟩ = some (.slice none 0 0) := by rw [cell_of_heap x0]; rfl
          have y2 : wc.cell? ⟨w.heap.size, 2, none⟩ = some (.slice none 0 0) := by rw [cell_of_heap x0]; rfl
          have z0 : wc.frozen? ⟨w.heap.size, 0, none⟩ = false := frozen_of_heap x0
          have z1 : wc.frozen? ⟨w.heap.size, 1, none⟩ = false := frozen_of_heap x0
          have z2 : wc.frozen? ⟨w.heap.size, 2, none⟩ = false := frozen_of_heap x0
          have HGO : Hid (∀ W : World, W.cell? ⟨gm, 0, none⟩ = some (.int .i64 S) → W.cell? ⟨gm, 1, none⟩ = some (.int .i64 Q) → W.cell? ⟨T, 0, none⟩ = some (.int .i64 (a - S)) → W.cell? ⟨T, 1, none⟩ = some (.slice (some ⟨gL, 0, none⟩) (trimN l.reverse (k - 1)) dL) → W.cell? ⟨T, 2, none⟩ = some (.slice (some ⟨gR, 0, none⟩) (trimN r (p - (k + 1))) dR) →
              W.ownsRow wv.heap.size 2 1 (.slice (some ⟨gL, 0, none⟩) (trimN l.reverse (k - 1)) dL) (trimN l.reverse (k - 1)) ((trimL l.reverse).map (Value.int .i64)) → W.ownsRow wv.heap.size 2 1 (.slice (some ⟨gR, 0, none⟩) (trimN r (p - (k + 1))) dR) (trimN r (p - (k + 1))) ((trimL r).map (Value.int .i64)) →
              Calls Try.prog 48 #[.pointer (some ⟨gm, 0, none⟩), .pointer (some ⟨T, 0, none⟩)] W fun e w' => e = .returned (.bool (decide ((cfgW S (S + Q) xs).2 = 0))) ∧ ∃ q, w' = W.drewN q) :=
            fun W m0 m1 u0 u1 u2 oL oR => l05Good_is gm T S Q (a - S) (some ⟨gL, 0, none⟩) (some ⟨gR, 0, none⟩) (trimN l.reverse (k - 1)) dL (trimN r (p - (k + 1))) dR (trimL l.reverse) (trimL r) _ HGD.out.1 W m0 m1 u0 u1 u2 (by omega) (by omega) (arg_of_own oL) (arg_of_own oR) (Nat.le_trans (trimN_le _ _) (by omega)) (Nat.le_trans (trimN_le _ _) (by omega))
          have hxg : gm ≠ w.heap.size := Nat.ne_of_lt HGM.out
          have M0 := Lib.hid m0; have M1 := Lib.hid m1; have U0 := Lib.hid u0; have U1 := Lib.hid u1; have U2 := Lib.hid u2
          have OL := Lib.hid oL; have OR := Lib.hid oR; have BC := Lib.hid (below_step BW Bc)
          have X0 := Lib.hid x0
          clear oL oR Bc hT x0 m0 m1 p0 p1
          go_wp2_with fail
          go_region_held3 (fun W => W.cell? ⟨T, 0, none⟩ = some (.int .i64 (a - S)) ∧ W.cell? ⟨T, 1, none⟩ = some (.slice (some ⟨gL, 0, none⟩) (trimN l.reverse (k - 1)) dL) ∧ W.cell? ⟨T, 2, none⟩ = some (.slice (some ⟨gR, 0, none⟩) (trimN r (p - (k + 1))) dR)) (first | exact ⟨u0, u1, u2⟩ | exact ⟨cell_far1 (cell_far1 (cell_far1 u0 hxT) hxT) hxT, cell_far1 (cell_far1 (cell_far1 u1 hxT) hxT) hxT, cell_far1 (cell_far1 (cell_far1 u2 hxT) hxT) hxT⟩ | go_keep)
            ((go_at_call 48; (first | refine (HGO.out _ (by exact M0.out) (by exact M1.out) (by exact U0.out) (by exact U1.out) (by exact U2.out) (by exact OL.out) (by exact OR.out)).mono ?_ | refine (HGO.out _ (cell_far1 (cell_far1 (cell_far1 (by exact M0.out) hxg) hxg) hxg) (cell_far1 (cell_far1 (cell_far1 (by exact M1.out) hxg) hxg) hxg) (cell_far1 (cell_far1 (cell_far1 (by exact U0.out) hxT) hxT) hxT) (cell_far1 (cell_far1 (cell_far1 (by exact U1.out) hxT) hxT) hxT) (cell_far1 (cell_far1 (cell_far1 (by exact U2.out) hxT) hxT) hxT) (own_setC3 (by exact OL.out) (by exact X0.out) (by decide) _ _ _) (own_setC3 (by exact OR.out) (by exact X0.out) (by decide) _ _ _)).mono ?_); rintro e w' ⟨rfl, q9, rfl⟩))
          all_goals
            go_wp2_with fail
            refine bodyPost_ret (v := .tuple #[.agg #[.int .i64 (a - S), .slice (some ⟨gL, 0, none⟩) (trimN l.reverse (k - 1)) dL, .slice (some ⟨gR, 0, none⟩) (trimN r (p - (k + 1))) dR], .bool (decide ((cfgW S (S + Q) xs).2 = 0))]) (by simp [results, Try.results69, go_sem, y0, y1, y2]) rfl ?_
            refine ⟨⟨a - S, some ⟨gL, 0, none⟩, trimN l.reverse (k - 1), dL, some ⟨gR, 0, none⟩, trimN r (p - (k + 1)), dR, rfl, fun h => ?_⟩, by first | exact below_drewN (below_setC3 BC.out (Nat.le_refl _) _ _ _) q9 | exact below_setC3 (below_drewN BC.out _) (Nat.le_refl _) _ _ _⟩
            rw [HGD.out.2 h]
            refine ⟨rfl, ?_, ?_, .inr fun e => hap (by simpa [Value.ownBlock] using e)⟩
            · show World.ownsRow _ _ _ _ _ (trimL l.reverse).length _
              rw [← EL.out]
              exact own_base (own_setC3 (by exact OL.out) (by exact X0.out) (by decide) _ _ _) BW.size
            · show World.ownsRow _ _ _ _ _ (trimL r).length _
              rw [← ER.out]
              exact own_base (own_setC3 (by exact OR.out) (by exact X0.out) (by decide) _ _ _) BW.size
end Go.Proofs.Ytjakgeblmkdbpaa
