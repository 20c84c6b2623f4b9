/- Configurations: what a word shows, by the program. -/
import Derived.Test.YtjakgeblmkdbpaaCfgShow
import Derived.Test.YtjakgeblmkdbpaaCopy
namespace Go.Proofs.Ytjakgeblmkdbpaa
open Go.RowKit
set_option linter.all false

theorem own_setC3 {w : World} {base : Nat} {e t : TypeId} {size n g : Nat} {v : Value} {xs : List Value} {cs : Array Value} {fr : Nat × Nat} (h : w.ownsRow base e size v n xs) (hg : w.heap[g]? = some (.cells cs t fr)) (hne : e ≠ t) (a b c : Value) :
    (((w.setCell ⟨g, 0, none⟩ a).setCell ⟨g, 1, none⟩ b).setCell ⟨g, 2, none⟩ c).ownsRow base e size v n xs := by
  have ne := own_ne_block h hg hne
  exact own_setCell (p := ⟨g, 2, none⟩) (own_setCell (p := ⟨g, 1, none⟩) (own_setCell (p := ⟨g, 0, none⟩) h ne a) ne b) ne c
theorem below_setC3 {B g : Nat} {a w : World} (h : Below B a w) (hg : B ≤ g) (x y z : Value) : Below B a (((w.setCell ⟨g, 0, none⟩ x).setCell ⟨g, 1, none⟩ y).setCell ⟨g, 2, none⟩ z) :=
  ((h.setCell (p := ⟨g, 0, none⟩) hg _).setCell (p := ⟨g, 1, none⟩) hg _).setCell (p := ⟨g, 2, none⟩) hg _

set_option maxRecDepth 100000 in
set_option maxHeartbeats 4000000 in
theorem shown_any (S B : Int) (b o n c : Nat) (xs : List Int) (w : World) (hs : Sl w b o (xs.map (Value.int .i64))) (hl : xs.length = n) (hn : n ≤ 1000) (hc : n ≤ c) (hS : 0 ≤ S ∧ S ≤ 1000) (hx : ∀ x ∈ xs, 0 ≤ x ∧ x ≤ 9) :
    Calls Try.prog 72 #[.agg #[.int .i64 S, .int .i64 B], .slice (some ⟨b, o, none⟩) n c] w fun e w' =>
      (showW S B xs = none → e = .returned (.tuple #[.agg #[.int .i64 0, .slice none 0 0, .slice none 0 0], .bool false])) ∧
      (∀ q l r, showW S B xs = some (q, l, r) → ∃ g1 d1 g2 d2, e = .returned (.tuple #[.agg #[.int .i64 q, .slice (some ⟨g1, 0, none⟩) (trimL l.reverse).length d1, .slice (some ⟨g2, 0, none⟩) (trimL r).length d2], .bool true]) ∧
        w'.ownsRow w.heap.size 2 1 (.slice (some ⟨g1, 0, none⟩) (trimL l.reverse).length d1) (trimL l.reverse).length ((trimL l.reverse).map (Value.int .i64)) ∧ w'.ownsRow w.heap.size 2 1 (.slice (some ⟨g2, 0, none⟩) (trimL r).length d2) (trimL r).length ((trimL r).map (Value.int .i64)) ∧ g1 ≠ g2) ∧ Below w.heap.size w w' := by
  obtain ⟨w1, HW1, B1, xb, yb⟩ := al2 w (.cells #[.int .i64 S, .int .i64 B] 110) (.cells #[.int .i64 0, .slice none 0 0, .slice none 0 0] 36)
  have l0 : w1.cell? ⟨w.heap.size, 0, none⟩ = some (.int .i64 S) := by rw [cell_of_heap xb]; rfl
  have l1 : w1.cell? ⟨w.heap.size, 1, none⟩ = some (.int .i64 B) := by rw [cell_of_heap xb]; rfl
  have y0 : w1.cell? ⟨w.heap.size + 1, 0, none⟩ = some (.int .i64 0) := by rw [cell_of_heap yb]; rfl
  have y1 : w1.cell? ⟨w.heap.size + 1, 1, none⟩ = some (.slice none 0 0) := by rw [cell_of_heap yb]; rfl
  have y2 : w1.cell? ⟨w.heap.size + 1, 2, none⟩ = some (.slice none 0 0) := by rw [cell_of_heap yb]; rfl
  have z0 : w1.frozen? ⟨w.heap.size + 1, 0, none⟩ = false := frozen_of_heap yb
  have z1 : w1.frozen? ⟨w.heap.size + 1, 1, none⟩ = false := frozen_of_heap yb
  have z2 : w1.frozen? ⟨w.heap.size + 1, 2, none⟩ = false := frozen_of_heap yb
  have YB := Lib.hid yb; have XB := Lib.hid xb
  have HL := Lib.hid hl; have HX := Lib.hid hx
  have hs1 := hs.below' B1
  have hblt : b < w.heap.size := hs.lt
  have wn : IntKind.i64.wrap ((n : Int) - 1) = (n : Int) - 1 := IntWalk.i64_in _ (by omega)
  clear xb yb hs hx
  have hfin : ∀ W : World, Below w1.heap.size w1 W → Below w.heap.size w (((W.setCell ⟨w.heap.size + 1, 0, none⟩ (.int .i64 0)).setCell ⟨w.heap.size + 1, 1, none⟩ (.slice none 0 0)).setCell ⟨w.heap.size + 1, 2, none⟩ (.slice none 0 0)) :=
    fun W hW => below_setC3 (below_step B1 hW) (by omega) _ _ _
  have HFIN := Lib.hid hfin; clear hfin
  by_cases h3 : n < 3
  · have HS : Hid (showW S B xs = none) := showW_front (by unfold frontB; rw [decide_eq_false (by omega)]; rfl)
    clear hl
    have hb1 : decide ((n : Int) - 1 < 2) = true := decide_eq_true (by omega)
    go_enter Try.func72, Try.ntmps72
    go_wp2_with fail
    rw [← HW1.out]
    go_quiet (fail)
    have BQ := HFIN.out (w1.drewN nq) (below_drewN (Below.refl _ _) nq)
    have y0q : (w1.drewN nq).cell? ⟨w.heap.size + 1, 0, none⟩ = some (.int .i64 0) := y0
    have y1q : (w1.drewN nq).cell? ⟨w.heap.size + 1, 1, none⟩ = some (.slice none 0 0) := y1
    have y2q : (w1.drewN nq).cell? ⟨w.heap.size + 1, 2, none⟩ = some (.slice none 0 0) := y2
    have z0q : (w1.drewN nq).frozen? ⟨w.heap.size + 1, 0, none⟩ = false := z0
    have z1q : (w1.drewN nq).frozen? ⟨w.heap.size + 1, 1, none⟩ = false := z1
    have z2q : (w1.drewN nq).frozen? ⟨w.heap.size + 1, 2, none⟩ = false := z2
    clear y0 y1 y2 z0 z1 z2 l0 l1 hs1
    generalize w1.drewN nq = wq at *
    go_wp2_with fail
    refine bodyPost_ret (v := .tuple #[.agg #[.int .i64 0, .slice none 0 0, .slice none 0 0], .bool false]) (by simp [results, Try.results72, go_sem, y0q, y1q, y2q]) rfl ?_
    exact ⟨fun _ => rfl, fun q l r h => (by rw [HS.out] at h; cases h), BQ⟩
  obtain ⟨p, rfl⟩ : ∃ p, n = p + 1 := ⟨n - 1, by omega⟩
  obtain ⟨m, hnm⟩ : ∃ m, p = m + 1 := ⟨p - 1, by omega⟩
  have hm1 : 1 ≤ m := by omega
  obtain ⟨a0, HA0, ha0⟩ := map_at (Value.int .i64) xs (k := 0) (by omega)
  obtain ⟨aN, HAN, haN⟩ := map_at (Value.int .i64) xs (k := p) (by omega)
  have c0 : w1.cell? ⟨b, o, none⟩ = some (.int .i64 a0) := by have := hs1.at ha0; simpa using this
  have cN := hs1.at haN
  have hi0 : (0 : Int) ≤ (p : Int) := by omega
  have hiN : (p : Int) < ((p + 1 : Nat) : Int) := by omega
  have hn0 : 0 < p + 1 := by omega
  have hpp : p < p + 1 := by omega
  have hiN2 : (p : Int) < (p : Int) + 1 := by omega
  have hb1 : decide ((p : Int) < 2) = false := decide_eq_false (by omega)
  have hm1000 : m ≤ 1000 := by omega
  have HFR : Hid (frontB B xs = (decide (a0 = B) && decide (aN = B))) := by
    unfold Hid frontB; rw [hl, decide_eq_true (by omega), Bool.true_and, getD_at HA0.out, Nat.add_sub_cancel, getD_at HAN.out]
  clear ha0 haN h3 wn
  obtain ⟨u0, e0⟩ : ∃ u, (a0 == B) = u := ⟨_, rfl⟩
  obtain ⟨uN, eN⟩ : ∃ u, (aN == B) = u := ⟨_, rfl⟩
  have e0' : (a0 != B) = !u0 := by rw [← e0]; rfl
  have eN' : (aN != B) = !uN := by rw [← eN]; rfl
  have HFR2 : Hid (frontB B xs = (u0 && uN)) := by unfold Hid; rw [HFR.out, ← e0, ← eN]; rfl
  rcases Bool.eq_false_or_eq_true (u0 && uN) with hu | hu
  rotate_left
  · have HS : Hid (showW S B xs = none) := showW_front (by rw [HFR2.out, hu])
    clear hl hnm
    cases u0 <;> cases uN
    all_goals first
      | (exact absurd hu (by decide))
      | (go_enter Try.func72, Try.ntmps72
         go_wp2_with fail
         rw [← HW1.out]
         go_quiet (fail)
         have BQ := HFIN.out (w1.drewN nq) (below_drewN (Below.refl _ _) nq)
         have y0q : (w1.drewN nq).cell? ⟨w.heap.size + 1, 0, none⟩ = some (.int .i64 0) := y0
         have y1q : (w1.drewN nq).cell? ⟨w.heap.size + 1, 1, none⟩ = some (.slice none 0 0) := y1
         have y2q : (w1.drewN nq).cell? ⟨w.heap.size + 1, 2, none⟩ = some (.slice none 0 0) := y2
         have z0q : (w1.drewN nq).frozen? ⟨w.heap.size + 1, 0, none⟩ = false := z0
         have z1q : (w1.drewN nq).frozen? ⟨w.heap.size + 1, 1, none⟩ = false := z1
         have z2q : (w1.drewN nq).frozen? ⟨w.heap.size + 1, 2, none⟩ = false := z2
         clear y0 y1 y2 z0 z1 z2 l0 l1 hs1 c0 cN
         generalize w1.drewN nq = wq at *
         go_wp2_with fail
         refine bodyPost_ret (v := .tuple #[.agg #[.int .i64 0, .slice none 0 0, .slice none 0 0], .bool false]) (by simp [results, Try.results72, go_sem, y0q, y1q, y2q]) rfl ?_
         exact ⟨fun _ => rfl, fun q l r (h : showW S B xs = some (q, l, r)) => (by rw [HS.out] at h; cases h), BQ⟩)
  have hu2 : u0 = true ∧ uN = true := by rw [Bool.and_eq_true] at hu; exact hu
  have HF0 : Hid (frontB B xs = true) := by unfold Hid; rw [HFR2.out, hu]
  obtain ⟨rfl, rfl⟩ := hu2
  clear hu
  obtain ⟨o', ho', hsl⟩ := run_slice_part (P := Try.prog) 25 2 Try.underlying25 infoInt64S b o (p + 1) c 1 m 1 (p : Int) rfl (by omega) (by omega)
  obtain ⟨c1, hc1⟩ : ∃ c1, c - 1 = c1 := ⟨_, rfl⟩
  rw [hc1] at hsl
  have hmc : m ≤ c1 := by omega
  have hcl : (cellsOf xs).length = m := by rw [cellsOf_len (by omega), hl, hnm]; omega
  have hsc1 : Sl w1 b o' ((cellsOf xs).map (Value.int .i64)) := by
    have e1 : cellsOf xs = (xs.drop 1).take m := by rw [cellsOf, hl, hnm]; rfl
    rw [e1]
    rcases ho' with h | h
    · omega
    · rw [h]; exact hs1.cut 1 m
  have HSC := Lib.hid hsc1
  have HNM := Lib.hid hnm
  clear hnm hc1
  have HCL := Lib.hid hcl
  have hE := fun args W => enters_of' Try.func122 rfl rfl args W
  have HIX := Lib.hid (fun N : Nat => indexFuncI_is 122 #[.pointer (some ⟨w.heap.size, 0, none⟩)] (fun x => decide (S ≤ x)) (some ⟨b, o', none⟩) m c1 (cellsOf xs) (w1.drewN N) (Arg.of_sl hsc1 (by simpa using hcl)) (by omega) hE (fun a v hv => isState_is w.heap.size S a v hv (w1.drewN N) l0))
  clear hl hsc1 hcl ho' hE
  rcases hsp : splitS S (cellsOf xs) with _ | ⟨l, a, r⟩
  · have HS : Hid (showW S B xs = none) := showW_blank hsp
    have hfi := findI_blank hsp
    rw [hfi] at HIX
    clear hsp hfi
    go_enter Try.func72, Try.ntmps72
    go_wp2_with fail
    rw [← HW1.out]
    go_quiet (fail)
    have BQ := HFIN.out (w1.drewN nq) (below_drewN (Below.refl _ _) nq)
    have HI := Lib.hid (HIX.out nq)
    have y0q : (w1.drewN nq).cell? ⟨w.heap.size + 1, 0, none⟩ = some (.int .i64 0) := y0
    have y1q : (w1.drewN nq).cell? ⟨w.heap.size + 1, 1, none⟩ = some (.slice none 0 0) := y1
    have y2q : (w1.drewN nq).cell? ⟨w.heap.size + 1, 2, none⟩ = some (.slice none 0 0) := y2
    have z0q : (w1.drewN nq).frozen? ⟨w.heap.size + 1, 0, none⟩ = false := z0
    have z1q : (w1.drewN nq).frozen? ⟨w.heap.size + 1, 1, none⟩ = false := z1
    have z2q : (w1.drewN nq).frozen? ⟨w.heap.size + 1, 2, none⟩ = false := z2
    have BB : Below w1.heap.size w1 (w1.drewN nq) := below_drewN (Below.refl _ _) nq
    clear y0 y1 y2 z0 z1 z2 l0 l1 hs1 c0 cN BQ
    generalize w1.drewN nq = wq at *
    go_wp2_with fail
    refine HI.out.mono ?_
    rintro e w' ⟨rfl, hw'⟩
    subst hw'
    go_wp2_with fail
    go_quiet (fail)
    have BQ := HFIN.out (wq.drewN nq) (below_drewN BB nq)
    have y0r : (wq.drewN nq).cell? ⟨w.heap.size + 1, 0, none⟩ = some (.int .i64 0) := y0q
    have y1r : (wq.drewN nq).cell? ⟨w.heap.size + 1, 1, none⟩ = some (.slice none 0 0) := y1q
    have y2r : (wq.drewN nq).cell? ⟨w.heap.size + 1, 2, none⟩ = some (.slice none 0 0) := y2q
    have z0r : (wq.drewN nq).frozen? ⟨w.heap.size + 1, 0, none⟩ = false := z0q
    have z1r : (wq.drewN nq).frozen? ⟨w.heap.size + 1, 1, none⟩ = false := z1q
    have z2r : (wq.drewN nq).frozen? ⟨w.heap.size + 1, 2, none⟩ = false := z2q
    clear y0q y1q y2q z0q z1q z2q BB
    generalize wq.drewN nq = wv at *
    go_wp2_with fail
    refine bodyPost_ret (v := .tuple #[.agg #[.int .i64 0, .slice none 0 0, .slice none 0 0], .bool false]) (by simp [results, Try.results72, go_sem, y0r, y1r, y2r]) rfl ?_
    exact ⟨fun _ => rfl, fun q l r (h : showW S B xs = some (q, l, r)) => (by rw [HS.out] at h; cases h), BQ⟩
  obtain ⟨hcells, hSa, hlS⟩ := splitS_some hsp
  have hfi := findI_split hsp
  have HSP := Lib.hid (showW_split HF0.out hsp)
  rw [hfi] at HIX
  obtain ⟨k, hk⟩ : ∃ k, l.length = k := ⟨_, rfl⟩
  rw [hk] at HIX
  have hkm : k + 1 + r.length = m := by rw [← HCL.out, hcells, List.length_append, List.length_cons, hk]; omega
  have HKM := Lib.hid hkm
  have hkm1 : k < m := by omega
  have hka : (cellsOf xs)[k]? = some a := by rw [hcells, List.getElem?_append_right (by omega), hk, Nat.sub_self]; rfl
  have hkr : (cellsOf xs).drop (k + 1) = r := by
    have e1 : l ++ a :: r = (l ++ [a]) ++ r := by simp
    rw [hcells, e1, List.drop_left' (by simp [hk])]
  have hkl : (cellsOf xs).take k = l := by rw [hcells, List.take_left' hk]
  have HKA := Lib.hid hka; have HKR := Lib.hid hkr; have HKL := Lib.hid hkl; have HK := Lib.hid hk
  have hk0 : (0 : Int) ≤ (k : Int) := by omega
  have hkN : (k : Int) < (m : Int) := by omega
  have hb2 : decide ((k : Int) < 0) = false := decide_eq_false (by omega)
  clear hsp hfi hk hka hkr hkl hcells hlS hkm
  by_cases haB : B ≤ a
  · have HS : Hid (showW S B xs = none) := by unfold Hid; rw [HSP.out, decide_eq_false (by omega)]; rfl
    have hb3 : decide (B ≤ a) = true := decide_eq_true haB
    clear haB
    go_enter Try.func72, Try.ntmps72
    go_wp2_with fail
    rw [← HW1.out]
    go_quiet (fail)
    have HI := Lib.hid (HIX.out nq)
    have y0q : (w1.drewN nq).cell? ⟨w.heap.size + 1, 0, none⟩ = some (.int .i64 0) := y0
    have y1q : (w1.drewN nq).cell? ⟨w.heap.size + 1, 1, none⟩ = some (.slice none 0 0) := y1
    have y2q : (w1.drewN nq).cell? ⟨w.heap.size + 1, 2, none⟩ = some (.slice none 0 0) := y2
    have z0q : (w1.drewN nq).frozen? ⟨w.heap.size + 1, 0, none⟩ = false := z0
    have z1q : (w1.drewN nq).frozen? ⟨w.heap.size + 1, 1, none⟩ = false := z1
    have z2q : (w1.drewN nq).frozen? ⟨w.heap.size + 1, 2, none⟩ = false := z2
    have l0q : (w1.drewN nq).cell? ⟨w.heap.size, 0, none⟩ = some (.int .i64 S) := l0
    have l1q : (w1.drewN nq).cell? ⟨w.heap.size, 1, none⟩ = some (.int .i64 B) := l1
    have SCQ : Hid (Sl (w1.drewN nq) b o' ((cellsOf xs).map (Value.int .i64))) := HSC.out
    have BB : Below w1.heap.size w1 (w1.drewN nq) := below_drewN (Below.refl _ _) nq
    have hca : (w1.drewN nq).cell? ⟨b, o' + k, none⟩ = some (.int .i64 a) := HSC.out.at (by rw [List.getElem?_map, HKA.out]; rfl)
    clear y0 y1 y2 z0 z1 z2 l0 l1 hs1 c0 cN
    generalize w1.drewN nq = wq at *
    go_wp2_with fail
    refine HI.out.mono ?_
    rintro e w' ⟨rfl, hw'⟩
    subst hw'
    go_wp2_with fail
    go_quiet (fail)
    have BQ := HFIN.out (wq.drewN nq) (below_drewN BB nq)
    have y0r : (wq.drewN nq).cell? ⟨w.heap.size + 1, 0, none⟩ = some (.int .i64 0) := y0q
    have y1r : (wq.drewN nq).cell? ⟨w.heap.size + 1, 1, none⟩ = some (.slice none 0 0) := y1q
    have y2r : (wq.drewN nq).cell? ⟨w.heap.size + 1, 2, none⟩ = some (.slice none 0 0) := y2q
    have z0r : (wq.drewN nq).frozen? ⟨w.heap.size + 1, 0, none⟩ = false := z0q
    have z1r : (wq.drewN nq).frozen? ⟨w.heap.size + 1, 1, none⟩ = false := z1q
    have z2r : (wq.drewN nq).frozen? ⟨w.heap.size + 1, 2, none⟩ = false := z2q
    clear y0q y1q y2q z0q z1q z2q BB
    generalize wq.drewN nq = wv at *
    go_wp2_with fail
    refine bodyPost_ret (v := .tuple #[.agg #[.int .i64 0, .slice none 0 0, .slice none 0 0], .bool false]) (by simp [results, Try.results72, go_sem, y0r, y1r, y2r]) rfl ?_
    exact ⟨fun _ => rfl, fun q l r (h : showW S B xs = some (q, l, r)) => (by rw [HS.out] at h; cases h), BQ⟩
  have hb3 : decide (B ≤ a) = false := decide_eq_false haB
  obtain ⟨o'', ho'', hsl2⟩ := run_slice_tailR (P := Try.prog) 25 2 Try.underlying25 infoInt64S b o' m c1 (k + 1) ((k : Int) + 1) rfl (by omega) hmc
  have ws1 : IntKind.i64.wrap (S - 1) = S - 1 := IntWalk.i64_in _ (by omega)
  have hrl : r.length = m - (k + 1) := by have := HKM.out; omega
  have HRL := Lib.hid hrl
  have hsr : Sl w1 b o'' (r.map (Value.int .i64)) := by
    rw [← HKR.out]
    rcases ho'' with h | h
    · rw [HKR.out, List.eq_nil_of_length_eq_zero (hrl.trans h)]; exact Sl.empty hs1.1
    · rw [h, Nat.mul_one]; exact HSC.out.from (k + 1)
  have HSR := Lib.hid hsr
  clear hsr hrl ho''
  obtain ⟨vr, hvr⟩ : ∃ vr, r.all (inB · 0 (S - 1)) = vr := ⟨_, rfl⟩
  have HVR := Lib.hid hvr; clear hvr
  cases vr
  · have HS : Hid (showW S B xs = none) := by unfold Hid; rw [HSP.out, HVR.out, Bool.and_false]; rfl
    go_enter Try.func72, Try.ntmps72
    go_wp2_with fail
    rw [← HW1.out]
    go_quiet (fail)
    have HI := Lib.hid (HIX.out nq)
    have y0q : (w1.drewN nq).cell? ⟨w.heap.size + 1, 0, none⟩ = some (.int .i64 0) := y0
    have y1q : (w1.drewN nq).cell? ⟨w.heap.size + 1, 1, none⟩ = some (.slice none 0 0) := y1
    have y2q : (w1.drewN nq).cell? ⟨w.heap.size + 1, 2, none⟩ = some (.slice none 0 0) := y2
    have z0q : (w1.drewN nq).frozen? ⟨w.heap.size + 1, 0, none⟩ = false := z0
    have z1q : (w1.drewN nq).frozen? ⟨w.heap.size + 1, 1, none⟩ = false := z1
    have z2q : (w1.drewN nq).frozen? ⟨w.heap.size + 1, 2, none⟩ = false := z2
    have l0q : (w1.drewN nq).cell? ⟨w.heap.size, 0, none⟩ = some (.int .i64 S) := l0
    have l1q : (w1.drewN nq).cell? ⟨w.heap.size, 1, none⟩ = some (.int .i64 B) := l1
    have SCQ : Hid (Sl (w1.drewN nq) b o' ((cellsOf xs).map (Value.int .i64))) := HSC.out
    have BB : Below w1.heap.size w1 (w1.drewN nq) := below_drewN (Below.refl _ _) nq
    have hca : (w1.drewN nq).cell? ⟨b, o' + k, none⟩ = some (.int .i64 a) := HSC.out.at (by rw [List.getElem?_map, HKA.out]; rfl)
    have SRQ : Hid (Sl (w1.drewN nq) b o'' (r.map (Value.int .i64))) := HSR.out
    clear y0 y1 y2 z0 z1 z2 l0 l1 hs1 c0 cN
    generalize w1.drewN nq = wq at *
    go_wp2_with fail
    refine HI.out.mono ?_
    rintro e w' ⟨rfl, hw'⟩
    subst hw'
    go_wp2_with fail
    go_quiet ((go_at_call 123; exact quiet_eq (allWithin_is b o'' (m - (k + 1)) _ r 0 (S - 1) false HVR.out _ (by exact SRQ.out) HRL.out (by omega))))
    have BQ := HFIN.out (wq.drewN nq) (below_drewN BB nq)
    have y0r : (wq.drewN nq).cell? ⟨w.heap.size + 1, 0, none⟩ = some (.int .i64 0) := y0q
    have y1r : (wq.drewN nq).cell? ⟨w.heap.size + 1, 1, none⟩ = some (.slice none 0 0) := y1q
    have y2r : (wq.drewN nq).cell? ⟨w.heap.size + 1, 2, none⟩ = some (.slice none 0 0) := y2q
    have z0r : (wq.drewN nq).frozen? ⟨w.heap.size + 1, 0, none⟩ = false := z0q
    have z1r : (wq.drewN nq).frozen? ⟨w.heap.size + 1, 1, none⟩ = false := z1q
    have z2r : (wq.drewN nq).frozen? ⟨w.heap.size + 1, 2, none⟩ = false := z2q
    clear y0q y1q y2q z0q z1q z2q BB
    generalize wq.drewN nq = wv at *
    go_wp2_with fail
    refine bodyPost_ret (v := .tuple #[.agg #[.int .i64 0, .slice none 0 0, .slice none 0 0], .bool false]) (by simp [results, Try.results72, go_sem, y0r, y1r, y2r]) rfl ?_
    exact ⟨fun _ => rfl, fun q l r (h : showW S B xs = some (q, l, r)) => (by rw [HS.out] at h; cases h), BQ⟩
  have haB' : a < B := by omega
  have HS : Hid (showW S B xs = some (a - S, l, r)) := by unfold Hid; rw [HSP.out, HVR.out, decide_eq_true haB']; rfl
  have hain : a ∈ xs := by
    have h := List.mem_of_getElem? HKA.out
    unfold cellsOf at h
    exact List.mem_of_mem_drop (List.mem_of_mem_take h)
  have hab := HX.out a hain
  have wsa : IntKind.i64.wrap (a - S) = a - S := IntWalk.i64_in _ (by omega)
  clear hain hab
  have hsl0 : Sl w1 b o' (l.map (Value.int .i64)) := by rw [← HKL.out]; exact HSC.out.to k
  have HSL := Lib.hid hsl0; clear hsl0
  have hkc : (k : Int) ≤ (c1 : Int) := by omega
  have wk1 : IntKind.i64.wrap ((k : Int) + 1) = (k : Int) + 1 := IntWalk.i64_in _ (by omega)
  have hk1m : (k : Int) + 1 ≤ (m : Int) := by omega
  have hk1c : (k : Int) + 1 ≤ (c1 : Int) := by omega
  have hk10 : (0 : Int) ≤ (k : Int) + 1 := by omega
  have hmcI : (m : Int) ≤ (c1 : Int) := by omega
  have hkt : ((k : Int) + 1).toNat = k + 1 := by omega
  have hk1000 : k ≤ 1000 := by omega
  clear haB haB'
  go_enter Try.func72, Try.ntmps72
  go_wp2_with fail
  rw [← HW1.out]
  go_quiet (fail)
  have HI := Lib.hid (HIX.out nq)
  have y0q : (w1.drewN nq).cell? ⟨w.heap.size + 1, 0, none⟩ = some (.int .i64 0) := y0
  have y1q : (w1.drewN nq).cell? ⟨w.heap.size + 1, 1, none⟩ = some (.slice none 0 0) := y1
  have y2q : (w1.drewN nq).cell? ⟨w.heap.size + 1, 2, none⟩ = some (.slice none 0 0) := y2
  have z0q : (w1.drewN nq).frozen? ⟨w.heap.size + 1, 0, none⟩ = false := z0
  have z1q : (w1.drewN nq).frozen? ⟨w.heap.size + 1, 1, none⟩ = false := z1
  have z2q : (w1.drewN nq).frozen? ⟨w.heap.size + 1, 2, none⟩ = false := z2
  have l0q : (w1.drewN nq).cell? ⟨w.heap.size, 0, none⟩ = some (.int .i64 S) := l0
  have l1q : (w1.drewN nq).cell? ⟨w.heap.size, 1, none⟩ = some (.int .i64 B) := l1
  have SCQ : Hid (Sl (w1.drewN nq) b o' ((cellsOf xs).map (Value.int .i64))) := HSC.out
  have BB : Below w1.heap.size w1 (w1.drewN nq) := below_drewN (Below.refl _ _) nq
  have hca : (w1.drewN nq).cell? ⟨b, o' + k, none⟩ = some (.int .i64 a) := HSC.out.at (by rw [List.getElem?_map, HKA.out]; rfl)
  have SRQ : Hid (Sl (w1.drewN nq) b o'' (r.map (Value.int .i64))) := HSR.out
  have SRQ : Hid (Sl (w1.drewN nq) b o'' (r.map (Value.int .i64))) := HSR.out
  have SLQ : Hid (Sl (w1.drewN nq) b o' (l.map (Value.int .i64))) := HSL.out
  have YBQ : Hid ((w1.drewN nq).heap[w.heap.size + 1]? = some (.cells #[.int .i64 0, .slice none 0 0, .slice none 0 0] 36 (0, 0))) := YB.out
  have BWQ := below_step B1 BB
  clear y0 y1 y2 z0 z1 z2 l0 l1 hs1 c0 cN BB
  generalize w1.drewN nq = wq at *
  go_wp2_with fail
  refine HI.out.mono ?_
  rintro e w' ⟨rfl, hw'⟩
  subst hw'
  go_wp2_with fail
  go_quiet ((go_at_call 123; exact quiet_eq (allWithin_is b o'' (m - (k + 1)) _ r 0 (S - 1) true HVR.out _ (by exact SRQ.out) HRL.out (by omega))))
  have l0v : (wq.drewN nq).cell? ⟨w.heap.size, 0, none⟩ = some (.int .i64 S) := l0q
  have hcav : (wq.drewN nq).cell? ⟨b, o' + k, none⟩ = some (.int .i64 a) := hca
  have SRV : Hid (Sl (wq.drewN nq) b o'' (r.map (Value.int .i64))) := SRQ.out
  have SLV : Hid (Sl (wq.drewN nq) b o' (l.map (Value.int .i64))) := SLQ.out
  have YBV : Hid ((wq.drewN nq).heap[w.heap.size + 1]? = some (.cells #[.int .i64 0, .slice none 0 0, .slice none 0 0] 36 (0, 0))) := YBQ.out
  have BWV := below_drewN BWQ nq
  clear y0q y1q y2q z0q z1q z2q l0q l1q hca BWQ
  generalize wq.drewN nq = wv at *
  go_wp2_with fail
  go_region_held3 (fun _ => True) (trivial)
    ((first
      | (go_at_call 124; refine (reversed_any b o' k c1 l _ (SLV.out.below' bC) HK.out (by omega)).mono ?_; rintro e wb ⟨g1, d1, rfl, own1, bD, hd1⟩; have ownR := own_base (own_below' own2 bD) (show wv.heap.size ≤ wv.drew.heap.size from Nat.le_refl _); have ownL := own_base own1 bC.size; have hap : g1 ≠ g2 := (fun h => by have h1 := own1.lt g1 rfl; have h2 := own2.lt g2 rfl; omega); have bAll := below_step bC bD)
      | (go_at_call 125; refine (cloneA_any b o'' (m - (k + 1)) _ r _ (SRV.out.below' bA) HRL.out (by omega)).mono ?_; rintro e wb ⟨g2, d2, rfl, own2, bB, hd2⟩; have ownL := own_base (own_below' own1 bB) (show wv.heap.size ≤ wv.drew.heap.size from Nat.le_refl _); have ownR := own_base own2 bA.size; have hap : g1 ≠ g2 := (fun h => by have h1 := own1.lt g1 rfl; have h2 := own2.lt g2 rfl; omega); have bAll := below_step bA bB)
      | (go_at_call 124; refine (reversed_any b o' k c1 l _ (by exact SLV.out) HK.out (by omega)).mono ?_; rintro e wa ⟨g1, d1, rfl, own1, bA', hd1⟩; have bA := below_drew_at bA')
      | (go_at_call 125; refine (cloneA_any b o'' (m - (k + 1)) _ r _ (by exact SRV.out) HRL.out (by omega)).mono ?_; rintro e wa ⟨g2, d2, rfl, own2, bC', hd2⟩; have bC := below_drew_at bC')))
  all_goals
    have B8 := below_step BWV bAll
    have hszv := BWV.size
    have hcaz := cell_step (by exact hcav) bAll
    have l0z := cell_step (by exact l0v) bAll
    have YBZ : Hid (wb.heap[w.heap.size + 1]? = some (.cells #[.int .i64 0, .slice none 0 0, .slice none 0 0] 36 (0, 0))) := (bAll.block _ (heap_lt YBV.out)).trans YBV.out
    have hbn1 : b ≠ w.heap.size + 1 := by omega
    have hbn2 : w.heap.size + 1 ≠ b := by omega
    have slL := Lib.hid (sl_of_own ownL)
    have slR := Lib.hid (sl_of_own ownR)
    have hlL : Hid (l.reverse.length = k) := by unfold Hid; rw [List.length_reverse, HK.out]
    have EL : Hid (trimN l.reverse k = (trimL l.reverse).length) := by unfold Hid; rw [trimL_len, hlL.out]
    have ER : Hid (trimN r (m - (k + 1)) = (trimL r).length) := by unfold Hid; rw [trimL_len, HRL.out]
    have hy0 : wb.cell? ⟨w.heap.size + 1, 0, none⟩ = some (.int .i64 0) := by rw [cell_of_heap YBZ.out]; rfl
    have hy1 : wb.cell? ⟨w.heap.size + 1, 1, none⟩ = some (.slice none 0 0) := by rw [cell_of_heap YBZ.out]; rfl
    have hy2 : wb.cell? ⟨w.heap.size + 1, 2, none⟩ = some (.slice none 0 0) := by rw [cell_of_heap YBZ.out]; rfl
    have fy0 : wb.frozen? ⟨w.heap.size + 1, 0, none⟩ = false := frozen_of_heap YBZ.out
    have fy1 : wb.frozen? ⟨w.heap.size + 1, 1, none⟩ = false := frozen_of_heap YBZ.out
    have fy2 : wb.frozen? ⟨w.heap.size + 1, 2, none⟩ = false := frozen_of_heap YBZ.out
    clear hcav l0v own1 own2 BWV bAll
    go_wp2_with fail
    go_region_held3 (fun W => W.cell? ⟨w.heap.size, 0, none⟩ = some (.int .i64 S) ∧ W.cell? ⟨b, o' + k, none⟩ = some (.int .i64 a)) (first | go_keep | exact ⟨l0z, hcaz⟩ | (refine ⟨?_, ?_⟩ <;> simp [go_sem, l0z, hcaz, hbn1, hbn2]))
      ((first
        | (go_at_call_of 126 d1; refine (trimmed_any g1 k d1 l.reverse _ (by exact slL.out) hlL.out (by omega) hd1).mono ?_; rintro e w' ⟨rfl, rfl⟩)
        | (go_at_call_of 126 d2; refine (trimmed_any g2 (m - (k + 1)) d2 r _ (by exact slR.out) HRL.out (by omega) hd2).mono ?_; rintro e w' ⟨rfl, rfl⟩)))
    all_goals
      have oL := own_shorter ownL (m := trimN l.reverse k) (trimN_le _ _)
      have oR := own_shorter ownR (m := trimN r (m - (k + 1))) (trimN_le _ _)
      have tL : l.reverse.take (trimN l.reverse k) = trimL l.reverse := by rw [trimL, hlL.out]
      have tR : r.take (trimN r (m - (k + 1))) = trimL r := by rw [trimL, HRL.out]
      rw [← List.map_take, tL, EL.out] at oL
      rw [← List.map_take, tR, ER.out] at oR
      have oL3 := own_setC3 oL YBZ.out (by decide) (.int .i64 (a - S)) (.slice (some ⟨g1, 0, none⟩) (trimN l.reverse k) d1) (.slice (some ⟨g2, 0, none⟩) (trimN r (m - (k + 1))) d2)
      have oR3 := own_setC3 oR YBZ.out (by decide) (.int .i64 (a - S)) (.slice (some ⟨g1, 0, none⟩) (trimN l.reverse k) d1) (.slice (some ⟨g2, 0, none⟩) (trimN r (m - (k + 1))) d2)
      have BF := below_setC3 (g := w.heap.size + 1) B8 (by omega) (.int .i64 (a - S)) (.slice (some ⟨g1, 0, none⟩) (trimN l.reverse k) d1) (.slice (some ⟨g2, 0, none⟩) (trimN r (m - (k + 1))) d2)
      have OL3 := Lib.hid oL3; have OR3 := Lib.hid oR3
      clear oL oR tL tR oL3 oR3 ownL ownR slL slR
      go_wp2_with fail
      refine bodyPost_ret (v := .tuple #[.agg #[.int .i64 (a - S), .slice (some ⟨g1, 0, none⟩) (trimN l.reverse k) d1, .slice (some ⟨g2, 0, none⟩) (trimN r (m - (k + 1))) d2], .bool true]) (by simp [results, Try.results72, go_sem, hy0, hy1, hy2]) rfl ?_
      refine ⟨fun (h : showW S B xs = none) => (by rw [HS.out] at h; cases h), fun q l' r' (h : showW S B xs = some (q, l', r')) => ?_, below_drewN BF 1⟩
      rw [HS.out] at h
      injection h with h
      injection h with h1 h2
      injection h2 with h2 h3
      subst h1; subst h2; subst h3
      exact ⟨g1, d1, g2, d2, by rw [EL.out, ER.out], own_base OL3.out hszv, own_base OR3.out hszv, hap⟩
end Go.Proofs.Ytjakgeblmkdbpaa
