/- ApplyRewrite, the reference's and the program's. -/
import Derived.Test.YtjakgeblmkdbpaaRwValid
import Derived.Test.YtjakgeblmkdbpaaWordsN
namespace Go.Proofs.Ytjakgeblmkdbpaa
open Go.RowKit
set_option linter.all false

set_option maxRecDepth 100000 in
set_option maxHeartbeats 1000000 in
theorem l10Apply_any (b off n c : Nat) (es : List ERewrite) (xs : List DRewrite) (b1 o1 n1 c1 : Nat) (x : List Int) (i k : Nat) (r : DRewrite) (hx : xs[i]? = some r) (w : World) (hs : Sl w b off (rows ERewrite.vs es)) (hr : RcsRewrite w es) (hd : es.map (·.d) = xs) (hl : xs.length = n) (hn : n ≤ 1048576) (ht : sumRewrite xs ≤ 1048576) (hs1 : Sl w b1 o1 (x.map (.int .i64))) (hl1 : x.length = n1) (hn1 : n1 ≤ 1048576) (hc1 : n1 ≤ c1) (hk : k ≤ n1) :
    Calls Try.prog 102 #[.slice (some ⟨b, off, none⟩) n c, .slice (some ⟨b1, o1, none⟩) n1 c1, .int .i64 i, .int .i64 k] w fun e w' => ∃ v, e = .returned (.tuple #[v, .int .i64 (stepRw r x k).2]) ∧
      w'.ownsRow w.heap.size 2 1 v (stepRw r x k).1.length ((stepRw r x k).1.map (.int .i64)) ∧ Below w.heap.size w w' ∧ ((stepRw r x k).2 = 0 → ∃ g d, v = .slice (some ⟨g, 0, none⟩) (stepRw r x k).1.length d ∧ (stepRw r x k).1.length ≤ d) := by
  have HL := Lib.hid hl; have HD := Lib.hid hd; have HT := Lib.hid ht
  have HE : Hid (es.length = n) := by unfold Hid; rw [← hl, ← hd, List.length_map]
  have HL1 := Lib.hid hl1
  have hi : i < n := by have := (List.getElem?_eq_some_iff.1 hx).1; omega
  have HR := Lib.hid hx
  clear hl hd ht hl1 hx
  obtain ⟨e, HX⟩ := hget HE hi
  have HXD : Hid (xs[i]? = some e.d) := by unfold Hid; rw [← HD.out, List.getElem?_map, HX.out]; rfl
  have hwl : wlRewrite e.d ≤ 1048576 := Nat.le_trans (sumRewrite_at HXD.out) HT.out
  obtain ⟨⟨g0, eu0, s0⟩, ⟨g1, eu1, s1⟩, -⟩ := hr.at (List.mem_of_getElem? HX.out)
  have p0 : w.cell? ⟨b, off + i * 2, none⟩ = some e.u0 := Sl.rec (f := ERewrite.vs) (s := 2) (fun _ => rfl) hs HX.out (j := 0) rfl
  have p1 : w.cell? ⟨b, off + i * 2 + 1, none⟩ = some e.u1 := Sl.rec (f := ERewrite.vs) (s := 2) (fun _ => rfl) hs HX.out (j := 1) rfl
  rw [eu0] at p0
  rw [eu1] at p1
  clear eu0 eu1
  obtain ⟨⟨f0, f1⟩, u0, u1⟩ := e
  dsimp only at p0 p1 s0 s1 hwl HXD
  simp only [wlRewrite] at hwl
  obtain ⟨m0, hm0⟩ : ∃ q, q = f0.length := ⟨_, rfl⟩
  obtain ⟨m1, hm1⟩ : ∃ q, q = f1.length := ⟨_, rfl⟩
  rw [← hm0] at p0 hwl
  rw [← hm1] at p1 hwl
  have HM0 := Lib.hid hm0.symm
  have HM1 := Lib.hid hm1.symm
  clear hm0 hm1
  have HEQ : Hid (r = ⟨f0, f1⟩) := by unfold Hid; have h1 := HR.out; rw [HXD.out] at h1; injection h1 with h1; exact h1.symm
  clear hs hr
  rw [HEQ.out]
  rcases Bool.eq_false_or_eq_true (startsB x k f0) with hst | hst
  rotate_left
  · have HST := Lib.hid hst; clear hst
    have HF : Hid (stepRw ⟨f0, f1⟩ x k = ([], 3)) := stepRw_no HST.out
    go_enter Try.func102, Try.ntmps102
    go_wp2_with fail
    refine (l03At_is b1 o1 n1 c1 x k g0 0 m0 m0 f0 false HST.out _ hs1 HL1.out (by omega) s0 HM0.out (by omega) hk hc1).mono ?_
    rintro e w' ⟨rfl, q, rfl⟩
    go_wp2_with fail
    go_ret2
    exact ⟨_, ends2 (by rw [HF.out]), own_nil' HF.out, below_drewN (Below.refl _ _) _, fun h0 => by rw [HF.out] at h0; cases h0⟩
  have hkm := starts_le hst
  rw [HL1.out, HM0.out] at hkm
  have HST := Lib.hid hst; clear hst
  have HS : Hid (stepRw ⟨f0, f1⟩ x k = fitL (putL x k m0 f1)) := by unfold Hid; rw [stepRw_yes HST.out]; show fitL (putL x k f0.length f1) = _; rw [HM0.out]
  have HPL : Hid ((putL x k m0 f1).length = n1 - m0 + m1) := by unfold Hid; rw [putL_length _ _ _ _ (by have := HL1.out; omega), HL1.out, HM1.out]
  have p0q : ∀ q, (w.drewN q).cell? ⟨b, off + i * 2, none⟩ = some (.slice (some ⟨g0, 0, none⟩) m0 m0) := fun q => p0
  have p1q : ∀ q, (w.drewN q).cell? ⟨b, off + i * 2 + 1, none⟩ = some (.slice (some ⟨g1, 0, none⟩) m1 m1) := fun q => p1
  have hw1 : IntKind.i64.wrap ((n1 : Int) - (m0 : Int)) = (n1 : Int) - (m0 : Int) := IntWalk.i64_in _ (by omega)
  have hw2 : IntKind.i64.wrap ((n1 : Int) - (m0 : Int) + (m1 : Int)) = (n1 : Int) - (m0 : Int) + (m1 : Int) := IntWalk.i64_in _ (by omega)
  by_cases hf : n1 - m0 + m1 ≤ 400
  rotate_left
  · have HF : Hid (stepRw ⟨f0, f1⟩ x k = ([], 5)) := by unfold Hid; rw [HS.out, fitL_no (by have := HPL.out; omega)]
    go_enter Try.func102, Try.ntmps102
    go_wp2_with fail
    refine (l03At_is b1 o1 n1 c1 x k g0 0 m0 m0 f0 true HST.out _ hs1 HL1.out (by omega) s0 HM0.out (by omega) hk hc1).mono ?_
    rintro e w' ⟨rfl, q, rfl⟩
    have hBq : Below w.heap.size w (w.drewN q) := below_drewN (Below.refl _ _) q
    replace p0q := p0q q
    replace p1q := p1q q
    clear p0 p1
    generalize w.drewN q = wq at *
    go_wp2_with fail
    go_quiet (fail)
    have hBz := below_drewN hBq nq
    go_wp2_with fail
    go_ret2
    exact ⟨_, ends2 (by rw [HF.out]), own_nil' HF.out, hBz, fun h0 => by rw [HF.out] at h0; cases h0⟩
  have HF : Hid (stepRw ⟨f0, f1⟩ x k = (putL x k m0 f1, 0)) := by unfold Hid; rw [HS.out, fitL_yes (by have := HPL.out; omega)]
  go_enter Try.func102, Try.ntmps102
  go_wp2_with fail
  refine (l03At_is b1 o1 n1 c1 x k g0 0 m0 m0 f0 true HST.out _ hs1 HL1.out (by omega) s0 HM0.out (by omega) hk hc1).mono ?_
  rintro e w' ⟨rfl, q, rfl⟩
  have hBq : Below w.heap.size w (w.drewN q) := below_drewN (Below.refl _ _) q
  have hs1q := hs1.below' hBq
  have s1q := s1.below' hBq
  replace p0q := p0q q
  replace p1q := p1q q
  clear p0 p1 hs1 s0 s1
  generalize w.drewN q = wq at *
  go_wp2_with fail
  go_quiet (fail)
  have hBz := below_drewN hBq nq
  have hs1z : Sl (wq.drewN nq) b1 o1 (x.map (.int .i64)) := hs1q
  have s1z : Sl (wq.drewN nq) g1 0 (f1.map (.int .i64)) := s1q
  have p0z : (wq.drewN nq).cell? ⟨b, off + i * 2, none⟩ = some (.slice (some ⟨g0, 0, none⟩) m0 m0) := p0q
  have p1z : (wq.drewN nq).cell? ⟨b, off + i * 2 + 1, none⟩ = some (.slice (some ⟨g1, 0, none⟩) m1 m1) := p1q
  clear hBq hs1q s1q p0q p1q
  generalize wq.drewN nq = wz at *
  go_wp2_with fail
  go_still_tail 11, (by kernel_rfl)
  change wpList _ _ _ _ _ wz.drew
  have hBq : Below w.heap.size w wz.drew := hBz.drew
  have hs1q : Sl wz.drew b1 o1 (x.map (.int .i64)) := hs1z
  have s1q : Sl wz.drew g1 0 (f1.map (.int .i64)) := s1z
  clear hBz hs1z s1z p0z p1z
  generalize wz.drew = wd at *
  go_wp2_with fail
  refine (l03PutA_any b1 o1 n1 c1 x k m0 g1 0 m1 m1 f1 _ hs1q HL1.out (by omega) s1q HM1.out (by omega) hkm hc1).mono ?_
  rintro e w1' ⟨g, d, rfl, hown, hB, hd9⟩
  have hB2 := below_step hBq hB
  have hown2 := own_base hown hBq.size
  clear hown hB
  go_wp2_with fail
  go_ret2
  refine ⟨_, ends2 (by rw [HF.out]), own_fit HF.out HPL.out hown2, hB2, fun _ => ?_⟩
  rw [HF.out]; simp only; rw [HPL.out]; exact ⟨g, d, rfl, hd9⟩

theorem sizeRw_any (A : Option Addr) (n c : Nat) (w : World) : Calls Try.prog 106 #[.slice A n c] w fun e w' => e = .returned (.int .i64 n) ∧ w = w' := by
  go_enter Try.func106, Try.ntmps106
  go_wp2
  go_ret
  exact ⟨rfl, rfl⟩

/-- The last part of the program's step: begins, replaced, fitting. -/
theorem fitting_any (n c : Nat) (A : Option Addr) (ys : List Int) (B : Nat) (w : World) (h : w.ownsRow B 2 1 (.slice A n c) n (ys.map (.int .i64))) (hl : ys.length = n) (hn : n ≤ 9000000) :
    Calls Try.prog 112 #[.slice A n c] w fun e w' => (∃ v, e = .returned (.tuple #[v, .int .i64 (fitL ys).2]) ∧ w'.ownsRow B 2 1 v (fitL ys).1.length ((fitL ys).1.map (.int .i64))) ∧ w = w' := by
  by_cases hf : n ≤ 400
  · refine (fitting_yes n w A c hf).mono ?_
    rintro e w' ⟨rfl, rfl⟩
    rw [fitL_yes (by omega)]
    exact ⟨⟨_, rfl, by rw [hl]; exact h⟩, rfl⟩
  · refine (fitting_no n w A c hn (by omega)).mono ?_
    rintro e w' ⟨rfl, rfl⟩
    rw [fitL_no (by omega)]
    exact ⟨⟨_, rfl, World.ownsRow_nil _ _ _ _⟩, rfl⟩
