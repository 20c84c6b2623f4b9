/- The loop program of a recursive function: the plain law that both sides answer. -/
import Derived.Test.YtfmfpknigafnoaaLpPlain
import Derived.Test.YtfmfpknigafnoaaLoops
namespace Go.Proofs.Ytfmfpknigafnoaa
set_option linter.all false

theorem lpF_pos : ∀ (N : Nat) (p : List R3) (a : Int) (xs : List Int) (o u : Int), fRun [a] p = some [] → p.length ≤ N → 0 < (lpF N p xs o u).length
  | 0, p, a, xs, o, u, h, hp => by
    obtain rfl : p = [] := List.eq_nil_of_length_eq_zero (by omega)
    rw [fRun_none] at h; cases h
  | N + 1, [], a, xs, o, u, h, hp => by rw [fRun_none] at h; cases h
  | N + 1, x :: l, a, xs, o, u, h, hp => by
    obtain ⟨hok, _, hrun⟩ := parts_of h
    have hc := (fOkN_iff x).1 hok
    have h6 : x.a = 0 ∨ x.a = 1 ∨ x.a = 2 ∨ x.a = 3 ∨ x.a = 4 ∨ x.a = 5 := by omega
    rcases h6 with h0 | h0 | h0 | h0 | h0 | h0
    · rw [lp0 h0]; simp
    · rw [lp1 h0]; simp
    · rw [lp2 h0]; simp
    · obtain ⟨k, hk⟩ : ∃ k : Nat, x.c = (k : Int) := ⟨x.c.toNat, by omega⟩
      rw [lp3 h0 hk, List.length_append]
      obtain ⟨q, g1, g2, g3, g4⟩ := part_at (i := 0) (a := x.c) hok hrun (by rw [fFols_3 h0]; rfl)
      rw [g2]
      have := lpF_pos N q x.c (vars o k) o (o + k) g3 (by simp at hp; omega)
      have := lpF_pos N q x.c (vars u k) o (u + k) g3 (by simp at hp; omega)
      omega
    · rw [lp4 h0 rfl rfl]; simp; omega
    · rw [lp5 h0 rfl]; simp

/-- The first node's arity. -/
def ar0 (f : List R3) : Nat := (f.headD ⟨0, 0, 0⟩).b.toNat
def lpOf (f : List R3) : List R3 := lpF f.length f (vars 0 (ar0 f)) (ar0 f) ((ar0 f : Int) + 1)
def loopF (f : List R3) : List R3 × Int := if validF f = true then (if validL (lpOf f) = true then (lpOf f, 0) else ([], 5)) else ([], 1)
theorem loopF_1 {f : List R3} (h : validF f = false) : loopF f = ([], 1) := by unfold loopF; rw [h]; rfl
theorem loopF_5 {f : List R3} (h : validF f = true) (k : validL (lpOf f) = false) : loopF f = ([], 5) := by unfold loopF; rw [h, k]; rfl
theorem loopF_0 {f : List R3} (h : validF f = true) (k : validL (lpOf f) = true) : loopF f = (lpOf f, 0) := by unfold loopF; rw [h, k]; rfl
/-- What a valid function shows of itself. -/
theorem validF_head {f : List R3} (h : validF f = true) : ∃ x l, f = x :: l ∧ f.length ≤ 60 ∧ x.b = (ar0 f : Int) ∧ ar0 f ≤ 4 ∧ fRun [(ar0 f : Int)] f = some [] ∧ f.all fOkN = true ∧ fit fMany 1 f = true := by
  obtain ⟨h1, h2, h3, h4⟩ := (validF_iff f).1 h
  unfold validF at h
  rw [Bool.and_eq_true, inB_iff, decide_eq_true_eq] at h
  obtain ⟨⟨h5, h6⟩, h7⟩ := h
  cases f with
  | nil => simp at h5
  | cons x l =>
    obtain ⟨hok, _, hrun⟩ := parts_of h7
    have hc := (fOkN_iff x).1 hok
    have hb : x.b = ((ar0 (x :: l) : Nat) : Int) := by unfold ar0; simp only [List.headD_cons]; omega
    refine ⟨x, l, rfl, h1, hb, by omega, ?_, h3, h2⟩
    rw [fRun_cons ⟨.inr hb, hok⟩, List.append_nil]
    exact hrun
theorem lpOf_len {f : List R3} (h : validF f = true) : (lpOf f).length ≤ 480 ∧ 0 < (lpOf f).length := by
  obtain ⟨x, l, _, h1, h2, h3, h4, h5, h6⟩ := validF_head h
  have := lpF_len f.length f (vars 0 (ar0 f)) (ar0 f) ((ar0 f : Int) + 1)
  exact ⟨by unfold lpOf; omega, lpF_pos _ _ _ _ _ _ h4 (Nat.le_refl _)⟩
theorem bndLoopOfFunc0 (f : List R3) (_h : f.length ≤ 1048576) : (loopF f).1.length ≤ 1048576 := by
  by_cases h : validF f = true
  · have := (lpOf_len h).1
    cases k : validL (lpOf f) with
    | true => rw [loopF_0 h k]; simp only; omega
    | false => rw [loopF_5 h k]; simp
  · rw [loopF_1 (by simpa using h)]; simp
end Go.Proofs.Ytfmfpknigafnoaa
