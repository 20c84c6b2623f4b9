/- The register program of a loop program: plain lemmas. -/
import Derived.Test.YtkdjdnfdiphgiaaLoopProg
import Derived.Test.YtkdjdnfdiphgiaaJoin
import Derived.Test.YtkdjdnfdiphgiaaNest
namespace Go.Proofs.Ytkdjdnfdiphgiaa
set_option linter.all false

/-- A body that is done as often as a counter says. -/
def timesP (c : Int) (body : List R4) : List R4 := ⟨1, c, if body.length = 0 then 0 else 1, (body.length : Int) + 1⟩ :: body.map (redirF (tgt body.length 0 1))
/-- The program of a command with the program of its body. -/
def cmdP (d : Int) (x : R3) (body : List R4) : List R4 :=
  if x.a = 0 then moveP x.b []
  else if x.a = 1 then [⟨0, x.b, 1, 0⟩]
  else if x.a = 2 then (if x.b = x.c then [] else joinP (moveP x.b []) (copyP x.c x.b 23))
  else if x.a = 3 then joinP (copyP x.b (16 + d) 23) (timesP (16 + d) body)
  else loopP x.b body
def progAt (d : Int) (acc : List R4) : List R3 → List R4
  | [] => acc
  | x :: l => progAt d (joinP acc (cmdP d x (progAt (d + 1) [] (l.take (bodyLen x))))) (l.drop (bodyLen x))
  termination_by l => l.length
  decreasing_by all_goals simp_wf; try omega
theorem progAt_nil (d : Int) (acc : List R4) : progAt d acc [] = acc := by rw [progAt]
theorem progAt_cons (d : Int) (acc : List R4) (x : R3) (l : List R3) : progAt d acc (x :: l) = progAt d (joinP acc (cmdP d x (progAt (d + 1) [] (l.take (bodyLen x))))) (l.drop (bodyLen x)) := by rw [progAt]
theorem redirF_comp (f g : Int → Int) (xs : List R4) : (xs.map (redirF f)).map (redirF g) = xs.map (redirF fun y => g (f y)) := by
  rw [List.map_map]
  apply List.map_congr_left
  intro x _
  obtain ⟨a, b, c, d⟩ := x
  by_cases h : a = 1 <;> simp [redirF, h]
theorem redirF_congr (f g : Int → Int) (xs : List R4) (h : ∀ y, f y = g y) : xs.map (redirF f) = xs.map (redirF g) := by
  have : f = g := funext h
  rw [this]
theorem times_eq (C : List R4) (hC : C.length = 5) (c : Int) (body : List R4) (n : Nat) (hn : body.length = n) :
    joinP C (timesP c body) = C ++ [⟨1, c, if n = 0 then 5 else 6, 5 + 1 + (n : Int)⟩] ++ body.map (redirF (tgt n 5 ((5 + 1 : Nat) : Int))) := by
  subst hn
  have hl : (timesP c body).length = body.length + 1 := by simp [timesP]
  unfold joinP
  rw [hl, hC, timesP, List.map_cons, redirF_comp, List.append_assoc]
  congr 1
  show _ :: _ = _ :: _
  congr 1
  · show (⟨1, c, tgt _ _ _ (if body.length = 0 then 0 else 1), if (1 : Int) = 1 then tgt _ _ _ ((body.length : Int) + 1) else _⟩ : R4) = _
    rw [if_pos rfl]
    have e1 : tgt (body.length + 1) (((5 : Nat) : Int) + ((body.length + 1 : Nat) : Int)) ((5 : Nat) : Int) (if body.length = 0 then 0 else 1) = if body.length = 0 then 5 else 6 := by
      unfold tgt
      by_cases h : body.length = 0
      · simp [h]
      · rw [if_neg h, if_neg h, if_neg (by omega)]; rfl
    have e2 : tgt (body.length + 1) (((5 : Nat) : Int) + ((body.length + 1 : Nat) : Int)) ((5 : Nat) : Int) ((body.length : Int) + 1) = 5 + 1 + (body.length : Int) := by
      unfold tgt
      rw [if_pos (by omega)]
      omega
    rw [e1, e2]
  · apply redirF_congr
    intro y
    unfold tgt
    by_cases h : y = (body.length : Int)
    · rw [if_pos h, if_pos h, if_neg (by omega)]; rfl
    · rw [if_neg h, if_neg h, if_neg (by omega)]; omega
theorem timesP_wf {body : List R4} (c : Int) (h : WfP body) : WfP (timesP c body) := by
  intro x hx
  have hl : (timesP c body).length = body.length + 1 := by simp [timesP]
  rw [hl]
  unfold timesP at hx
  rcases List.mem_cons.1 hx with rfl | hx
  · simp only
    refine ⟨?_, by omega, by simp⟩
    split <;> omega
  · exact redir_wf (m := ((body.length + 1 : Nat) : Int)) h rfl (by omega) (by omega) (by omega) (by omega) x hx
theorem loopP_wf {body : List R4} (r : Int) (h : WfP body) : WfP (loopP r body) := by
  intro x hx
  rw [loopP_len]
  unfold loopP at hx
  rcases List.mem_append.1 hx with hx | hx
  · rcases List.mem_cons.1 hx with rfl | hx
    · simp; omega
    · rw [List.mem_singleton] at hx
      subst hx
      simp only
      refine ⟨?_, by omega, by simp⟩
      split <;> omega
  · exact redir_wf (m := ((body.length + 2 : Nat) : Int)) h rfl (by omega) (by omega) (by omega) (by omega) x hx
theorem nil_wf : WfP [] := by intro x hx; cases hx
theorem cmdP_wf (d : Int) (x : R3) {body : List R4} (h : WfP body) : WfP (cmdP d x body) := by
  unfold cmdP
  split
  · exact moveP_wf _ _
  split
  · intro y hy; rw [List.mem_singleton] at hy; subst hy; simp
  split
  · split
    · exact nil_wf
    · exact joinP_wf (moveP_wf _ _) (copyP_wf _ _ _)
  split
  · exact joinP_wf (copyP_wf _ _ _) (timesP_wf _ h)
  · exact loopP_wf _ h
theorem cmdP_len (d : Int) (x : R3) (body : List R4) : (cmdP d x body).length ≤ 6 + body.length := by
  unfold cmdP
  split
  · rw [moveP_len]; simp; omega
  split
  · simp; omega
  split
  · split
    · simp
    · rw [joinP_len, moveP_len, copyP_len]; simp
  split
  · rw [joinP_len, copyP_len]; simp [timesP]; omega
  · rw [loopP_len]; omega
theorem progAt_facts (N : Nat) : ∀ (l : List R3) (d : Int) (acc : List R4), l.length ≤ N → acc.length ≤ (progAt d acc l).length ∧ (progAt d acc l).length ≤ acc.length + 6 * l.length ∧ (WfP acc → WfP (progAt d acc l)) := by
  induction N with
  | zero =>
    intro l d acc h
    have : l = [] := List.length_eq_zero_iff.1 (by omega)
    subst this
    rw [progAt_nil]
    exact ⟨Nat.le_refl _, by simp, id⟩
  | succ N ih =>
    intro l d acc h
    cases l with
    | nil => rw [progAt_nil]; exact ⟨Nat.le_refl _, by simp, id⟩
    | cons x l =>
      rw [progAt_cons]
      simp only [List.length_cons] at h ⊢
      obtain ⟨a1, a2, a3⟩ := ih (l.take (bodyLen x)) (d + 1) [] (by rw [List.length_take]; omega)
      obtain ⟨b1, b2, b3⟩ := ih (l.drop (bodyLen x)) d (joinP acc (cmdP d x (progAt (d + 1) [] (l.take (bodyLen x))))) (by rw [List.length_drop]; omega)
      have c1 := cmdP_len d x (progAt (d + 1) [] (l.take (bodyLen x)))
      rw [joinP_len] at b1 b2
      rw [List.length_take] at a2
      rw [List.length_drop] at b2
      simp only [List.length_nil] at a2
      exact ⟨by omega, by omega, fun hw => b3 (joinP_wf hw (cmdP_wf d x (a3 nil_wf)))⟩
theorem progAt_step {xs : List R3} {k : Nat} {x : R3} (d : Int) (acc : List R4) (h : xs[k]? = some x) :
    progAt d acc (xs.drop k) = progAt d (joinP acc (cmdP d x (progAt (d + 1) [] ((xs.drop (k + 1)).take (bodyLen x))))) (xs.drop (k + 1 + bodyLen x)) := by
  rw [drop_at h, progAt_cons, List.drop_drop]
/-- What ProgramOfLoop gives. -/
def programOfLoop (xs : List R3) : List R4 × Int := if validL xs then fits (progAt 0 [] xs) else ([], 1)
theorem bndProgramOfLoop0 (xs : List R3) (h : xs.length ≤ 1048576) : (programOfLoop xs).1.length ≤ 1048576 := by
  unfold programOfLoop
  split
  · have := fits_len (progAt 0 [] xs); omega
  · simp
end Go.Proofs.Ytkdjdnfdiphgiaa
