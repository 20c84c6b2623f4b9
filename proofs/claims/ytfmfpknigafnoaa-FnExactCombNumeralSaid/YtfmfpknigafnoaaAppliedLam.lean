/- applied: the application of a term to others, elements impl.Lam. -/
import Derived.Test.YtfmfpknigafnoaaRepeatLam
import Derived.Test.YtfmfpknigafnoaaRws
namespace Go.Proofs.Ytfmfpknigafnoaa
open Go.RowKit
set_option linter.all false

theorem srcsLam_of_rws {w : World} {vs : List Value} {ts : List (List R2)} (h : Rws w vs ts) : SrcsLam w vs (ts.map List.length) (ts.map (rows R2.vs)) := by
  refine ⟨by simp [h.1], by simp [h.1], fun j v n xs h1 h2 h3 => ?_⟩
  rw [List.getElem?_map] at h2 h3
  cases ht : ts[j]? with
  | none => rw [ht] at h2; simp at h2
  | some t =>
    rw [ht] at h2 h3
    simp at h2 h3
    subst h2 h3
    exact ⟨(h.2 j v t h1 ht).1, one_rows_Lam t⟩
theorem sum_lengthsLam (ts : List (List R2)) : (ts.map List.length).sum = ts.flatten.length := by simp [List.length_flatten]
theorem rows_flattenLam (ts : List (List R2)) : (ts.map (rows R2.vs)).flatten = rows R2.vs ts.flatten := by
  induction ts with
  | nil => rfl
  | cons t ts ih => rw [List.map_cons, List.flatten_cons, List.flatten_cons, rows_app, ih]

set_option maxRecDepth 100000 in
set_option maxHeartbeats 1000000 in
theorem appliedLam_any (app : R2) (A : Option Addr) (n c : Nat) (t : List R2) (g off m c2 : Nat) (vs : List Value) (ts : List (List R2)) (w : World) (ht : Src 2 w (.slice A n c) n (rows R2.vs t)) (hs : Sl w g off vs) (hv : Rws w vs ts) (hm : ts.length = m) (hm1 : m ≤ 1048576) (hn : n ≤ 1048576) (hsum : ts.flatten.length ≤ 4194304) :
    Calls Try.prog 218 #[.agg #[.int .i64 app.a, .int .i64 app.b], .slice A n c, .slice (some ⟨g, off, none⟩) m c2] w fun e w' => ∃ v, e = .returned v ∧ w'.ownsRow w.heap.size 138 2 v (m + n + ts.flatten.length) (rows R2.vs (List.replicate m app ++ t ++ ts.flatten)) ∧ Below w.heap.size w w' := by
  have HM := Lib.hid hm; clear hm
  obtain ⟨S, hS⟩ : ∃ S, S = ts.flatten.length := ⟨_, rfl⟩
  rw [← hS] at hsum ⊢
  have HS := Lib.hid hS; clear hS
  have HV := Lib.hid (srcsLam_of_rws hv); clear hv
  obtain ⟨w2, HW, hB2, hsl⟩ : ∃ w2, Hid (w2 = (w.alloc (.cells #[.int .i64 app.a, .int .i64 app.b] 138)).alloc (.cells #[.int .i64 app.a, .int .i64 app.b] 138)) ∧ Below w.heap.size w w2 ∧ Sl w2 (w.heap.size + 1) 0 (rows R2.vs [app]) := by
    refine ⟨_, rfl, ((Below.refl _ _).alloc (Nat.le_refl _) _).alloc (by simp) _, ?_⟩
    have := sl_laid (w.alloc (.cells #[.int .i64 app.a, .int .i64 app.b] 138)) #[.int .i64 app.a, .int .i64 app.b] 138
    simp at this
    exact this
  go_enter Try.func218, Try.ntmps218
  go_wp2_with fail
  rw [← HW.out]
  refine (repeatLam_any (w.heap.size + 1) 0 1 m app _ hsl hm1).mono ?_
  rintro e w3 ⟨v3, rfl, hown3, hb3⟩
  have hB3 := below_step hB2 hb3
  obtain ⟨A3, c3, rfl⟩ := own_form hown3
  clear hb3 hsl
  have hcon := concatLam_any g off c2 vs (ts.map List.length) (ts.map (rows R2.vs)) w3 (hs.below' hB3) (HV.out.below hB3) (by rw [sum_lengthsLam, ← HS.out]; omega) (by rw [List.length_map, HM.out]; exact hm1)
  rw [List.length_map, HM.out, sum_lengthsLam, ← HS.out, rows_flattenLam] at hcon
  have HC := Lib.hid hcon; clear hcon
  go_wp2_with fail
  refine HC.out.mono ?_
  rintro e w4 ⟨v4, rfl, hown4, hb4, hnil4⟩
  have hB4 := below_step hB3 hb4
  obtain ⟨A4, c4, rfl⟩ := own_form hown4
  have hs3 := (Src.of_own hown3).below hb4
  have hs4 := Src.of_own hown4
  have hst := ht.below hB4
  clear hb4 hnil4 hown3 hown4 HC
  have hb5 := laid_below w4 (.cells #[.slice A3 m c3, .slice A n c, .slice A4 S c4] 73)
  have hsl5 : Sl (w4.alloc (.cells #[.slice A3 m c3, .slice A n c, .slice A4 S c4] 73)) w4.heap.size 0 [.slice A3 m c3, .slice A n c, .slice A4 S c4] := sl_laid w4 _ _
  have hv5 : SrcsLam (w4.alloc (.cells #[.slice A3 m c3, .slice A n c, .slice A4 S c4] 73)) [.slice A3 m c3, .slice A n c, .slice A4 S c4] [m, n, S] [rows R2.vs (List.replicate m app), rows R2.vs t, rows R2.vs ts.flatten] := by
    refine ⟨rfl, rfl, fun j v n' xs h1 h2 h3 => ?_⟩
    match j, h1, h2, h3 with
    | 0, h1, h2, h3 =>
      simp at h1 h2 h3; subst h1 h2 h3
      exact ⟨hs3.below hb5, one_rows_Lam _⟩
    | 1, h1, h2, h3 =>
      simp at h1 h2 h3; subst h1 h2 h3
      exact ⟨hst.below hb5, one_rows_Lam _⟩
    | 2, h1, h2, h3 =>
      simp at h1 h2 h3; subst h1 h2 h3
      exact ⟨hs4.below hb5, one_rows_Lam _⟩
    | j + 3, h1, _, _ => simp at h1
  have hcon := concatLam_any w4.heap.size 0 3 _ _ _ _ hsl5 hv5 (by simp; omega) (by simp)
  have HC5 := Lib.hid hcon; clear hcon
  go_wp2_with fail
  refine HC5.out.mono ?_
  rintro e w6 ⟨v6, rfl, hown6, hb6, hnil6⟩
  go_wp2
  go_ret
  refine ⟨_, rfl, ?_, below_step hB4 (below_step hb5 hb6)⟩
  have h7 := own_base hown6 (Nat.le_trans hB4.size hb5.size)
  rw [List.append_assoc, rows_app, rows_app]
  simp only [List.sum_cons, List.sum_nil, Nat.add_zero, List.flatten_cons, List.flatten_nil, List.append_nil] at h7
  rw [Nat.add_assoc]
  exact h7
end Go.Proofs.Ytfmfpknigafnoaa
