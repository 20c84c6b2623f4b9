/- SequenceWhile on both sides. -/
import Derived.Test.YtfmfpknigafnoaaOwnWhile
import Derived.Test.YtfmfpknigafnoaaConcatCommand
import Derived.Test.YtfmfpknigafnoaaValidWhile
namespace Go.Proofs.Ytfmfpknigafnoaa
open Go.RowKit
set_option linter.all false

def seqWhile (a b : List DCommand) : List DCommand × Int := if validWhile a = true ∧ validWhile b = true then fitW (a ++ b) else ([], 1)
theorem seqWhile_a {a b : List DCommand} (h : validWhile a = false) : seqWhile a b = ([], 1) := by unfold seqWhile; rw [if_neg (by rw [h]; simp)]
theorem seqWhile_b {a b : List DCommand} (h : validWhile b = false) : seqWhile a b = ([], 1) := by unfold seqWhile; rw [if_neg (by rw [h]; simp)]
theorem seqWhile_ok {a b : List DCommand} (h : validWhile a = true) (h2 : validWhile b = true) : seqWhile a b = fitW (a ++ b) := by unfold seqWhile; rw [if_pos ⟨h, h2⟩]
theorem sumCommand_app (a b : List DCommand) : sumCommand (a ++ b) = sumCommand a + sumCommand b := by simp [sumCommand]
theorem fitW_le (xs : List DCommand) (h : sumCommand xs ≤ 2097152) : (fitW xs).1.length ≤ 1048576 ∧ sumCommand (fitW xs).1 ≤ 2097152 := by
  unfold fitW
  split
  · rename_i hh
    exact ⟨by simp only; omega, h⟩
  · exact ⟨by simp, by simp [sumCommand]⟩
theorem bndSequenceWhile0 (a b : List DCommand) (h1 : a.length ≤ 1048576) (s1 : sumCommand a ≤ 1048576) (h2 : b.length ≤ 1048576) (s2 : sumCommand b ≤ 1048576) : (seqWhile a b).1.length ≤ 1048576 ∧ sumCommand (seqWhile a b).1 ≤ 2097152 := by
  unfold seqWhile
  split
  · exact fitW_le _ (by rw [sumCommand_app]; omega)
  · exact ⟨by simp, by simp [sumCommand]⟩
theorem validWhile_len {xs : List DCommand} (h : validWhile xs = true) : xs.length ≤ 80 := by
  unfold validWhile at h; rw [Bool.and_eq_true] at h; exact of_decide_eq_true h.1

theorem sumCommand_max {m : Nat} : ∀ {xs : List DCommand}, (∀ x ∈ xs, x.f3.length ≤ m) → sumCommand xs ≤ xs.length * m := by
  intro xs
  induction xs with
  | nil => intro _; simp [sumCommand]
  | cons x l ih =>
    intro h
    have h1 := h x (List.mem_cons_self ..)
    have h2 := ih fun y hy => h y (List.mem_cons_of_mem _ hy)
    simp only [sumCommand, List.map_cons, List.sum_cons, wlCommand, List.length_cons, Nat.succ_mul] at h2 ⊢
    omega
theorem validWhile_sum {xs : List DCommand} (h : validWhile xs = true) : sumCommand xs ≤ 3200 := by
  have h1 := validWhile_len h
  have h2 : validCs xs = true := by unfold validWhile at h; rw [Bool.and_eq_true] at h; exact h.2
  have h3 := sumCommand_max (m := 40) fun x hx => (validE_pos (validCs_all _ xs rfl h2 x hx)).2
  omega

theorem SGrid.widen {E : Type} {K : Knd E} {lo base hi hi' : Nat} {T Te : TypeId} {s : Nat} {V : Value} {es : List E} {W : World} (h : SGrid K base hi T Te s V es W) (hl : lo ≤ base) (hh : hi ≤ hi') : SGrid K lo hi' T Te s V es W :=
  ⟨own_base h.own hl, (h.inn.lower hl).wide hh, fun k hk => Nat.lt_of_lt_of_le (h.top k hk) hh⟩
theorem one_rows_Command {w : World} {es : List ECommand} (hr : RdsCommand w es) : ∀ u ∈ rows ECommand.vs es, u.oneCell' = true := by
  intro u hu
  simp only [rows, List.mem_flatMap, ECommand.vs] at hu
  obtain ⟨e, he, hu⟩ := hu
  obtain ⟨⟨A, c, e1, _⟩, -⟩ := hr e he
  simp at hu
  rcases hu with rfl | rfl | rfl | rfl
  · rfl
  · rfl
  · rfl
  · rw [e1]; rfl

theorem l22Fit_ok (A : Option Addr) (n c : Nat) (w : World) (h : n ≤ 80) : Calls Try.prog 61 #[.slice A n c] w fun z w' => z = .returned (.tuple #[.slice A n c, .int .i64 0]) ∧ w = w' := by
  go_enter Try.func61, Try.ntmps61
  go_wp2
  go_ret2
  exact ⟨rfl, rfl⟩
theorem l22Fit_no (A : Option Addr) (n c : Nat) (w : World) (h : ¬ n ≤ 80) : Calls Try.prog 61 #[.slice A n c] w fun z w' => z = .returned (.tuple #[.slice none 0 0, .int .i64 5]) ∧ w = w' := by
  go_enter Try.func61, Try.ntmps61
  go_wp2
  go_ret2
  exact ⟨rfl, rfl⟩

end Go.Proofs.Ytfmfpknigafnoaa
