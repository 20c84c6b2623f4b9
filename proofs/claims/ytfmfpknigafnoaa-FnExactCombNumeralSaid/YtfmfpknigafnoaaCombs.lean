/- Combinator terms: which are valid; combFollow, combEnd, ValidComb and the reference's l12Comb, l12CombEnd. -/
import Derived.Test.YtfmfpknigafnoaaTermComb
namespace Go.Proofs.Ytfmfpknigafnoaa
open Go.RowKit
set_option linter.all false

def kFol (x : R2) : Nat := if x.a = 0 then 2 else 0
theorem kFol_le (x : R2) : kFol x ≤ 2 := by unfold kFol; split <;> omega
def kOk (x : R2) : Bool := inB x.a 0 4 && inB x.b 0 399 && (decide (x.a = 4) || decide (x.b = 0))
def validC (xs : List R2) : Bool := inB xs.length 1 400 && (xs.all kOk && fit kFol 1 xs)
theorem all_drop {α : Type} {p : α → Bool} {xs : List α} {k : Nat} {x : α} (h : xs[k]? = some x) : (xs.drop k).all p = (p x && (xs.drop (k + 1)).all p) := by rw [drop_at h]; simp

theorem combFollow_any (x : R2) (w : World) : Calls Try.prog 222 #[.agg #[.int .i64 x.a, .int .i64 x.b]] w fun e w' => e = .returned (.int .i64 (kFol x : Nat)) ∧ Below w.heap.size w w' := by
  obtain ⟨a, b⟩ := x
  have h0 : Below w.heap.size w (w.alloc (.cells #[.int .i64 a, .int .i64 b] 136)) := laid_below _ _
  by_cases h : a = 0
  · subst h
    go_enter Try.func222, Try.ntmps222
    go_wp2
    go_ret
    exact ⟨ret_int (by simp [kFol]), h0⟩
  · have e : (a == 0) = false := by simpa using h
    have HE : Hid (((kFol ⟨a, b⟩ : Nat) : Int) = 0) := by unfold Hid; simp [kFol, h]
    clear h
    go_enter Try.func222, Try.ntmps222
    go_wp2
    go_ret
    exact ⟨ret_int HE.out.symm, h0⟩

theorem combEnd_any (A : Option Addr) (n c k0 : Nat) (xs : List R2) (w : World) (ha : Args 2 w A n (rows R2.vs xs)) (hn : n ≤ 1048576) (hk0 : k0 ≤ n) :
    Calls Try.prog 192 #[.slice A n c, .int .i64 k0] w fun e w' => e = .returned (.int .i64 (tPos kFol k0 (xs.drop k0))) ∧ Below w.heap.size w w' := by
  go_enter Try.func192, Try.ntmps192
  go_wp2_with fail
  refine (termEnd_Comb_any 222 #[] kFol _ n c k0 xs _ ha hn hk0 kFol_le (enters_of' Try.func222 (by kernel_rfl) rfl) (fun x W => combFollow_any x W)).mono ?_
  rintro e w1 ⟨rfl, hb1⟩
  go_wp2
  go_ret
  exact ⟨rfl, hb1⟩

end Go.Proofs.Ytfmfpknigafnoaa
