/- Contracts of the laws' helpers on []bool, in one form: copy, compare, size, mark, look at the marks. -/
import Derived.Test.YtgcedfpjgdeakaaHelpBool
import Derived.Test.YtgcedfpjgdeakaaHeld
import Derived.StillTailTactics
namespace Go.Proofs.Ytgcedfpjgdeakaa
open Go.RowKit
set_option linter.all false

theorem inToBoolS (A : Option Addr) (n c : Nat) (t : List Bool) (w : World) (ha : Args 1 w A n (rows oneB t)) (hn : n ≤ 1048576) :
    Calls Try.prog 31 #[.slice A n c] w fun e w' => e = .returned (.slice (some ⟨w.heap.size, 0, none⟩) n n) ∧ w'.ownsRow w.heap.size 4 1 (.slice (some ⟨w.heap.size, 0, none⟩) n n) n (rows oneB t) ∧ Below w.heap.size w w' := by
  rw [rows_oneB] at ha ⊢; exact toBoolS_any A n c t w (arg_args ha) hn

theorem inEqBoolS (A B : Option Addr) (n m c d : Nat) (x y : List Bool) (v : Bool) (hv : decide (x = y) = v) (w : World) (ha : Args 1 w A n (rows oneB x)) (hb : Args 1 w B m (rows oneB y)) (hn : n ≤ 4194304) (hm : m ≤ 4194304) :
    Calls Try.prog 11 #[.slice A n c, .slice B m d] w fun e w' => e = .returned (.bool v) ∧ Below w.heap.size w w' := by
  rw [rows_oneB] at ha hb
  have h := eqBoolS_any A B n m c d x y w (arg_args ha) (arg_args hb) hn hm
  rw [hv] at h
  exact h.mono fun e w' ⟨h1, q, h2⟩ => ⟨h1, quiet_below h2⟩

theorem inSzBoolS (A : Option Addr) (n c : Nat) (left : Int) (w : World) (h0 : 0 ≤ left) (h1 : left ≤ 1048576) (hn : n ≤ 9223372036854775807) :
    Calls Try.prog 26 #[.slice A n c, .int .i64 left] w fun e w' => (∃ z : Int, e = .returned (.int .i64 z) ∧ SzOut n left z) ∧ w = w' := by
  by_cases h : (n : Int) ≤ left
  · have h' : ¬ left - (n : Int) < 0 := by omega
    go_enter Try.func26, Try.ntmps26
    go_wp2
    go_ret
    exact ⟨⟨_, rfl, .inl ⟨h, rfl⟩⟩, rfl⟩
  · have h' : left - (n : Int) < 0 := by omega
    go_enter Try.func26, Try.ntmps26
    go_wp2
    go_ret
    exact ⟨⟨_, rfl, .inr ⟨by omega, rfl⟩⟩, rfl⟩

theorem inMarkBoolS (base : Nat) (v : Value) (n : Nat) (k0 : Int) (xs : List Value) (w : World) (ho : w.ownsRow base 4 1 v n xs) (hk0 : 0 ≤ k0) (hk1 : k0 ≤ 1099511627776) (hn : n ≤ 4194304) :
    Calls Try.prog 16 #[v, .int .i64 k0] w fun e w' => e = .returned (.int .i64 (k0 + (n * 1 : Nat))) ∧ w'.ownsRow base 4 1 v n (marks mkBoolS k0 (n * 1)) ∧ w.grownBy w' v.ownBlock := by
  rw [Nat.mul_one]
  exact markBoolS_any base v n k0 xs w ho hk0 hk1 hn

theorem inHeldBoolS (A : Option Addr) (n c : Nat) (k0 : Int) (w : World) (ha : Args 1 w A n (marks mkBoolS k0 (n * 1))) (hk0 : 0 ≤ k0) (hk1 : k0 ≤ 1099511627776) (hn : n ≤ 4194304) :
    Calls Try.prog 17 #[.slice A n c, .int .i64 k0] w fun e w' => e = .returned (.int .i64 (k0 + (n * 1 : Nat))) ∧ w = w' := by
  rw [Nat.mul_one] at ha ⊢
  exact heldBoolS_any A n c k0 w (arg_args ha) hk0 hk1 hn

end Go.Proofs.Ytgcedfpjgdeakaa
