/- Contracts of the laws' helpers on []int64, in one form: copy, compare, size, mark, look at the marks. -/
import Derived.Test.YtjakgeblmkdbpaaHelpInt
import Derived.Test.YtjakgeblmkdbpaaHeld
import Derived.StillTailTactics
namespace Go.Proofs.Ytjakgeblmkdbpaa
open Go.RowKit
set_option linter.all false

theorem inToInt64S (A : Option Addr) (n c : Nat) (t : List Int) (w : World) (ha : Args 1 w A n (rows oneI t)) (hn : n ≤ 1048576) :
    Calls Try.prog 18 #[.slice A n c] w fun e w' => e = .returned (.slice (some ⟨w.heap.size, 0, none⟩) n n) ∧ w'.ownsRow w.heap.size 2 1 (.slice (some ⟨w.heap.size, 0, none⟩) n n) n (rows oneI t) ∧ Below w.heap.size w w' := by
  rw [rows_oneI] at ha ⊢; exact toInt64S_any A n c t w (arg_args ha) hn

theorem inEqInt64S (A B : Option Addr) (n m c d : Nat) (x y : List Int) (v : Bool) (hv : decide (x = y) = v) (w : World) (ha : Args 1 w A n (rows oneI x)) (hb : Args 1 w B m (rows oneI y)) (hn : n ≤ 4194304) (hm : m ≤ 4194304) :
    Calls Try.prog 22 #[.slice A n c, .slice B m d] w fun e w' => e = .returned (.bool v) ∧ Below w.heap.size w w' := by
  rw [rows_oneI] at ha hb
  have h := eqInt64S_any A B n m c d x y w (arg_args ha) (arg_args hb) hn hm
  rw [hv] at h
  exact h.mono fun e w' ⟨h1, q, h2⟩ => ⟨h1, quiet_below h2⟩

theorem inSzInt64S (A : Option Addr) (n c : Nat) (left : Int) (w : World) (h0 : 0 ≤ left) (h1 : left ≤ 1048576) (hn : n ≤ 9223372036854775807) :
    Calls Try.prog 46 #[.slice A n c, .int .i64 left] w fun e w' => (∃ z : Int, e = .returned (.int .i64 z) ∧ SzOut n left z) ∧ w = w' := by
  by_cases h : (n : Int) ≤ left
  · have h' : ¬ left - (n : Int) < 0 := by omega
    go_enter Try.func46, Try.ntmps46
    go_wp2
    go_ret
    exact ⟨⟨_, rfl, .inl ⟨h, rfl⟩⟩, rfl⟩
  · have h' : left - (n : Int) < 0 := by omega
    go_enter Try.func46, Try.ntmps46
    go_wp2
    go_ret
    exact ⟨⟨_, rfl, .inr ⟨by omega, rfl⟩⟩, rfl⟩

theorem inMarkInt64S (base : Nat) (v : Value) (n : Nat) (k0 : Int) (xs : List Value) (w : World) (ho : w.ownsRow base 2 1 v n xs) (hk0 : 0 ≤ k0) (hk1 : k0 ≤ 1099511627776) (hn : n ≤ 4194304) :
    Calls Try.prog 24 #[v, .int .i64 k0] w fun e w' => e = .returned (.int .i64 (k0 + (n * 1 : Nat))) ∧ w'.ownsRow base 2 1 v n (marks mkInt64S k0 (n * 1)) ∧ w.grownBy w' v.ownBlock := by
  rw [Nat.mul_one]
  exact markInt64S_any base v n k0 xs w ho hk0 hk1 hn

theorem inHeldInt64S (A : Option Addr) (n c : Nat) (k0 : Int) (w : World) (ha : Args 1 w A n (marks mkInt64S k0 (n * 1))) (hk0 : 0 ≤ k0) (hk1 : k0 ≤ 1099511627776) (hn : n ≤ 4194304) :
    Calls Try.prog 67 #[.slice A n c, .int .i64 k0] w fun e w' => e = .returned (.int .i64 (k0 + (n * 1 : Nat))) ∧ w = w' := by
  rw [Nat.mul_one] at ha ⊢
  exact heldInt64S_any A n c k0 w (arg_args ha) hk0 hk1 hn

end Go.Proofs.Ytjakgeblmkdbpaa
