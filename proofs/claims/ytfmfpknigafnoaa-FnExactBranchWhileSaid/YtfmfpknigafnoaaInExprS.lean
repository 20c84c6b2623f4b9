/- Contracts of the laws' helpers on []impl.Expr, in one form: copy, compare, size, mark, look at the marks. -/
import Derived.Test.YtfmfpknigafnoaaHelpExpr
import Derived.Test.YtfmfpknigafnoaaHeld
import Derived.StillTailTactics
namespace Go.Proofs.Ytfmfpknigafnoaa
open Go.RowKit
set_option linter.all false

theorem inToExprS (A : Option Addr) (n c : Nat) (t : List R2) (w : World) (ha : Args 2 w A n (rows R2.vs t)) (hn : n ≤ 1048576) :
    Calls Try.prog 12 #[.slice A n c] w fun e w' => e = .returned (.slice (some ⟨w.heap.size, 0, none⟩) n n) ∧ w'.ownsRow w.heap.size 85 2 (.slice (some ⟨w.heap.size, 0, none⟩) n n) n (rows R2.vs t) ∧ Below w.heap.size w w' := by
  exact toExprS_any A n c t w ha hn

theorem inEqExprS (A B : Option Addr) (n m c d : Nat) (x y : List R2) (v : Bool) (hv : decide (x = y) = v) (w : World) (ha : Args 2 w A n (rows R2.vs x)) (hb : Args 2 w B m (rows R2.vs y)) (hn : n ≤ 4194304) (hm : m ≤ 4194304) :
    Calls Try.prog 16 #[.slice A n c, .slice B m d] w fun e w' => e = .returned (.bool v) ∧ Below w.heap.size w w' := by
  have h := eqExprS_any A B n m c d x y w ha hb hn hm
  rw [hv] at h
  exact h

theorem inSzExprS (A : Option Addr) (n c : Nat) (left : Int) (w : World) (h0 : 0 ≤ left) (h1 : left ≤ 1048576) (hn : n ≤ 9223372036854775807) :
    Calls Try.prog 9 #[.slice A n c, .int .i64 left] w fun e w' => (∃ z : Int, e = .returned (.int .i64 z) ∧ SzOut n left z) ∧ w = w' := by
  by_cases h : (n : Int) ≤ left
  · have h' : ¬ left - (n : Int) < 0 := by omega
    go_enter Try.func9, Try.ntmps9
    go_wp2
    go_ret
    exact ⟨⟨_, rfl, .inl ⟨h, rfl⟩⟩, rfl⟩
  · have h' : left - (n : Int) < 0 := by omega
    go_enter Try.func9, Try.ntmps9
    go_wp2
    go_ret
    exact ⟨⟨_, rfl, .inr ⟨by omega, rfl⟩⟩, rfl⟩

theorem inMarkExprS (base : Nat) (v : Value) (n : Nat) (k0 : Int) (xs : List Value) (w : World) (ho : w.ownsRow base 85 2 v n xs) (hk0 : 0 ≤ k0) (hk1 : k0 ≤ 1099511627776) (hn : n ≤ 4194304) :
    Calls Try.prog 17 #[v, .int .i64 k0] w fun e w' => e = .returned (.int .i64 (k0 + (n * 2 : Nat))) ∧ w'.ownsRow base 85 2 v n (marks (.int .i64) k0 (n * 2)) ∧ w.grownBy w' v.ownBlock := by
  exact markExprS_any base v n k0 xs w ho hk0 hk1 hn

theorem inHeldExprS (A : Option Addr) (n c : Nat) (k0 : Int) (w : World) (ha : Args 2 w A n (marks (.int .i64) k0 (n * 2))) (hk0 : 0 ≤ k0) (hk1 : k0 ≤ 1099511627776) (hn : n ≤ 4194304) :
    Calls Try.prog 74 #[.slice A n c, .int .i64 k0] w fun e w' => e = .returned (.int .i64 (k0 + (n * 2 : Nat))) ∧ w = w' := by
  exact heldExprS_any A n c k0 w ha hk0 hk1 hn

end Go.Proofs.Ytfmfpknigafnoaa
