/- Tag systems: small contracts. -/
import Derived.Test.YtcfkjigapnknnaaTagSpec2
namespace Go.Proofs.Ytcfkjigapnknnaa
open Go.RowKit
set_option linter.all false

theorem l16Front_is (gt : Nat) (A : Option Addr) (n c : Nat) (w : World) (t1 : w.cell? ⟨gt, 1, none⟩ = some (.slice A n c)) (hn : n ≤ 1048576) :
    Calls Try.prog 83 #[.pointer (some ⟨gt, 0, none⟩)] w fun e w' => e = .returned (.int .i64 (2 * (n : Int))) ∧ w = w' := by
  have wm : IntKind.i64.wrap (2 * (n : Int)) = 2 * (n : Int) := IntWalk.i64_in _ (by omega)
  go_enter Try.func83, Try.ntmps83
  go_wp2_with fail
  go_ret
  exact ⟨rfl, rfl⟩
theorem sizeWordsT_any (A : Option Addr) (n c : Nat) (w : World) : Calls Try.prog 126 #[.slice A n c] w fun e w' => e = .returned (.int .i64 n) ∧ w = w' := by
  go_enter Try.func126, Try.ntmps126
  go_wp2
  go_ret
  exact ⟨rfl, rfl⟩

theorem isTagWord_is (b off n c m : Nat) (xs : List Int) (v : Bool) (hv : overB m xs = v) (w : World) (hs : Sl w b off (xs.map (.int .i64))) (hl : xs.length = n) (hn : n ≤ 4194304) (hm : m ≤ 1048576) :
    Calls Try.prog 148 #[.slice (some ⟨b, off, none⟩) n c, .int .i64 m] w fun e w' => e = .returned (.bool v) ∧ w = w' := by
  have wm : IntKind.i64.wrap ((m : Int) - 1) = (m : Int) - 1 := IntWalk.i64_in _ (by omega)
  have HL := Lib.hid hl
  by_cases h : n ≤ 1000
  · obtain ⟨va, hva⟩ : ∃ va, va = xs.all (fun x => inB x 0 ((m : Int) - 1)) := ⟨_, rfl⟩
    have HA := Lib.hid hva.symm
    have HV : Hid (va = v) := by unfold Hid; rw [← hv, overB, ← hva, hl, decide_eq_true h, Bool.and_true]
    clear hv hva hl
    go_enter Try.func148, Try.ntmps148
    go_wp2_with fail
    refine (allWithin_any b off n c xs 0 ((m : Int) - 1) _ hs HL.out hn).mono ?_
    rintro e w' ⟨rfl, rfl⟩
    go_wp2_with fail
    go_ret
    exact ⟨ret_bool (by rw [← HV.out, ← HA.out]), rfl⟩
  · have HV : Hid (v = false) := by unfold Hid; rw [← hv, overB, hl, decide_eq_false h, Bool.and_false]
    clear hv hl
    go_enter Try.func148, Try.ntmps148
    go_wp2_with fail
    go_ret
    exact ⟨ret_bool HV.out.symm, rfl⟩
end Go.Proofs.Ytcfkjigapnknnaa
