/- Library functions on rows of Lam: IndexFunc, ContainsFunc with whatever function value, Clone; size. -/
import Derived.Test.YtkiaclajjlidoaaGreatDoorSeq
import Derived.Test.YtkiaclajjlidoaaGreatDoorApp
import Derived.Test.YtkiaclajjlidoaaGreatDoorHelpLam
namespace Go.Proofs.YtkiaclajjlidoaaGreatDoor
open Go.RowKit
set_option linter.all false

theorem one_rows_Lam (xs : List R2) : ∀ u ∈ rows R2.vs xs, u.oneCell' = true := by
  intro u hu
  simp only [rows, List.mem_flatMap, R2.vs] at hu
  obtain ⟨x, _, hu⟩ := hu
  simp at hu
  rcases hu with rfl | rfl <;> rfl

set_option maxRecDepth 100000 in
theorem sizeOf_Lam_any (A : Option Addr) (n c : Nat) (w : World) : Calls Tryz.prog 70 #[.slice A n c] w fun e w' => e = .returned (.int .i64 n) ∧ w = w' := by
  go_enter Tryz.func70, Tryz.ntmps70
  go_wp2
  go_ret
  exact ⟨rfl, rfl⟩

set_option maxRecDepth 100000 in
set_option maxHeartbeats 400000 in
theorem indexFuncAt_Lam (F : FuncId) (caps : Array Value) (p : R2 → Bool) (A : Option Addr) (n c : Nat) (xs : List R2) (w : World) (ha : Args 2 w A n (rows R2.vs xs)) (hn : n ≤ 1048576)
    (hE : ∀ (args : Array Value) (W : World), (callFunc F args).run Tryz.prog W = .ok (.enter F args) W) (hF : Hid (∀ x v W, x ∈ xs → p x = v → Below w.heap.size w W → Calls Tryz.prog F (#[.agg #[.int .i64 x.a, .int .i64 x.b]] ++ caps) W fun e w' => e = .returned (.bool v) ∧ Below W.heap.size W w')) :
    Calls Tryz.prog 91 #[.slice A n c, .func (.func F) #[] caps] w fun e w' => e = .returned (.int .i64 (findI p xs)) ∧ Below w.heap.size w w' := by
  have HL : Hid (xs.length = n) := by have := ha.1; rw [rows_len R2.vs_len] at this; unfold Hid; omega
  go_enter Tryz.func91, Tryz.ntmps91
  go_wp2
  go_loopw [8] (fun i wr => ∃ k : Nat, k ≤ n ∧ i = .int .i64 k ∧ Below w.heap.size w wr ∧ Hid (∀ j x, j < k → xs[j]? = some x → p x = false)) (fun i _ => n - (intOf i).toNat)
  case atStart => exact ⟨0, Nat.zero_le _, rfl, Below.refl _ _, by intro j x hj; omega⟩
  case round =>
    obtain ⟨k, hk, rfl, hB, HR⟩ := hrel
    by_cases hlt : k < n
    · obtain ⟨x, HX⟩ := hget HL hlt
      obtain ⟨b, off, rfl, hs⟩ := ha.sl hlt
      obtain ⟨p0, p1⟩ := (hs.below' hB).rec2 HX.out
      rcases Bool.eq_false_or_eq_true (p x) with hv | hv
      · have HV := Lib.hid hv; clear hv
        go_wp2_with fail
        refine (hF.out x true _ (List.mem_of_getElem? HX.out) HV.out hB).mono ?_
        rintro e w1 ⟨rfl, hb1⟩
        have hB1 := below_step hB hb1
        clear hb1 p0 p1
        go_wp2
        go_ret
        exact ⟨ret_int (findI_some HR.out HX.out HV.out).symm, hB1⟩
      · have HV := Lib.hid hv; clear hv
        go_wp2_with fail
        refine (hF.out x false _ (List.mem_of_getElem? HX.out) HV.out hB).mono ?_
        rintro e w1 ⟨rfl, hb1⟩
        have hB1 := below_step hB hb1
        clear hb1 p0 p1
        go_wp2
        go_roundw
        case rel => exact ⟨k + 1, by omega, by go_num, hB1, by
          intro j y hj hy
          by_cases ej : j = k
          · subst ej; rw [HX.out] at hy; injection hy with hy; subst hy; exact HV.out
          · exact HR.out j y (by omega) hy⟩
        case measure => simp [intOf]; omega
    · go_wp2
      go_ret
      refine ⟨ret_int ?_, hB⟩
      rw [findI_none]
      intro j x hx
      exact HR.out j x (by have := (List.getElem?_eq_some_iff.1 hx).1; have := HL.out; omega) hx

set_option maxRecDepth 100000 in
theorem containsFuncAt_Lam (F : FuncId) (caps : Array Value) (p : R2 → Bool) (A : Option Addr) (n c : Nat) (xs : List R2) (w : World) (ha : Args 2 w A n (rows R2.vs xs)) (hn : n ≤ 1048576)
    (hE : ∀ (args : Array Value) (W : World), (callFunc F args).run Tryz.prog W = .ok (.enter F args) W) (hF : Hid (∀ x v W, x ∈ xs → p x = v → Below w.heap.size w W → Calls Tryz.prog F (#[.agg #[.int .i64 x.a, .int .i64 x.b]] ++ caps) W fun e w' => e = .returned (.bool v) ∧ Below W.heap.size W w')) (v : Bool) (hv : xs.any p = v) :
    Calls Tryz.prog 71 #[.slice A n c, .func (.func F) #[] caps] w fun e w' => e = .returned (.bool v) ∧ Below w.heap.size w w' := by
  have HV : Hid (decide (0 ≤ findI p xs) = v) := by unfold Hid; rw [findI_any, hv]
  clear hv
  rcases Bool.eq_false_or_eq_true (decide (0 ≤ findI p xs)) with hv | hv
  · have h0 : 0 ≤ findI p xs := of_decide_eq_true hv
    have HW := Lib.hid (hv.symm.trans HV.out); clear hv
    go_enter Tryz.func71, Tryz.ntmps71
    go_wp2_with fail
    refine (indexFuncAt_Lam F caps p A n c xs _ ha hn hE hF).mono ?_
    rintro e w1 ⟨rfl, hb1⟩
    go_wp2
    go_ret
    exact ⟨ret_bool (by first | exact HW.out | (rw [← HW.out]; simp; omega)), hb1⟩
  · have h0 : findI p xs < 0 := by have := of_decide_eq_false hv; omega
    have HW := Lib.hid (hv.symm.trans HV.out); clear hv
    go_enter Tryz.func71, Tryz.ntmps71
    go_wp2_with fail
    refine (indexFuncAt_Lam F caps p A n c xs _ ha hn hE hF).mono ?_
    rintro e w1 ⟨rfl, hb1⟩
    go_wp2
    go_ret
    exact ⟨ret_bool (by first | exact HW.out | (rw [← HW.out]; simp; omega)), hb1⟩

end Go.Proofs.YtkiaclajjlidoaaGreatDoor
