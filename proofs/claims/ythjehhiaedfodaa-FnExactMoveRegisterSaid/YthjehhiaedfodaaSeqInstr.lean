/- Library functions on rows of Instr: IndexFunc, ContainsFunc with whatever function value, Clone; size. -/
import Derived.Test.YthjehhiaedfodaaSeq
import Derived.Test.YthjehhiaedfodaaApp
import Derived.Test.YthjehhiaedfodaaHelpInstr
namespace Go.Proofs.Ythjehhiaedfodaa
open Go.RowKit
set_option linter.all false

theorem one_rows_Instr (xs : List R4) : ∀ u ∈ rows R4.vs xs, u.oneCell' = true := by
  intro u hu
  simp only [rows, List.mem_flatMap, R4.vs] at hu
  obtain ⟨x, _, hu⟩ := hu
  simp at hu
  rcases hu with rfl | rfl | rfl | rfl <;> rfl

set_option maxRecDepth 100000 in
theorem sizeOf_Instr_any (A : Option Addr) (n c : Nat) (w : World) : Calls Try.prog 67 #[.slice A n c] w fun e w' => e = .returned (.int .i64 n) ∧ w = w' := by
  go_enter Try.func67, Try.ntmps67
  go_wp2
  go_ret
  exact ⟨rfl, rfl⟩

set_option maxRecDepth 100000 in
set_option maxHeartbeats 400000 in
theorem indexFuncAt_Instr (F : FuncId) (caps : Array Value) (p : R4 → Bool) (A : Option Addr) (n c : Nat) (xs : List R4) (w : World) (ha : Args 4 w A n (rows R4.vs xs)) (hn : n ≤ 1048576)
    (hE : ∀ (args : Array Value) (W : World), (callFunc F args).run Try.prog W = .ok (.enter F args) W) (hF : Hid (∀ x v W, x ∈ xs → p x = v → Below w.heap.size w W → Calls Try.prog F (#[.agg #[.int .i64 x.a, .int .i64 x.b, .int .i64 x.c, .int .i64 x.d]] ++ caps) W fun e w' => e = .returned (.bool v) ∧ Below W.heap.size W w')) :
    Calls Try.prog 123 #[.slice A n c, .func (.func F) #[] caps] w fun e w' => e = .returned (.int .i64 (findI p xs)) ∧ Below w.heap.size w w' := by
  have HL : Hid (xs.length = n) := by have := ha.1; rw [rows_len R4.vs_len] at this; unfold Hid; omega
  go_enter Try.func123, Try.ntmps123
  go_wp2
  go_loopw [8] (fun i wr => ∃ k : Nat, k ≤ n ∧ i = .int .i64 k ∧ Below w.heap.size w wr ∧ Hid (∀ j x, j < k → xs[j]? = some x → p x = false)) (fun i _ => n - (intOf i).toNat)
  case atStart => exact ⟨0, Nat.zero_le _, rfl, Below.refl _ _, by intro j x hj; omega⟩
  case round =>
    obtain ⟨k, hk, rfl, hB, HR⟩ := hrel
    by_cases hlt : k < n
    · obtain ⟨x, HX⟩ := hget HL hlt
      obtain ⟨b, off, rfl, hs⟩ := ha.sl hlt
      obtain ⟨p0, p1, p2, p3⟩ := (hs.below' hB).rec4 HX.out
      rcases Bool.eq_false_or_eq_true (p x) with hv | hv
      · have HV := Lib.hid hv; clear hv
        go_wp2_with fail
        refine (hF.out x true _ (List.mem_of_getElem? HX.out) HV.out hB).mono ?_
        rintro e w1 ⟨rfl, hb1⟩
        have hB1 := below_step hB hb1
        clear hb1 p0 p1 p2 p3
        go_wp2
        go_ret
        exact ⟨ret_int (findI_some HR.out HX.out HV.out).symm, hB1⟩
      · have HV := Lib.hid hv; clear hv
        go_wp2_with fail
        refine (hF.out x false _ (List.mem_of_getElem? HX.out) HV.out hB).mono ?_
        rintro e w1 ⟨rfl, hb1⟩
        have hB1 := below_step hB hb1
        clear hb1 p0 p1 p2 p3
        go_wp2
        go_roundw
        case rel => exact ⟨k + 1, by omega, by go_num, hB1, by
          intro j y hj hy
          by_cases ej : j = k
          · subst ej; rw [HX.out] at hy; injection hy with hy; subst hy; exact HV.out
          · exact HR.out j y (by omega) hy⟩
        case measure => simp [intOf]; omega
    · go_wp2
      go_ret
      refine ⟨ret_int ?_, hB⟩
      rw [findI_none]
      intro j x hx
      exact HR.out j x (by have := (List.getElem?_eq_some_iff.1 hx).1; have := HL.out; omega) hx

set_option maxRecDepth 100000 in
theorem containsFuncAt_Instr (F : FuncId) (caps : Array Value) (p : R4 → Bool) (A : Option Addr) (n c : Nat) (xs : List R4) (w : World) (ha : Args 4 w A n (rows R4.vs xs)) (hn : n ≤ 1048576)
    (hE : ∀ (args : Array Value) (W : World), (callFunc F args).run Try.prog W = .ok (.enter F args) W) (hF : Hid (∀ x v W, x ∈ xs → p x = v → Below w.heap.size w W → Calls Try.prog F (#[.agg #[.int .i64 x.a, .int .i64 x.b, .int .i64 x.c, .int .i64 x.d]] ++ caps) W fun e w' => e = .returned (.bool v) ∧ Below W.heap.size W w')) (v : Bool) (hv : xs.any p = v) :
    Calls Try.prog 100 #[.slice A n c, .func (.func F) #[] caps] w fun e w' => e = .returned (.bool v) ∧ Below w.heap.size w w' := by
  have HV : Hid (decide (0 ≤ findI p xs) = v) := by unfold Hid; rw [findI_any, hv]
  clear hv
  rcases Bool.eq_false_or_eq_true (decide (0 ≤ findI p xs)) with hv | hv
  · have h0 : 0 ≤ findI p xs := of_decide_eq_true hv
    have HW := Lib.hid (hv.symm.trans HV.out); clear hv
    go_enter Try.func100, Try.ntmps100
    go_wp2_with fail
    refine (indexFuncAt_Instr F caps p A n c xs _ ha hn hE hF).mono ?_
    rintro e w1 ⟨rfl, hb1⟩
    go_wp2
    go_ret
    exact ⟨ret_bool (by first | exact HW.out | (rw [← HW.out]; simp; omega)), hb1⟩
  · have h0 : findI p xs < 0 := by have := of_decide_eq_false hv; omega
    have HW := Lib.hid (hv.symm.trans HV.out); clear hv
    go_enter Try.func100, Try.ntmps100
    go_wp2_with fail
    refine (indexFuncAt_Instr F caps p A n c xs _ ha hn hE hF).mono ?_
    rintro e w1 ⟨rfl, hb1⟩
    go_wp2
    go_ret
    exact ⟨ret_bool (by first | exact HW.out | (rw [← HW.out]; simp; omega)), hb1⟩

set_option maxRecDepth 100000 in
theorem clone_Instr_any (v0 : Value) (n : Nat) (xs : List R4) (w : World) (hsrc : Src 4 w v0 n (rows R4.vs xs)) (hn : n ≤ 1048576) :
    Calls Try.prog 124 #[v0] w fun e w' => ∃ v, e = .returned v ∧ w'.ownsRow w.heap.size 77 4 v n (rows R4.vs xs) ∧ Below w.heap.size w w' := by
  rcases hsrc.2 with ⟨rfl, rfl⟩ | ⟨b, off, c, rfl, hs⟩
  · have h0 : rows R4.vs xs = [] := List.eq_nil_of_length_eq_zero (by simpa using hsrc.1)
    have H0 := Lib.hid h0; clear h0
    have hnl := run_nil_none Try.underlying33
    go_enter Try.func124, Try.ntmps124
    go_wp2
    go_ret
    exact ⟨_, rfl, by rw [H0.out]; exact World.ownsRow_nil _ _ _ _, Below.refl _ _⟩
  · have hown0 : (w.alloc (.cells #[] 77)).ownsRow w.heap.size 77 4 (.slice (some ⟨w.heap.size, 0, none⟩) 0 0) 0 [] := own_empty w 77 4
    have hB0 := laid_below w (.cells #[] 77)
    have hsrc1 := hsrc.below hB0
    have hone := one_rows_Instr xs
    have HO := Lib.hid hone; clear hone
    clear hsrc hs
    have hnl := run_nil_some Try.underlying33 ⟨b, off, none⟩ n c
    go_enter Try.func124, Try.ntmps124
    go_wp2_with (at_builtin; refine wpList_appx rfl _ _ _ rfl Try.underlying33 infoInstr rfl (by omega) w.heap.size hown0 hB0.size rfl hsrc1 rfl HO.out (by unfold maxLen; omega) (by omega) ?_; intro v2 w2 hown2 hg2 hnil2; have hB2 := grown_below hB0 hown0 (Nat.le_refl _) hg2; clear hnil2 hown0 hB0 hsrc1 hg2)
    go_ret
    exact ⟨_, rfl, by simpa using hown2, hB2⟩

end Go.Proofs.Ythjehhiaedfodaa
