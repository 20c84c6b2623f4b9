/- Terms in a row of Expr: size and termEnd with whatever function that tells how many terms follow. -/
import Derived.Test.YtgcedfpjgdeakaaTerms
import Derived.Test.YtgcedfpjgdeakaaHelpExpr
namespace Go.Proofs.Ytgcedfpjgdeakaa
open Go.RowKit
set_option linter.all false

theorem size_Expr_any (A : Option Addr) (n c : Nat) (w : World) : Calls Try.prog 62 #[.slice A n c] w fun e w' => e = .returned (.int .i64 n) ∧ w = w' := by
  go_enter Try.func62, Try.ntmps62
  go_wp2
  go_ret
  exact ⟨rfl, rfl⟩

set_option maxRecDepth 100000 in
set_option maxHeartbeats 400000 in
theorem termEnd_Expr_any (F : FuncId) (caps : Array Value) (fol : R2 → Nat) (A : Option Addr) (n c k0 : Nat) (xs : List R2) (w : World) (ha : Args 2 w A n (rows R2.vs xs)) (hn : n ≤ 1048576) (hk0 : k0 ≤ n) (hfol : ∀ x, fol x ≤ 2)
    (hE : ∀ (args : Array Value) (W : World), (callFunc F args).run Try.prog W = .ok (.enter F args) W)
    (hF : Hid (∀ (x : R2) (W : World), Calls Try.prog F (#[.agg #[.int .i64 x.a, .int .i64 x.b]] ++ caps) W fun e w' => e = .returned (.int .i64 (fol x : Nat)) ∧ Below W.heap.size W w')) :
    Calls Try.prog 64 #[.slice A n c, .int .i64 k0, .func (.func F) #[] caps] w fun e w' => e = .returned (.int .i64 (tPos fol k0 (xs.drop k0))) ∧ Below w.heap.size w w' := by
  have HL : Hid (xs.length = n) := by have := ha.1; rw [rows_len R2.vs_len] at this; unfold Hid; omega
  have HO := Lib.hid hfol; clear hfol
  go_enter Try.func64, Try.ntmps64
  go_wp2
  go_loopw [1, 7] (fun i o wr => ∃ k op : Nat, k0 ≤ k ∧ k ≤ n ∧ op ≤ 2 * k + 1 ∧ i = .int .i64 k ∧ o = .int .i64 op ∧ Below w.heap.size w wr ∧ Hid (tPos fol k0 (xs.drop k0) = tPosAt fol op k (xs.drop k))) (fun i _ _ => n - (intOf i).toNat)
  case atStart => exact ⟨k0, 1, Nat.le_refl _, hk0, by omega, rfl, rfl, Below.refl _ _, rfl⟩
  case round =>
    obtain ⟨k, op, hk, hkn, hop, rfl, rfl, hB, HT⟩ := hrel
    by_cases ho : op = 0
    · subst ho
      go_wp2
      go_ret
      exact ⟨ret_int (by rw [HT.out, tPosAt_zero]), hB⟩
    · have ho1 : (0 : Int) < (op : Int) := by omega
      by_cases hlt : k < n
      · obtain ⟨b, off, rfl, hs⟩ := ha.sl hlt
        obtain ⟨x, HX⟩ := hget HL hlt
        obtain ⟨p0, p1⟩ := (hs.below' hB).rec2 HX.out
        have hf2 := HO.out x
        have HT2 : Hid (tPos fol k0 (xs.drop k0) = tPosAt fol (op - 1 + fol x) (k + 1) (xs.drop (k + 1))) := by
          unfold Hid
          rw [HT.out, drop_at HX.out, show op = (op - 1) + 1 by omega, tPosAt_succ]
          rfl
        have hsub : ¬ (n : Int) ≤ (k : Int) := by omega
        go_wp2_with fail
        refine (hF.out x _).mono ?_
        rintro e w1 ⟨rfl, hb1⟩
        have hB1 := below_step hB hb1
        clear hb1 p0 p1
        go_wp2
        go_roundw
        case rel => exact ⟨k + 1, op - 1 + fol x, by omega, by omega, by omega, by go_num, by congr 1; omega, hB1, HT2⟩
        case measure => simp [intOf]; omega
      · have hge : (n : Int) ≤ (k : Int) := by omega
        go_wp2
        go_ret
        refine ⟨ret_int ?_, hB⟩
        rw [HT.out, List.drop_of_length_le (by have := HL.out; omega), show op = (op - 1) + 1 by omega, tPosAt_none]

end Go.Proofs.Ytgcedfpjgdeakaa
