/- Configurations: the program's letters and what a word shows. -/
import Derived.Test.YtjakgeblmkdbpaaCfgGood
namespace Go.Proofs.Ytjakgeblmkdbpaa
open Go.RowKit
set_option linter.all false

set_option maxRecDepth 100000 in
set_option maxHeartbeats 1000000 in
theorem alphabetOf_yes (S Q : Int) (V : Value) (hV : V.oneCell' = true) (w : World) (hS : 0 ≤ S ∧ S ≤ 1000) (hQ : 0 ≤ Q ∧ Q ≤ 1000) (h9 : S + Q ≤ 9) :
    Calls Try.prog 71 #[.agg #[.int .i64 S, .int .i64 Q, V]] w fun e w' => e = .returned (.tuple #[.agg #[.int .i64 S, .int .i64 (S + Q)], .int .i64 0]) ∧ Below w.heap.size w w' := by
  have wb : IntKind.i64.wrap (S + Q) = S + Q := IntWalk.i64_in _ (by omega)
  have B := below_step (below_step (laid_below w (.cells #[.int .i64 S, .int .i64 Q, V] 34)) (laid_below _ (.cells #[.int .i64 S, .int .i64 (S + Q)] 110))) (laid_below _ (.cells #[.int .i64 S, .int .i64 (S + Q)] 110))
  go_enter Try.func71, Try.ntmps71
  go_wp2_with fail
  refine bodyPost_ret (v := .tuple #[.agg #[.int .i64 S, .int .i64 (S + Q)], .int .i64 0]) (by simp [results, Try.results71, go_sem]) rfl ?_
  exact ⟨rfl, B⟩
set_option maxRecDepth 100000 in
set_option maxHeartbeats 1000000 in
theorem alphabetOf_no (S Q : Int) (V : Value) (hV : V.oneCell' = true) (w : World) (hS : 0 ≤ S ∧ S ≤ 1000) (hQ : 0 ≤ Q ∧ Q ≤ 1000) (h9 : 9 < S + Q) :
    Calls Try.prog 71 #[.agg #[.int .i64 S, .int .i64 Q, V]] w fun e w' => e = .returned (.tuple #[.agg #[.int .i64 0, .int .i64 0], .int .i64 5]) ∧ Below w.heap.size w w' := by
  have wb : IntKind.i64.wrap (S + Q) = S + Q := IntWalk.i64_in _ (by omega)
  have B := below_step (below_step (laid_below w (.cells #[.int .i64 S, .int .i64 Q, V] 34)) (laid_below _ (.cells #[.int .i64 0, .int .i64 0] 110))) (laid_below _ (.cells #[.int .i64 S, .int .i64 (S + Q)] 110))
  go_enter Try.func71, Try.ntmps71
  go_wp2_with fail
  refine bodyPost_ret (v := .tuple #[.agg #[.int .i64 0, .int .i64 0], .int .i64 5]) (by simp [results, Try.results71, go_sem]) rfl ?_
  exact ⟨rfl, B⟩

theorem roomy_is (q : Int) (A1 A2 : Option Addr) (n1 c1 n2 c2 : Nat) (v : Bool) (hv : (decide (n1 ≤ 200) && decide (n2 ≤ 200)) = v) (w : World) (h1 : n1 ≤ 1048576) (h2 : n2 ≤ 1048576) :
    Calls Try.prog 73 #[.agg #[.int .i64 q, .slice A1 n1 c1, .slice A2 n2 c2]] w fun e w' => e = .returned (.bool v) ∧ Below w.heap.size w w' := by
  have B := laid_below w (.cells #[.int .i64 q, .slice A1 n1 c1, .slice A2 n2 c2] 36)
  have HV := Lib.hid hv; clear hv
  by_cases k1 : n1 ≤ 200
  · by_cases k2 : n2 ≤ 200
    · go_enter Try.func73, Try.ntmps73
      go_wp2_with fail
      go_ret
      exact ⟨ret_bool (by rw [← HV.out, decide_eq_true k1, decide_eq_true k2]; first | done | rfl | simp; omega), B⟩
    · go_enter Try.func73, Try.ntmps73
      go_wp2_with fail
      go_ret
      exact ⟨ret_bool (by rw [← HV.out, decide_eq_true k1, decide_eq_false k2]; first | done | rfl | simp; omega), B⟩
  · go_enter Try.func73, Try.ntmps73
    go_wp2_with fail
    go_ret
    exact ⟨ret_bool (by rw [← HV.out, decide_eq_false k1]; first | done | rfl | simp; omega), B⟩

theorem isState_is (gx : Nat) (S a : Int) (v : Bool) (hv : decide (S ≤ a) = v) (w : World) (m0 : w.cell? ⟨gx, 0, none⟩ = some (.int .i64 S)) :
    Calls Try.prog 122 #[.int .i64 a, .pointer (some ⟨gx, 0, none⟩)] w fun e w' => e = .returned (.bool v) ∧ w = w' := by
  go_enter Try.func122, Try.ntmps122
  go_wp2_with fail
  go_ret
  exact ⟨by first | rfl | exact ret_bool hv, rfl⟩

set_option maxRecDepth 100000 in
theorem indexFuncI_is (F : FuncId) (caps : Array Value) (p : Int → Bool) (A : Option Addr) (n c : Nat) (xs : List Int) (w : World) (ha : Arg w A n (xs.map (Value.int .i64))) (hn : n ≤ 1048576)
    (hE : ∀ (args : Array Value) (W : World), (callFunc F args).run Try.prog W = .ok (.enter F args) W)
    (hF : Hid (∀ (a : Int) (v : Bool), p a = v → Calls Try.prog F (#[.int .i64 a] ++ caps) w fun e w' => e = .returned (.bool v) ∧ w = w')) :
    Calls Try.prog 121 #[.slice A n c, .func (.func F) #[] caps] w fun e w' => e = .returned (.int .i64 (findI p xs)) ∧ w = w' := by
  have HL : Hid (xs.length = n) := by have := ha.1; rw [List.length_map] at this; exact this
  go_enter Try.func121, Try.ntmps121
  go_wp2_with fail
  go_loop [8] (fun i => ∃ k : Nat, k ≤ n ∧ i = .int .i64 k ∧ Hid (∀ j t, j < k → xs[j]? = some t → p t = false)) (fun i => n - (intOf i).toNat)
  case atStart => exact ⟨0, Nat.zero_le _, rfl, by intro j t hj; omega⟩
  case round =>
    obtain ⟨k, hk, rfl, HR⟩ := hrel
    by_cases hlt : k < n
    · obtain ⟨b, off, rfl, hs⟩ := ha.sl hlt
      obtain ⟨y, HY, hy⟩ := map_at (Value.int .i64) xs (k := k) (by have := HL.out; omega)
      have hcy := hs.at hy
      clear hy
      rcases Bool.eq_false_or_eq_true (p y) with hb | hb
      · have HB := Lib.hid hb; clear hb
        have HC := Lib.hid (hF.out y true HB.out)
        go_wp2_with fail
        refine HC.out.mono ?_
        rintro e w' ⟨rfl, rfl⟩
        go_wp2
        go_ret
        exact ⟨ret_int (findI_some HR.out HY.out HB.out).symm, rfl⟩
      · have HB := Lib.hid hb; clear hb
        have HC := Lib.hid (hF.out y false HB.out)
        go_wp2_with fail
        refine HC.out.mono ?_
        rintro e w' ⟨rfl, rfl⟩
        go_wp2
        go_round
        case rel => exact ⟨k + 1, by omega, by go_num, by
          intro j t' hj ht'
          by_cases ej : j = k
          · subst ej
            have h2 := HY.out
            rw [ht'] at h2; injection h2 with h2; subst h2; exact HB.out
          · exact HR.out j t' (by omega) ht'⟩
        case measure => simp [intOf]; omega
    · go_wp2
      go_ret
      refine ⟨ret_int ?_, rfl⟩
      rw [findI_none]
      intro j x hx
      exact HR.out j x (by have := (List.getElem?_eq_some_iff.1 hx).1; have := HL.out; omega) hx
theorem findI_split {S : Int} {xs l r : List Int} {a : Int} (h : splitS S xs = some (l, a, r)) : findI (fun x => decide (S ≤ x)) xs = (l.length : Int) := by
  obtain ⟨h1, h2, h3⟩ := splitS_some h
  subst h1
  refine findI_some (k := l.length) (x := a) (fun j y hj hy => ?_) ?_ (decide_eq_true h2)
  · rw [List.getElem?_append_left hj] at hy
    exact decide_eq_false (by have := h3 y (List.mem_of_getElem? hy); omega)
  · rw [List.getElem?_append_right (Nat.le_refl _), Nat.sub_self]; rfl
theorem findI_blank {S : Int} {xs : List Int} (h : splitS S xs = none) : findI (fun x => decide (S ≤ x)) xs = -1 :=
  findI_none fun j x hx => decide_eq_false (by have := splitS_none h x (List.mem_of_getElem? hx); omega)
end Go.Proofs.Ytjakgeblmkdbpaa
