/- Tag systems: the program's tests. -/
import Derived.Test.YtcfkjigapnknnaaTagMk0
import Derived.Test.YtcfkjigapnknnaaTagImpl1
namespace Go.Proofs.Ytcfkjigapnknnaa
open Go.RowKit
set_option linter.all false

set_option maxRecDepth 100000 in
theorem allWithinA_is (A : Option Addr) (n c : Nat) (xs : List Int) (lo hi : Int) (v : Bool) (hv : xs.all (inB · lo hi) = v) (w : World) (ha : Arg w A n (xs.map (.int .i64))) (hn : n ≤ 4194304) :
    Calls Try.prog 107 #[.slice A n c, .int .i64 lo, .int .i64 hi] w fun e w' => e = .returned (.bool v) ∧ w = w' := by
  subst hv
  have HL : Hid (xs.length = n) := by have := ha.1; rw [List.length_map] at this; exact this
  go_enter Try.func107, Try.ntmps107
  go_wp2
  go_loop [11] (fun i => ∃ k : Nat, k ≤ n ∧ i = .int .i64 k ∧ Hid (∀ j x, j < k → xs[j]? = some x → inB x lo hi = true)) (fun i => n - (intOf i).toNat)
  case atStart => exact ⟨0, Nat.zero_le _, rfl, by intro j x hj; omega⟩
  case round =>
    obtain ⟨k, hk, rfl, HR⟩ := hrel
    by_cases hlt : k < n
    · obtain ⟨y, HY, hy⟩ := map_at (Value.int .i64) xs (k := k) (by have := HL.out; omega)
      obtain ⟨b, off, rfl, hs⟩ := ha.sl hlt
      have hcb := hs.at hy
      clear hy hs
      rcases Bool.eq_false_or_eq_true (inB y lo hi) with hb | hb
      rotate_left
      · have HB := Lib.hid hb
        clear hb
        go_wp2_with (go_at_call 99; refine (within_is y lo hi _ HB.out _).mono ?_; rintro e w' ⟨rfl, rfl⟩)
        go_ret
        exact ⟨ret_bool (all_no HY.out HB.out).symm, rfl⟩
      · have HB := Lib.hid hb
        clear hb
        go_wp2_with (go_at_call 99; refine (within_is y lo hi _ HB.out _).mono ?_; rintro e w' ⟨rfl, rfl⟩)
        go_round
        case rel => exact ⟨k + 1, by omega, by go_num, by
          intro j x hj hx
          by_cases ej : j = k
          · subst ej
            have h2 := HY.out
            rw [hx] at h2; injection h2 with h2; subst h2; exact HB.out
          · exact HR.out j x (by omega) hx⟩
        case measure => simp [intOf]; omega
    · go_wp2
      go_ret
      refine ⟨ret_bool ?_, rfl⟩
      symm
      have hl := HL.out
      rw [List.all_eq_true]
      intro x hx
      obtain ⟨j, hj⟩ := List.getElem?_of_mem hx
      exact HR.out j x (by have := (List.getElem?_eq_some_iff.1 hj).1; omega) hj

theorem isTagWordA_is (A : Option Addr) (n c m : Nat) (xs : List Int) (v : Bool) (hv : overB m xs = v) (w : World) (hs : Arg w A n (xs.map (.int .i64))) (hn : n ≤ 4194304) (hm : m ≤ 1048576) :
    Calls Try.prog 148 #[.slice A n c, .int .i64 m] w fun e w' => e = .returned (.bool v) ∧ w = w' := by
  have wm : IntKind.i64.wrap ((m : Int) - 1) = (m : Int) - 1 := IntWalk.i64_in _ (by omega)
  have hl : xs.length = n := by have := hs.1; rw [List.length_map] at this; exact this
  by_cases h : n ≤ 1000
  · have HV : Hid (xs.all (fun x => inB x 0 ((m : Int) - 1)) = v) := by unfold Hid; rw [← hv, overB, hl, decide_eq_true h, Bool.and_true]
    clear hv hl
    go_enter Try.func148, Try.ntmps148
    go_wp2_with fail
    refine (allWithinA_is A n c xs 0 ((m : Int) - 1) _ HV.out _ hs hn).mono ?_
    rintro e w' ⟨rfl, rfl⟩
    go_wp2_with fail
    go_ret
    exact ⟨rfl, rfl⟩
  · have HV : Hid (v = false) := by unfold Hid; rw [← hv, overB, hl, decide_eq_false h, Bool.and_false]
    clear hv hl
    go_enter Try.func148, Try.ntmps148
    go_wp2_with fail
    go_ret
    exact ⟨ret_bool HV.out.symm, rfl⟩

theorem notTagWord_is (A : Option Addr) (n c m gl : Nat) (xs : List Int) (v : Bool) (hv : overB m xs = v) (w : World) (hg : w.cell? ⟨gl, 0, none⟩ = some (.int .i64 m)) (hs : Arg w A n (xs.map (.int .i64))) (hn : n ≤ 4194304) (hm : m ≤ 1048576) :
    Calls Try.prog 156 #[.slice A n c, .pointer (some ⟨gl, 0, none⟩)] w fun e w' => e = .returned (.bool (!v)) ∧ w = w' := by
  have HV := Lib.hid hv
  clear hv
  go_enter Try.func156, Try.ntmps156
  go_wp2_with fail
  refine (isTagWordA_is A n c m xs v HV.out _ hs hn hm).mono ?_
  rintro e w' ⟨rfl, rfl⟩
  go_wp2_with fail
  go_ret
  exact ⟨rfl, rfl⟩

set_option maxRecDepth 100000 in
/-- slices.IndexFunc on words, whatever the function value. -/
theorem indexFuncW_is (F : FuncId) (caps : Array Value) (p : List Int → Bool) (g off m c : Nat) (us : List Value) (ts : List (List Int)) (w : World) (hs : Sl w g off us) (hv : Srcs 1 oneI w us ts) (hm : ts.length = m) (hl : m ≤ 1048576) (hb : sumLen ts ≤ 1048576)
    (hE : ∀ (args : Array Value) (W : World), (callFunc F args).run Try.prog W = .ok (.enter F args) W)
    (hF : Hid (∀ (A : Option Addr) (n c : Nat) (t : List Int) (v : Bool), Arg w A n (t.map (.int .i64)) → n ≤ 1048576 → p t = v → Calls Try.prog F (#[.slice A n c] ++ caps) w fun e w' => e = .returned (.bool v) ∧ w = w')) :
    Calls Try.prog 176 #[.slice (some ⟨g, off, none⟩) m c, .func (.func F) #[] caps] w fun e w' => e = .returned (.int .i64 (findI p ts)) ∧ w = w' := by
  have HM := Lib.hid hm; have HSUM := Lib.hid hb
  clear hm hb
  go_enter Try.func176, Try.ntmps176
  go_wp2_with fail
  go_loop [8] (fun i => ∃ k : Nat, k ≤ m ∧ i = .int .i64 k ∧ Hid (∀ j t, j < k → ts[j]? = some t → p t = false)) (fun i => m - (intOf i).toNat)
  case atStart => exact ⟨0, Nat.zero_le _, rfl, by intro j t hj; omega⟩
  case round =>
    obtain ⟨k, hk, rfl, HR⟩ := hrel
    by_cases hlt : k < m
    · obtain ⟨x, HX⟩ := hget HM hlt
      have hlen : us.length = m := by have := hv.1; have := HM.out; omega
      obtain ⟨u, hu⟩ : ∃ u, us[k]? = some u := ⟨_, List.getElem?_eq_getElem (by omega)⟩
      have hsrc := hv.2 k u x hu HX.out
      obtain ⟨Au, cu, rfl⟩ := hsrc.form
      have hxl : x.length ≤ 1048576 := Nat.le_trans (sumLen_mem (List.mem_of_getElem? HX.out)) HSUM.out
      obtain ⟨nx, hnx⟩ : ∃ nx, nx = x.length := ⟨_, rfl⟩
      rw [← hnx] at hsrc hu hxl
      clear hnx
      have hau : Arg w Au nx (x.map (.int .i64)) := by have := hsrc.arg; rwa [rows_oneI] at this
      have hcu : w.cell? ⟨g, off + k, none⟩ = some (.slice Au nx cu) := hs.at hu
      clear hlen hsrc hu
      rcases Bool.eq_false_or_eq_true (p x) with hb | hb
      · have HB := Lib.hid hb; clear hb
        have HC := Lib.hid (hF.out Au nx cu x true hau hxl HB.out)
        go_wp2_with fail
        refine HC.out.mono ?_
        rintro e w' ⟨rfl, rfl⟩
        go_wp2
        go_ret
        exact ⟨ret_int (findI_some HR.out HX.out HB.out).symm, rfl⟩
      · have HB := Lib.hid hb; clear hb
        have HC := Lib.hid (hF.out Au nx cu x false hau hxl HB.out)
        go_wp2_with fail
        refine HC.out.mono ?_
        rintro e w' ⟨rfl, rfl⟩
        go_wp2
        go_round
        case rel => exact ⟨k + 1, by omega, by go_num, by
          intro j t' hj ht'
          by_cases ej : j = k
          · subst ej
            have h2 := HX.out
            rw [ht'] at h2; injection h2 with h2; subst h2; exact HB.out
          · exact HR.out j t' (by omega) ht'⟩
        case measure => simp [intOf]; omega
    · go_wp2
      go_ret
      refine ⟨ret_int ?_, rfl⟩
      rw [findI_none]
      intro j x hx
      exact HR.out j x (by have := (List.getElem?_eq_some_iff.1 hx).1; have := HM.out; omega) hx

set_option maxRecDepth 100000 in
theorem containsFuncW_is (F : FuncId) (caps : Array Value) (p : List Int → Bool) (g off m c : Nat) (us : List Value) (ts : List (List Int)) (w : World) (hs : Sl w g off us) (hv : Srcs 1 oneI w us ts) (hm : ts.length = m) (hl : m ≤ 1048576) (hb : sumLen ts ≤ 1048576)
    (hE : ∀ (args : Array Value) (W : World), (callFunc F args).run Try.prog W = .ok (.enter F args) W)
    (hF : Hid (∀ (A : Option Addr) (n c : Nat) (t : List Int) (v : Bool), Arg w A n (t.map (.int .i64)) → n ≤ 1048576 → p t = v → Calls Try.prog F (#[.slice A n c] ++ caps) w fun e w' => e = .returned (.bool v) ∧ w = w')) (v : Bool) (hv2 : ts.any p = v) :
    Calls Try.prog 154 #[.slice (some ⟨g, off, none⟩) m c, .func (.func F) #[] caps] w fun e w' => e = .returned (.bool v) ∧ w = w' := by
  have HV : Hid (decide (0 ≤ findI p ts) = v) := by unfold Hid; rw [findI_any, hv2]
  clear hv2
  rcases Bool.eq_false_or_eq_true (decide (0 ≤ findI p ts)) with hd | hd
  · have h0 : 0 ≤ findI p ts := of_decide_eq_true hd
    have HW := Lib.hid (hd.symm.trans HV.out); clear hd
    go_enter Try.func154, Try.ntmps154
    go_wp2_with fail
    refine (indexFuncW_is F caps p g off m c us ts _ hs hv hm hl hb hE hF).mono ?_
    rintro e w1 ⟨rfl, rfl⟩
    go_wp2
    go_ret
    exact ⟨ret_bool (by first | exact HW.out | (rw [← HW.out]; simp; omega)), rfl⟩
  · have h0 : findI p ts < 0 := by have := of_decide_eq_false hd; omega
    have HW := Lib.hid (hd.symm.trans HV.out); clear hd
    go_enter Try.func154, Try.ntmps154
    go_wp2_with fail
    refine (indexFuncW_is F caps p g off m c us ts _ hs hv hm hl hb hE hF).mono ?_
    rintro e w1 ⟨rfl, rfl⟩
    go_wp2
    go_ret
    exact ⟨ret_bool (by first | exact HW.out | (rw [← HW.out]; simp; omega)), rfl⟩

theorem wordsOk_is (g off n c m : Nat) (us : List Value) (ts : List (List Int)) (v : Bool) (hv : ts.all (overB m) = v) (w : World) (hs : Sl w g off us) (hr : Srcs 1 oneI w us ts) (hl : ts.length = n) (hn : n ≤ 1048576) (hb : sumLen ts ≤ 1048576) (hm : m ≤ 1048576) :
    Calls Try.prog 127 #[.slice (some ⟨g, off, none⟩) n c, .int .i64 m] w fun e w' => e = .returned (.bool v) ∧ Below w.heap.size w w' := by
  obtain ⟨w0, HW0, B0, x0⟩ := al1 w (.cells #[.int .i64 m] 2)
  have hany : ts.any (fun t => !overB m t) = !v := by rw [← hv, List.not_all_eq_any_not]
  have c0 : w0.cell? ⟨w.heap.size, 0, none⟩ = some (.int .i64 m) := by rw [cell_of_heap x0]; rfl
  have HC := Lib.hid (containsFuncW_is 156 #[.pointer (some ⟨w.heap.size, 0, none⟩)] (fun t => !overB m t) g off n c us ts w0 (hs.below' B0) (hr.below B0) hl hn hb (fun args W => enters_of' Try.func156 rfl rfl args W)
    (fun A k c t u ha hk hu => by
      refine (notTagWord_is A k c m w.heap.size t (!u) (by rw [← hu]; simp) w0 c0 ha (by omega) hm).mono ?_
      rintro e w' ⟨rfl, rfl⟩
      exact ⟨ret_bool (by simp), rfl⟩) (!v) hany)
  clear hany hv x0
  go_enter Try.func127, Try.ntmps127
  go_wp2_with fail
  rw [← HW0.out]
  refine HC.out.mono ?_
  rintro e w' ⟨rfl, rfl⟩
  go_wp2_with fail
  go_ret
  exact ⟨ret_bool (by simp), B0⟩
end Go.Proofs.Ytcfkjigapnknnaa
