/- areCombs: whether all of some lists are combinator terms; shortComb, l18Fit, substituted, SubstituteComb on both sides. -/
import Derived.Test.YtkdjdnfdiphgiaaCombs
import Derived.Test.YtkdjdnfdiphgiaaSeqComb
import Derived.Test.YtkdjdnfdiphgiaaApp
import Derived.Test.YtkdjdnfdiphgiaaRws
namespace Go.Proofs.Ytkdjdnfdiphgiaa
open Go.RowKit
set_option linter.all false

theorem notComb_any (A : Option Addr) (n c : Nat) (t : List R2) (v : Bool) (hv : validC t = v) (w : World) (ha : Args 2 w A n (rows R2.vs t)) (hn : n ≤ 1048576) :
    Calls Try.prog 108 #[.slice A n c] w fun e w' => e = .returned (.bool (!v)) ∧ Below w.heap.size w w' := by
  have HV := Lib.hid hv; clear hv
  go_enter Try.func108, Try.ntmps108
  go_wp2_with fail
  refine (validComb_is A n c t v HV.out _ ha hn).mono ?_
  rintro e w' ⟨rfl, hb⟩
  go_wp2_with fail
  go_ret
  exact ⟨rfl, hb⟩

set_option maxRecDepth 100000 in
theorem indexNotComb_any (A : Option Addr) (m c : Nat) (vs : List Value) (ts : List (List R2)) (w : World) (ha : Arg w A m vs) (hv : Rws w vs ts) (hm : ts.length = m) (hl : m ≤ 1048576) :
    Calls Try.prog 146 #[.slice A m c, .func (.func 108) #[] #[]] w fun e w' =>
      (∃ z : Int, e = .returned (.int .i64 z) ∧ (decide (0 ≤ z) = !(ts.all validC))) ∧ Below w.heap.size w w' := by
  have HM := Lib.hid hm; clear hm
  go_enter Try.func146, Try.ntmps146
  go_wp2_with fail
  go_loopw [8] (fun i wr => ∃ k : Nat, k ≤ m ∧ i = .int .i64 k ∧ Below w.heap.size w wr ∧ Hid (∀ j t, j < k → ts[j]? = some t → validC t = true)) (fun i _ => m - (intOf i).toNat)
  case atStart => exact ⟨0, Nat.zero_le _, rfl, Below.refl _ _, by intro j t hj; omega⟩
  case round =>
    obtain ⟨k, hk, rfl, hB, HR⟩ := hrel
    by_cases hlt : k < m
    · obtain ⟨g, off, rfl, hs⟩ := ha.sl hlt
      obtain ⟨v, hv1⟩ : ∃ v, vs[k]? = some v := ⟨_, List.getElem?_eq_getElem (by have := hv.1; have := HM.out; omega)⟩
      obtain ⟨t, ht1⟩ : ∃ t, ts[k]? = some t := ⟨_, List.getElem?_eq_getElem (by have := HM.out; omega)⟩
      obtain ⟨hsl, hn⟩ := (hv.below hB).2 k v t hv1 ht1
      obtain ⟨A1, c1, rfl⟩ := hsl.form
      have hca := (hs.below' hB).at hv1
      have HT := Lib.hid ht1
      clear hv1 ht1
      rcases Bool.eq_false_or_eq_true (validC t) with hb | hb
      · have HB := Lib.hid hb; clear hb
        go_wp2_with fail
        refine (notComb_any A1 t.length c1 t true HB.out _ hsl.args hn).mono ?_
        rintro e w1 ⟨rfl, hb1⟩
        have hB1 := below_step hB hb1
        clear hca hsl hb1
        go_wp2_with fail
        go_roundw
        case rel => exact ⟨k + 1, by omega, by go_num, hB1, by
          intro j t' hj ht'
          by_cases ej : j = k
          · subst ej
            have h2 := HT.out
            rw [ht'] at h2; injection h2 with h2; subst h2; exact HB.out
          · exact HR.out j t' (by omega) ht'⟩
        case measure => simp [intOf]; omega
      · have HB := Lib.hid hb; clear hb
        go_wp2_with fail
        refine (notComb_any A1 t.length c1 t false HB.out _ hsl.args hn).mono ?_
        rintro e w1 ⟨rfl, hb1⟩
        have hB1 := below_step hB hb1
        clear hca hsl hb1
        go_wp2_with fail
        go_ret
        refine ⟨⟨_, rfl, ?_⟩, hB1⟩
        have hf : ts.all validC = false := by
          rw [Bool.eq_false_iff]; intro hall
          have := List.all_eq_true.1 hall t (List.mem_of_getElem? HT.out)
          rw [HB.out] at this; cases this
        rw [hf]; simp
    · go_wp2_with fail
      go_ret
      refine ⟨⟨_, rfl, ?_⟩, hB⟩
      have hf : ts.all validC = true := by
        rw [List.all_eq_true]
        intro t ht
        obtain ⟨j, hj⟩ := List.getElem?_of_mem ht
        exact HR.out j t (by have := HM.out; have := (List.getElem?_eq_some_iff.1 hj).1; omega) hj
      rw [hf]; rfl

theorem areCombs_is (A : Option Addr) (m c : Nat) (vs : List Value) (ts : List (List R2)) (r : Bool) (hr : ts.all validC = r) (w : World) (ha : Arg w A m vs) (hv : Rws w vs ts) (hm : ts.length = m) (hl : m ≤ 1048576) :
    Calls Try.prog 72 #[.slice A m c] w fun e w' => e = .returned (.bool r) ∧ Below w.heap.size w w' := by
  have HM := Lib.hid hm; have HR := Lib.hid hr
  clear hm hr
  have hcont : Calls Try.prog 107 #[.slice A m c, .func (.func 108) #[] #[]] w fun e w' => e = .returned (.bool (!r)) ∧ Below w.heap.size w w' := by
    go_enter Try.func107, Try.ntmps107
    go_wp2_with fail
    refine (indexNotComb_any A m c vs ts w ha hv HM.out hl).mono ?_
    rintro e w1 ⟨⟨z, rfl, hz⟩, hb1⟩
    rw [HR.out] at hz
    go_wp2_with fail
    go_ret
    exact ⟨ret_bool (by first | exact hz | simpa using hz), hb1⟩
  have HC := Lib.hid hcont
  clear hcont
  go_enter Try.func72, Try.ntmps72
  go_wp2_with fail
  refine HC.out.mono ?_
  rintro e w1 ⟨rfl, hb1⟩
  go_wp2_with fail
  go_ret
  exact ⟨ret_bool (by simp), hb1⟩

/-- A term that may be too long. -/
def fitC (xs : List R2) : List R2 × Int := (if 400 < xs.length then [] else xs, if 400 < xs.length then 5 else 0)
theorem fitC_len (xs : List R2) : (fitC xs).1.length ≤ 400 := by unfold fitC; split <;> simp <;> omega
theorem shortComb_any (B n c : Nat) (A : Option Addr) (xs : List R2) (w : World) (hown : w.ownsRow B 98 2 (.slice A n c) n (rows R2.vs xs)) (hn : n ≤ 16777216) :
    Calls Try.prog 73 #[.slice A n c] w fun e w' => (∃ v, e = .returned (.tuple #[v, .int .i64 (fitC xs).2]) ∧ w.ownsRow B 98 2 v (fitC xs).1.length (rows R2.vs (fitC xs).1)) ∧ w = w' := by
  have HN : Hid (xs.length = n) := by have := hown.1; rw [rows_len R2.vs_len] at this; unfold Hid; omega
  by_cases h4 : 400 < n
  · have hi : (400 : Int) < (n : Int) := by omega
    have HT : Hid (fitC xs = ([], 5)) := by unfold Hid fitC; rw [HN.out, if_pos h4, if_pos h4]
    rw [HT.out]
    go_enter Try.func73, Try.ntmps73
    go_wp2
    go_ret2
    exact ⟨⟨_, rfl, World.ownsRow_nil _ _ _ _⟩, rfl⟩
  · have hi : ¬ (400 : Int) < (n : Int) := by omega
    have HT : Hid (fitC xs = (xs, 0)) := by unfold Hid fitC; rw [HN.out, if_neg h4, if_neg h4]
    rw [HT.out]
    go_enter Try.func73, Try.ntmps73
    go_wp2
    go_ret2
    exact ⟨⟨_, rfl, by show World.ownsRow _ _ _ _ _ xs.length _; rw [HN.out]; exact hown⟩, rfl⟩
theorem l18Fit_any (B n c : Nat) (A : Option Addr) (xs : List R2) (w : World) (hown : w.ownsRow B 98 2 (.slice A n c) n (rows R2.vs xs)) (hn : n ≤ 16777216) :
    Calls Try.prog 68 #[.slice A n c] w fun e w' => (∃ v, e = .returned (.tuple #[v, .int .i64 (fitC xs).2]) ∧ w.ownsRow B 98 2 v (fitC xs).1.length (rows R2.vs (fitC xs).1)) ∧ w = w' := by
  have HN : Hid (xs.length = n) := by have := hown.1; rw [rows_len R2.vs_len] at this; unfold Hid; omega
  by_cases h4 : 400 < n
  · have hi : (400 : Int) < (n : Int) := by omega
    have HT : Hid (fitC xs = ([], 5)) := by unfold Hid fitC; rw [HN.out, if_pos h4, if_pos h4]
    rw [HT.out]
    go_enter Try.func68, Try.ntmps68
    go_wp2
    go_ret2
    exact ⟨⟨_, rfl, World.ownsRow_nil _ _ _ _⟩, rfl⟩
  · have hi : ¬ (400 : Int) < (n : Int) := by omega
    have HT : Hid (fitC xs = (xs, 0)) := by unfold Hid fitC; rw [HN.out, if_neg h4, if_neg h4]
    rw [HT.out]
    go_enter Try.func68, Try.ntmps68
    go_wp2
    go_ret2
    exact ⟨⟨_, rfl, by show World.ownsRow _ _ _ _ _ xs.length _; rw [HN.out]; exact hown⟩, rfl⟩
end Go.Proofs.Ytkdjdnfdiphgiaa
