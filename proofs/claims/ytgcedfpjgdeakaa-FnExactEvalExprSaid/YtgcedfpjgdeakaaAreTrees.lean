/- areTrees: whether all of some lists are trees. -/
import Derived.Test.YtgcedfpjgdeakaaApp
import Derived.Test.YtgcedfpjgdeakaaTreeDepth
namespace Go.Proofs.Ytgcedfpjgdeakaa
open Go.RowKit
set_option linter.all false

/-- Slices of nodes in the cells of another slice. -/
def Trs (w : World) (vs : List Value) (ts : List (List Bool)) : Prop :=
  vs.length = ts.length ∧ ∀ (j : Nat) (v : Value) (t : List Bool), vs[j]? = some v → ts[j]? = some t → ∃ b off c, v = .slice (some ⟨b, off, none⟩) t.length c ∧ Sl w b off (t.map .bool) ∧ t.length ≤ 4194304
theorem Trs.below {w w' : World} {vs : List Value} {ts : List (List Bool)} (h : Trs w vs ts) (hb : Below w.heap.size w w') : Trs w' vs ts :=
  ⟨h.1, fun j v t h1 h2 => by obtain ⟨b, off, c, e, hs, hl⟩ := h.2 j v t h1 h2; exact ⟨b, off, c, e, hs.below' hb, hl⟩⟩

theorem notTree_any (b off n c : Nat) (t : List Bool) (v : Bool) (hv : isTreeB t = v) (w : World) (hs : Sl w b off (t.map .bool)) (hl : t.length = n) (hn : n ≤ 4194304) :
    Calls Try.prog 92 #[.slice (some ⟨b, off, none⟩) n c] w fun e w' => e = .returned (.bool (!v)) ∧ w = w' := by
  have HL := Lib.hid hl; have HV := Lib.hid hv
  clear hl hv
  go_enter Try.func92, Try.ntmps92
  go_wp2_with fail
  refine (isTree_is b off n c t v HV.out _ hs HL.out hn).mono ?_
  rintro e w' ⟨rfl, rfl⟩
  go_wp2_with fail
  go_ret
  exact ⟨rfl, rfl⟩

set_option maxRecDepth 100000 in
theorem indexNotTree_any (g off m c : Nat) (vs : List Value) (ts : List (List Bool)) (w : World) (hs : Sl w g off vs) (hv : Trs w vs ts) (hm : ts.length = m) (hl : m ≤ 1048576) :
    Calls Try.prog 111 #[.slice (some ⟨g, off, none⟩) m c, .func (.func 92) #[] #[]] w fun e w' =>
      (∃ z : Int, e = .returned (.int .i64 z) ∧ (decide (0 ≤ z) = !(ts.all isTreeB))) ∧ w = w' := by
  have HM := Lib.hid hm
  clear hm
  go_enter Try.func111, Try.ntmps111
  go_wp2_with fail
  go_loop [8] (fun i => ∃ k : Nat, k ≤ m ∧ i = .int .i64 k ∧ Hid (∀ j t, j < k → ts[j]? = some t → isTreeB t = true)) (fun i => m - (intOf i).toNat)
  case atStart => exact ⟨0, Nat.zero_le _, rfl, by intro j t hj; omega⟩
  case round =>
    obtain ⟨k, hk, rfl, HR⟩ := hrel
    by_cases hlt : k < m
    · obtain ⟨v, hv1⟩ : ∃ v, vs[k]? = some v := ⟨_, List.getElem?_eq_getElem (by have := hv.1; have := HM.out; omega)⟩
      obtain ⟨t, ht1⟩ : ∃ t, ts[k]? = some t := ⟨_, List.getElem?_eq_getElem (by have := HM.out; omega)⟩
      obtain ⟨b, o, c1, rfl, hsl, hn⟩ := hv.2 k v t hv1 ht1
      have hca := hs.at hv1
      have HT := Lib.hid ht1
      clear hv1 ht1
      rcases Bool.eq_false_or_eq_true (isTreeB t) with hb | hb
      · have HB := Lib.hid hb; clear hb
        go_wp2_with (go_at_call 92; refine (notTree_any b o t.length c1 t true HB.out _ hsl rfl hn).mono ?_; rintro e w' ⟨rfl, rfl⟩)
        go_round
        case rel => exact ⟨k + 1, by omega, by go_num, by
          intro j t' hj ht'
          by_cases ej : j = k
          · subst ej
            have h2 := HT.out
            rw [ht'] at h2; injection h2 with h2; subst h2; exact HB.out
          · exact HR.out j t' (by omega) ht'⟩
        case measure => simp [intOf]; omega
      · have HB := Lib.hid hb; clear hb
        go_wp2_with (go_at_call 92; refine (notTree_any b o t.length c1 t false HB.out _ hsl rfl hn).mono ?_; rintro e w' ⟨rfl, rfl⟩)
        go_ret
        refine ⟨⟨_, rfl, ?_⟩, rfl⟩
        have hf : ts.all isTreeB = false := by
          rw [Bool.eq_false_iff]; intro hall
          have := List.all_eq_true.1 hall t (List.mem_of_getElem? HT.out)
          rw [HB.out] at this; cases this
        rw [hf]; simp
    · go_wp2_with fail
      go_ret
      refine ⟨⟨_, rfl, ?_⟩, rfl⟩
      have hf : ts.all isTreeB = true := by
        rw [List.all_eq_true]
        intro t ht
        obtain ⟨j, hj⟩ := List.getElem?_of_mem ht
        exact HR.out j t (by have := HM.out; have := (List.getElem?_eq_some_iff.1 hj).1; omega) hj
      rw [hf]; rfl

theorem areTrees_is (g off m c : Nat) (vs : List Value) (ts : List (List Bool)) (r : Bool) (hr : ts.all isTreeB = r) (w : World) (hs : Sl w g off vs) (hv : Trs w vs ts) (hm : ts.length = m) (hl : m ≤ 1048576) :
    Calls Try.prog 59 #[.slice (some ⟨g, off, none⟩) m c] w fun e w' => e = .returned (.bool r) ∧ w = w' := by
  have HM := Lib.hid hm; have HR := Lib.hid hr
  clear hm hr
  have hcont : Calls Try.prog 91 #[.slice (some ⟨g, off, none⟩) m c, .func (.func 92) #[] #[]] w fun e w' => e = .returned (.bool (!r)) ∧ w = w' := by
    go_enter Try.func91, Try.ntmps91
    go_wp2_with fail
    refine (indexNotTree_any g off m c vs ts w hs hv HM.out hl).mono ?_
    rintro e w' ⟨⟨z, rfl, hz⟩, rfl⟩
    rw [HR.out] at hz
    go_wp2_with fail
    go_ret
    exact ⟨ret_bool (by first | exact hz | simpa using hz), rfl⟩
  have HC := Lib.hid hcont
  clear hcont
  go_enter Try.func59, Try.ntmps59
  go_wp2_with fail
  refine HC.out.mono ?_
  rintro e w' ⟨rfl, rfl⟩
  go_wp2_with fail
  go_ret
  exact ⟨ret_bool (by simp), rfl⟩
end Go.Proofs.Ytgcedfpjgdeakaa
