/- Tag systems: the reference's tests. -/
import Derived.Test.YtcfkjigapnknnaaTagModel
import Derived.Test.YtcfkjigapnknnaaNums
namespace Go.Proofs.Ytcfkjigapnknnaa
open Go.RowKit
set_option linter.all false

/-- A word over n letters. -/
def overB (n : Nat) (w : List Int) : Bool := w.all (fun x => inB x 0 ((n : Int) - 1)) && decide (w.length ≤ 1000)
def validTag (d : Int) (ws : List (List Int)) (hs : List Int) : Bool := inB d 1 4 && (inB (ws.length : Int) 1 200 && (risesB hs 0 ((ws.length : Int) - 1) && ws.all (overB ws.length)))

set_option maxRecDepth 100000 in
theorem l09Over_is (A : Option Addr) (n c : Nat) (m : Nat) (xs : List Int) (v : Bool) (hv : overB m xs = v) (w : World) (ha : Arg w A n (xs.map (.int .i64))) (hn : n ≤ 4194304) (hm : m ≤ 1048576) :
    Calls Try.prog 122 #[.slice A n c, .int .i64 m] w fun e w' => e = .returned (.bool v) ∧ w = w' := by
  subst hv
  have HL : Hid (xs.length = n) := by have := ha.1; rw [List.length_map] at this; exact this
  have wm : IntKind.i64.wrap ((m : Int) - 1) = (m : Int) - 1 := IntWalk.i64_in _ (by omega)
  go_enter Try.func122, Try.ntmps122
  go_wp2_with fail
  go_loop [5] (fun i => ∃ k : Nat, k ≤ n ∧ i = .int .i64 k ∧ Hid (∀ j x, j < k → xs[j]? = some x → inB x 0 ((m : Int) - 1) = true)) (fun i => n - (intOf i).toNat)
  case atStart => exact ⟨0, Nat.zero_le _, rfl, by intro j x hj; omega⟩
  case round =>
    obtain ⟨k, hk, rfl, HR⟩ := hrel
    by_cases hlt : k < n
    · obtain ⟨y, HY, hy⟩ := map_at (Value.int .i64) xs (k := k) (by have := HL.out; omega)
      obtain ⟨b, off, rfl, hs⟩ := ha.sl hlt
      have hcb := hs.at hy
      clear hy
      rcases Bool.eq_false_or_eq_true (inB y 0 ((m : Int) - 1)) with hb | hb
      rotate_left
      · have HB := Lib.hid hb
        clear hb
        go_wp2_with (go_at_call 93; refine (l00In_is y _ _ _ HB.out _).mono ?_; rintro e w' ⟨rfl, rfl⟩)
        go_ret
        exact ⟨ret_bool (by unfold overB; rw [all_no (p := fun x => inB x 0 ((m : Int) - 1)) HY.out HB.out, Bool.false_and]), rfl⟩
      · have HB := Lib.hid hb
        clear hb
        go_wp2_with (go_at_call 93; refine (l00In_is y _ _ _ HB.out _).mono ?_; rintro e w' ⟨rfl, rfl⟩)
        go_round
        case rel => exact ⟨k + 1, by omega, by go_num, by
          intro j x hj hx
          by_cases ej : j = k
          · subst ej
            have h2 := HY.out
            rw [hx] at h2; injection h2 with h2; subst h2; exact HB.out
          · exact HR.out j x (by omega) hx⟩
        case measure => simp [intOf]; omega
    · have HE : Hid (overB m xs = decide (n ≤ 1000)) := by
        have hl := HL.out
        unfold Hid overB
        have : xs.all (fun x => inB x 0 ((m : Int) - 1)) = true := by
          rw [List.all_eq_true]
          intro x hx
          obtain ⟨j, hj⟩ := List.getElem?_of_mem hx
          exact HR.out j x (by have := (List.getElem?_eq_some_iff.1 hj).1; omega) hj
        rw [this, hl, Bool.true_and]
      go_wp2_with fail
      go_ret
      exact ⟨ret_bool (by rw [HE.out]; first | rfl | (rw [decide_eq_decide]; omega) | (apply Bool.eq_iff_iff.2; simp; omega)), rfl⟩
end Go.Proofs.Ytcfkjigapnknnaa
