/- Places: fromZero. -/
import Derived.Test.YtfjbiiklggogkaaNums
namespace Go.Proofs.Ytfjbiiklggogkaa
open Go.RowKit
set_option linter.all false

def placesB (xs : List Int) : Bool := decide (0 < xs.length) && (xs.getD 0 0 == 0) && upB xs

theorem up_ge {xs : List Int} (h : upB xs = true) (h0 : xs.getD 0 0 = 0) : ∀ j, j < xs.length → 0 ≤ xs.getD j 0 := by
  intro j
  induction j with
  | zero => intro _; omega
  | succ j ih =>
    intro hj
    have := (upB_iff xs).1 h j hj
    have := ih (by omega)
    omega


theorem fromZero_any (b off n c : Nat) (xs : List Int) (w : World) (hs : Sl w b off (xs.map (.int .i64))) (hl : xs.length = n) (hn : n ≤ 4194304) :
    Calls Try.prog 70 #[.slice (some ⟨b, off, none⟩) n c] w fun e w' => e = .returned (.bool (placesB xs)) ∧ ∃ q, w' = w.drewN q := by
  have HL := Lib.hid hl
  rcases Nat.eq_zero_or_pos n with h0 | h0
  · subst h0
    have HN : Hid (placesB xs = false) := by unfold Hid placesB; simp [hl]
    clear hl
    have z : decide ((0 : Int) < ((0 : Nat) : Int)) = false := by simp
    go_enter Try.func70, Try.ntmps70
    go_wp2_with fail
    go_ret
    exact ⟨ret_bool HN.out.symm, 0, rfl⟩
  · obtain ⟨x, HX, hx⟩ := map_at (Value.int .i64) xs (k := 0) (by omega)
    have hc : w.cell? ⟨b, off, none⟩ = some (.int .i64 x) := by simpa using hs.at hx
    have hp : (0 : Int) < (n : Int) := by omega
    clear hl hx
    rcases Bool.eq_false_or_eq_true (x == 0) with e | e
    · have HE : Hid (placesB xs = upB xs) := by
        have h1 := getD_at (d := 0) HX.out
        have h2 : x = 0 := by simpa using e
        have h3 := HL.out
        unfold Hid placesB
        rw [h1, h2]
        simp; omega
      go_enter Try.func70, Try.ntmps70
      go_wp2_with fail
      refine (rising_any b off n c xs _ hs HL.out hn).mono ?_
      rintro e w' ⟨rfl, q, rfl⟩
      go_wp2_with fail
      go_ret
      exact ⟨ret_bool HE.out.symm, q, rfl⟩
    · have HE : Hid (placesB xs = false) := by
        have h1 := getD_at (d := 0) HX.out
        unfold Hid placesB
        rw [h1, e]; simp
      go_enter Try.func70, Try.ntmps70
      go_wp2_with fail
      go_ret
      exact ⟨ret_bool HE.out.symm, 0, rfl⟩

theorem fromZero_is (b off n c : Nat) (xs : List Int) (v : Bool) (hv : placesB xs = v) (w : World) (hs : Sl w b off (xs.map (.int .i64))) (hl : xs.length = n) (hn : n ≤ 4194304) :
    Calls Try.prog 70 #[.slice (some ⟨b, off, none⟩) n c] w fun e w' => e = .returned (.bool v) ∧ ∃ q, w' = w.drewN q := by
  subst hv; exact fromZero_any b off n c xs w hs hl hn


end Go.Proofs.Ytfjbiiklggogkaa
