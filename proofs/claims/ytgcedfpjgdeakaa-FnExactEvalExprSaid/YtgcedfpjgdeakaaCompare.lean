/- CompareTrees, the reference's and the program's. -/
import Derived.Test.YtgcedfpjgdeakaaBase
namespace Go.Proofs.Ytgcedfpjgdeakaa
open Go.RowKit

def cmpGo : List Bool → List Bool → Int
  | x :: xs, y :: ys => if x != y then (if y then -1 else 1) else cmpGo xs ys
  | _, _ => 0
def cmpB (a b : List Bool) : Int := if a.length < b.length then -1 else if b.length < a.length then 1 else cmpGo a b

theorem cmpGo_step (a b : List Bool) (k : Nat) (ha : k < a.length) (hb : k < b.length) : cmpGo (a.drop k) (b.drop k) = if a[k] != b[k] then (if b[k] then -1 else 1) else cmpGo (a.drop (k + 1)) (b.drop (k + 1)) := by
  rw [List.drop_eq_getElem_cons ha, List.drop_eq_getElem_cons hb, cmpGo]

set_option maxHeartbeats 400000 in
theorem l21Compare_any (ba oa na ca bb ob nb cb : Nat) (a b : List Bool) (w : World) (ha : Sl w ba oa (a.map .bool)) (hb : Sl w bb ob (b.map .bool))
    (la : a.length = na) (lb : b.length = nb) (hna : na ≤ 1048576) (hnb : nb ≤ 1048576) :
    Calls Try.prog 58 #[.slice (some ⟨ba, oa, none⟩) na ca, .slice (some ⟨bb, ob, none⟩) nb cb] w fun e w' => e = .returned (.int .i64 (cmpB a b)) ∧ ∃ q, w' = w.drewN q := by
  have HA := Lib.hid la; have HB := Lib.hid lb; clear la lb
  rcases Nat.lt_trichotomy na nb with h | h | h
  · go_enter Try.func58, Try.ntmps58
    go_wp2
    go_ret
    refine ⟨ret_int ?_, 0, rfl⟩
    have := HA.out; have := HB.out; unfold cmpB; rw [if_pos (by omega)]
  · subst h
    go_enter Try.func58, Try.ntmps58
    go_wp2
    go_loopw [5] (fun i wr => ∃ k q : Nat, k ≤ na ∧ i = .int .i64 k ∧ wr = w.drewN q ∧ Hid (cmpGo (a.drop k) (b.drop k) = cmpB a b)) (fun i _ => na - (intOf i).toNat)
    case atStart => exact ⟨0, 0, Nat.zero_le _, rfl, rfl, by have := HA.out; have := HB.out; unfold cmpB Hid; rw [if_neg (by omega), if_neg (by omega)]; rfl⟩
    case round =>
      obtain ⟨k, q, hk, rfl, rfl, HR⟩ := hrel
      by_cases hlt : k < na
      · have hla := HA.out; have hlb := HB.out
        have hca := ha.bools (j := k) (by omega); have hcb := hb.bools (j := k) (by omega)
        have HS := Lib.hid (cmpGo_step a b k (by omega) (by omega))
        generalize a[k] = x at *
        generalize b[k] = y at *
        clear hla hlb
        cases x <;> cases y
        all_goals
          go_wp2
          go_quiet (fail)
          go_wp2
        · go_roundw
          case rel => exact ⟨k + 1, _, by omega, by go_num, rfl, by have h1 := HS.out; have h2 := HR.out; rw [h1] at h2; exact h2⟩
          case measure => simp [intOf]; omega
        · go_ret
          exact ⟨ret_int (by rw [← HR.out, HS.out]; rfl), _, rfl⟩
        · go_ret
          exact ⟨ret_int (by rw [← HR.out, HS.out]; rfl), _, rfl⟩
        · go_roundw
          case rel => exact ⟨k + 1, _, by omega, by go_num, rfl, by have h1 := HS.out; have h2 := HR.out; rw [h1] at h2; exact h2⟩
          case measure => simp [intOf]; omega
      · go_wp2
        go_ret
        refine ⟨ret_int ?_, q, rfl⟩
        rw [← HR.out, List.drop_of_length_le (by have := HA.out; omega)]; rfl
  · have h1 : ¬ na < nb := by omega
    go_enter Try.func58, Try.ntmps58
    go_wp2
    go_ret
    refine ⟨ret_int ?_, 0, rfl⟩
    have := HA.out; have := HB.out; unfold cmpB; rw [if_neg (by omega), if_pos (by omega)]
