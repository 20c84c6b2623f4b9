/- Configurations: the reference's tests; the letters of a machine. -/
import Derived.Test.YtjakgeblmkdbpaaCfgRev
namespace Go.Proofs.Ytjakgeblmkdbpaa
open Go.RowKit
set_option linter.all false

set_option maxRecDepth 100000 in
set_option maxHeartbeats 1000000 in
theorem l05Cells_is (gm : Nat) (S : Int) (A : Option Addr) (n c : Nat) (xs : List Int) (v : Bool) (hv : cellsB S xs = v) (w : World) (m0 : w.cell? ⟨gm, 0, none⟩ = some (.int .i64 S)) (hS : 0 ≤ S ∧ S ≤ 1000) (ha : Arg w A n (xs.map (Value.int .i64))) (hn : n ≤ 1048576) :
    Calls Try.prog 89 #[.pointer (some ⟨gm, 0, none⟩), .slice A n c] w fun e w' => e = .returned (.bool v) ∧ ∃ q, w' = w.drewN q := by
  subst hv
  have HL : Hid (xs.length = n) := by have := ha.1; rw [List.length_map] at this; exact this
  have ws : IntKind.i64.wrap (S - 1) = S - 1 := IntWalk.i64_in _ (by omega)
  have M0 := Lib.hid m0
  clear m0
  go_enter Try.func89, Try.ntmps89
  go_wp2_with fail
  go_loopw [5] (fun i wr => ∃ k q : Nat, k ≤ n ∧ i = .int .i64 k ∧ wr = w.drewN q ∧ Hid (∀ j x, j < k → xs[j]? = some x → inB x 0 (S - 1) = true)) (fun i _ => n - (intOf i).toNat)
  case atStart => exact ⟨0, 0, Nat.zero_le _, rfl, rfl, by intro j x hj; omega⟩
  case round =>
    obtain ⟨k, q, hk, rfl, rfl, HR⟩ := hrel
    have m0 : (w.drewN q).cell? ⟨gm, 0, none⟩ = some (.int .i64 S) := M0.out
    by_cases hlt : k < n
    · obtain ⟨y, HY, hy⟩ := map_at (Value.int .i64) xs (k := k) (by have := HL.out; omega)
      obtain ⟨b, off, rfl, hs⟩ := ha.sl hlt
      have hcb : w.cell? ⟨b, off + k, none⟩ = some (.int .i64 y) := hs.at hy
      have m0w : w.cell? ⟨gm, 0, none⟩ = some (.int .i64 S) := M0.out
      clear m0
      have hk0 : (0 : Int) ≤ (k : Int) := by omega
      have hkn : (k : Int) < (n : Int) := by omega
      clear hy
      rcases Bool.eq_false_or_eq_true (inB y 0 (S - 1)) with hb | hb
      rotate_left
      · have HB := Lib.hid hb
        clear hb
        have HF : Hid (cellsB S xs = false) := by unfold Hid cellsB; rw [all_no (p := fun x => inB x 0 (S - 1)) HY.out HB.out]; rfl
        go_wp2_with fail
        go_quiet ((go_at_call 87; exact quiet_eq2 (l00In_is y 0 (S - 1) _ HB.out _)))
        go_wp2_with fail
        go_ret
        exact ⟨ret_bool HF.out.symm, by first | exact ⟨_, rfl⟩ | exact ⟨_, World.drewN_drewN _ _ _⟩⟩
      · have HB := Lib.hid hb
        clear hb
        go_wp2_with fail
        go_quiet ((go_at_call 87; exact quiet_eq2 (l00In_is y 0 (S - 1) _ HB.out _)))
        go_wp2_with fail
        go_roundw
        case rel => exact ⟨k + 1, _, by omega, by go_num, (by first | rfl | exact World.drewN_drewN _ _ _), by
          intro j x hj hx
          by_cases ej : j = k
          · subst ej
            have h2 := HY.out
            rw [hx] at h2; injection h2 with h2; subst h2; exact HB.out
          · exact HR.out j x (by omega) hx⟩
        case measure => simp [intOf]; omega
    · have hall : xs.all (inB · 0 (S - 1)) = true := by
        rw [List.all_eq_true]
        intro x hx
        obtain ⟨j, hj⟩ := List.getElem?_of_mem hx
        exact HR.out j x (by have := HL.out; have := (List.getElem?_eq_some_iff.1 hj).1; omega) hj
      have HC : Hid (cellsB S xs = (decide (n ≤ 200) && (decide (n = 0) || decide (xs.getD (n - 1) 0 ≠ 0)))) := by unfold Hid cellsB; rw [hall, HL.out, Bool.true_and]
      clear hall
      by_cases h2 : n ≤ 200
      rotate_left
      · have HF : Hid (cellsB S xs = false) := by unfold Hid; rw [HC.out, decide_eq_false h2]; rfl
        go_wp2_with fail
        go_ret
        exact ⟨ret_bool HF.out.symm, _, rfl⟩
      rcases Nat.eq_zero_or_pos n with h0 | h0
      · subst h0
        have HF : Hid (cellsB S xs = true) := by unfold Hid; rw [HC.out]; rfl
        go_wp2_with fail
        go_ret
        exact ⟨ret_bool HF.out.symm, _, rfl⟩
      obtain ⟨p, rfl⟩ : ∃ p, n = p + 1 := ⟨n - 1, by omega⟩
      obtain ⟨a, HA, hat⟩ := map_at (Value.int .i64) xs (k := p) (by have := HL.out; omega)
      obtain ⟨b, off, rfl, hs⟩ := ha.sl (k := p) (by omega)
      have hca : (w.drewN q).cell? ⟨b, off + p, none⟩ = some (.int .i64 a) := hs.at hat
      have e1 : IntKind.i64.wrap (((p + 1 : Nat) : Int) - 1) = (p : Int) := by rw [IntWalk.i64_in _ (by omega)]; omega
      have hp0 : (0 : Int) ≤ (p : Int) := by omega
      have hpn : (p : Int) < ((p + 1 : Nat) : Int) := by omega
      have en : (((p + 1 : Nat) : Int) == 0) = false := by simp; omega
      clear hat
      by_cases hz : a = 0
      · have HF : Hid (cellsB S xs = false) := by unfold Hid; rw [HC.out, Nat.add_sub_cancel, getD_at HA.out, hz]; simp
        have ez : (a == 0) = true := by simpa using hz
        have ez2 : (a != 0) = false := by simp [bne, ez]
        clear hz
        go_wp2_with fail
        go_ret
        exact ⟨ret_bool HF.out.symm, _, rfl⟩
      · have HF : Hid (cellsB S xs = true) := by unfold Hid; rw [HC.out, Nat.add_sub_cancel, getD_at HA.out, decide_eq_true h2]; simp [hz]
        have ez : (a == 0) = false := by simpa using hz
        have ez2 : (a != 0) = true := by simp [bne, ez]
        clear hz
        go_wp2_with fail
        go_ret
        exact ⟨ret_bool HF.out.symm, _, rfl⟩

def goodB (S Q q : Int) (l r : List Int) : Bool := inB q 0 (Q - 1) && (cellsB S l && cellsB S r)
set_option maxRecDepth 100000 in
set_option maxHeartbeats 1000000 in
theorem l05Good_is (gm gc : Nat) (S Q q : Int) (A1 A2 : Option Addr) (n1 c1 n2 c2 : Nat) (l r : List Int) (v : Bool) (hv : goodB S Q q l r = v) (w : World) (m0 : w.cell? ⟨gm, 0, none⟩ = some (.int .i64 S)) (m1 : w.cell? ⟨gm, 1, none⟩ = some (.int .i64 Q))
    (k0 : w.cell? ⟨gc, 0, none⟩ = some (.int .i64 q)) (k1 : w.cell? ⟨gc, 1, none⟩ = some (.slice A1 n1 c1)) (k2 : w.cell? ⟨gc, 2, none⟩ = some (.slice A2 n2 c2)) (hS : 0 ≤ S ∧ S ≤ 1000) (hQ : 0 ≤ Q ∧ Q ≤ 1000) (ha1 : Arg w A1 n1 (l.map (Value.int .i64))) (ha2 : Arg w A2 n2 (r.map (Value.int .i64))) (hn1 : n1 ≤ 1048576) (hn2 : n2 ≤ 1048576) :
    Calls Try.prog 48 #[.pointer (some ⟨gm, 0, none⟩), .pointer (some ⟨gc, 0, none⟩)] w fun e w' => e = .returned (.bool v) ∧ ∃ q, w' = w.drewN q := by
  have wq : IntKind.i64.wrap (Q - 1) = Q - 1 := IntWalk.i64_in _ (by omega)
  obtain ⟨v1, h1⟩ : ∃ v1, inB q 0 (Q - 1) = v1 := ⟨_, rfl⟩
  obtain ⟨v2, h2⟩ : ∃ v2, cellsB S l = v2 := ⟨_, rfl⟩
  obtain ⟨v3, h3⟩ : ∃ v3, cellsB S r = v3 := ⟨_, rfl⟩
  have HV : Hid ((v1 && (v2 && v3)) = v) := by unfold Hid; rw [← hv, goodB, h1, h2, h3]
  have H1 := Lib.hid h1
  have H2 := Lib.hid (fun N : Nat => quiet_q (n := N) (l05Cells_is gm S A1 n1 c1 l v2 h2 (w.drewN N) m0 hS ha1 hn1))
  have H3 := Lib.hid (fun N : Nat => quiet_q (n := N) (l05Cells_is gm S A2 n2 c2 r v3 h3 (w.drewN N) m0 hS ha2 hn2))
  clear hv h1 h2 h3
  cases v1 <;> cases v2
  all_goals
    go_enter Try.func48, Try.ntmps48
    go_wp2_with fail
    go_quiet ((first | (go_at_call 87; exact quiet_eq (l00In_is q 0 (Q - 1) _ H1.out _)) | (go_at_call 89; first | with_reducible exact H2.out _ | with_reducible exact H3.out _)))
    go_wp2_with fail
    go_ret
    exact ⟨ret_bool (by rw [← HV.out]; first | done | simp), by first | exact ⟨_, rfl⟩ | exact ⟨_, World.drewN_drewN _ _ _⟩⟩

theorem l16Border_is (gm : Nat) (S Q : Int) (w : World) (m0 : w.cell? ⟨gm, 0, none⟩ = some (.int .i64 S)) (m1 : w.cell? ⟨gm, 1, none⟩ = some (.int .i64 Q)) (hS : 0 ≤ S ∧ S ≤ 1000) (hQ : 0 ≤ Q ∧ Q ≤ 1000) :
    Calls Try.prog 114 #[.pointer (some ⟨gm, 0, none⟩)] w fun e w' => e = .returned (.int .i64 (S + Q)) ∧ ∃ q, w' = w.drewN q := by
  have wb : IntKind.i64.wrap (S + Q) = S + Q := IntWalk.i64_in _ (by omega)
  go_enter Try.func114, Try.ntmps114
  go_wp2_with fail
  go_quiet (fail)
  go_wp2_with fail
  go_ret
  exact ⟨rfl, _, rfl⟩
theorem l16Fits_is (gm : Nat) (S Q : Int) (v : Bool) (hv : decide (S + Q ≤ 9) = v) (w : World) (m0 : w.cell? ⟨gm, 0, none⟩ = some (.int .i64 S)) (m1 : w.cell? ⟨gm, 1, none⟩ = some (.int .i64 Q)) (hS : 0 ≤ S ∧ S ≤ 1000) (hQ : 0 ≤ Q ∧ Q ≤ 1000) :
    Calls Try.prog 68 #[.pointer (some ⟨gm, 0, none⟩)] w fun e w' => e = .returned (.bool v) ∧ ∃ q, w' = w.drewN q := by
  go_enter Try.func68, Try.ntmps68
  go_wp2_with fail
  refine (l16Border_is gm S Q _ m0 m1 hS hQ).mono ?_
  rintro e w' ⟨rfl, q, rfl⟩
  go_wp2_with fail
  go_ret
  exact ⟨by first | rfl | exact ret_bool hv, q, rfl⟩
end Go.Proofs.Ytjakgeblmkdbpaa
