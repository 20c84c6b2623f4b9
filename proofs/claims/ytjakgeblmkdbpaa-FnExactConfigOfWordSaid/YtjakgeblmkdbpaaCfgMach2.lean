/- Whether a machine is valid, on both sides. -/
import Derived.Test.YtjakgeblmkdbpaaCfgMach
import Derived.Test.YtjakgeblmkdbpaaSeqRule
import Derived.Test.YtjakgeblmkdbpaaBox
namespace Go.Proofs.Ytjakgeblmkdbpaa
open Go.RowKit
set_option linter.all false

theorem validMach_rules {S Q : Int} {rs : List R3} {n : Nat} (hl : rs.length = n) (h1 : inB S 2 6 = true) (h2 : inB Q 1 1000 = true) (h3 : ((n : Int) == S * Q) = true) : validMach S Q rs = rs.all (ruleB S Q) := by
  unfold validMach; rw [h1, h2, hl, decide_eq_true (by simpa using h3)]; rfl

set_option maxRecDepth 100000 in
set_option maxHeartbeats 1000000 in
theorem l05Is_is (gm : Nat) (S Q : Int) (b off n c : Nat) (rs : List R3) (v : Bool) (hv : validMach S Q rs = v) (w : World) (m0 : w.cell? ⟨gm, 0, none⟩ = some (.int .i64 S)) (m1 : w.cell? ⟨gm, 1, none⟩ = some (.int .i64 Q)) (m2 : w.cell? ⟨gm, 2, none⟩ = some (.slice (some ⟨b, off, none⟩) n c))
    (hs : Sl w b off (rows R3.vs rs)) (hl : rs.length = n) (hn : n ≤ 1048576) :
    Calls Try.prog 47 #[.pointer (some ⟨gm, 0, none⟩)] w fun e w' => e = .returned (.bool v) ∧ Below w.heap.size w w' := by
  have HL := Lib.hid hl
  obtain ⟨v1, h1⟩ : ∃ v1, inB S 2 6 = v1 := ⟨_, rfl⟩
  obtain ⟨v2, h2⟩ : ∃ v2, inB Q 1 1000 = v2 := ⟨_, rfl⟩
  obtain ⟨v3, h3⟩ : ∃ v3, ((n : Int) == S * Q) = v3 := ⟨_, rfl⟩
  have H1 := Lib.hid h1; have H2 := Lib.hid h2
  have h3' : ((n : Int) != S * Q) = !v3 := by rw [← h3]; rfl
  cases v1
  · have HF : Hid (v = false) := by unfold Hid; rw [← hv]; unfold validMach; rw [h1]; rfl
    clear hv h1 h2 h3 h3' hl
    go_enter Try.func47, Try.ntmps47
    go_wp2_with fail
    go_quiet ((go_at_call 87; exact quiet_eq (l00In_is S 2 6 _ H1.out _)))
    go_wp2_with fail
    go_ret
    exact ⟨ret_bool HF.out.symm, below_drewN (Below.refl _ _) _⟩
  cases v2
  · have HF : Hid (v = false) := by unfold Hid; rw [← hv]; unfold validMach; rw [h1, h2]; rfl
    clear hv h1 h2 h3 h3' hl
    go_enter Try.func47, Try.ntmps47
    go_wp2_with fail
    go_quiet ((go_at_call 87; first | with_reducible exact quiet_eq (l00In_is S 2 6 _ H1.out _) | with_reducible exact quiet_eq (l00In_is Q 1 1000 _ H2.out _)))
    go_wp2_with fail
    go_ret
    exact ⟨ret_bool HF.out.symm, below_drewN (Below.refl _ _) _⟩
  have hSr := (inB_iff _ _ _).1 h1
  have hQr := (inB_iff _ _ _).1 h2
  have hSQ : 0 ≤ S * Q ∧ S * Q ≤ 6000 := by
    constructor
    · exact Int.mul_nonneg (by omega) (by omega)
    · have := Int.mul_le_mul (show S ≤ 6 by omega) (show Q ≤ 1000 by omega) (show 0 ≤ Q by omega) (show (0 : Int) ≤ 6 by omega); omega
  have wsq : IntKind.i64.wrap (S * Q) = S * Q := IntWalk.i64_in _ (by omega)
  cases v3
  · have HF : Hid (v = false) := by unfold Hid; rw [← hv]; unfold validMach; rw [h1, h2, hl, decide_eq_false (by simpa using h3)]; rfl
    clear hv h1 h2 hl
    go_enter Try.func47, Try.ntmps47
    go_wp2_with fail
    go_quiet ((go_at_call 87; first | with_reducible exact quiet_eq (l00In_is S 2 6 _ H1.out _) | with_reducible exact quiet_eq (l00In_is Q 1 1000 _ H2.out _)))
    go_wp2_with fail
    go_ret
    exact ⟨ret_bool HF.out.symm, below_drewN (Below.refl _ _) _⟩
  have HV : Hid (rs.all (ruleB S Q) = v) := by unfold Hid; rw [← hv, validMach_rules hl h1 h2 h3]
  clear hv h1 h2 hl
  have M0 := Lib.hid m0; have M1 := Lib.hid m1; have M2 := Lib.hid m2
  go_enter Try.func47, Try.ntmps47
  go_wp2_with fail
  go_quiet ((go_at_call 87; first | with_reducible exact quiet_eq (l00In_is S 2 6 _ H1.out _) | with_reducible exact quiet_eq (l00In_is Q 1 1000 _ H2.out _)))
  have B0 : Below w.heap.size w (w.drewN nq) := below_drewN (Below.refl _ _) nq
  clear m0 m1 m2 h3 h3' wsq
  go_wp2_with fail
  go_loopw [3] (fun i wr => ∃ k : Nat, k ≤ n ∧ i = .int .i64 k ∧ Below w.heap.size w wr ∧ Hid (∀ j x, j < k → rs[j]? = some x → ruleB S Q x = true)) (fun i _ => n - (intOf i).toNat)
  case atStart => exact ⟨0, Nat.zero_le _, rfl, B0, by intro j x hj; omega⟩
  case round =>
    obtain ⟨k, hk, rfl, hB, HR⟩ := hrel
    clear B0
    have m0 := cell_step (by exact M0.out) hB
    have m1 := cell_step (by exact M1.out) hB
    have m2 := cell_step (by exact M2.out) hB
    by_cases hlt : k < n
    · obtain ⟨x, HX⟩ := hget HL hlt
      obtain ⟨p0, p1, p2⟩ := (hs.below' hB).rec3 HX.out
      obtain ⟨vr, hr⟩ : ∃ vr, ruleB S Q x = vr := ⟨_, rfl⟩
      have HRU := Lib.hid hr; clear hr
      have hk0 : (0 : Int) ≤ (k : Int) := by omega
      have hkn : (k : Int) < (n : Int) := by omega
      cases vr
      · have HF : Hid (v = false) := by
          unfold Hid; rw [← HV.out, Bool.eq_false_iff]; intro hall
          have := List.all_eq_true.1 hall x (List.mem_of_getElem? HX.out)
          rw [HRU.out] at this; cases this
        go_wp2_with fail
        go_region_held3 (fun W => W.cell? ⟨gm, 0, none⟩ = some (.int .i64 S) ∧ W.cell? ⟨gm, 1, none⟩ = some (.int .i64 Q) ∧ W.cell? ⟨gm, 2, none⟩ = some (.slice (some ⟨b, off, none⟩) n c) ∧ W.cell? ⟨b, off + k * 3, none⟩ = some (.int .i64 x.a) ∧ W.cell? ⟨b, off + k * 3 + 1, none⟩ = some (.int .i64 x.b) ∧ W.cell? ⟨b, off + k * 3 + 2, none⟩ = some (.int .i64 x.c)) (first | go_keep | exact ⟨r0, r1, r2, r3, r4, r5⟩)
          ((go_at_call 88; refine (l05Rule_is x S Q false HRU.out _ (by omega) (by omega)).mono ?_; rintro e w2 ⟨rfl, b2'⟩; have b2 := below_drew_at b2'; have r0 := cell_step (by exact m0) b2; have r1 := cell_step (by exact m1) b2; have r2 := cell_step (by exact m2) b2; have r3 := cell_step (by exact p0) b2; have r4 := cell_step (by exact p1) b2; have r5 := cell_step (by exact p2) b2))
        all_goals
          have B2 := below_step hB b2
          go_wp2_with fail
          go_ret
          exact ⟨ret_bool HF.out.symm, B2⟩
      · go_wp2_with fail
        go_region_held3 (fun W => W.cell? ⟨gm, 0, none⟩ = some (.int .i64 S) ∧ W.cell? ⟨gm, 1, none⟩ = some (.int .i64 Q) ∧ W.cell? ⟨gm, 2, none⟩ = some (.slice (some ⟨b, off, none⟩) n c) ∧ W.cell? ⟨b, off + k * 3, none⟩ = some (.int .i64 x.a) ∧ W.cell? ⟨b, off + k * 3 + 1, none⟩ = some (.int .i64 x.b) ∧ W.cell? ⟨b, off + k * 3 + 2, none⟩ = some (.int .i64 x.c)) (first | go_keep | exact ⟨r0, r1, r2, r3, r4, r5⟩)
          ((go_at_call 88; refine (l05Rule_is x S Q true HRU.out _ (by omega) (by omega)).mono ?_; rintro e w2 ⟨rfl, b2'⟩; have b2 := below_drew_at b2'; have r0 := cell_step (by exact m0) b2; have r1 := cell_step (by exact m1) b2; have r2 := cell_step (by exact m2) b2; have r3 := cell_step (by exact p0) b2; have r4 := cell_step (by exact p1) b2; have r5 := cell_step (by exact p2) b2))
        all_goals
          have B2 := below_step hB b2
          clear m0 m1 m2 p0 p1 p2 r0 r1 r2 r3 r4 r5 b2' b2 hB
          go_wp2_with fail
          go_roundw
          case rel => exact ⟨k + 1, by omega, by go_num, B2, by
            intro j y hj hy
            by_cases ej : j = k
            · subst ej; rw [HX.out] at hy; injection hy with hy; subst hy; exact HRU.out
            · exact HR.out j y (by omega) hy⟩
          case measure => simp [intOf]; omega
    · have HF : Hid (v = true) := by
        unfold Hid; rw [← HV.out, List.all_eq_true]
        intro x hx
        obtain ⟨j, hj⟩ := List.getElem?_of_mem hx
        exact HR.out j x (by have := HL.out; have := (List.getElem?_eq_some_iff.1 hj).1; omega) hj
      go_wp2_with fail
      go_ret
      exact ⟨ret_bool HF.out.symm, hB⟩

theorem sizeRule_is (A : Option Addr) (n c : Nat) (w : World) : Calls Try.prog 117 #[.slice A n c] w fun e w' => e = .returned (.int .i64 n) ∧ w = w' := by
  go_enter Try.func117, Try.ntmps117
  go_wp2
  go_ret
  exact ⟨rfl, rfl⟩

set_option maxRecDepth 100000 in
set_option maxHeartbeats 1000000 in
theorem notValidRule_is (gm : Nat) (S Q : Int) (A : Option Addr) (n c : Nat) (x : R3) (v : Bool) (hv : (!ruleB S Q x) = v) (w : World) (m0 : w.cell? ⟨gm, 0, none⟩ = some (.int .i64 S)) (m1 : w.cell? ⟨gm, 1, none⟩ = some (.int .i64 Q)) (m2 : w.cell? ⟨gm, 2, none⟩ = some (.slice A n c)) (hS : 0 ≤ S ∧ S ≤ 1000) (hQ : 0 ≤ Q ∧ Q ≤ 1000) :
    Calls Try.prog 119 #[.agg #[.int .i64 x.a, .int .i64 x.b, .int .i64 x.c], .pointer (some ⟨gm, 0, none⟩)] w fun e w' => e = .returned (.bool v) ∧ Below w.heap.size w w' := by
  obtain ⟨w1, HW1, B1, x1⟩ := al1 w (.cells #[.int .i64 x.a, .int .i64 x.b, .int .i64 x.c] 136)
  have n0 := cell_step (by exact m0) (laid_below w (.cells #[.int .i64 x.a, .int .i64 x.b, .int .i64 x.c] 136))
  have n1 := cell_step (by exact m1) (laid_below w (.cells #[.int .i64 x.a, .int .i64 x.b, .int .i64 x.c] 136))
  have n2 := cell_step (by exact m2) (laid_below w (.cells #[.int .i64 x.a, .int .i64 x.b, .int .i64 x.c] 136))
  obtain ⟨vr, hr⟩ : ∃ vr, ruleB S Q x = vr := ⟨_, rfl⟩
  have HR := Lib.hid hr
  have HV : Hid ((!vr) = v) := by unfold Hid; rw [← hv, hr]
  clear x1 hr hv m0 m1 m2
  go_enter Try.func119, Try.ntmps119
  go_wp2_with fail
  rw [← HW1.out]
  refine (validRule_is x S Q _ rfl vr HR.out _ hS hQ).mono ?_
  rintro e w2 ⟨rfl, b2⟩
  go_wp2_with fail
  go_ret
  exact ⟨ret_bool HV.out, below_step B1 b2⟩

set_option maxRecDepth 100000 in
set_option maxHeartbeats 1000000 in
theorem validMachine_is (S Q : Int) (b off n c : Nat) (rs : List R3) (v : Bool) (hv : validMach S Q rs = v) (w : World)
    (hs : Sl w b off (rows R3.vs rs)) (hl : rs.length = n) (hn : n ≤ 1048576) :
    Calls Try.prog 70 #[.agg #[.int .i64 S, .int .i64 Q, .slice (some ⟨b, off, none⟩) n c]] w fun e w' => e = .returned (.bool v) ∧ Below w.heap.size w w' := by
  obtain ⟨w1, HW1, B1, x1⟩ := al1 w (.cells #[.int .i64 S, .int .i64 Q, .slice (some ⟨b, off, none⟩) n c] 34)
  have m0 : w1.cell? ⟨w.heap.size, 0, none⟩ = some (.int .i64 S) := by rw [cell_of_heap x1]; rfl
  have m1 : w1.cell? ⟨w.heap.size, 1, none⟩ = some (.int .i64 Q) := by rw [cell_of_heap x1]; rfl
  have m2 : w1.cell? ⟨w.heap.size, 2, none⟩ = some (.slice (some ⟨b, off, none⟩) n c) := by rw [cell_of_heap x1]; rfl
  have hs1 := hs.below' B1
  have HL := Lib.hid hl
  obtain ⟨v1, h1⟩ : ∃ v1, inB S 2 6 = v1 := ⟨_, rfl⟩
  obtain ⟨v2, h2⟩ : ∃ v2, inB Q 1 1000 = v2 := ⟨_, rfl⟩
  obtain ⟨v3, h3⟩ : ∃ v3, ((n : Int) == S * Q) = v3 := ⟨_, rfl⟩
  have H1 := Lib.hid h1; have H2 := Lib.hid h2
  have h3' : ((n : Int) != Q * S) = !v3 := by rw [← h3, Int.mul_comm Q S]; rfl
  have h3'' : ((n : Int) == Q * S) = v3 := by rw [← h3, Int.mul_comm Q S]
  clear x1 hs
  cases v1
  · have HF : Hid (v = false) := by unfold Hid; rw [← hv]; unfold validMach; rw [h1]; rfl
    clear hv h1 h2 h3 h3' h3'' hl
    go_enter Try.func70, Try.ntmps70
    go_wp2_with fail
    rw [← HW1.out]
    go_quiet ((go_at_call 105; exact quiet_eq (within_is S 2 6 _ H1.out _)))
    go_wp2_with fail
    go_ret
    exact ⟨ret_bool HF.out.symm, below_drewN B1 _⟩
  cases v2
  · have HF : Hid (v = false) := by unfold Hid; rw [← hv]; unfold validMach; rw [h1, h2]; rfl
    clear hv h1 h2 h3 h3' h3'' hl
    go_enter Try.func70, Try.ntmps70
    go_wp2_with fail
    rw [← HW1.out]
    go_quiet ((go_at_call 105; first | with_reducible exact quiet_eq (within_is S 2 6 _ H1.out _) | with_reducible exact quiet_eq (within_is Q 1 1000 _ H2.out _)))
    go_wp2_with fail
    go_ret
    exact ⟨ret_bool HF.out.symm, below_drewN B1 _⟩
  have hSr := (inB_iff _ _ _).1 h1
  have hQr := (inB_iff _ _ _).1 h2
  have hSQ : 0 ≤ Q * S ∧ Q * S ≤ 6000 := by
    constructor
    · exact Int.mul_nonneg (by omega) (by omega)
    · have := Int.mul_le_mul (show Q ≤ 1000 by omega) (show S ≤ 6 by omega) (show 0 ≤ S by omega) (show (0 : Int) ≤ 1000 by omega); omega
  have wsq : IntKind.i64.wrap (Q * S) = Q * S := IntWalk.i64_in _ (by omega)
  cases v3
  · have HF : Hid (v = false) := by unfold Hid; rw [← hv]; unfold validMach; rw [h1, h2, hl, decide_eq_false (by simpa using h3)]; rfl
    clear hv h1 h2 hl
    go_enter Try.func70, Try.ntmps70
    go_wp2_with fail
    rw [← HW1.out]
    go_quiet ((first | (go_at_call 117; exact quiet_eq (sizeRule_is _ n c _)) | (go_at_call 105; first | with_reducible exact quiet_eq (within_is S 2 6 _ H1.out _) | with_reducible exact quiet_eq (within_is Q 1 1000 _ H2.out _))))
    go_wp2_with fail
    go_ret
    exact ⟨ret_bool HF.out.symm, below_drewN B1 _⟩
  have HV : Hid (rs.all (ruleB S Q) = v) := by unfold Hid; rw [← hv, validMach_rules hl h1 h2 h3]
  have M0 := Lib.hid m0; have M1 := Lib.hid m1; have M2 := Lib.hid m2; have HS1 := Lib.hid hs1
  clear hv h1 h2 hl
  go_enter Try.func70, Try.ntmps70
  go_wp2_with fail
  rw [← HW1.out]
  go_quiet ((first | (go_at_call 117; exact quiet_eq (sizeRule_is _ n c _)) | (go_at_call 105; first | with_reducible exact quiet_eq (within_is S 2 6 _ H1.out _) | with_reducible exact quiet_eq (within_is Q 1 1000 _ H2.out _))))
  have bq : Below w1.heap.size w1 (w1.drewN nq) := below_drewN (Below.refl _ _) nq
  have Bq := below_step B1 bq
  have HK := Lib.hid (containsFuncAt_Rule 119 #[.pointer (some ⟨w.heap.size, 0, none⟩)] (fun x => !ruleB S Q x) (some ⟨b, off, none⟩) n c rs (w1.drewN nq) (Args.of_sl HS1.out (by rw [rows_len R3.vs_len, HL.out])) hn (fun args W => enters_of' Try.func119 rfl rfl args W)
    (fun x u W hx hu hW => notValidRule_is w.heap.size S Q _ n c x u hu W (cell_step (by exact M0.out) hW) (cell_step (by exact M1.out) hW) (cell_step (by exact M2.out) hW) (by omega) (by omega)) (!v) (by rw [← HV.out, List.not_all_eq_any_not]))
  have k2 : (w1.drewN nq).cell? ⟨w.heap.size, 2, none⟩ = some (.slice (some ⟨b, off, none⟩) n c) := M2.out
  clear m0 m1 m2 hs1 h3 h3' h3'' wsq
  generalize w1.drewN nq = wq at *
  go_wp2_with fail
  refine HK.out.mono ?_
  rintro e w2 ⟨rfl, b2⟩
  go_wp2_with fail
  go_ret
  exact ⟨ret_bool (by simp), below_step Bq b2⟩
end Go.Proofs.Ytjakgeblmkdbpaa
