/- Bodies of loop programs: bodies with whatever function value; nesting; NestingOf on both sides. -/
import Derived.Test.YtjakgeblmkdbpaaDoorBounded
import Derived.Deep.DrawnRows
namespace Go.Proofs.YtjakgeblmkdbpaaDoor
open Go.RowKit
set_option linter.all false
attribute [local go_sem ↓] Go.wp_at_zero Go.wp_at_succ

/-- How many commands the body of a command has. -/
def bodyLen (x : R3) : Nat := if isLp x then x.c.toNat else 0
theorem bodyLen_lp {x : R3} (h : isLp x = true) : bodyLen x = x.c.toNat := by simp [bodyLen, h]
theorem bodyLen_no {x : R3} (h : isLp x = false) : bodyLen x = 0 := by simp [bodyLen, h]
/-- How deep loops are nested. -/
def nest : List R3 → Nat
  | [] => 0
  | x :: l => max (if isLp x then 1 + nest (l.take (bodyLen x)) else 0) (nest (l.drop (bodyLen x)))
  termination_by l => l.length
  decreasing_by all_goals simp_wf; try omega
theorem nest_nil : nest [] = 0 := by rw [nest]
theorem nest_cons (x : R3) (l : List R3) : nest (x :: l) = max (if isLp x then 1 + nest (l.take (bodyLen x)) else 0) (nest (l.drop (bodyLen x))) := by rw [nest]
theorem nest_le (n : Nat) : ∀ xs : List R3, xs.length ≤ n → nest xs ≤ xs.length := by
  induction n with
  | zero => intro xs h; have : xs = [] := List.length_eq_zero_iff.1 (by omega); subst this; rw [nest_nil]; simp
  | succ n ih =>
    intro xs h
    cases xs with
    | nil => rw [nest_nil]; simp
    | cons x l =>
      rw [nest_cons]
      simp only [List.length_cons] at h ⊢
      have h1 := ih (l.take (bodyLen x)) (by rw [List.length_take]; omega)
      have h2 := ih (l.drop (bodyLen x)) (by rw [List.length_drop]; omega)
      rw [List.length_take] at h1
      rw [List.length_drop] at h2
      split <;> omega

theorem vl_split {d : Nat} {x : R3} {l : List R3} (h : vl d (x :: l) = true) :
    bodyLen x ≤ l.length ∧ vl d (l.drop (bodyLen x)) = true ∧ (isLp x = true → vl (d - 1) (l.take (bodyLen x)) = true ∧ 0 ≤ x.c ∧ 0 < d) := by
  cases hb : inB x.b 0 15 with
  | false => rw [vl_no1 hb] at h; cases h
  | true =>
    cases hi : isLp x with
    | true =>
      rw [vl_lp hb hi] at h
      simp only [Bool.and_eq_true, decide_eq_true_eq] at h
      obtain ⟨⟨⟨h1, h2⟩, h3⟩, h4⟩ := h
      rw [inB_iff] at h2
      rw [bodyLen_lp hi]
      exact ⟨by omega, h4, fun _ => ⟨h3, by omega, h1⟩⟩
    | false =>
      rw [bodyLen_no hi]
      refine ⟨Nat.zero_le _, ?_, fun e => by cases e⟩
      rw [List.drop_zero]
      by_cases h2 : x.a = 2
      · rw [vl_cp hb hi h2] at h; exact (Bool.and_eq_true _ _ ▸ h).2
      · rw [vl_el hb hi h2] at h; exact (Bool.and_eq_true _ _ ▸ h).2
/-- A command of a valid program. -/
theorem vl_kind {d : Nat} {x : R3} {l : List R3} (h : vl d (x :: l) = true) : 0 ≤ x.b ∧ x.b ≤ 15 ∧ (x.a = 0 ∨ x.a = 1 ∨ x.a = 3 ∨ x.a = 4 ∨ (x.a = 2 ∧ 0 ≤ x.c ∧ x.c ≤ 15)) := by
  cases hb : inB x.b 0 15 with
  | false => rw [vl_no1 hb] at h; cases h
  | true =>
    have hb' := (inB_iff _ _ _).1 hb
    refine ⟨hb'.1, hb'.2, ?_⟩
    cases hi : isLp x with
    | true => unfold isLp at hi; simp at hi; omega
    | false =>
      by_cases h2 : x.a = 2
      · rw [vl_cp hb hi h2] at h
        have := (inB_iff _ _ _).1 (Bool.and_eq_true _ _ ▸ h).1
        omega
      · rw [vl_el hb hi h2] at h
        have := (Bool.and_eq_true _ _ ▸ (Bool.and_eq_true _ _ ▸ h).1).1
        simp at this
        omega
theorem vl_step {d k : Nat} {x : R3} {xs : List R3} (hx : xs[k]? = some x) (h : vl d (xs.drop k) = true) :
    k + 1 + bodyLen x ≤ xs.length ∧ vl d (xs.drop (k + 1 + bodyLen x)) = true ∧ (isLp x = true → vl (d - 1) ((xs.drop (k + 1)).take (bodyLen x)) = true ∧ 0 ≤ x.c ∧ 0 < d) := by
  have hk := (List.getElem?_eq_some_iff.1 hx).1
  rw [drop_at hx] at h
  obtain ⟨h1, h2, h3⟩ := vl_split h
  rw [List.length_drop] at h1
  rw [List.drop_drop] at h2
  exact ⟨by omega, h2, h3⟩
theorem nest_step {k : Nat} {x : R3} {xs : List R3} (hx : xs[k]? = some x) : nest (xs.drop k) = max (if isLp x then 1 + nest ((xs.drop (k + 1)).take (bodyLen x)) else 0) (nest (xs.drop (k + 1 + bodyLen x))) := by
  rw [drop_at hx, nest_cons, List.drop_drop]
theorem Args.at_some {s : Nat} {w : World} {b off n : Nat} {xs : List Value} (h : Args s w (some ⟨b, off, none⟩) n xs) {k : Nat} (hk : k < n) : Sl w b off xs := by
  obtain ⟨b', off', e, h⟩ := h.sl hk
  injection e with e
  injection e with e1 e2
  subst e1 e2
  exact h

set_option maxRecDepth 100000 in
set_option maxHeartbeats 1000000 in
theorem bodies_any (F : FuncId) (caps : Array Value) (d : Nat) (I : Nat → World → Prop) (A : Option Addr) (n c : Nat) (xs : List R3) (w : World) (ha : Args 3 w A n (rows R3.vs xs)) (hn : n ≤ 1048576) (hc : n ≤ c) (hv : vl d xs = true)
    (hE : ∀ (args : Array Value) (W : World), (callFunc F args).run Tryd.prog W = .ok (.enter F args) W)
    (hI : Hid (∀ k W W', I k W → Below W.heap.size W W' → I k W')) (hA : Hid (∀ k W, I k W → Args 3 W A n (rows R3.vs xs)))
    (hF : Hid (∀ (k : Nat) (x : R3) (m : Nat) (A' : Option Addr) (c' : Nat) (W : World), xs[k]? = some x → bodyLen x = m → vl d (xs.drop k) = true → k + 1 + m ≤ n → m ≤ c' → Args 3 W A' m (rows R3.vs ((xs.drop (k + 1)).take m)) → I k W →
      Calls Tryd.prog F (#[.agg #[.int .i64 x.a, .int .i64 x.b, .int .i64 x.c], .slice A' m c'] ++ caps) W fun e w' => e = .returned (.tuple #[]) ∧ I (k + 1 + m) w'))
    (h0 : I 0 w) : Calls Tryd.prog 55 #[.slice A n c, .func (.func F) #[] caps] w fun e w' => e = .returned (.tuple #[]) ∧ I n w' := by
  have HL : Hid (xs.length = n) := by have := ha.1; rw [rows_len R3.vs_len] at this; unfold Hid; omega
  have HV0 := Lib.hid hv; clear hv
  go_enter Tryd.func55, Tryd.ntmps55
  go_wp2
  go_loopw [4] (fun i wr => ∃ k : Nat, k ≤ n ∧ i = .int .i64 k ∧ I k wr ∧ Hid (vl d (xs.drop k) = true)) (fun i _ => n - (intOf i).toNat)
  case atStart => exact ⟨0, Nat.zero_le _, rfl, h0, by have := HV0.out; simpa [Hid] using this⟩
  case round =>
    obtain ⟨k, hk, rfl, hIk, HV⟩ := hrel
    by_cases hlt : k < n
    · obtain ⟨b, off, rfl, hs⟩ := ha.sl hlt
      obtain ⟨x, HX⟩ := hget HL hlt
      obtain ⟨s1, s2, s3⟩ := vl_step HX.out HV.out
      have HV2 := Lib.hid s2; clear s2
      have S3 := Lib.hid s3; clear s3
      have hkm : k + 1 + bodyLen x ≤ n := by have := HL.out; omega
      clear s1
      obtain ⟨p0, p1, p2⟩ := (((hA.out k wr hIk).at_some hlt).below' (laid_below wr (.cells #[] 61))).rec3 HX.out
      rcases Bool.eq_false_or_eq_true (isLp x) with hv | hv
      · have HI := Lib.hid hv; clear hv
        go_wp2_with fail
        refine (isLoop_is x true HI.out _).mono ?_
        rintro e w1 ⟨rfl, hb1⟩
        have hI1 := hI.out k wr w1 hIk (below_step (laid_below _ _) hb1)
        obtain ⟨q0, q1, q2⟩ := ((hA.out k w1 hI1).at_some hlt).rec3 HX.out
        have HS0 := Lib.hid ((hA.out k w1 hI1).at_some hlt)
        clear hb1 p0 p1 p2
        obtain ⟨m, hm⟩ : ∃ m : Nat, x.c = m := ⟨x.c.toNat, by have := (S3.out HI.out).2.1; omega⟩
        have HB : Hid (bodyLen x = m) := by unfold Hid; rw [bodyLen_lp HI.out, hm]; simp
        rw [HB.out] at hkm HV2
        have hx3 : Value.agg #[.int .i64 x.a, .int .i64 x.b, .int .i64 x.c] = Value.agg #[.int .i64 x.a, .int .i64 x.b, .int .i64 (m : Int)] := by rw [hm]
        have HX3 := Lib.hid hx3; clear hx3
        have HM := Lib.hid hm; clear hm
        rw [HM.out] at q2
        obtain ⟨o', ho', hsl⟩ := run_slice_part (P := Tryd.prog) 25 61 Tryd.underlying25 infoLoop b off n c (k + 1) m ((k : Int) + 1) ((k : Int) + 1 + m) (by omega) (by omega) (by omega)
        have HS := Lib.hid (args_part R3.vs_len HS0.out (k + 1) m ho' (by have := HL.out; omega))
        clear ho'
        have hF1 := Lib.hid (hF.out k x m _ (c - (k + 1)) w1 HX.out HB.out HV.out (by omega) (by omega) HS.out hI1)
        rw [HX3.out] at hF1
        go_wp2_with fail
        · refine hF1.out.mono ?_
          rintro e w2 ⟨rfl, hI2⟩
          clear hsl q0 q1 q2
          go_wp2
          go_roundw
          case rel => exact ⟨k + 1 + m, by omega, by go_num, hI2, HV2⟩
          case measure => simp [intOf]; omega
      · have HI := Lib.hid hv; clear hv
        go_wp2_with fail
        refine (isLoop_is x false HI.out _).mono ?_
        rintro e w1 ⟨rfl, hb1⟩
        have hI1 := hI.out k wr w1 hIk (below_step (laid_below _ _) hb1)
        obtain ⟨q0, q1, q2⟩ := ((hA.out k w1 hI1).at_some hlt).rec3 HX.out
        clear hb1 p0 p1 p2
        have HB := Lib.hid (bodyLen_no HI.out)
        rw [HB.out] at hkm HV2
        have HF1 := Lib.hid (hF.out k x 0 (some ⟨wr.heap.size, 0, none⟩) 0 w1 HX.out HB.out HV.out (by omega) (by omega) ⟨by simp [rows], .inl rfl⟩ hI1)
        go_wp2_with fail
        · refine HF1.out.mono ?_
          rintro e w2 ⟨rfl, hI2⟩
          clear q0 q1 q2
          go_wp2
          go_roundw
          case rel => exact ⟨k + 1, by omega, by go_num, hI2, HV2⟩
          case measure => simp [intOf]; omega
    · obtain rfl : n = k := by omega
      go_wp2
      go_end0
      exact ⟨rfl, hIk⟩

end Go.Proofs.YtjakgeblmkdbpaaDoor
