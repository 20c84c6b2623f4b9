/- nesting, NestingOf and the reference's l17Deep, NestingOf. -/
import Derived.Test.YthjehhiaedfodaaNest
namespace Go.Proofs.Ythjehhiaedfodaa
open Go.RowKit
set_option linter.all false
attribute [local go_sem ↓] Go.wp_at_zero Go.wp_at_succ

theorem below_of_drew {B : Nat} {w w' : World} (h : Below B w.drew w') : Below B w w' := ⟨h.os, h.tape, h.output, h.size, h.block⟩
theorem l00Max_any (a b : Int) (w : World) : Calls Try.prog 95 #[.int .i64 a, .int .i64 b] w fun e w' => e = .returned (.int .i64 (max a b)) ∧ w = w' := by
  by_cases h : b < a
  · go_enter Try.func95, Try.ntmps95
    go_wp2
    go_ret
    exact ⟨ret_int (by omega), rfl⟩
  · go_enter Try.func95, Try.ntmps95
    go_wp2
    go_ret
    exact ⟨ret_int (by omega), rfl⟩

set_option maxRecDepth 100000 in
set_option maxHeartbeats 1000000 in
theorem l17Deep_any (N : Nat) : ∀ (A : Option Addr) (n c fr to d : Nat) (xs : List R3) (w : World) (hN : to - fr = N) (ha : Args 3 w A n (rows R3.vs xs)) (hn : n ≤ 1048576) (hft : fr ≤ to) (hto : to ≤ n) (hv : vl d (seg xs fr to) = true),
    Calls Try.prog 57 #[.slice A n c, .int .i64 fr, .int .i64 to] w fun e w' => e = .returned (.int .i64 (nest (seg xs fr to) : Nat)) ∧ w = w' := by
  induction N using Nat.strongRecOn with
  | ind N ih =>
  intro A n c fr to d xs w hN ha hn hft hto hv
  have IH := Lib.hid ih; clear ih
  have HN := Lib.hid hN; clear hN
  have HV0 := Lib.hid hv; clear hv
  have HL : Hid (xs.length = n) := by have := ha.1; rw [rows_len R3.vs_len] at this; unfold Hid; omega
  have hb0 : nest (seg xs fr to) ≤ n := by have h1 := nest_le _ (seg xs fr to) (Nat.le_refl _); have := HL.out; rw [seg_len (by omega)] at h1; omega
  go_enter Try.func57, Try.ntmps57
  go_wp2
  go_loop [7, 8] (fun o i => ∃ k acc : Nat, fr ≤ k ∧ k ≤ to ∧ acc ≤ n ∧ i = .int .i64 k ∧ o = .int .i64 acc ∧ Hid (vl d (seg xs k to) = true) ∧ Hid (max acc (nest (seg xs k to)) = nest (seg xs fr to))) (fun _ i => to - (intOf i).toNat)
  case atStart => exact ⟨fr, 0, Nat.le_refl _, hft, Nat.zero_le _, rfl, rfl, HV0, by unfold Hid; omega⟩
  case round =>
    obtain ⟨k, acc, hfk, hk, hacc, rfl, rfl, HV, HM⟩ := hrel
    by_cases hlt : k < to
    · obtain ⟨b, off, rfl, hs⟩ := ha.sl (k := k) (by omega)
      obtain ⟨x, HX⟩ := hget (k := k) HL (by omega)
      have hkn : k < n := by omega
      obtain ⟨p0, p1, p2⟩ := hs.rec3 HX.out
      have hv1 := HV.out
      rw [seg_at HX.out hlt] at hv1
      obtain ⟨s1, s2, s3⟩ := vl_split hv1
      have hm1 := HM.out
      rw [seg_at HX.out hlt, nest_cons] at hm1
      rw [seg_len (by have := HL.out; omega)] at s1
      rw [seg_drop] at s2 hm1
      have HV2 := Lib.hid s2; clear s2
      have S3 := Lib.hid s3; clear s3
      clear hv1
      rcases Bool.eq_false_or_eq_true (isLp x) with hv | hv
      · have HI := Lib.hid hv; clear hv
        obtain ⟨m, hm⟩ : ∃ m : Nat, x.c = m := ⟨x.c.toNat, by have := (S3.out HI.out).2.1; omega⟩
        have hB : bodyLen x = m := by rw [bodyLen_lp HI.out, hm]; simp
        rw [hm] at p2
        have s4 := (S3.out HI.out).1
        rw [hB] at s1 HV2 hm1 s4
        rw [seg_take _ _ _ _ (by omega)] at s4 hm1
        rw [if_pos HI.out] at hm1
        have hkm : k + 1 + m ≤ to := by omega
        have HM2 := Lib.hid hm1
        have hb1 : 1 + nest (seg xs (k + 1) (k + 1 + m)) ≤ n := by omega
        have hb2 : max acc (1 + nest (seg xs (k + 1) (k + 1 + m))) ≤ n := by omega
        clear hm1 hB hm s1
        go_wp2_with fail
        refine (l17IsLoop_is x true HI.out _ _ _ p0).mono ?_
        rintro e w1 ⟨rfl, rfl⟩
        go_wp2_with fail
        refine (IH.out (k + 1 + m - (k + 1)) (by have := HN.out; omega) _ n c (k + 1) (k + 1 + m) (d - 1) xs _ rfl ha hn (by omega) (by omega) s4).mono ?_
        rintro e w1 ⟨rfl, rfl⟩
        go_wp2_with fail
        refine (l00Max_any _ _ _).mono ?_
        rintro e w1 ⟨rfl, rfl⟩
        go_wp2
        go_round
        case rel => exact ⟨k + 1 + m, max acc (1 + nest (seg xs (k + 1) (k + 1 + m))), by omega, by omega, hb2, by go_num, by congr 1; omega, HV2, by have := HM2.out; unfold Hid; omega⟩
        case measure => simp [intOf]; omega
      · have HI := Lib.hid hv; clear hv
        rw [bodyLen_no HI.out] at HV2 hm1
        rw [HI.out] at hm1
        have HM2 := Lib.hid hm1; clear hm1
        go_wp2_with fail
        refine (l17IsLoop_is x false HI.out _ _ _ p0).mono ?_
        rintro e w1 ⟨rfl, rfl⟩
        go_wp2
        go_round
        case rel => exact ⟨k + 1, acc, by omega, by omega, hacc, by go_num, rfl, HV2, by have := HM2.out; unfold Hid; simp at this; omega⟩
        case measure => simp [intOf]; omega
    · go_wp2
      go_ret
      refine ⟨ret_int ?_, rfl⟩
      have := HM.out
      rw [seg_end (by omega), nest_nil] at this
      omega

set_option maxRecDepth 100000 in
set_option maxHeartbeats 1000000 in
theorem nesting1_any (n : Nat) (ih : Hid (∀ m, m < n → ∀ (A : Option Addr) (c d : Nat) (xs : List R3) (w : World), Args 3 w A m (rows R3.vs xs) → m ≤ 1048576 → m ≤ c → vl d xs = true →
      Calls Try.prog 58 #[.slice A m c] w fun e w' => e = .returned (.int .i64 (nest xs : Nat)) ∧ Below w.heap.size w w'))
    (x : R3) (m c g acc d q : Nat) (A : Option Addr) (ys : List R3) (w : World) (hq : Hid ((if isLp x then 1 + nest ys else 0) = q)) (hm : m < n) (hm1 : m ≤ 1048576) (hmc : m ≤ c) (hacc : acc ≤ 1048576) (ha : Args 3 w A m (rows R3.vs ys)) (hv : isLp x = true → vl d ys = true)
    (hg : w.heap[g]? = some (.cells #[.int .i64 (acc : Nat)] 2 (0, 0))) :
    Calls Try.prog 97 #[.agg #[.int .i64 x.a, .int .i64 x.b, .int .i64 x.c], .slice A m c, .pointer (some ⟨g, 0, none⟩)] w fun e w' => e = .returned (.tuple #[]) ∧
      w'.heap[g]? = some (.cells #[.int .i64 ((max acc q : Nat) : Int)] 2 (0, 0)) ∧ w.grownBy w' (some g) := by
  have HG := Lib.hid hg
  obtain ⟨g1, g2, -⟩ := var_facts hg
  have hgl := heap_lt hg
  have hne : g ≠ w.heap.size := by omega
  clear hg
  have HVV := Lib.hid hv; clear hv
  have hlen : ys.length = m := by have := ha.1; rw [rows_len R3.vs_len] at this; omega
  have hb0 : nest ys ≤ m := by have := nest_le _ ys (Nat.le_refl _); omega
  clear hlen
  rcases Bool.eq_false_or_eq_true (isLp x) with hv | hv
  · have HI := Lib.hid hv
    have hvd := HVV.out hv
    clear hv
    go_enter Try.func97, Try.ntmps97
    go_wp2_with fail
    refine (isLoop_is x true HI.out _).mono ?_
    rintro e w1 ⟨rfl, hb1⟩
    have hB1 := below_step (laid_below _ _) hb1
    clear hb1
    have c1 := cell_step g1 hB1
    have c2 : w1.frozen? ⟨g, 0, none⟩ = false := (hB1.frozen (p := ⟨g, 0, none⟩) hgl).trans g2
    have h1 := ha.below hB1
    have HG1 := Lib.hid ((hB1.block g hgl).trans HG.out)
    clear g1 g2 ha
    have hgl1 := heap_lt HG1.out
    go_wp2
    go_region_with ((go_at_call 58; refine (ih.out m hm A c d ys _ (by exact h1) hm1 hmc hvd).mono ?_; rintro e w2 ⟨rfl, hb2⟩; have k1 := cell_step (by exact c1) hb2; have k2 := (hb2.frozen (p := ⟨g, 0, none⟩) (by exact hgl1)).trans (by exact c2)))
    all_goals
      have HW : Hid (IntKind.i64.wrap (1 + ((nest ys : Nat) : Int)) = 1 + ((nest ys : Nat) : Int)) := IntWalk.i64_in _ (by omega)
      have hB2 := hB1.trans ((below_of_drew hb2).mono hB1.size)
      have HG2 : w2.heap[g]? = some (.cells #[.int .i64 (acc : Nat)] 2 (0, 0)) := (hB2.block g hgl).trans HG.out
      go_end0
      refine ⟨rfl, (heap_set (i := 0) HG2 _).trans ?_, grown_setCell (grown_of_below hB2 _) 0 _⟩
      rw [HW.out]
      have : (if (acc : Int) < 1 + ((nest ys : Nat) : Int) then 1 + ((nest ys : Nat) : Int) else (acc : Int)) = ((max acc q : Nat) : Int) := by
        have h3 := hq.out
        rw [if_pos HI.out] at h3; split <;> omega
      rw [this]
      rfl
  · have HI := Lib.hid hv; clear hv
    go_enter Try.func97, Try.ntmps97
    go_wp2_with fail
    refine (isLoop_is x false HI.out _).mono ?_
    rintro e w1 ⟨rfl, hb1⟩
    have hB1 := below_step (laid_below _ _) hb1
    clear hb1
    go_wp2
    go_end0
    refine ⟨rfl, ?_, grown_of_below hB1 _⟩
    have h3 := hq.out
    rw [HI.out] at h3
    have h2 := (hB1.block g hgl).trans HG.out
    rw [h2, show max acc q = acc by simp at h3; omega]

/-- What holds between two commands. -/
def NestAt (w : World) (g : Nat) (xs : List R3) (k : Nat) (W : World) : Prop :=
  Below g w W ∧ ∃ acc : Nat, W.heap[g]? = some (.cells #[.int .i64 (acc : Nat)] 2 (0, 0)) ∧ max acc (nest (xs.drop k)) = nest xs

set_option maxRecDepth 100000 in
set_option maxHeartbeats 400000 in
theorem nesting_any (n : Nat) : ∀ (A : Option Addr) (c d : Nat) (xs : List R3) (w : World), Args 3 w A n (rows R3.vs xs) → n ≤ 1048576 → n ≤ c → vl d xs = true →
      Calls Try.prog 58 #[.slice A n c] w fun e w' => e = .returned (.int .i64 (nest xs : Nat)) ∧ Below w.heap.size w w' := by
  induction n using Nat.strongRecOn with
  | ind n ih =>
  intro A c d xs w ha hn hc hv
  have IH := Lib.hid ih; clear ih
  have HV := Lib.hid hv; clear hv
  have HL : Hid (xs.length = n) := by have := ha.1; rw [rows_len R3.vs_len] at this; unfold Hid; omega
  have hb0 : nest xs ≤ n := by have := nest_le _ xs (Nat.le_refl _); have h2 := HL.out; omega
  go_enter Try.func58, Try.ntmps58
  go_wp2_with fail
  refine (bodies_any 97 #[.pointer (some ⟨w.heap.size, 0, none⟩)] d (NestAt w w.heap.size xs) A n c xs _ (ha.below (by first | exact laid_below _ _ | (refine (laid_below _ _).setCell ?_ _; exact Nat.le_refl _))) hn hc HV.out (enters_of' Try.func97 (by kernel_rfl) rfl) ?_ ?_ ?_ ?_).mono ?_
  · rintro k W W' ⟨h1, acc, h2, h3⟩ hb
    exact ⟨h1.trans (hb.mono (Nat.le_of_lt (heap_lt h2))), acc, (hb.block _ (heap_lt h2)).trans h2, h3⟩
  · rintro k W ⟨h1, _⟩
    exact ha.below h1
  · rintro k x m A' c' W hx hm hvk hkm hmc hA ⟨h1, acc, h2, h3⟩
    have hacc : acc ≤ 1048576 := by omega
    have hk := (List.getElem?_eq_some_iff.1 hx).1
    have hst := vl_step hx hvk
    rw [hm] at hst
    refine (nesting1_any n IH x m c' w.heap.size acc (d - 1) _ A' _ W rfl (by omega) (by omega) hmc hacc hA (fun e => (hst.2.2 e).1) h2).mono ?_
    rintro e w' ⟨rfl, h4, h5⟩
    refine ⟨rfl, h1.grown h5 (Nat.le_of_lt (heap_lt h2)) (fun j hj => by simp at hj; omega), _, h4, ?_⟩
    rw [nest_step hx, hm] at h3
    omega
  · refine ⟨?_, 0, ?_, ?_⟩
    · first | exact laid_below _ _ | (refine (laid_below _ _).setCell ?_ _; exact Nat.le_refl _)
    · first | exact Go.Deep.blk_alloc_new _ _ | (refine (heap_set (i := 0) (Go.Deep.blk_alloc_new _ _) _).trans ?_; rfl)
    · simp
  rintro e w1 ⟨rfl, h1, acc, h2, h3⟩
  obtain ⟨g1, g2, -⟩ := var_facts h2
  have H3 : Hid (acc = nest xs) := by have := HL.out; unfold Hid; rw [List.drop_of_length_le (by omega), nest_nil] at h3; omega
  clear h3 h2
  go_wp2
  go_ret
  exact ⟨ret_int (by rw [H3.out]), h1⟩

theorem nestOf_lt (xs : List R3) (n : Nat) (h : xs.length = n) : nest xs ≤ n := by have := nest_le _ xs (Nat.le_refl _); omega
def nestingOf (xs : List R3) : Int × Int := if validL xs then ((nest xs : Nat), 0) else (0, 1)

theorem implNestingOf_any (b off n c : Nat) (xs : List R3) (w : World) (hs : Sl w b off (rows R3.vs xs)) (hl : xs.length = n) (hn : n ≤ 1048576) (hc : n ≤ c) (hf : ∀ x ∈ xs, x.wf) :
    Calls Try.prog 21 #[.slice (some ⟨b, off, none⟩) n c] w fun e w' => e = .returned (.tuple #[.int .i64 (nestingOf xs).1, .int .i64 (nestingOf xs).2]) ∧ Below w.heap.size w w' := by
  have HL := Lib.hid hl; clear hl
  have HF := Lib.hid hf; clear hf
  have HA := Lib.hid (Args.of_sl (n := n) (s := 3) hs (by rw [rows_len R3.vs_len, HL.out]))
  rcases Bool.eq_false_or_eq_true (validL xs) with hv | hv
  · have HV := Lib.hid hv; clear hv
    have h7 : vl 7 xs = true := by have := HV.out; unfold validL at this; exact (Bool.and_eq_true _ _ ▸ this).2
    have H7 := Lib.hid h7; clear h7
    go_enter Try.func21, Try.ntmps21
    go_wp2_with fail
    refine (implValidLoop_is b off n c xs true HV.out _ HA.out hn hc).mono ?_
    rintro e w1 ⟨rfl, hb1⟩
    go_wp2_with fail
    refine (nesting_any n _ c 7 xs _ (HA.out.below hb1) hn hc H7.out).mono ?_
    rintro e w2 ⟨rfl, hb2⟩
    go_wp2
    go_ret2
    exact ⟨by unfold nestingOf; rw [if_pos HV.out]; rfl, below_step hb1 hb2⟩
  · have HV := Lib.hid hv; clear hv
    go_enter Try.func21, Try.ntmps21
    go_wp2_with fail
    refine (implValidLoop_is b off n c xs false HV.out _ HA.out hn hc).mono ?_
    rintro e w1 ⟨rfl, hb1⟩
    go_wp2
    go_ret2
    exact ⟨by unfold nestingOf; rw [HV.out]; rfl, hb1⟩

theorem specNestingOf_any (b off n c : Nat) (xs : List R3) (w : World) (hs : Sl w b off (rows R3.vs xs)) (hl : xs.length = n) (hn : n ≤ 1048576) (hc : n ≤ c) (hf : ∀ x ∈ xs, x.wf) :
    Calls Try.prog 20 #[.slice (some ⟨b, off, none⟩) n c] w fun e w' => e = .returned (.tuple #[.int .i64 (nestingOf xs).1, .int .i64 (nestingOf xs).2]) ∧ Below w.heap.size w w' := by
  have HL := Lib.hid hl; clear hl
  have HF := Lib.hid hf; clear hf
  have HA := Lib.hid (Args.of_sl (n := n) (s := 3) hs (by rw [rows_len R3.vs_len, HL.out]))
  rcases Bool.eq_false_or_eq_true (validL xs) with hv | hv
  · have HV := Lib.hid hv; clear hv
    have HS : Hid (seg xs 0 n = xs) := by unfold Hid; rw [← HL.out]; exact seg_all xs
    have H7 : Hid (vl 7 (seg xs 0 n) = true) := by unfold Hid; rw [HS.out]; have := HV.out; unfold validL at this; exact (Bool.and_eq_true _ _ ▸ this).2
    go_enter Try.func20, Try.ntmps20
    go_wp2_with fail
    refine (l17Is_is b off n c xs true HV.out _ HA.out hn).mono ?_
    rintro e w1 ⟨rfl, hb1⟩
    go_wp2_with fail
    refine (l17Deep_any n _ n c 0 n 7 xs _ (by omega) (HA.out.below hb1) hn (by omega) (by omega) H7.out).mono ?_
    rintro e w2 ⟨he, rfl⟩
    rw [HS.out] at he
    subst he
    go_wp2
    go_ret2
    exact ⟨by unfold nestingOf; rw [if_pos HV.out]; rfl, hb1⟩
  · have HV := Lib.hid hv; clear hv
    go_enter Try.func20, Try.ntmps20
    go_wp2_with fail
    refine (l17Is_is b off n c xs false HV.out _ HA.out hn).mono ?_
    rintro e w1 ⟨rfl, hb1⟩
    go_wp2
    go_ret2
    exact ⟨by unfold nestingOf; rw [HV.out]; rfl, hb1⟩

end Go.Proofs.Ythjehhiaedfodaa
