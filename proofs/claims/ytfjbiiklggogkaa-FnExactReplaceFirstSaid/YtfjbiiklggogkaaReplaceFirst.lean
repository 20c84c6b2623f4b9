/- ReplaceFirst: the walks. -/
import Derived.Test.YtfjbiiklggogkaaReplaceAt
namespace Go.Proofs.Ytfjbiiklggogkaa
open Go.RowKit
set_option linter.all false

/-- The places below a bound where a part stands. -/
def occTo (x p : List Int) (n : Nat) : List Nat := (List.range n).filter fun j => startsB x j p
def occL (x p : List Int) : List Nat := occTo x p (x.length + 1)
theorem occTo_yes {x p : List Int} {k : Nat} (h : startsB x k p = true) : occTo x p (k + 1) = occTo x p k ++ [k] := by
  unfold occTo; rw [List.range_succ, List.filter_append]; simp [h]
theorem occTo_no {x p : List Int} {k : Nat} (h : startsB x k p = false) : occTo x p (k + 1) = occTo x p k := by
  unfold occTo; rw [List.range_succ, List.filter_append]; simp [h]
theorem occTo_len (x p : List Int) (n : Nat) : (occTo x p n).length ≤ n := by
  unfold occTo; exact Nat.le_trans (List.length_filter_le _ _) (by simp)
theorem starts_past {x p : List Int} {j : Nat} (h : x.length < j + p.length) : startsB x j p = false := by
  unfold startsB; rw [decide_eq_false (by omega), Bool.false_and]
theorem occ_head_some {x p : List Int} {k n : Nat} (hk : k < n) (h : startsB x k p = true) (hj : ∀ j, j < k → startsB x j p = false) : (occTo x p n).head? = some k := by
  unfold occTo
  rw [List.head?_filter, List.find?_range_eq_some]
  exact ⟨h, by simpa using hk, fun j hj' => by simp [hj j hj']⟩
theorem occ_head_none {x p : List Int} {n : Nat} (hj : ∀ j, j < n → startsB x j p = false) : (occTo x p n).head? = none := by
  unfold occTo
  rw [List.head?_filter, List.find?_eq_none]
  intro j hj'
  simp [hj j (by simpa using hj')]
/-- The first place, or -1. -/
def firstI (l : List Nat) : Int := match l.head? with | none => -1 | some k => k
def replaceFirst (x p y : List Int) : List Int × Int :=
  if wordsB x p y then
    match (occL x p).head? with
    | none => ([], 3)
    | some k => fitL (putL x k p.length y)
  else ([], 1)
theorem bndReplaceFirst0 (x p y : List Int) (h1 : x.length ≤ 1048576) (h2 : p.length ≤ 1048576) (h3 : y.length ≤ 1048576) : (replaceFirst x p y).1.length ≤ 1048576 := by
  unfold replaceFirst; split
  · split
    · simp
    · exact fitL_bnd _
  · simp

theorem arg_of_own_any {w : World} {base : Nat} {e : TypeId} {n : Nat} {v : Value} {u : Value} {xs : List Value} (h : w.ownsRow base e 1 v n (u :: xs)) : ∃ b o c, v = .slice (some ⟨b, o, none⟩) n c ∧ Sl w b o (u :: xs) := by
  obtain ⟨A, c, rfl⟩ := own_form h
  have ha := arg_of_own h
  have hl := ha.1
  obtain ⟨b, o, rfl, hs⟩ := ha.sl (k := 0) (by simp at hl; omega)
  exact ⟨b, o, c, rfl, hs⟩

set_option maxRecDepth 100000 in
theorem l03Find_is (b1 o1 n c1 : Nat) (xs : List Int) (b2 o2 m c2 : Nat) (ps : List Int) (r : Int) (hr : firstI (occL xs ps) = r) (w : World) (hs1 : Sl w b1 o1 (xs.map (.int .i64))) (hl1 : xs.length = n) (hn : n ≤ 4194304) (hs2 : Sl w b2 o2 (ps.map (.int .i64))) (hl2 : ps.length = m) (hm : m ≤ 4194304) (hc : n ≤ c1) :
    Calls Try.prog 88 #[.slice (some ⟨b1, o1, none⟩) n c1, .slice (some ⟨b2, o2, none⟩) m c2, .int .i64 0] w fun e w' => e = .returned (.int .i64 r) ∧ ∃ q, w' = w.drewN q := by
  subst hr
  have HA := Lib.hid hl1
  have HB := Lib.hid hl2
  clear hl1 hl2
  go_enter Try.func88, Try.ntmps88
  go_wp2_with fail
  go_loopw [7] (fun i wr => ∃ k q : Nat, k ≤ n + 1 ∧ i = .int .i64 k ∧ wr = w.drewN q ∧ Hid (∀ j, j < k → startsB xs j ps = false)) (fun i _ => n + 2 - (intOf i).toNat)
  case atStart => exact ⟨0, 0, Nat.zero_le _, rfl, rfl, by intro j hj; omega⟩
  case round =>
    obtain ⟨k, q, hk, rfl, rfl, HR⟩ := hrel
    by_cases hlt : k + m ≤ n
    · rcases Bool.eq_false_or_eq_true (startsB xs k ps) with hb | hb
      · have HT := Lib.hid hb; clear hb
        go_wp2_with fail
        refine (l03At_is b1 o1 n c1 xs k b2 o2 m c2 ps true HT.out _ (by exact hs1) HA.out hn (by exact hs2) HB.out hm (by omega) hc).mono ?_
        rintro e w' ⟨rfl, q2, rfl⟩
        go_wp2_with fail
        go_ret
        refine ⟨ret_int ?_, by first | exact ⟨_, rfl⟩ | exact ⟨_, World.drewN_drewN _ _ _⟩⟩
        unfold firstI occL
        rw [occ_head_some (by have := HA.out; omega) HT.out HR.out]
      · have HT := Lib.hid hb; clear hb
        go_wp2_with fail
        refine (l03At_is b1 o1 n c1 xs k b2 o2 m c2 ps false HT.out _ (by exact hs1) HA.out hn (by exact hs2) HB.out hm (by omega) hc).mono ?_
        rintro e w' ⟨rfl, q2, rfl⟩
        go_wp2_with fail
        go_roundw
        case rel => exact ⟨k + 1, _, by omega, by go_num, (by first | rfl | exact World.drewN_drewN _ _ _), by
          intro j hj
          by_cases ej : j = k
          · subst ej; exact HT.out
          · exact HR.out j (by omega)⟩
        case measure => simp [intOf]; omega
    · go_wp2_with fail
      go_ret
      refine ⟨ret_int ?_, _, rfl⟩
      unfold firstI occL
      rw [occ_head_none]
      intro j hj
      by_cases ej : j < k
      · exact HR.out j ej
      · exact starts_past (by have := HA.out; have := HB.out; omega)

set_option maxRecDepth 100000 in
set_option maxHeartbeats 1000000 in
theorem occurrences_any (b1 o1 n c1 : Nat) (xs : List Int) (b2 o2 m c2 : Nat) (ps : List Int) (w : World) (hs1 : Sl w b1 o1 (xs.map (.int .i64))) (hl1 : xs.length = n) (hn : n ≤ 1048576) (hs2 : Sl w b2 o2 (ps.map (.int .i64))) (hl2 : ps.length = m) (hm : m ≤ 1048576) (hc : n ≤ c1) :
    Calls Try.prog 89 #[.slice (some ⟨b1, o1, none⟩) n c1, .slice (some ⟨b2, o2, none⟩) m c2] w fun e w' => ∃ v, e = .returned v ∧ w'.ownsRow w.heap.size 2 1 v (occL xs ps).length ((occL xs ps).map fun (j : Nat) => Value.int .i64 (j : Int)) ∧ Below w.heap.size w w' := by
  have HA := Lib.hid hl1
  have HB := Lib.hid hl2
  clear hl1 hl2
  go_enter Try.func89, Try.ntmps89
  go_wp2_with fail
  go_loopw [5, 6] (fun v i wr => ∃ k t : Nat, k ≤ n + 1 ∧ t ≤ k ∧ i = .int .i64 k ∧ wr.ownsRow w.heap.size 2 1 v t ((occTo xs ps k).map fun (j : Nat) => Value.int .i64 (j : Int)) ∧ Below w.heap.size w wr ∧ Hid (t = (occTo xs ps k).length)) (fun _ i _ => n + 1 - (intOf i).toNat)
  case atStart => exact ⟨0, 0, Nat.zero_le _, Nat.zero_le _, rfl, World.ownsRow_made _ #[] 0 (by simp) (by simp [maxLen]) rfl, laid_below _ _, rfl⟩
  case round =>
    obtain ⟨k, t, hk, htk, rfl, hown, hB, HT⟩ := hrel
    obtain ⟨A, d, rfl⟩ := own_form hown
    by_cases hlt : k ≤ n
    · have hs1r := hs1.below' hB
      have hs2r := hs2.below' hB
      by_cases hck : c1 = k
      · have HD0 : Hid (xs.drop k = []) := by unfold Hid; exact List.drop_of_length_le (by have := HA.out; omega)
        have hdr : Sl wr b1 o1 ((xs.drop k).map (.int .i64)) := by rw [HD0.out]; exact Sl.empty hs1r.1
        rcases Bool.eq_false_or_eq_true (startsB xs k ps) with ht | ht
        rotate_left
        · have HS : Hid (startsB (xs.drop k) 0 ps = false) := by unfold Hid; rw [starts_drop _ _ _ (by have := HA.out; omega)]; exact ht
          have HO := Lib.hid (occTo_no ht)
          clear ht
          subst hck
          go_wp2_with fail
          refine (begins_is _ _ _ _ (xs.drop c1) b2 o2 m c2 ps false HS.out _ hdr (by have := HA.out; rw [List.length_drop]; omega) (by omega) (by exact hs2r) HB.out (by omega) (by omega)).mono ?_
          rintro e w' ⟨rfl, q, rfl⟩
          have hBq : Below w.heap.size w (wr.drewN q) := below_drewN hB q
          have hownq : (wr.drewN q).ownsRow w.heap.size 2 1 (.slice A t d) t ((occTo xs ps c1).map fun (j : Nat) => Value.int .i64 (j : Int)) := own_below' hown (quiet_below rfl)
          generalize wr.drewN q = wq at *
          clear hown hB
          go_wp2_with fail
          go_roundw
          case rel => exact ⟨c1 + 1, t, by omega, by omega, by go_num, by rw [HO.out]; exact hownq, hBq, by unfold Hid; rw [HO.out]; exact HT.out⟩
          case measure => simp [intOf]; omega
        · have HS : Hid (startsB (xs.drop k) 0 ps = true) := by unfold Hid; rw [starts_drop _ _ _ (by have := HA.out; omega)]; exact ht
          have HO := Lib.hid (occTo_yes ht)
          clear ht
          subst hck
          go_wp2_with fail
          refine (begins_is _ _ _ _ (xs.drop c1) b2 o2 m c2 ps true HS.out _ hdr (by have := HA.out; rw [List.length_drop]; omega) (by omega) (by exact hs2r) HB.out (by omega) (by omega)).mono ?_
          rintro e w' ⟨rfl, q, rfl⟩
          have hBq : Below w.heap.size w (wr.drewN q) := below_drewN hB q
          have hownq : (wr.drewN q).ownsRow w.heap.size 2 1 (.slice A t d) t ((occTo xs ps c1).map fun (j : Nat) => Value.int .i64 (j : Int)) := own_below' hown (quiet_below rfl)
          generalize wr.drewN q = wq at *
          clear hown hB
          go_wp2_with (at_builtin; refine wpList_app rfl _ _ _ rfl Try.underlying22 infoInt64S rfl (by omega) w wq hownq hBq rfl 1 #[.int .i64 (c1 : Int)] rfl (laid_below _ _) (heap_alloc_new _ _) rfl (by simp [Value.oneCell']) (by omega) (by unfold maxLen; omega) (by omega) ?_; intro g cap w1 hown1 hB1)
          go_roundw
          case rel => exact ⟨c1 + 1, t + 1, by omega, by omega, by go_num, by rw [HO.out, List.map_append]; exact hown1, hB1, by unfold Hid; rw [HO.out, List.length_append, ← HT.out]; rfl⟩
          case measure => simp [intOf]; omega
      · have hdr := hs1r.from k
        rcases Bool.eq_false_or_eq_true (startsB xs k ps) with ht | ht
        rotate_left
        · have HS : Hid (startsB (xs.drop k) 0 ps = false) := by unfold Hid; rw [starts_drop _ _ _ (by have := HA.out; omega)]; exact ht
          have HO := Lib.hid (occTo_no ht)
          clear ht
          skip
          go_wp2_with fail
          refine (begins_is _ _ _ _ (xs.drop k) b2 o2 m c2 ps false HS.out _ hdr (by have := HA.out; rw [List.length_drop]; omega) (by omega) (by exact hs2r) HB.out (by omega) (by omega)).mono ?_
          rintro e w' ⟨rfl, q, rfl⟩
          have hBq : Below w.heap.size w (wr.drewN q) := below_drewN hB q
          have hownq : (wr.drewN q).ownsRow w.heap.size 2 1 (.slice A t d) t ((occTo xs ps k).map fun (j : Nat) => Value.int .i64 (j : Int)) := own_below' hown (quiet_below rfl)
          generalize wr.drewN q = wq at *
          clear hown hB
          go_wp2_with fail
          go_roundw
          case rel => exact ⟨k + 1, t, by omega, by omega, by go_num, by rw [HO.out]; exact hownq, hBq, by unfold Hid; rw [HO.out]; exact HT.out⟩
          case measure => simp [intOf]; omega
        · have HS : Hid (startsB (xs.drop k) 0 ps = true) := by unfold Hid; rw [starts_drop _ _ _ (by have := HA.out; omega)]; exact ht
          have HO := Lib.hid (occTo_yes ht)
          clear ht
          skip
          go_wp2_with fail
          refine (begins_is _ _ _ _ (xs.drop k) b2 o2 m c2 ps true HS.out _ hdr (by have := HA.out; rw [List.length_drop]; omega) (by omega) (by exact hs2r) HB.out (by omega) (by omega)).mono ?_
          rintro e w' ⟨rfl, q, rfl⟩
          have hBq : Below w.heap.size w (wr.drewN q) := below_drewN hB q
          have hownq : (wr.drewN q).ownsRow w.heap.size 2 1 (.slice A t d) t ((occTo xs ps k).map fun (j : Nat) => Value.int .i64 (j : Int)) := own_below' hown (quiet_below rfl)
          generalize wr.drewN q = wq at *
          clear hown hB
          go_wp2_with (at_builtin; refine wpList_app rfl _ _ _ rfl Try.underlying22 infoInt64S rfl (by omega) w wq hownq hBq rfl 1 #[.int .i64 (k : Int)] rfl (laid_below _ _) (heap_alloc_new _ _) rfl (by simp [Value.oneCell']) (by omega) (by unfold maxLen; omega) (by omega) ?_; intro g cap w1 hown1 hB1)
          go_roundw
          case rel => exact ⟨k + 1, t + 1, by omega, by omega, by go_num, by rw [HO.out, List.map_append]; exact hown1, hB1, by unfold Hid; rw [HO.out, List.length_append, ← HT.out]; rfl⟩
          case measure => simp [intOf]; omega
    · go_wp2_with fail
      go_ret
      obtain rfl : k = n + 1 := by omega
      have e : occTo xs ps (n + 1) = occL xs ps := by unfold occL; rw [HA.out]
      have ht := HT.out
      subst ht
      refine ⟨_, rfl, ?_, hB⟩
      rw [← e]; exact hown

set_option maxRecDepth 100000 in
set_option maxHeartbeats 1000000 in
theorem specReplaceFirst_any (b1 o1 n1 c1 : Nat) (x : List Int) (b2 o2 n2 c2 : Nat) (p : List Int) (b3 o3 n3 c3 : Nat) (y : List Int) (w : World) (hs1 : Sl w b1 o1 (x.map (.int .i64))) (hl1 : x.length = n1) (hn1 : n1 ≤ 1048576) (wf1 : Wf64s x) (hs2 : Sl w b2 o2 (p.map (.int .i64))) (hl2 : p.length = n2) (hn2 : n2 ≤ 1048576) (wf2 : Wf64s p) (hs3 : Sl w b3 o3 (y.map (.int .i64))) (hl3 : y.length = n3) (hn3 : n3 ≤ 1048576) (wf3 : Wf64s y) (hc : n1 ≤ c1 := by omega) :
    Calls Try.prog 36 #[.slice (some ⟨b1, o1, none⟩) n1 c1, .slice (some ⟨b2, o2, none⟩) n2 c2, .slice (some ⟨b3, o3, none⟩) n3 c3] w fun e w' => ∃ v, e = .returned (.tuple #[v, .int .i64 (replaceFirst x p y).2]) ∧
      w'.ownsRow w.heap.size 2 1 v (replaceFirst x p y).1.length ((replaceFirst x p y).1.map (.int .i64)) ∧ Below w.heap.size w w' := by
  clear wf1 wf2 wf3
  have HL1 := Lib.hid hl1; have HL2 := Lib.hid hl2; have HL3 := Lib.hid hl3
  clear hl1 hl2 hl3
  rcases Bool.eq_false_or_eq_true (isWordB x) with h1 | h1
  rotate_left
  · have H1 := Lib.hid h1; clear h1
    have HE : Hid (replaceFirst x p y = ([], 1)) := by unfold Hid replaceFirst wordsB; rw [H1.out]; simp
    go_enter Try.func36, Try.ntmps36
    go_wp2_with fail
    refine (l03Is_is b1 o1 n1 c1 x false H1.out _ hs1 HL1.out (by omega)).mono ?_
    rintro e w' ⟨rfl, rfl⟩
    go_wp2_with fail
    go_ret2
    exact ⟨_, ends2 (by rw [HE.out]), own_nil' HE.out, Below.refl _ _⟩
  have H1 := Lib.hid h1; clear h1
  rcases Bool.eq_false_or_eq_true (isWordB p) with h2 | h2
  rotate_left
  · have H2 := Lib.hid h2; clear h2
    have HE : Hid (replaceFirst x p y = ([], 1)) := by unfold Hid replaceFirst wordsB; rw [H2.out]; simp
    go_enter Try.func36, Try.ntmps36
    go_wp2_with fail
    refine (l03Is_is b1 o1 n1 c1 x true H1.out _ hs1 HL1.out (by omega)).mono ?_
    rintro e w' ⟨rfl, rfl⟩
    go_wp2_with fail
    refine (l03Is_is b2 o2 n2 c2 p false H2.out _ hs2 HL2.out (by omega)).mono ?_
    rintro e w' ⟨rfl, rfl⟩
    go_wp2_with fail
    go_ret2
    exact ⟨_, ends2 (by rw [HE.out]), own_nil' HE.out, Below.refl _ _⟩
  have H2 := Lib.hid h2; clear h2
  rcases Bool.eq_false_or_eq_true (isWordB y) with h3 | h3
  rotate_left
  · have H3 := Lib.hid h3; clear h3
    have HE : Hid (replaceFirst x p y = ([], 1)) := by unfold Hid replaceFirst wordsB; rw [H3.out]; simp
    go_enter Try.func36, Try.ntmps36
    go_wp2_with fail
    refine (l03Is_is b1 o1 n1 c1 x true H1.out _ hs1 HL1.out (by omega)).mono ?_
    rintro e w' ⟨rfl, rfl⟩
    go_wp2_with fail
    refine (l03Is_is b2 o2 n2 c2 p true H2.out _ hs2 HL2.out (by omega)).mono ?_
    rintro e w' ⟨rfl, rfl⟩
    go_wp2_with fail
    refine (l03Is_is b3 o3 n3 c3 y false H3.out _ hs3 HL3.out (by omega)).mono ?_
    rintro e w' ⟨rfl, rfl⟩
    go_wp2_with fail
    go_ret2
    exact ⟨_, ends2 (by rw [HE.out]), own_nil' HE.out, Below.refl _ _⟩
  have H3 := Lib.hid h3; clear h3
  have HW : Hid (wordsB x p y = true) := by unfold Hid wordsB; rw [H1.out, H2.out, H3.out]; rfl
  have w1 := isWord_len H1.out; have w2 := isWord_len H2.out; have w3 := isWord_len H3.out
  rw [HL1.out] at w1; rw [HL2.out] at w2; rw [HL3.out] at w3
  have HM : Hid (replaceFirst x p y = match (occL x p).head? with | none => ([], 3) | some k => fitL (putL x k n2 y)) := by unfold Hid replaceFirst; rw [HW.out, HL2.out]; simp
  have HOK : Hid (∀ k, (occL x p).head? = some k → k + n2 ≤ n1) := by
    intro k h
    unfold occL occTo at h
    rw [List.head?_filter, List.find?_range_eq_some] at h
    have := starts_le h.1
    have := HL1.out; have := HL2.out; omega
  rcases ho : (occL x p).head? with _ | k
  · have HF : Hid (firstI (occL x p) = -1) := by unfold Hid firstI; rw [ho]
    have HE : Hid (replaceFirst x p y = ([], 3)) := by unfold Hid; rw [HM.out, ho]
    clear ho
    go_enter Try.func36, Try.ntmps36
    go_wp2_with fail
    refine (l03Is_is b1 o1 n1 c1 x true H1.out _ hs1 HL1.out (by omega)).mono ?_
    rintro e w' ⟨rfl, rfl⟩
    go_wp2_with fail
    refine (l03Is_is b2 o2 n2 c2 p true H2.out _ hs2 HL2.out (by omega)).mono ?_
    rintro e w' ⟨rfl, rfl⟩
    go_wp2_with fail
    refine (l03Is_is b3 o3 n3 c3 y true H3.out _ hs3 HL3.out (by omega)).mono ?_
    rintro e w' ⟨rfl, rfl⟩
    go_wp2_with fail
    refine (l03Find_is b1 o1 n1 c1 x b2 o2 n2 c2 p (-1) HF.out _ hs1 HL1.out (by omega) hs2 HL2.out (by omega) hc).mono ?_
    rintro e w' ⟨rfl, q, rfl⟩
    go_wp2_with fail
    go_ret2
    exact ⟨_, ends2 (by rw [HE.out]), own_nil' HE.out, below_drewN (Below.refl _ _) _⟩
  · have HF : Hid (firstI (occL x p) = k) := by unfold Hid firstI; rw [ho]
    have HE : Hid (replaceFirst x p y = fitL (putL x k n2 y)) := by unfold Hid; rw [HM.out, ho]
    have hkm := HOK.out k ho
    clear ho
    have HPL : Hid ((putL x k n2 y).length = n1 - n2 + n3) := by unfold Hid; rw [putL_length _ _ _ _ (by have := HL1.out; omega), HL1.out, HL3.out]
    go_enter Try.func36, Try.ntmps36
    go_wp2_with fail
    refine (l03Is_is b1 o1 n1 c1 x true H1.out _ hs1 HL1.out (by omega)).mono ?_
    rintro e w' ⟨rfl, rfl⟩
    go_wp2_with fail
    refine (l03Is_is b2 o2 n2 c2 p true H2.out _ hs2 HL2.out (by omega)).mono ?_
    rintro e w' ⟨rfl, rfl⟩
    go_wp2_with fail
    refine (l03Is_is b3 o3 n3 c3 y true H3.out _ hs3 HL3.out (by omega)).mono ?_
    rintro e w' ⟨rfl, rfl⟩
    go_wp2_with fail
    refine (l03Find_is b1 o1 n1 c1 x b2 o2 n2 c2 p k HF.out _ hs1 HL1.out (by omega) hs2 HL2.out (by omega) hc).mono ?_
    rintro e w' ⟨rfl, q, rfl⟩
    have hBq : Below w.heap.size w (w.drewN q) := below_drewN (Below.refl _ _) q
    have hs1q := hs1.below' hBq
    have hs3q := hs3.below' hBq
    go_wp2_with fail
    refine (l03Put_any b1 o1 n1 c1 x k n2 b3 o3 n3 c3 y _ (by exact hs1q) HL1.out (by omega) (by exact hs3q) HL3.out (by omega) hkm hc).mono ?_
    rintro e w1' ⟨v, rfl, hown, hB⟩
    obtain ⟨A, d, rfl⟩ := own_form hown
    have hB2 := below_step hBq hB
    have hown2 := own_base hown hBq.size
    clear hown hB
    by_cases hf : n1 - n2 + n3 ≤ 400
    · have HE2 : Hid (replaceFirst x p y = (putL x k n2 y, 0)) := by unfold Hid; rw [HE.out, fitL_yes (by have := HPL.out; omega)]
      go_wp2_with fail
      go_ret2
      exact ⟨_, ends2 (by rw [HE2.out]), own_fit HE2.out HPL.out hown2, hB2⟩
    · have HE2 : Hid (replaceFirst x p y = ([], 5)) := by unfold Hid; rw [HE.out, fitL_no (by have := HPL.out; omega)]
      go_wp2_with fail
      go_ret2
      exact ⟨_, ends2 (by rw [HE2.out]), own_nil' HE2.out, hB2⟩

set_option maxRecDepth 100000 in
set_option maxHeartbeats 1000000 in
theorem implReplaceFirst_any (b1 o1 n1 c1 : Nat) (x : List Int) (b2 o2 n2 c2 : Nat) (p : List Int) (b3 o3 n3 c3 : Nat) (y : List Int) (w : World) (hs1 : Sl w b1 o1 (x.map (.int .i64))) (hl1 : x.length = n1) (hn1 : n1 ≤ 1048576) (wf1 : Wf64s x) (hs2 : Sl w b2 o2 (p.map (.int .i64))) (hl2 : p.length = n2) (hn2 : n2 ≤ 1048576) (wf2 : Wf64s p) (hs3 : Sl w b3 o3 (y.map (.int .i64))) (hl3 : y.length = n3) (hn3 : n3 ≤ 1048576) (wf3 : Wf64s y) (hc : n1 ≤ c1 := by omega) :
    Calls Try.prog 37 #[.slice (some ⟨b1, o1, none⟩) n1 c1, .slice (some ⟨b2, o2, none⟩) n2 c2, .slice (some ⟨b3, o3, none⟩) n3 c3] w fun e w' => ∃ v, e = .returned (.tuple #[v, .int .i64 (replaceFirst x p y).2]) ∧
      w'.ownsRow w.heap.size 2 1 v (replaceFirst x p y).1.length ((replaceFirst x p y).1.map (.int .i64)) ∧ Below w.heap.size w w' := by
  clear wf1 wf2 wf3
  have HL1 := Lib.hid hl1; have HL2 := Lib.hid hl2; have HL3 := Lib.hid hl3
  clear hl1 hl2 hl3
  have hB0 := laid_below w (.cells #[.slice (some ⟨b1, o1, none⟩) n1 c1, .slice (some ⟨b2, o2, none⟩) n2 c2, .slice (some ⟨b3, o3, none⟩) n3 c3] 22)
  have htr : Wds (w.alloc (.cells #[.slice (some ⟨b1, o1, none⟩) n1 c1, .slice (some ⟨b2, o2, none⟩) n2 c2, .slice (some ⟨b3, o3, none⟩) n3 c3] 22)) [.slice (some ⟨b1, o1, none⟩) n1 c1, .slice (some ⟨b2, o2, none⟩) n2 c2, .slice (some ⟨b3, o3, none⟩) n3 c3] [x, p, y] := by
    refine ⟨rfl, fun j v t h1 h2 => ?_⟩
    match j, h1, h2 with
    | 0, h1, h2 => simp at h1 h2; subst h1; subst h2; exact ⟨b1, o1, c1, by rw [HL1.out], hs1.below' hB0, by have := HL1.out; omega⟩
    | 1, h1, h2 => simp at h1 h2; subst h1; subst h2; exact ⟨b2, o2, c2, by rw [HL2.out], hs2.below' hB0, by have := HL2.out; omega⟩
    | 2, h1, h2 => simp at h1 h2; subst h1; subst h2; exact ⟨b3, o3, c3, by rw [HL3.out], hs3.below' hB0, by have := HL3.out; omega⟩
  have hsl : Sl (w.alloc (.cells #[.slice (some ⟨b1, o1, none⟩) n1 c1, .slice (some ⟨b2, o2, none⟩) n2 c2, .slice (some ⟨b3, o3, none⟩) n3 c3] 22)) w.heap.size 0 [.slice (some ⟨b1, o1, none⟩) n1 c1, .slice (some ⟨b2, o2, none⟩) n2 c2, .slice (some ⟨b3, o3, none⟩) n3 c3] := sl_laid _ _ _
  rcases Bool.eq_false_or_eq_true (wordsB x p y) with h1 | h1
  rotate_left
  · have HE : Hid (replaceFirst x p y = ([], 1)) := by unfold Hid replaceFirst; rw [h1]; rfl
    have H1 : Hid ([x, p, y].all isWordB = false) := by unfold Hid; unfold wordsB at h1; simpa [Bool.and_assoc] using h1
    clear h1
    go_enter Try.func37, Try.ntmps37
    go_wp2_with fail
    refine (areWords_is w.heap.size 0 3 3 _ [x, p, y] false H1.out _ hsl htr rfl (by omega)).mono ?_
    rintro e w' ⟨rfl, rfl⟩
    go_wp2_with fail
    go_ret2
    exact ⟨_, ends2 (by rw [HE.out]), own_nil' HE.out, hB0⟩
  have H1 : Hid ([x, p, y].all isWordB = true) := by unfold Hid; unfold wordsB at h1; simpa [Bool.and_assoc] using h1
  have HW := Lib.hid h1
  have w123 : n1 ≤ 400 ∧ n2 ≤ 400 ∧ n3 ≤ 400 := by
    unfold wordsB at h1
    simp only [Bool.and_eq_true] at h1
    have a1 := isWord_len h1.1.1; have a2 := isWord_len h1.1.2; have a3 := isWord_len h1.2
    rw [HL1.out] at a1; rw [HL2.out] at a2; rw [HL3.out] at a3
    exact ⟨a1, a2, a3⟩
  obtain ⟨w1, w2, w3⟩ := w123
  clear h1
  have HM : Hid (replaceFirst x p y = match (occL x p).head? with | none => ([], 3) | some k => fitL (putL x k n2 y)) := by unfold Hid replaceFirst; rw [HW.out, HL2.out]; simp
  have HOK : Hid (∀ k, (occL x p).head? = some k → k + n2 ≤ n1) := by
    intro k h
    unfold occL occTo at h
    rw [List.head?_filter, List.find?_range_eq_some] at h
    have := starts_le h.1
    have := HL1.out; have := HL2.out; omega
  rcases ho : (occL x p).head? with _ | k
  · have HO : Hid (occL x p = []) := by unfold Hid; exact List.head?_eq_none_iff.1 ho
    have HE : Hid (replaceFirst x p y = ([], 3)) := by unfold Hid; rw [HM.out, ho]
    clear ho
    go_enter Try.func37, Try.ntmps37
    go_wp2_with fail
    refine (areWords_is w.heap.size 0 3 3 _ [x, p, y] true H1.out _ hsl htr rfl (by omega)).mono ?_
    rintro e w' ⟨rfl, rfl⟩
    generalize w.alloc (.cells #[.slice (some ⟨b1, o1, none⟩) n1 c1, .slice (some ⟨b2, o2, none⟩) n2 c2, .slice (some ⟨b3, o3, none⟩) n3 c3] 22) = wa at *
    have hs1' := hs1.below' hB0
    have hs2' := hs2.below' hB0
    have hs3' := hs3.below' hB0
    clear hsl htr
    go_wp2_with fail
    refine (occurrences_any b1 o1 n1 c1 x b2 o2 n2 c2 p _ (by exact hs1') HL1.out (by omega) (by exact hs2') HL2.out (by omega) hc).mono ?_
    rintro e wo ⟨vo, rfl, howno, hBo⟩
    rw [HO.out] at howno
    obtain ⟨Ao, dd, rfl⟩ := own_form howno
    have hBo2 := below_step hB0 hBo
    clear howno hBo
    go_wp2_with fail
    go_ret2
    exact ⟨_, ends2 (by rw [HE.out]), own_nil' HE.out, hBo2⟩
  · obtain ⟨tl, ht⟩ : ∃ tl, occL x p = k :: tl := by
      cases h : occL x p with
      | nil => rw [h] at ho; cases ho
      | cons a l => rw [h] at ho; injection ho with ho; subst ho; exact ⟨l, rfl⟩
    have HO := Lib.hid ht
    have HE : Hid (replaceFirst x p y = fitL (putL x k n2 y)) := by unfold Hid; rw [HM.out, ho]
    have hkm := HOK.out k ho
    have htl : tl.length ≤ n1 := by have := occTo_len x p (x.length + 1); unfold occL at ht; rw [ht] at this; have := HL1.out; simp at *; omega
    clear ho ht
    have HPL : Hid ((putL x k n2 y).length = n1 - n2 + n3) := by unfold Hid; rw [putL_length _ _ _ _ (by have := HL1.out; omega), HL1.out, HL3.out]
    go_enter Try.func37, Try.ntmps37
    go_wp2_with fail
    refine (areWords_is w.heap.size 0 3 3 _ [x, p, y] true H1.out _ hsl htr rfl (by omega)).mono ?_
    rintro e w' ⟨rfl, rfl⟩
    generalize w.alloc (.cells #[.slice (some ⟨b1, o1, none⟩) n1 c1, .slice (some ⟨b2, o2, none⟩) n2 c2, .slice (some ⟨b3, o3, none⟩) n3 c3] 22) = wa at *
    have hs1' := hs1.below' hB0
    have hs2' := hs2.below' hB0
    have hs3' := hs3.below' hB0
    clear hsl htr
    go_wp2_with fail
    refine (occurrences_any b1 o1 n1 c1 x b2 o2 n2 c2 p _ (by exact hs1') HL1.out (by omega) (by exact hs2') HL2.out (by omega) hc).mono ?_
    rintro e wo ⟨vo, rfl, howno, hBo⟩
    rw [HO.out] at howno
    have hso := arg_of_own_any howno
    rw [List.length_cons] at hso
    obtain ⟨bo, oo, co, rfl, hslo⟩ := hso
    have hc0 := hslo.at (j := 0) (u := .int .i64 k) rfl
    rw [Nat.add_zero] at hc0
    have hBq := below_step hB0 hBo
    have hs1q := hs1'.below' hBo
    have hs3q := hs3'.below' hBo
    clear howno
    go_wp2_with fail
    refine (replaced_any b1 o1 n1 c1 x k n2 b3 o3 n3 c3 y _ (by exact hs1q) HL1.out (by omega) (by exact hs3q) HL3.out (by omega) hkm hc).mono ?_
    rintro e w1' ⟨v, rfl, hown, hB⟩
    obtain ⟨A, d, rfl⟩ := own_form hown
    have hB2 := below_step hBq hB
    have hown2 := own_base hown hBq.size
    clear hown hB
    go_wp2_with fail
    by_cases hf : n1 - n2 + n3 ≤ 400
    · have HE2 : Hid (replaceFirst x p y = (putL x k n2 y, 0)) := by unfold Hid; rw [HE.out, fitL_yes (by have := HPL.out; omega)]
      refine (fitting_yes (n1 - n2 + n3) w1' A d hf).mono ?_
      rintro e w' ⟨rfl, rfl⟩
      go_wp2_with fail
      go_ret2
      exact ⟨_, ends2 (by rw [HE2.out]), own_fit HE2.out HPL.out hown2, hB2⟩
    · have HE2 : Hid (replaceFirst x p y = ([], 5)) := by unfold Hid; rw [HE.out, fitL_no (by have := HPL.out; omega)]
      refine (fitting_no (n1 - n2 + n3) w1' A d (by omega) (by omega)).mono ?_
      rintro e w' ⟨rfl, rfl⟩
      go_wp2_with fail
      go_ret2
      exact ⟨_, ends2 (by rw [HE2.out]), own_nil' HE2.out, hB2⟩
end Go.Proofs.Ytfjbiiklggogkaa
