/- ReplaceFirst: the walks. -/
import Derived.Test.YtjakgeblmkdbpaaReplaceAt
namespace Go.Proofs.Ytjakgeblmkdbpaa
open Go.RowKit
set_option linter.all false

/-- The places below a bound where a part stands. -/
def occTo (x p : List Int) (n : Nat) : List Nat := (List.range n).filter fun j => startsB x j p
def occL (x p : List Int) : List Nat := occTo x p (x.length + 1)
theorem occTo_yes {x p : List Int} {k : Nat} (h : startsB x k p = true) : occTo x p (k + 1) = occTo x p k ++ [k] := by
  unfold occTo; rw [List.range_succ, List.filter_append]; simp [h]
theorem occTo_no {x p : List Int} {k : Nat} (h : startsB x k p = false) : occTo x p (k + 1) = occTo x p k := by
  unfold occTo; rw [List.range_succ, List.filter_append]; simp [h]
theorem occTo_len (x p : List Int) (n : Nat) : (occTo x p n).length ≤ n := by
  unfold occTo; exact Nat.le_trans (List.length_filter_le _ _) (by simp)
theorem starts_past {x p : List Int} {j : Nat} (h : x.length < j + p.length) : startsB x j p = false := by
  unfold startsB; rw [decide_eq_false (by omega), Bool.false_and]
theorem occ_head_some {x p : List Int} {k n : Nat} (hk : k < n) (h : startsB x k p = true) (hj : ∀ j, j < k → startsB x j p = false) : (occTo x p n).head? = some k := by
  unfold occTo
  rw [List.head?_filter, List.find?_range_eq_some]
  exact ⟨h, by simpa using hk, fun j hj' => by simp [hj j hj']⟩
theorem occ_head_none {x p : List Int} {n : Nat} (hj : ∀ j, j < n → startsB x j p = false) : (occTo x p n).head? = none := by
  unfold occTo
  rw [List.head?_filter, List.find?_eq_none]
  intro j hj'
  simp [hj j (by simpa using hj')]
/-- The first place, or -1. -/
def firstI (l : List Nat) : Int := match l.head? with | none => -1 | some k => k
def replaceFirst (x p y : List Int) : List Int × Int :=
  if wordsB x p y then
    match (occL x p).head? with
    | none => ([], 3)
    | some k => fitL (putL x k p.length y)
  else ([], 1)
theorem bndReplaceFirst0 (x p y : List Int) (h1 : x.length ≤ 1048576) (h2 : p.length ≤ 1048576) (h3 : y.length ≤ 1048576) : (replaceFirst x p y).1.length ≤ 1048576 := by
  unfold replaceFirst; split
  · split
    · simp
    · exact fitL_bnd _
  · simp

theorem arg_of_own_any {w : World} {base : Nat} {e : TypeId} {n : Nat} {v : Value} {u : Value} {xs : List Value} (h : w.ownsRow base e 1 v n (u :: xs)) : ∃ b o c, v = .slice (some ⟨b, o, none⟩) n c ∧ Sl w b o (u :: xs) := by
  obtain ⟨A, c, rfl⟩ := own_form h
  have ha := arg_of_own h
  have hl := ha.1
  obtain ⟨b, o, rfl, hs⟩ := ha.sl (k := 0) (by simp at hl; omega)
  exact ⟨b, o, c, rfl, hs⟩

set_option maxRecDepth 100000 in
set_option maxHeartbeats 1000000 in
theorem occurrences_any (b1 o1 n c1 : Nat) (xs : List Int) (b2 o2 m c2 : Nat) (ps : List Int) (w : World) (hs1 : Sl w b1 o1 (xs.map (.int .i64))) (hl1 : xs.length = n) (hn : n ≤ 1048576) (hs2 : Sl w b2 o2 (ps.map (.int .i64))) (hl2 : ps.length = m) (hm : m ≤ 1048576) (hc : n ≤ c1) :
    Calls Try.prog 111 #[.slice (some ⟨b1, o1, none⟩) n c1, .slice (some ⟨b2, o2, none⟩) m c2] w fun e w' => ∃ v, e = .returned v ∧ w'.ownsRow w.heap.size 2 1 v (occL xs ps).length ((occL xs ps).map fun (j : Nat) => Value.int .i64 (j : Int)) ∧ Below w.heap.size w w' := by
  have HA := Lib.hid hl1
  have HB := Lib.hid hl2
  clear hl1 hl2
  go_enter Try.func111, Try.ntmps111
  go_wp2_with fail
  go_loopw [5, 6] (fun v i wr => ∃ k t : Nat, k ≤ n + 1 ∧ t ≤ k ∧ i = .int .i64 k ∧ wr.ownsRow w.heap.size 2 1 v t ((occTo xs ps k).map fun (j : Nat) => Value.int .i64 (j : Int)) ∧ Below w.heap.size w wr ∧ Hid (t = (occTo xs ps k).length)) (fun _ i _ => n + 1 - (intOf i).toNat)
  case atStart => exact ⟨0, 0, Nat.zero_le _, Nat.zero_le _, rfl, World.ownsRow_made _ #[] 0 (by simp) (by simp [maxLen]) rfl, laid_below _ _, rfl⟩
  case round =>
    obtain ⟨k, t, hk, htk, rfl, hown, hB, HT⟩ := hrel
    obtain ⟨A, d, rfl⟩ := own_form hown
    by_cases hlt : k ≤ n
    · have hs1r := hs1.below' hB
      have hs2r := hs2.below' hB
      by_cases hck : c1 = k
      · have HD0 : Hid (xs.drop k = []) := by unfold Hid; exact List.drop_of_length_le (by have := HA.out; omega)
        have hdr : Sl wr b1 o1 ((xs.drop k).map (.int .i64)) := by rw [HD0.out]; exact Sl.empty hs1r.1
        rcases Bool.eq_false_or_eq_true (startsB xs k ps) with ht | ht
        rotate_left
        · have HS : Hid (startsB (xs.drop k) 0 ps = false) := by unfold Hid; rw [starts_drop _ _ _ (by have := HA.out; omega)]; exact ht
          have HO := Lib.hid (occTo_no ht)
          clear ht
          subst hck
          go_wp2_with fail
          refine (begins_is _ _ _ _ (xs.drop c1) b2 o2 m c2 ps false HS.out _ hdr (by have := HA.out; rw [List.length_drop]; omega) (by omega) (by exact hs2r) HB.out (by omega) (by omega)).mono ?_
          rintro e w' ⟨rfl, q, rfl⟩
          have hBq : Below w.heap.size w (wr.drewN q) := below_drewN hB q
          have hownq : (wr.drewN q).ownsRow w.heap.size 2 1 (.slice A t d) t ((occTo xs ps c1).map fun (j : Nat) => Value.int .i64 (j : Int)) := own_below' hown (quiet_below rfl)
          generalize wr.drewN q = wq at *
          clear hown hB
          go_wp2_with fail
          go_roundw
          case rel => exact ⟨c1 + 1, t, by omega, by omega, by go_num, by rw [HO.out]; exact hownq, hBq, by unfold Hid; rw [HO.out]; exact HT.out⟩
          case measure => simp [intOf]; omega
        · have HS : Hid (startsB (xs.drop k) 0 ps = true) := by unfold Hid; rw [starts_drop _ _ _ (by have := HA.out; omega)]; exact ht
          have HO := Lib.hid (occTo_yes ht)
          clear ht
          subst hck
          go_wp2_with fail
          refine (begins_is _ _ _ _ (xs.drop c1) b2 o2 m c2 ps true HS.out _ hdr (by have := HA.out; rw [List.length_drop]; omega) (by omega) (by exact hs2r) HB.out (by omega) (by omega)).mono ?_
          rintro e w' ⟨rfl, q, rfl⟩
          have hBq : Below w.heap.size w (wr.drewN q) := below_drewN hB q
          have hownq : (wr.drewN q).ownsRow w.heap.size 2 1 (.slice A t d) t ((occTo xs ps c1).map fun (j : Nat) => Value.int .i64 (j : Int)) := own_below' hown (quiet_below rfl)
          generalize wr.drewN q = wq at *
          clear hown hB
          go_wp2_with (at_builtin; refine wpList_app rfl _ _ _ rfl Try.underlying25 infoInt64S rfl (by omega) w wq hownq hBq rfl 1 #[.int .i64 (c1 : Int)] rfl (laid_below _ _) (heap_alloc_new _ _) rfl (by simp [Value.oneCell']) (by omega) (by unfold maxLen; omega) (by omega) ?_; intro g cap w1 hown1 hB1)
          go_roundw
          case rel => exact ⟨c1 + 1, t + 1, by omega, by omega, by go_num, by rw [HO.out, List.map_append]; exact hown1, hB1, by unfold Hid; rw [HO.out, List.length_append, ← HT.out]; rfl⟩
          case measure => simp [intOf]; omega
      · have hdr := hs1r.from k
        rcases Bool.eq_false_or_eq_true (startsB xs k ps) with ht | ht
        rotate_left
        · have HS : Hid (startsB (xs.drop k) 0 ps = false) := by unfold Hid; rw [starts_drop _ _ _ (by have := HA.out; omega)]; exact ht
          have HO := Lib.hid (occTo_no ht)
          clear ht
          skip
          go_wp2_with fail
          refine (begins_is _ _ _ _ (xs.drop k) b2 o2 m c2 ps false HS.out _ hdr (by have := HA.out; rw [List.length_drop]; omega) (by omega) (by exact hs2r) HB.out (by omega) (by omega)).mono ?_
          rintro e w' ⟨rfl, q, rfl⟩
          have hBq : Below w.heap.size w (wr.drewN q) := below_drewN hB q
          have hownq : (wr.drewN q).ownsRow w.heap.size 2 1 (.slice A t d) t ((occTo xs ps k).map fun (j : Nat) => Value.int .i64 (j : Int)) := own_below' hown (quiet_below rfl)
          generalize wr.drewN q = wq at *
          clear hown hB
          go_wp2_with fail
          go_roundw
          case rel => exact ⟨k + 1, t, by omega, by omega, by go_num, by rw [HO.out]; exact hownq, hBq, by unfold Hid; rw [HO.out]; exact HT.out⟩
          case measure => simp [intOf]; omega
        · have HS : Hid (startsB (xs.drop k) 0 ps = true) := by unfold Hid; rw [starts_drop _ _ _ (by have := HA.out; omega)]; exact ht
          have HO := Lib.hid (occTo_yes ht)
          clear ht
          skip
          go_wp2_with fail
          refine (begins_is _ _ _ _ (xs.drop k) b2 o2 m c2 ps true HS.out _ hdr (by have := HA.out; rw [List.length_drop]; omega) (by omega) (by exact hs2r) HB.out (by omega) (by omega)).mono ?_
          rintro e w' ⟨rfl, q, rfl⟩
          have hBq : Below w.heap.size w (wr.drewN q) := below_drewN hB q
          have hownq : (wr.drewN q).ownsRow w.heap.size 2 1 (.slice A t d) t ((occTo xs ps k).map fun (j : Nat) => Value.int .i64 (j : Int)) := own_below' hown (quiet_below rfl)
          generalize wr.drewN q = wq at *
          clear hown hB
          go_wp2_with (at_builtin; refine wpList_app rfl _ _ _ rfl Try.underlying25 infoInt64S rfl (by omega) w wq hownq hBq rfl 1 #[.int .i64 (k : Int)] rfl (laid_below _ _) (heap_alloc_new _ _) rfl (by simp [Value.oneCell']) (by omega) (by unfold maxLen; omega) (by omega) ?_; intro g cap w1 hown1 hB1)
          go_roundw
          case rel => exact ⟨k + 1, t + 1, by omega, by omega, by go_num, by rw [HO.out, List.map_append]; exact hown1, hB1, by unfold Hid; rw [HO.out, List.length_append, ← HT.out]; rfl⟩
          case measure => simp [intOf]; omega
    · go_wp2_with fail
      go_ret
      obtain rfl : k = n + 1 := by omega
      have e : occTo xs ps (n + 1) = occL xs ps := by unfold occL; rw [HA.out]
      have ht := HT.out
      subst ht
      refine ⟨_, rfl, ?_, hB⟩
      rw [← e]; exact hown
