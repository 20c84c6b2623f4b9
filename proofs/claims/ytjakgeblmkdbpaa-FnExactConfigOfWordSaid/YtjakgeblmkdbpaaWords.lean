/- Words: IsWord, equality of lists of numbers, where a part begins. -/
import Derived.Test.YtjakgeblmkdbpaaNums
import Derived.Test.YtjakgeblmkdbpaaApp
namespace Go.Proofs.Ytjakgeblmkdbpaa
open Go.RowKit
set_option linter.all false

theorem Sl.cut {w : World} {b off : Nat} {α : Type} {f : α → Value} {xs : List α} (h : Sl w b off (xs.map f)) (k m : Nat) : Sl w b (off + k) (((xs.drop k).take m).map f) := by
  refine ⟨h.1, fun j u hu => ?_⟩
  have h2 : (xs.map f)[k + j]? = some u := by
    rw [List.getElem?_map, List.getElem?_take] at hu
    rw [List.getElem?_map]
    split at hu
    · rw [List.getElem?_drop] at hu; exact hu
    · cases hu
  have := h.2 (k + j) u h2
  rw [← Nat.add_assoc] at this
  exact this
theorem Sl.from {w : World} {b off : Nat} {α : Type} {f : α → Value} {xs : List α} (h : Sl w b off (xs.map f)) (k : Nat) : Sl w b (off + k) ((xs.drop k).map f) := by
  have := h.cut k xs.length
  rwa [List.take_of_length_le (by simp)] at this
theorem Sl.to {w : World} {b off : Nat} {α : Type} {f : α → Value} {xs : List α} (h : Sl w b off (xs.map f)) (m : Nat) : Sl w b off ((xs.take m).map f) := by
  have := h.cut 0 m
  simpa using this

theorem Sl.empty {w : World} {b off : Nat} (h : b < w.heap.size) {α : Type} {f : α → Value} : Sl w b off (([] : List α).map f) := ⟨h, fun j u hu => by simp at hu⟩

def isWordB (xs : List Int) : Bool := decide (xs.length ≤ 400) && xs.all (inB · 0 9)

set_option maxRecDepth 100000 in
theorem l03Is_is (b off n c : Nat) (xs : List Int) (v : Bool) (hv : isWordB xs = v) (w : World) (hs : Sl w b off (xs.map (.int .i64))) (hl : xs.length = n) (hn : n ≤ 4194304) :
    Calls Try.prog 59 #[.slice (some ⟨b, off, none⟩) n c] w fun e w' => e = .returned (.bool v) ∧ w = w' := by
  subst hv
  have HL := Lib.hid hl; clear hl
  go_enter Try.func59, Try.ntmps59
  go_wp2_with fail
  go_loop [3] (fun i => ∃ k : Nat, k ≤ n ∧ i = .int .i64 k ∧ Hid (∀ j x, j < k → xs[j]? = some x → inB x 0 9 = true)) (fun i => n - (intOf i).toNat)
  case atStart => exact ⟨0, Nat.zero_le _, rfl, by intro j x hj; omega⟩
  case round =>
    obtain ⟨k, hk, rfl, HR⟩ := hrel
    by_cases hlt : k < n
    · obtain ⟨y, HY, hy⟩ := map_at (Value.int .i64) xs (k := k) (by have := HL.out; omega)
      have hcb := hs.at hy
      clear hy
      rcases Bool.eq_false_or_eq_true (inB y 0 9) with hb | hb
      rotate_left
      · have HB := Lib.hid hb
        clear hb
        go_wp2_with (go_at_call 87; refine (l00In_is y _ _ _ HB.out _).mono ?_; rintro e w' ⟨rfl, rfl⟩)
        go_ret
        exact ⟨ret_bool (by unfold isWordB; rw [all_no (p := (inB · 0 9)) HY.out HB.out, Bool.and_false]), rfl⟩
      · have HB := Lib.hid hb
        clear hb
        go_wp2_with (go_at_call 87; refine (l00In_is y _ _ _ HB.out _).mono ?_; rintro e w' ⟨rfl, rfl⟩)
        go_round
        case rel => exact ⟨k + 1, by omega, by go_num, by
          intro j x hj hx
          by_cases ej : j = k
          · subst ej
            have h2 := HY.out
            rw [hx] at h2; injection h2 with h2; subst h2; exact HB.out
          · exact HR.out j x (by omega) hx⟩
        case measure => simp [intOf]; omega
    · have HE : Hid (isWordB xs = decide (n ≤ 400)) := by
        have hl := HL.out
        unfold Hid isWordB
        have : xs.all (inB · 0 9) = true := by
          rw [List.all_eq_true]
          intro x hx
          obtain ⟨j, hj⟩ := List.getElem?_of_mem hx
          exact HR.out j x (by have := (List.getElem?_eq_some_iff.1 hj).1; omega) hj
        rw [this, hl, Bool.and_true]
      go_wp2_with fail
      go_ret
      exact ⟨ret_bool (by rw [HE.out]; first | rfl | (rw [decide_eq_decide]; omega) | (apply Bool.eq_iff_iff.2; simp; omega)), rfl⟩

theorem isLetters_is (b off n c : Nat) (xs : List Int) (v : Bool) (hv : xs.all (inB · 0 9) = v) (w : World) (hs : Sl w b off (xs.map (.int .i64))) (hl : xs.length = n) (hn : n ≤ 4194304) :
    Calls Try.prog 110 #[.slice (some ⟨b, off, none⟩) n c] w fun e w' => e = .returned (.bool v) ∧ w = w' := by
  subst hv
  have HL := Lib.hid hl; clear hl
  go_enter Try.func110, Try.ntmps110
  go_wp2_with fail
  refine (allWithin_any b off n c xs _ _ _ hs HL.out hn).mono ?_
  rintro e w' ⟨rfl, rfl⟩
  go_wp2_with fail
  go_ret
  exact ⟨rfl, rfl⟩

theorem isWord_is (b off n c : Nat) (xs : List Int) (v : Bool) (hv : isWordB xs = v) (w : World) (hs : Sl w b off (xs.map (.int .i64))) (hl : xs.length = n) (hn : n ≤ 4194304) :
    Calls Try.prog 63 #[.slice (some ⟨b, off, none⟩) n c] w fun e w' => e = .returned (.bool v) ∧ w = w' := by
  have HL := Lib.hid hl; clear hl
  by_cases h : n ≤ 400
  · have HV : Hid (xs.all (inB · 0 9) = v) := by have := HL.out; unfold isWordB at hv; rw [decide_eq_true (by omega), Bool.true_and] at hv; exact hv
    clear hv
    go_enter Try.func63, Try.ntmps63
    go_wp2_with fail
    refine (isLetters_is b off n c xs v HV.out _ hs HL.out hn).mono ?_
    rintro e w' ⟨rfl, rfl⟩
    go_wp2_with fail
    go_ret
    exact ⟨ret_bool (by simp), rfl⟩
  · have HV : Hid (false = v) := by have := HL.out; unfold isWordB at hv; rw [decide_eq_false (by omega), Bool.false_and] at hv; exact hv
    clear hv
    go_enter Try.func63, Try.ntmps63
    go_wp2_with fail
    go_ret
    exact ⟨ret_bool HV.out, rfl⟩

set_option maxRecDepth 100000 in
theorem l00Same_is (b1 o1 n c1 : Nat) (xs : List Int) (b2 o2 m c2 : Nat) (ys : List Int) (w : World) (hs1 : Sl w b1 o1 (xs.map (.int .i64))) (hl1 : xs.length = n) (hn : n ≤ 4194304) (hs2 : Sl w b2 o2 (ys.map (.int .i64))) (hl2 : ys.length = m) (hm : m ≤ 4194304) (v : Bool) (hv : decide (xs = ys) = v) :
    Calls Try.prog 186 #[.slice (some ⟨b1, o1, none⟩) n c1, .slice (some ⟨b2, o2, none⟩) m c2] w fun e w' => e = .returned (.bool v) ∧ ∃ q, w' = w.drewN q := by
  subst hv
  have HA := Lib.hid hl1
  have HB := Lib.hid hl2
  clear hl1 hl2
  by_cases hnm : n = m
  · subst hnm
    go_enter Try.func186, Try.ntmps186
    go_wp2
    go_loopw [5] (fun i wr => ∃ k q : Nat, k ≤ n ∧ i = .int .i64 k ∧ wr = w.drewN q ∧ Hid (xs.take k = ys.take k)) (fun i _ => n - (intOf i).toNat)
    case atStart => exact ⟨0, 0, Nat.zero_le _, rfl, rfl, rfl⟩
    case round =>
      obtain ⟨k, q, hk, rfl, rfl, HR⟩ := hrel
      by_cases hlt : k < n
      · obtain ⟨x, HX, hx⟩ := map_at (Value.int .i64) xs (k := k) (by have := HA.out; omega)
        obtain ⟨y, HY, hy⟩ := map_at (Value.int .i64) ys (k := k) (by have := HB.out; omega)
        have hca := hs1.at hx
        have hcb := hs2.at hy
        clear hx hy hs1 hs2
        by_cases e : x = y
        · subst e; have hz : (x != x) = false := by simp
          go_wp2
          go_quiet (fail)
          go_wp2
          go_roundw
          case rel => exact ⟨k + 1, _, by omega, by go_num, rfl, take_succ_eq HR.out HX.out HY.out rfl⟩
          case measure => simp [intOf]; omega
        · have hz : (x != y) = true := by simpa using e
          have HE := Lib.hid e
          clear e
          go_wp2
          go_quiet (fail)
          go_wp2
          go_ret
          exact ⟨ret_bool (by simp [ne_of_at HX.out HY.out HE.out]), by first | exact ⟨_, rfl⟩ | exact ⟨_, World.drewN_drewN _ _ _⟩⟩
      · go_wp2
        go_ret
        refine ⟨ret_bool ?_, _, rfl⟩
        have h1 := HR.out
        have h2 := HA.out
        have h3 := HB.out
        obtain rfl : k = n := by omega
        rw [List.take_of_length_le (by omega), List.take_of_length_le (by omega)] at h1
        simp [h1]
  · go_enter Try.func186, Try.ntmps186
    go_wp2
    go_ret
    refine ⟨ret_bool ?_, 0, rfl⟩
    have h2 := HA.out
    have h3 := HB.out
    symm
    rw [decide_eq_false_iff_not]
    intro e; subst e; omega

set_option maxRecDepth 100000 in
theorem equalInts_is (b1 o1 n c1 : Nat) (xs : List Int) (b2 o2 m c2 : Nat) (ys : List Int) (w : World) (hs1 : Sl w b1 o1 (xs.map (.int .i64))) (hl1 : xs.length = n) (hn : n ≤ 4194304) (hs2 : Sl w b2 o2 (ys.map (.int .i64))) (hl2 : ys.length = m) (hm : m ≤ 4194304) (v : Bool) (hv : decide (xs = ys) = v) :
    Calls Try.prog 188 #[.slice (some ⟨b1, o1, none⟩) n c1, .slice (some ⟨b2, o2, none⟩) m c2] w fun e w' => e = .returned (.bool v) ∧ ∃ q, w' = w.drewN q := by
  subst hv
  have HA := Lib.hid hl1
  have HB := Lib.hid hl2
  clear hl1 hl2
  by_cases hnm : n = m
  · subst hnm
    go_enter Try.func188, Try.ntmps188
    go_wp2
    go_loopw [5, 13] (fun _ i wr => ∃ k q : Nat, k ≤ n ∧ i = .int .i64 k ∧ wr = w.drewN q ∧ Hid (xs.take k = ys.take k)) (fun _ i _ => n - (intOf i).toNat)
    case atStart => exact ⟨0, 0, Nat.zero_le _, rfl, rfl, rfl⟩
    case round =>
      obtain ⟨k, q, hk, rfl, rfl, HR⟩ := hrel
      by_cases hlt : k < n
      · obtain ⟨x, HX, hx⟩ := map_at (Value.int .i64) xs (k := k) (by have := HA.out; omega)
        obtain ⟨y, HY, hy⟩ := map_at (Value.int .i64) ys (k := k) (by have := HB.out; omega)
        have hca := hs1.at hx
        have hcb := hs2.at hy
        clear hx hy hs1 hs2
        by_cases e : x = y
        · subst e; have hz : (x != x) = false := by simp
          go_wp2
          go_quiet (fail)
          go_wp2
          go_roundw
          case rel => exact ⟨k + 1, _, by omega, by go_num, rfl, take_succ_eq HR.out HX.out HY.out rfl⟩
          case measure => simp [intOf]; omega
        · have hz : (x != y) = true := by simpa using e
          have HE := Lib.hid e
          clear e
          go_wp2
          go_quiet (fail)
          go_wp2
          go_ret
          exact ⟨ret_bool (by simp [ne_of_at HX.out HY.out HE.out]), by first | exact ⟨_, rfl⟩ | exact ⟨_, World.drewN_drewN _ _ _⟩⟩
      · go_wp2
        go_ret
        refine ⟨ret_bool ?_, _, rfl⟩
        have h1 := HR.out
        have h2 := HA.out
        have h3 := HB.out
        obtain rfl : k = n := by omega
        rw [List.take_of_length_le (by omega), List.take_of_length_le (by omega)] at h1
        simp [h1]
  · go_enter Try.func188, Try.ntmps188
    go_wp2
    go_ret
    refine ⟨ret_bool ?_, 0, rfl⟩
    have h2 := HA.out
    have h3 := HB.out
    symm
    rw [decide_eq_false_iff_not]
    intro e; subst e; omega

/-- Whether a part stands at a place of a word. -/
def startsB (xs : List Int) (k : Nat) (ps : List Int) : Bool := decide (k + ps.length ≤ xs.length) && decide ((xs.drop k).take ps.length = ps)

set_option maxRecDepth 100000 in
theorem l03At_is (b1 o1 n c1 : Nat) (xs : List Int) (k : Nat) (b2 o2 m c2 : Nat) (ps : List Int) (v : Bool) (hv : startsB xs k ps = v) (w : World) (hs1 : Sl w b1 o1 (xs.map (.int .i64))) (hl1 : xs.length = n) (hn : n ≤ 4194304) (hs2 : Sl w b2 o2 (ps.map (.int .i64))) (hl2 : ps.length = m) (hm : m ≤ 4194304) (hk : k ≤ n) (hc : n ≤ c1) :
    Calls Try.prog 157 #[.slice (some ⟨b1, o1, none⟩) n c1, .int .i64 k, .slice (some ⟨b2, o2, none⟩) m c2] w fun e w' => e = .returned (.bool v) ∧ ∃ q, w' = w.drewN q := by
  have HA := Lib.hid hl1
  have HB := Lib.hid hl2
  clear hl1 hl2
  by_cases h : k + m ≤ n
  · have HV : Hid (decide ((xs.drop k).take m = ps) = v) := by
      have := HA.out; have := HB.out; unfold startsB at hv; rw [decide_eq_true (by omega), Bool.true_and] at hv; rw [← HB.out]; exact hv
    clear hv
    have hsub := hs1.cut k m
    have HSL : Hid (((xs.drop k).take m).length = m) := by have := HA.out; unfold Hid; simp; omega
    have hemp : Sl w b1 o1 ((([] : List Int)).map (.int .i64)) := Sl.empty hs1.1
    by_cases hck : c1 = k
    · subst hck
      obtain rfl : m = 0 := by omega
      obtain rfl : n = c1 := by omega
      go_enter Try.func157, Try.ntmps157
      go_wp2_with fail
      refine (l00Same_is _ _ 0 _ [] _ _ 0 _ ps _ (by first | exact hemp | exact Sl.empty hs1.1) rfl (by omega) hs2 HB.out (by omega) v (by rw [← HV.out]; simp)).mono ?_
      rintro e w' ⟨rfl, q, rfl⟩
      go_wp2_with fail
      go_ret
      exact ⟨ret_bool (by simp), q, rfl⟩
    · go_enter Try.func157, Try.ntmps157
      go_wp2_with fail
      refine (l00Same_is _ _ m _ ((xs.drop k).take m) _ _ m _ ps _ hsub HSL.out (by omega) hs2 HB.out (by omega) v HV.out).mono ?_
      rintro e w' ⟨rfl, q, rfl⟩
      go_wp2_with fail
      go_ret
      exact ⟨ret_bool (by simp), q, rfl⟩
  · have HV : Hid (false = v) := by
      have := HA.out; have := HB.out; unfold startsB at hv; rw [decide_eq_false (by omega), Bool.false_and] at hv; exact hv
    clear hv
    go_enter Try.func157, Try.ntmps157
    go_wp2_with fail
    go_ret
    exact ⟨ret_bool HV.out, 0, rfl⟩

set_option maxRecDepth 100000 in
theorem begins_is (b1 o1 n c1 : Nat) (xs : List Int) (b2 o2 m c2 : Nat) (ps : List Int) (v : Bool) (hv : startsB xs 0 ps = v) (w : World) (hs1 : Sl w b1 o1 (xs.map (.int .i64))) (hl1 : xs.length = n) (hn : n ≤ 4194304) (hs2 : Sl w b2 o2 (ps.map (.int .i64))) (hl2 : ps.length = m) (hm : m ≤ 4194304) (hc : n ≤ c1) :
    Calls Try.prog 162 #[.slice (some ⟨b1, o1, none⟩) n c1, .slice (some ⟨b2, o2, none⟩) m c2] w fun e w' => e = .returned (.bool v) ∧ ∃ q, w' = w.drewN q := by
  have HA := Lib.hid hl1
  have HB := Lib.hid hl2
  clear hl1 hl2
  by_cases h : m ≤ n
  · have HV : Hid (decide (xs.take m = ps) = v) := by
      have := HA.out; have := HB.out; unfold startsB at hv; rw [decide_eq_true (by omega), Bool.true_and] at hv; rw [← HB.out]; exact hv
    clear hv
    have hsub := hs1.to m
    have HSL : Hid ((xs.take m).length = m) := by have := HA.out; unfold Hid; simp; omega
    go_enter Try.func162, Try.ntmps162
    go_wp2_with fail
    refine (equalInts_is _ _ m _ (xs.take m) _ _ m _ ps _ hsub HSL.out (by omega) hs2 HB.out (by omega) v HV.out).mono ?_
    rintro e w' ⟨rfl, q, rfl⟩
    go_wp2_with fail
    go_ret
    exact ⟨ret_bool (by simp), q, rfl⟩
  · have HV : Hid (false = v) := by
      have := HA.out; have := HB.out; unfold startsB at hv; rw [decide_eq_false (by omega), Bool.false_and] at hv; exact hv
    clear hv
    go_enter Try.func162, Try.ntmps162
    go_wp2_with fail
    go_ret
    exact ⟨ret_bool HV.out, 0, rfl⟩
end Go.Proofs.Ytjakgeblmkdbpaa
