/- IsSimulation: the walks. -/
import Derived.Test.YtfjbiiklggogkaaPlaces
import Derived.Test.YtfjbiiklggogkaaHelpStr
namespace Go.Proofs.Ytfjbiiklggogkaa
open Go.RowKit
set_option linter.all false

def emptyS (x : ByteArray) : Bool := x.toList == []
def sourceB (ss : List ByteArray) : Bool := decide (0 < ss.length) && decide (ss.length ≤ 600) && ss.all fun x => !emptyS x
theorem str_all_no {xs : List ByteArray} {p : ByteArray → Bool} {j : Nat} {x : ByteArray} (hx : xs[j]? = some x) (h : p x = false) : xs.all p = false := by
  rw [Bool.eq_false_iff]
  intro hu
  have := List.all_eq_true.1 hu x (List.mem_of_getElem? hx)
  rw [h] at this; cases this

set_option maxRecDepth 100000 in
theorem l19Source_is (b off n c : Nat) (ss : List ByteArray) (v : Bool) (hv : sourceB ss = v) (w : World) (hs : Sl w b off (ss.map Value.string)) (hl : ss.length = n) (hn : n ≤ 4194304) :
    Calls Try.prog 67 #[.slice (some ⟨b, off, none⟩) n c] w fun e w' => e = .returned (.bool v) ∧ w = w' := by
  subst hv
  have HL := Lib.hid hl; clear hl
  go_enter Try.func67, Try.ntmps67
  go_wp2_with fail
  go_loop [3] (fun i => ∃ k : Nat, k ≤ n ∧ i = .int .i64 k ∧ Hid (∀ j x, j < k → ss[j]? = some x → emptyS x = false)) (fun i => n - (intOf i).toNat)
  case atStart => exact ⟨0, Nat.zero_le _, rfl, by intro j x hj; omega⟩
  case round =>
    obtain ⟨k, hk, rfl, HR⟩ := hrel
    by_cases hlt : k < n
    · obtain ⟨y, HY, hy⟩ := map_at Value.string ss (k := k) (by have := HL.out; omega)
      have hcb := hs.at hy
      clear hy
      rcases Bool.eq_false_or_eq_true (emptyS y) with hb | hb
      · have HB := Lib.hid hb
        unfold emptyS at hb
        go_wp2_with fail
        go_ret
        exact ⟨ret_bool (by unfold sourceB; rw [str_all_no (p := fun x => !emptyS x) HY.out (by rw [HB.out]; rfl), Bool.and_false]), rfl⟩
      · have HB := Lib.hid hb
        unfold emptyS at hb
        go_wp2_with fail
        go_round
        case rel => exact ⟨k + 1, by omega, by go_num, by
          intro j x hj hx
          by_cases ej : j = k
          · subst ej
            have h2 := HY.out
            rw [hx] at h2; injection h2 with h2; subst h2; exact HB.out
          · exact HR.out j x (by omega) hx⟩
        case measure => simp [intOf]; omega
    · have HE : Hid (sourceB ss = (decide (0 < n) && decide (n ≤ 600))) := by
        have hl := HL.out
        unfold Hid sourceB
        have : (ss.all fun x => !emptyS x) = true := by
          rw [List.all_eq_true]
          intro x hx
          obtain ⟨j, hj⟩ := List.getElem?_of_mem hx
          rw [HR.out j x (by have := (List.getElem?_eq_some_iff.1 hj).1; omega) hj]; rfl
        rw [this, hl, Bool.and_true]
      rcases Nat.eq_zero_or_pos n with h0 | h0
      · subst h0
        go_wp2_with fail
        go_ret
        exact ⟨ret_bool (by rw [HE.out]; simp), rfl⟩
      · by_cases h6 : n ≤ 600
        · have HE2 : Hid (sourceB ss = true) := by unfold Hid; rw [HE.out]; simp [h0, h6]
          go_wp2_with fail
          go_ret
          exact ⟨ret_bool (by rw [HE2.out]; first | rfl | (simp; omega)), rfl⟩
        · have HE2 : Hid (sourceB ss = false) := by unfold Hid; rw [HE.out]; simp [h6]
          go_wp2_with fail
          go_ret
          exact ⟨ret_bool (by rw [HE2.out]; first | rfl | (simp; omega)), rfl⟩

set_option maxRecDepth 100000 in
theorem indexEmpty_any (b off n c : Nat) (ss : List ByteArray) (w : World) (hs : Sl w b off (ss.map Value.string)) (hl : ss.length = n) (hn : n ≤ 4194304) :
    Calls Try.prog 134 #[.slice (some ⟨b, off, none⟩) n c, .string ⟨#[]⟩] w fun e w' => (∃ z : Int, e = .returned (.int .i64 z) ∧ (decide (0 ≤ z) = !(ss.all fun x => !emptyS x))) ∧ w = w' := by
  have HL := Lib.hid hl; clear hl
  go_enter Try.func134, Try.ntmps134
  go_wp2_with fail
  go_loop [5, 8] (fun _ i => ∃ k : Nat, k ≤ n ∧ i = .int .i64 k ∧ Hid (∀ j x, j < k → ss[j]? = some x → emptyS x = false)) (fun _ i => n - (intOf i).toNat)
  case atStart => exact ⟨0, Nat.zero_le _, rfl, by intro j x hj; omega⟩
  case round =>
    obtain ⟨k, hk, rfl, HR⟩ := hrel
    by_cases hlt : k < n
    · obtain ⟨y, HY, hy⟩ := map_at Value.string ss (k := k) (by have := HL.out; omega)
      have hcb := hs.at hy
      clear hy
      rcases Bool.eq_false_or_eq_true (emptyS y) with hb | hb
      · have HB := Lib.hid hb
        have hb2 : ([] == y.toList) = true := by unfold emptyS at hb; simpa using (by simpa using hb : y.toList = []).symm
        clear hb
        go_wp2_with fail
        go_ret
        refine ⟨⟨_, rfl, ?_⟩, rfl⟩
        rw [str_all_no (p := fun x => !emptyS x) HY.out (by rw [HB.out]; rfl)]; simp
      · have HB := Lib.hid hb
        have hb2 : ([] == y.toList) = false := by unfold emptyS at hb; simp at hb ⊢; first | exact hb | exact fun h => hb h.symm
        clear hb
        go_wp2_with fail
        go_round
        case rel => exact ⟨k + 1, by omega, by go_num, by
          intro j x hj hx
          by_cases ej : j = k
          · subst ej
            have h2 := HY.out
            rw [hx] at h2; injection h2 with h2; subst h2; exact HB.out
          · exact HR.out j x (by omega) hx⟩
        case measure => simp [intOf]; omega
    · go_wp2_with fail
      go_ret
      refine ⟨⟨_, rfl, ?_⟩, rfl⟩
      have : (ss.all fun x => !emptyS x) = true := by
        rw [List.all_eq_true]
        intro x hx
        obtain ⟨j, hj⟩ := List.getElem?_of_mem hx
        rw [HR.out j x (by have := HL.out; have := (List.getElem?_eq_some_iff.1 hj).1; omega) hj]; rfl
      rw [this]; rfl

theorem size_string_any (A : Option Addr) (n c : Nat) (w : World) : Calls Try.prog 72 #[.slice A n c] w fun e w' => e = .returned (.int .i64 n) ∧ w = w' := by
  go_enter Try.func72, Try.ntmps72
  go_wp2
  go_ret
  exact ⟨rfl, rfl⟩

set_option maxRecDepth 100000 in
theorem simulable_is (b off n c : Nat) (ss : List ByteArray) (v : Bool) (hv : sourceB ss = v) (w : World) (hs : Sl w b off (ss.map Value.string)) (hl : ss.length = n) (hn : n ≤ 4194304) :
    Calls Try.prog 69 #[.slice (some ⟨b, off, none⟩) n c] w fun e w' => e = .returned (.bool v) ∧ w = w' := by
  have HL := Lib.hid hl; clear hl
  have hcont : ∀ r, (ss.all fun x => !emptyS x) = r → Calls Try.prog 116 #[.slice (some ⟨b, off, none⟩) n c, .string ⟨#[]⟩] w fun e w' => e = .returned (.bool (!r)) ∧ w = w' := by
    intro r hr
    go_enter Try.func116, Try.ntmps116
    go_wp2_with fail
    refine (indexEmpty_any b off n c ss w hs HL.out hn).mono ?_
    rintro e w' ⟨⟨z, rfl, hz⟩, rfl⟩
    rw [hr] at hz
    go_wp2_with fail
    go_ret
    exact ⟨ret_bool (by first | exact hz | simpa using hz), rfl⟩
  have HC := Lib.hid hcont
  clear hcont
  rcases Bool.eq_false_or_eq_true (inB n 1 600) with h | h
  · have HI := Lib.hid h
    have h2 := (inB_iff _ _ _).1 h
    have HV : Hid ((ss.all fun x => !emptyS x) = v) := by
      have := HL.out; unfold sourceB at hv; rw [decide_eq_true (by omega), decide_eq_true (by omega)] at hv; unfold Hid; simpa using hv
    clear h h2 hv
    go_enter Try.func69, Try.ntmps69
    go_wp2_with fail
    refine (size_string_any _ n c _).mono ?_
    rintro e w' ⟨rfl, rfl⟩
    go_wp2_with fail
    refine (within_is n 1 600 true HI.out _).mono ?_
    rintro e w' ⟨rfl, rfl⟩
    go_wp2_with fail
    refine (HC.out v HV.out).mono ?_
    rintro e w' ⟨rfl, rfl⟩
    go_wp2_with fail
    go_ret
    exact ⟨ret_bool (by simp), rfl⟩
  · have HI := Lib.hid h
    have h2 := (inB_false _ _ _).1 h
    have HV : Hid (false = v) := by
      have := HL.out; unfold sourceB at hv
      by_cases h0 : 0 < ss.length
      · rw [decide_eq_false (by omega : ¬ ss.length ≤ 600)] at hv; unfold Hid; simpa using hv
      · rw [decide_eq_false h0] at hv; unfold Hid; simpa using hv
    clear h h2 hv
    go_enter Try.func69, Try.ntmps69
    go_wp2_with fail
    refine (size_string_any _ n c _).mono ?_
    rintro e w' ⟨rfl, rfl⟩
    go_wp2_with fail
    refine (within_is n 1 600 false HI.out _).mono ?_
    rintro e w' ⟨rfl, rfl⟩
    go_wp2_with fail
    go_ret
    exact ⟨ret_bool HV.out, rfl⟩

/-- Whether the places are a simulation. -/
def simAt (ss ts : List ByteArray) (at' : List Int) (j : Nat) : Bool := (ts.getD (at'.getD j 0).toNat ⟨#[]⟩).toList == (ss.getD j ⟨#[]⟩).toList
def isSimB (ss ts : List ByteArray) (at' : List Int) : Bool :=
  sourceB ss && decide (ts.length ≤ 600) && decide (at'.length = ss.length) && (at'.getD 0 0 == 0) && risesB at' 0 (ts.length - 1) && (List.range at'.length).all (simAt ss ts at')
theorem range_all_no {n k : Nat} {p : Nat → Bool} (hk : k < n) (h : p k = false) : (List.range n).all p = false := by
  rw [Bool.eq_false_iff]
  intro hu
  have := List.all_eq_true.1 hu k (by simpa using hk)
  rw [h] at this; cases this
theorem rises_in {xs : List Int} {lo hi : Int} {k : Nat} {x : Int} (h : risesB xs lo hi = true) (hx : xs[k]? = some x) : lo ≤ x ∧ x ≤ hi := by
  unfold risesB at h
  rw [Bool.and_eq_true, List.all_eq_true] at h
  exact (inB_iff _ _ _).1 (h.1 x (List.mem_of_getElem? hx))
theorem rises_places (xs : List Int) (n : Nat) (h0 : 0 < xs.length) : ((xs.getD 0 0 == 0) && risesB xs 0 ((n : Int) - 1)) = (placesB xs && xs.all (inB · 0 ((n : Int) - 1))) := by
  unfold placesB risesB
  rw [decide_eq_true h0, Bool.true_and]
  cases (xs.getD 0 0 == 0) <;> cases xs.all (inB · 0 ((n : Int) - 1)) <;> cases upB xs <;> rfl

theorem l00Rises_is (b off n c : Nat) (xs : List Int) (lo hi : Int) (v : Bool) (hv : risesB xs lo hi = v) (w : World) (hs : Sl w b off (xs.map (.int .i64))) (hl : xs.length = n) (hn : n ≤ 4194304) :
    Calls Try.prog 68 #[.slice (some ⟨b, off, none⟩) n c, .int .i64 lo, .int .i64 hi] w fun e w' => e = .returned (.bool v) ∧ ∃ q, w' = w.drewN q := by
  subst hv; exact l00Rises_any b off n c xs lo hi w hs hl hn
theorem allIn_is (b off n c : Nat) (xs : List Int) (lo hi : Int) (v : Bool) (hv : xs.all (inB · lo hi) = v) (w : World) (hs : Sl w b off (xs.map (.int .i64))) (hl : xs.length = n) (hn : n ≤ 4194304) :
    Calls Try.prog 71 #[.slice (some ⟨b, off, none⟩) n c, .int .i64 lo, .int .i64 hi] w fun e w' => e = .returned (.bool v) ∧ w = w' := by
  subst hv; exact allWithin_any b off n c xs lo hi w hs hl hn
end Go.Proofs.Ytfjbiiklggogkaa
