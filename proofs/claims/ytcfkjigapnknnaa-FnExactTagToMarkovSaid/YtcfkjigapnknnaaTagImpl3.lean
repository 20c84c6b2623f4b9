/- Tag systems: ValidTag, tagFront, slices.Contains of the program. -/
import Derived.Test.YtcfkjigapnknnaaTagImpl2
import Derived.Test.YtcfkjigapnknnaaBox
import Derived.Test.YtcfkjigapnknnaaRegsA
namespace Go.Proofs.Ytcfkjigapnknnaa
open Go.RowKit
set_option linter.all false

theorem sizeWordsT_is (A : Option Addr) (n c : Nat) (w : World) : Calls Try.prog 126 #[.slice A n c] w fun e w' => e = .returned (.int .i64 n) ∧ w = w' := sizeWordsT_any A n c w

set_option maxRecDepth 100000 in
set_option maxHeartbeats 1000000 in
theorem implValidTag_is (d : Int) (bw ow nw cw : Nat) (us : List Value) (ws : List (List Int)) (bh oh nh ch : Nat) (hs : List Int) (v : Bool) (hv : validTag d ws hs = v) (w : World)
    (sw : Sl w bw ow us) (sr : Srcs 1 oneI w us ws) (lw : ws.length = nw) (hnw : nw ≤ 1048576) (hsum : sumLen ws ≤ 1048576) (sh : Sl w bh oh (hs.map (.int .i64))) (lh : hs.length = nh) (hnh : nh ≤ 1048576) :
    Calls Try.prog 71 #[.agg #[.int .i64 d, .slice (some ⟨bw, ow, none⟩) nw cw, .slice (some ⟨bh, oh, none⟩) nh ch]] w fun e w' => e = .returned (.bool v) ∧ Below w.heap.size w w' := by
  subst hv
  obtain ⟨w0, HW0, B0, x0⟩ := al1 w (.cells #[.int .i64 d, .slice (some ⟨bw, ow, none⟩) nw cw, .slice (some ⟨bh, oh, none⟩) nh ch] 61)
  have bx0 := box_held x0
  have HLW := Lib.hid lw
  have HLH := Lib.hid lh
  have HSUM := Lib.hid hsum
  clear lh hsum
  have sw0 := sw.below' B0
  have sr0 := sr.below B0
  have sh0 := sh.below' B0
  have l0 : w0.cell? ⟨w.heap.size, 0, none⟩ = some (.int .i64 d) := by rw [cell_of_heap x0]; rfl
  have l1 : w0.cell? ⟨w.heap.size, 1, none⟩ = some (.slice (some ⟨bw, ow, none⟩) nw cw) := by rw [cell_of_heap x0]; rfl
  have l2 : w0.cell? ⟨w.heap.size, 2, none⟩ = some (.slice (some ⟨bh, oh, none⟩) nh ch) := by rw [cell_of_heap x0]; rfl
  clear sw sr sh x0
  rcases Bool.eq_false_or_eq_true (inB d 1 4) with h1 | h1
  rotate_left
  · have H1 := Lib.hid h1
    have HV : Hid (validTag d ws hs = false) := by unfold Hid validTag; rw [h1]; rfl
    clear h1 lw
    go_enter Try.func71, Try.ntmps71
    go_wp2_with fail
    rw [← HW0.out]
    refine (sizeWordsT_is _ nw cw _).mono ?_
    rintro e w' ⟨rfl, rfl⟩
    go_wp2_with fail
    refine (within_is d 1 4 _ H1.out _).mono ?_
    rintro e w' ⟨rfl, rfl⟩
    go_wp2_with fail
    go_ret
    exact ⟨ret_bool (by rw [HV.out]), B0⟩
  rcases Bool.eq_false_or_eq_true (inB (nw : Int) 1 200) with h2 | h2
  rotate_left
  · have H1 := Lib.hid h1
    have H2 := Lib.hid h2
    have HV : Hid (validTag d ws hs = false) := by unfold Hid validTag; rw [lw, h1, h2]; rfl
    clear h1 h2 lw
    go_enter Try.func71, Try.ntmps71
    go_wp2_with fail
    rw [← HW0.out]
    refine (sizeWordsT_is _ nw cw _).mono ?_
    rintro e w' ⟨rfl, rfl⟩
    go_wp2_with fail
    refine (within_is d 1 4 _ H1.out _).mono ?_
    rintro e w' ⟨rfl, rfl⟩
    go_wp2_with fail
    refine (within_is (nw : Int) 1 200 _ H2.out _).mono ?_
    rintro e w' ⟨rfl, rfl⟩
    go_wp2_with fail
    go_ret
    exact ⟨ret_bool (by rw [HV.out]), B0⟩
  have wn : IntKind.i64.wrap ((nw : Int) - 1) = (nw : Int) - 1 := IntWalk.i64_in _ (by omega)
  rcases Bool.eq_false_or_eq_true (ws.all (overB nw)) with h3 | h3
  rotate_left
  · have H1 := Lib.hid h1
    have H2 := Lib.hid h2
    have H3 := Lib.hid h3
    have HV : Hid (validTag d ws hs = false) := by unfold Hid validTag; rw [lw, h1, h2, h3]; simp
    clear h1 h2 h3 lw
    go_enter Try.func71, Try.ntmps71
    go_wp2_with fail
    rw [← HW0.out]
    refine (sizeWordsT_is _ nw cw _).mono ?_
    rintro e w' ⟨rfl, rfl⟩
    go_wp2_with fail
    refine (within_is d 1 4 _ H1.out _).mono ?_
    rintro e w' ⟨rfl, rfl⟩
    go_wp2_with fail
    refine (within_is (nw : Int) 1 200 _ H2.out _).mono ?_
    rintro e w' ⟨rfl, rfl⟩
    go_wp2_with fail
    refine (wordsOk_is bw ow nw cw nw us ws _ H3.out _ sw0 sr0 HLW.out hnw HSUM.out hnw).mono ?_
    rintro e w1 ⟨rfl, b1⟩
    have B1 := below_step B0 b1
    go_wp2_with fail
    go_ret
    exact ⟨ret_bool (by rw [HV.out]), B1⟩
  rcases Bool.eq_false_or_eq_true (upB hs) with h4 | h4
  rotate_left
  · have H1 := Lib.hid h1
    have H2 := Lib.hid h2
    have H3 := Lib.hid h3
    have H4 := Lib.hid h4
    have HV : Hid (validTag d ws hs = false) := by unfold Hid validTag risesB; rw [lw, h1, h2, h3, h4]; simp
    clear h1 h2 h3 h4 lw
    go_enter Try.func71, Try.ntmps71
    go_wp2_with fail
    rw [← HW0.out]
    refine (sizeWordsT_is _ nw cw _).mono ?_
    rintro e w' ⟨rfl, rfl⟩
    go_wp2_with fail
    refine (within_is d 1 4 _ H1.out _).mono ?_
    rintro e w' ⟨rfl, rfl⟩
    go_wp2_with fail
    refine (within_is (nw : Int) 1 200 _ H2.out _).mono ?_
    rintro e w' ⟨rfl, rfl⟩
    go_wp2_with fail
    refine (wordsOk_is bw ow nw cw nw us ws _ H3.out _ sw0 sr0 HLW.out hnw HSUM.out hnw).mono ?_
    rintro e w1 ⟨rfl, b1⟩
    have B1 := below_step B0 b1
    have m2 := cell_step (by exact l2) b1
    have sh1 := sh0.below' b1
    go_wp2_with fail
    refine (rising_is bh oh nh ch hs _ H4.out _ sh1 HLH.out (by omega)).mono ?_
    rintro e w2 ⟨rfl, q, rfl⟩
    go_wp2_with fail
    go_ret
    exact ⟨ret_bool (by rw [HV.out]), below_drewN B1 q⟩
  obtain ⟨va, hva⟩ : ∃ va, hs.all (inB · 0 ((nw : Int) - 1)) = va := ⟨_, rfl⟩
  have H1 := Lib.hid h1
  have H2 := Lib.hid h2
  have H3 := Lib.hid h3
  have H4 := Lib.hid h4
  have H5 := Lib.hid hva
  have HV : Hid (validTag d ws hs = va) := by unfold Hid validTag risesB; rw [lw, h1, h2, h3, h4, hva]; simp
  clear h1 h2 h3 h4 lw hva
  go_enter Try.func71, Try.ntmps71
  go_wp2_with fail
  rw [← HW0.out]
  refine (sizeWordsT_is _ nw cw _).mono ?_
  rintro e w' ⟨rfl, rfl⟩
  go_wp2_with fail
  refine (within_is d 1 4 _ H1.out _).mono ?_
  rintro e w' ⟨rfl, rfl⟩
  go_wp2_with fail
  refine (within_is (nw : Int) 1 200 _ H2.out _).mono ?_
  rintro e w' ⟨rfl, rfl⟩
  go_wp2_with fail
  refine (wordsOk_is bw ow nw cw nw us ws _ H3.out _ sw0 sr0 HLW.out hnw HSUM.out hnw).mono ?_
  rintro e w1 ⟨rfl, b1⟩
  have B1 := below_step B0 b1
  have m2 := cell_step (by exact l2) b1
  have sh1 := sh0.below' b1
  go_wp2_with fail
  refine (rising_is bh oh nh ch hs _ H4.out _ sh1 HLH.out (by omega)).mono ?_
  rintro e w2 ⟨rfl, q, rfl⟩
  have k2 : (w1.drewN q).cell? ⟨w.heap.size, 2, none⟩ = some (.slice (some ⟨bh, oh, none⟩) nh ch) := m2
  have B2 := below_drewN B1 q
  have sh2 : Sl (w1.drewN q) bh oh (hs.map (.int .i64)) := sh1
  clear m2 sh1
  generalize w1.drewN q = w2 at *
  go_wp2_with fail
  refine (allWithin_is bh oh nh ch hs 0 ((nw : Int) - 1) _ H5.out _ sh2 HLH.out (by omega)).mono ?_
  rintro e w' ⟨rfl, rfl⟩
  go_wp2_with fail
  go_ret
  exact ⟨ret_bool (by rw [HV.out]), B2⟩

theorem tagFront_yes (f : Int) (A : Option Addr) (n c : Nat) (v2 : Value) (w : World) (hn : 2 * n ≤ 9) :
    Calls Try.prog 129 #[.agg #[.int .i64 f, .slice A n c, v2]] w fun e w' => e = .returned (.tuple #[.int .i64 n, .int .i64 (2 * (n : Int)), .int .i64 0]) ∧ Below w.heap.size w w' := by
  obtain ⟨w0, HW0, B0, x0⟩ := al1 w (.cells #[.int .i64 f, .slice A n c, v2] 61)
  have l1 : w0.cell? ⟨w.heap.size, 1, none⟩ = some (.slice A n c) := by rw [cell_of_heap x0]; rfl
  clear x0
  have wm : IntKind.i64.wrap (2 * (n : Int)) = 2 * (n : Int) := IntWalk.i64_in _ (by omega)
  go_enter Try.func129, Try.ntmps129
  go_wp2_with fail
  rw [← HW0.out]
  refine (sizeWordsT_is _ n c _).mono ?_
  rintro e w' ⟨rfl, rfl⟩
  go_wp2_with fail
  go_ret3
  exact ⟨rfl, B0⟩
theorem tagFront_no (f : Int) (A : Option Addr) (n c : Nat) (v2 : Value) (w : World) (hn : 9 < 2 * n) (h : n ≤ 1048576) :
    Calls Try.prog 129 #[.agg #[.int .i64 f, .slice A n c, v2]] w fun e w' => e = .returned (.tuple #[.int .i64 0, .int .i64 0, .int .i64 5]) ∧ Below w.heap.size w w' := by
  obtain ⟨w0, HW0, B0, x0⟩ := al1 w (.cells #[.int .i64 f, .slice A n c, v2] 61)
  have l1 : w0.cell? ⟨w.heap.size, 1, none⟩ = some (.slice A n c) := by rw [cell_of_heap x0]; rfl
  clear x0
  have wm : IntKind.i64.wrap (2 * (n : Int)) = 2 * (n : Int) := IntWalk.i64_in _ (by omega)
  go_enter Try.func129, Try.ntmps129
  go_wp2_with fail
  rw [← HW0.out]
  refine (sizeWordsT_is _ n c _).mono ?_
  rintro e w' ⟨rfl, rfl⟩
  go_wp2_with fail
  go_ret3
  exact ⟨rfl, B0⟩

set_option maxRecDepth 100000 in
theorem indexI_any (A : Option Addr) (n c : Nat) (xs : List Int) (x : Int) (w : World) (ha : Arg w A n (xs.map (Value.int .i64))) (hn : n ≤ 1048576) :
    Calls Try.prog 157 #[.slice A n c, .int .i64 x] w fun e w' => (∃ z : Int, e = .returned (.int .i64 z) ∧ decide (0 ≤ z) = decide (x ∈ xs)) ∧ w = w' := by
  have HL : Hid (xs.length = n) := by have := ha.1; simpa [Hid] using this
  go_enter Try.func157, Try.ntmps157
  go_wp2
  go_loop [8] (fun i => ∃ k : Nat, k ≤ n ∧ i = .int .i64 k ∧ Hid (x ∉ xs.take k)) (fun i => n - (intOf i).toNat)
  case atStart => exact ⟨0, Nat.zero_le _, rfl, by simp [Hid]⟩
  case round =>
    obtain ⟨k, hk, rfl, HN⟩ := hrel
    by_cases hlt : k < n
    · obtain ⟨b, off, rfl, hs⟩ := ha.sl hlt
      obtain ⟨y, HY, hy⟩ := map_at (Value.int .i64) xs (k := k) (by have := HL.out; omega)
      have hcy := hs.at hy
      clear hy
      by_cases e : x = y
      · have e1 : (x == y) = true := by simpa using e
        have HM : Hid (decide (x ∈ xs) = true) := by unfold Hid; rw [decide_eq_true_eq, e]; exact getD_mem HY.out
        clear e
        go_wp2
        go_ret
        exact ⟨⟨_, rfl, ⟨fun _ => of_decide_eq_true HM.out, fun _ => by omega⟩⟩, rfl⟩
      · have e1 : (x == y) = false := by simpa using e
        have HM : Hid (x ∉ xs.take (k + 1)) := by
          have := HN.out
          unfold Hid
          rw [List.take_add_one, HY.out]
          simp only [Option.toList_some, List.mem_append, List.mem_singleton]
          rintro (h | h)
          · exact this h
          · exact e h
        clear e
        go_wp2
        go_round
        case rel => exact ⟨k + 1, by omega, by go_num, HM⟩
        case measure => simp [intOf]; omega
    · go_wp2
      go_ret
      refine ⟨⟨_, rfl, ?_⟩, rfl⟩
      have := HN.out
      rw [List.take_of_length_le (by have := HL.out; omega)] at this
      exact ⟨fun h => by omega, fun h => absurd h this⟩
theorem containsI_is (A : Option Addr) (n c : Nat) (xs : List Int) (x : Int) (v : Bool) (hv : decide (x ∈ xs) = v) (w : World) (ha : Arg w A n (xs.map (Value.int .i64))) (hn : n ≤ 1048576) :
    Calls Try.prog 131 #[.slice A n c, .int .i64 x] w fun e w' => e = .returned (.bool v) ∧ w = w' := by
  subst hv
  go_enter Try.func131, Try.ntmps131
  go_wp2_with fail
  refine (indexI_any A n c xs x _ ha hn).mono ?_
  rintro e w' ⟨⟨z, rfl, hz⟩, rfl⟩
  have HZ := Lib.hid hz; clear hz
  go_wp2_with fail
  go_ret
  exact ⟨ret_bool (by rw [← HZ.out]), rfl⟩
end Go.Proofs.Ytcfkjigapnknnaa
