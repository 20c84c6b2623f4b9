/- TagToMarkov on both sides. -/
import Derived.Test.YtcfkjigapnknnaaTagSpec4
namespace Go.Proofs.Ytcfkjigapnknnaa
open Go.RowKit
set_option linter.all false

theorem tagToMarkov_bad {d : Int} {ws : List (List Int)} {hs : List Int} (h : validTag d ws hs = false) : tagToMarkov d ws hs = ([], 1) := by unfold tagToMarkov; rw [h]; rfl
theorem tagToMarkov_good {d : Int} {ws : List (List Int)} {hs : List Int} (h : validTag d ws hs = true) : tagToMarkov d ws hs = tmk d ws hs := by unfold tagToMarkov tmk; rw [if_pos h]

set_option maxRecDepth 100000 in
set_option maxHeartbeats 1000000 in
theorem specTagToMarkov_any (d : Int) (bw nw cw : Nat) (us : List Value) (ws : List (List Int)) (bh nh ch : Nat) (hs : List Int) (w : World) (wf : Wf64 d)
    (sw : Sl w bw 0 us) (sr : Srcs 1 oneI w us ws) (lw : ws.length = nw) (hnw : nw ≤ 1048576) (hcw : nw ≤ cw) (hsum : sumLen ws ≤ 1048576) (au : AdrW us) (sh : Sl w bh 0 (hs.map (.int .i64))) (lh : hs.length = nh) (hnh : nh ≤ 1048576) (hch : nh ≤ ch) :
    Calls Try.prog 30 #[.agg #[.int .i64 d, .slice (some ⟨bw, 0, none⟩) nw cw, .slice (some ⟨bh, 0, none⟩) nh ch]] w fun e w' => ∃ V es, e = .returned (.tuple #[V, .int .i64 (tagToMarkov d ws hs).2]) ∧ SGrid kndMarkovRule w.heap.size w'.heap.size 117 2 1 V es w' ∧ es.map (·.d) = (tagToMarkov d ws hs).1 ∧ Below w.heap.size w w' := by
  obtain ⟨w1, HW1, B1, x1⟩ := al1 w (.cells #[.int .i64 d, .slice (some ⟨bw, 0, none⟩) nw cw, .slice (some ⟨bh, 0, none⟩) nh ch] 61)
  have t0 : w1.cell? ⟨w.heap.size, 0, none⟩ = some (.int .i64 d) := by rw [cell_of_heap x1]; rfl
  have t1 : w1.cell? ⟨w.heap.size, 1, none⟩ = some (.slice (some ⟨bw, 0, none⟩) nw cw) := by rw [cell_of_heap x1]; rfl
  have t2 : w1.cell? ⟨w.heap.size, 2, none⟩ = some (.slice (some ⟨bh, 0, none⟩) nh ch) := by rw [cell_of_heap x1]; rfl
  have sw1 := sw.below' B1
  have sr1 := sr.below B1
  have sh1 := sh.below' B1
  have HLW := Lib.hid lw; have HLH := Lib.hid lh; have HSUM := Lib.hid hsum; have HAU := Lib.hid au
  clear x1 sw sr sh lw lh hsum au
  rcases Bool.eq_false_or_eq_true (validTag d ws hs) with hv | hv
  rotate_left
  · have HV := Lib.hid hv
    have HF : Hid (tagToMarkov d ws hs = ([], 1)) := tagToMarkov_bad hv
    clear hv
    have HC := Lib.hid (l09Is_is w.heap.size d bw 0 nw cw us ws bh 0 nh ch hs false HV.out w1 t0 t1 t2 sw1 sr1 HLW.out hnw HSUM.out sh1 HLH.out hnh)
    clear t0 t1 t2
    go_enter Try.func30, Try.ntmps30
    go_wp2_with fail
    rw [← HW1.out]
    refine HC.out.mono ?_
    rintro e w' ⟨rfl, q, rfl⟩
    go_wp2_with fail
    go_ret2
    exact ⟨_, [], ends2 (by rw [HF.out]), (MkRow.nilv _ _).acc.grid, by rw [HF.out]; rfl, below_drewN B1 q⟩
  have HV := Lib.hid hv
  have HF : Hid (tagToMarkov d ws hs = tmk d ws hs) := tagToMarkov_good hv
  clear hv
  have HC := Lib.hid (l09Is_is w.heap.size d bw 0 nw cw us ws bh 0 nh ch hs true HV.out w1 t0 t1 t2 sw1 sr1 HLW.out hnw HSUM.out sh1 HLH.out hnh)
  have HR := Lib.hid (fun q : Nat => l16TagRules_any w.heap.size d bw 0 nw cw us ws bh 0 nh ch hs (w1.drewN q) HV.out t0 t1 t2 sw1 sr1 HLW.out hnw HSUM.out HAU.out sh1 HLH.out hnh)
  clear t0 t1 t2 sw1 sr1 sh1
  obtain ⟨ok, hok⟩ : ∃ ok, tagOk d ws hs = ok := ⟨_, rfl⟩
  have HOK := Lib.hid hok; clear hok
  cases ok
  · have HF2 : Hid (tmk d ws hs = ([], 5)) := tmk_no HOK.out
    go_enter Try.func30, Try.ntmps30
    go_wp2_with fail
    rw [← HW1.out]
    refine HC.out.mono ?_
    rintro e w' ⟨rfl, q, rfl⟩
    go_wp2_with fail
    refine (HR.out q).mono ?_
    rw [HOK.out]
    rintro e w2 ⟨V, es, xs, rfl, R, -, b2⟩
    have B2 := below_step (below_drewN B1 q) b2
    clear R
    go_wp2_with fail
    go_ret2
    exact ⟨_, [], ends2 (by rw [HF.out, HF2.out]), (MkRow.nilv _ _).acc.grid, by rw [HF.out, HF2.out]; rfl, B2⟩
  · have HF2 : Hid (tmk d ws hs = (tagRules d ws hs, 0)) := tmk_yes HOK.out
    go_enter Try.func30, Try.ntmps30
    go_wp2_with fail
    rw [← HW1.out]
    refine HC.out.mono ?_
    rintro e w' ⟨rfl, q, rfl⟩
    go_wp2_with fail
    refine (HR.out q).mono ?_
    rw [HOK.out]
    rintro e w2 ⟨V, es, xs, rfl, R, hx, b2⟩
    have HX := Lib.hid (hx rfl); clear hx
    have B2 := below_step (below_drewN B1 q) b2
    have R2 := R.base (lo' := w.heap.size) B1.size
    obtain ⟨A, c, rfl⟩ := own_form R.acc.own
    clear R
    go_wp2_with fail
    go_ret2
    exact ⟨_, es, ends2 (by rw [HF.out, HF2.out]), R2.acc.grid, by rw [HF.out, HF2.out, R2.map, HX.out], B2⟩

set_option maxRecDepth 100000 in
set_option maxHeartbeats 1000000 in
theorem implTagToMarkov_any (d : Int) (bw nw cw : Nat) (us : List Value) (ws : List (List Int)) (bh nh ch : Nat) (hs : List Int) (w : World) (wf : Wf64 d)
    (sw : Sl w bw 0 us) (sr : Srcs 1 oneI w us ws) (lw : ws.length = nw) (hnw : nw ≤ 1048576) (hcw : nw ≤ cw) (hsum : sumLen ws ≤ 1048576) (au : AdrW us) (sh : Sl w bh 0 (hs.map (.int .i64))) (lh : hs.length = nh) (hnh : nh ≤ 1048576) (hch : nh ≤ ch) :
    Calls Try.prog 32 #[.agg #[.int .i64 d, .slice (some ⟨bw, 0, none⟩) nw cw, .slice (some ⟨bh, 0, none⟩) nh ch]] w fun e w' => ∃ V es, e = .returned (.tuple #[V, .int .i64 (tagToMarkov d ws hs).2]) ∧ SGrid kndMarkovRule w.heap.size w'.heap.size 117 2 1 V es w' ∧ es.map (·.d) = (tagToMarkov d ws hs).1 ∧ Below w.heap.size w w' := by
  obtain ⟨w1, HW1, B1, x1⟩ := al1 w (.cells #[.int .i64 d, .slice (some ⟨bw, 0, none⟩) nw cw, .slice (some ⟨bh, 0, none⟩) nh ch] 61)
  have t0 : w1.cell? ⟨w.heap.size, 0, none⟩ = some (.int .i64 d) := by rw [cell_of_heap x1]; rfl
  have t1 : w1.cell? ⟨w.heap.size, 1, none⟩ = some (.slice (some ⟨bw, 0, none⟩) nw cw) := by rw [cell_of_heap x1]; rfl
  have t2 : w1.cell? ⟨w.heap.size, 2, none⟩ = some (.slice (some ⟨bh, 0, none⟩) nh ch) := by rw [cell_of_heap x1]; rfl
  have sw1 := sw.below' B1
  have sr1 := sr.below B1
  have sh1 := sh.below' B1
  have HLW := Lib.hid lw; have HLH := Lib.hid lh; have HSUM := Lib.hid hsum; have HAU := Lib.hid au
  clear x1 sw sr sh lw lh hsum au
  rcases Bool.eq_false_or_eq_true (validTag d ws hs) with hv | hv
  rotate_left
  · have HV := Lib.hid hv
    have HF : Hid (tagToMarkov d ws hs = ([], 1)) := tagToMarkov_bad hv
    clear hv
    go_enter Try.func32, Try.ntmps32
    go_wp2_with fail
    rw [← HW1.out]
    refine (implValidTag_is d bw 0 nw cw us ws bh 0 nh ch hs false HV.out w1 sw1 sr1 HLW.out hnw HSUM.out sh1 HLH.out hnh).mono ?_
    rintro e w2 ⟨rfl, b2⟩
    have B2 := below_step B1 b2
    go_wp2_with fail
    go_ret2
    exact ⟨_, [], ends2 (by rw [HF.out]), (MkRow.nilv _ _).acc.grid, by rw [HF.out]; rfl, B2⟩
  have HV := Lib.hid hv
  have HF : Hid (tagToMarkov d ws hs = tmk d ws hs) := tagToMarkov_good hv
  clear hv
  go_enter Try.func32, Try.ntmps32
  go_wp2_with fail
  rw [← HW1.out]
  refine (implValidTag_is d bw 0 nw cw us ws bh 0 nh ch hs true HV.out w1 sw1 sr1 HLW.out hnw HSUM.out sh1 HLH.out hnh).mono ?_
  rintro e w2 ⟨rfl, b2⟩
  have B2 := below_step B1 b2
  have m0 := cell_step (by exact t0) b2
  have m1 := cell_step (by exact t1) b2
  have m2 := cell_step (by exact t2) b2
  have sw2 := sw1.below' b2
  have sr2 := sr1.below b2
  have sh2 := sh1.below' b2
  clear t0 t1 t2 sw1 sr1 sh1 b2
  go_wp2_with fail
  refine (implTagMk_any d bw 0 nw cw us ws bh 0 nh ch hs w2 HV.out sw2 sr2 HLW.out hnw HSUM.out HAU.out sh2 HLH.out hnh).mono ?_
  rintro e w3 ⟨V, es, rfl, R, b3⟩
  have B3 := below_step B2 b3
  have R3 := R.base (lo' := w.heap.size) B2.size
  obtain ⟨A, c, rfl⟩ := own_form R.acc.own
  clear R
  go_wp2_with fail
  go_ret2
  exact ⟨_, es, ends2 (by rw [HF.out]), R3.acc.grid, by rw [HF.out, R3.map], B3⟩
end Go.Proofs.Ytcfkjigapnknnaa
