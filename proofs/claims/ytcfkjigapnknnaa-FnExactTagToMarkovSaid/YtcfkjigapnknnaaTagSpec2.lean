/- Tag systems: whether one is valid, by the reference. -/
import Derived.Test.YtcfkjigapnknnaaTagSpec1
import Derived.Test.YtcfkjigapnknnaaHeld
namespace Go.Proofs.Ytcfkjigapnknnaa
open Go.RowKit
set_option linter.all false

theorem l00RisesT_is (b off n c : Nat) (xs : List Int) (lo hi : Int) (v : Bool) (hv : risesB xs lo hi = v) (w : World) (hs : Sl w b off (xs.map (.int .i64))) (hl : xs.length = n) (hn : n ≤ 4194304) :
    Calls Try.prog 121 #[.slice (some ⟨b, off, none⟩) n c, .int .i64 lo, .int .i64 hi] w fun e w' => e = .returned (.bool v) ∧ ∃ q, w' = w.drewN q := by
  subst hv; exact l00Rises_any b off n c xs lo hi w hs hl hn

set_option maxRecDepth 100000 in
set_option maxHeartbeats 1000000 in
theorem l09Is_is (gt : Nat) (d : Int) (bw ow nw cw : Nat) (us : List Value) (ws : List (List Int)) (bh oh nh ch : Nat) (hs : List Int) (v : Bool) (hv : validTag d ws hs = v) (w : World)
    (t0 : w.cell? ⟨gt, 0, none⟩ = some (.int .i64 d)) (t1 : w.cell? ⟨gt, 1, none⟩ = some (.slice (some ⟨bw, ow, none⟩) nw cw)) (t2 : w.cell? ⟨gt, 2, none⟩ = some (.slice (some ⟨bh, oh, none⟩) nh ch))
    (sw : Sl w bw ow us) (sr : Srcs 1 oneI w us ws) (lw : ws.length = nw) (hnw : nw ≤ 1048576) (hsum : sumLen ws ≤ 1048576) (sh : Sl w bh oh (hs.map (.int .i64))) (lh : hs.length = nh) (hnh : nh ≤ 1048576) :
    Calls Try.prog 68 #[.pointer (some ⟨gt, 0, none⟩)] w fun e w' => e = .returned (.bool v) ∧ ∃ q, w' = w.drewN q := by
  subst hv
  have HLW := Lib.hid lw
  have HLH := Lib.hid lh
  have HSUM := Lib.hid hsum
  clear lh hsum
  rcases Bool.eq_false_or_eq_true (inB d 1 4) with h1 | h1
  rotate_left
  · have H1 := Lib.hid h1
    have HV : Hid (validTag d ws hs = false) := by unfold Hid validTag; rw [h1]; rfl
    clear h1
    go_enter Try.func68, Try.ntmps68
    go_wp2_with fail
    refine (l00In_is d 1 4 _ H1.out _).mono ?_
    rintro e w' ⟨rfl, rfl⟩
    go_wp2_with fail
    go_ret
    exact ⟨ret_bool (by rw [HV.out]), 0, rfl⟩
  rcases Bool.eq_false_or_eq_true (inB (nw : Int) 1 200) with h2 | h2
  rotate_left
  · have H1 := Lib.hid h1
    have H2 := Lib.hid h2
    have HV : Hid (validTag d ws hs = false) := by unfold Hid validTag; rw [lw, h1, h2]; rfl
    clear h1 h2
    go_enter Try.func68, Try.ntmps68
    go_wp2_with fail
    refine (l00In_is d 1 4 _ H1.out _).mono ?_
    rintro e w' ⟨rfl, rfl⟩
    go_wp2_with fail
    refine (l00In_is (nw : Int) 1 200 _ H2.out _).mono ?_
    rintro e w' ⟨rfl, rfl⟩
    go_wp2_with fail
    go_ret
    exact ⟨ret_bool (by rw [HV.out]), 0, rfl⟩
  have wn : IntKind.i64.wrap ((nw : Int) - 1) = (nw : Int) - 1 := IntWalk.i64_in _ (by omega)
  rcases Bool.eq_false_or_eq_true (risesB hs 0 ((nw : Int) - 1)) with h3 | h3
  rotate_left
  · have H1 := Lib.hid h1
    have H2 := Lib.hid h2
    have H3 := Lib.hid h3
    have HV : Hid (validTag d ws hs = false) := by unfold Hid validTag; rw [lw, h1, h2, h3]; rfl
    clear h1 h2 h3
    go_enter Try.func68, Try.ntmps68
    go_wp2_with fail
    refine (l00In_is d 1 4 _ H1.out _).mono ?_
    rintro e w' ⟨rfl, rfl⟩
    go_wp2_with fail
    refine (l00In_is (nw : Int) 1 200 _ H2.out _).mono ?_
    rintro e w' ⟨rfl, rfl⟩
    go_wp2_with fail
    refine (l00RisesT_is bh oh nh ch hs 0 ((nw : Int) - 1) _ H3.out _ sh HLH.out (by omega)).mono ?_
    rintro e w' ⟨rfl, q, rfl⟩
    go_wp2_with fail
    go_ret
    exact ⟨ret_bool (by rw [HV.out]), q, rfl⟩
  have H1 := Lib.hid h1
  have H2 := Lib.hid h2
  have H3 := Lib.hid h3
  have HV : Hid (validTag d ws hs = ws.all (overB nw)) := by unfold Hid validTag; rw [lw, h1, h2, h3]; rfl
  clear h1 h2 h3 lw
  go_enter Try.func68, Try.ntmps68
  go_wp2_with fail
  refine (l00In_is d 1 4 _ H1.out _).mono ?_
  rintro e w' ⟨rfl, rfl⟩
  go_wp2_with fail
  refine (l00In_is (nw : Int) 1 200 _ H2.out _).mono ?_
  rintro e w' ⟨rfl, rfl⟩
  go_wp2_with fail
  refine (l00RisesT_is bh oh nh ch hs 0 ((nw : Int) - 1) _ H3.out _ sh HLH.out (by omega)).mono ?_
  rintro e w' ⟨rfl, q0, rfl⟩
  have s1 : (w.drewN q0).cell? ⟨gt, 1, none⟩ = some (.slice (some ⟨bw, ow, none⟩) nw cw) := t1
  go_wp2_with fail
  go_loopw [4] (fun i wr => ∃ k q : Nat, k ≤ nw ∧ i = .int .i64 k ∧ wr = w.drewN q ∧ Hid (∀ j x, j < k → ws[j]? = some x → overB nw x = true)) (fun i _ => nw - (intOf i).toNat)
  case atStart => exact ⟨0, q0, Nat.zero_le _, rfl, rfl, by intro j x hj; omega⟩
  case round =>
    obtain ⟨k, q, hk, rfl, rfl, HR⟩ := hrel
    have s1 : (w.drewN q).cell? ⟨gt, 1, none⟩ = some (.slice (some ⟨bw, ow, none⟩) nw cw) := t1
    by_cases hlt : k < nw
    · obtain ⟨x, HX⟩ := hget HLW hlt
      have hlen : us.length = nw := by have := sr.1; have := HLW.out; omega
      obtain ⟨u, hu⟩ : ∃ u, us[k]? = some u := ⟨_, List.getElem?_eq_getElem (by omega)⟩
      have hsrc := sr.2 k u x hu HX.out
      obtain ⟨Au, cu, rfl⟩ := hsrc.form
      have hxl : x.length ≤ 1048576 := Nat.le_trans (sumLen_mem (List.mem_of_getElem? HX.out)) HSUM.out
      obtain ⟨nx, hnx⟩ : ∃ nx, nx = x.length := ⟨_, rfl⟩
      rw [← hnx] at hsrc hu hxl
      clear hnx
      have hau : Arg (w.drewN q) Au nx (x.map (.int .i64)) := by have := hsrc.arg; rwa [rows_oneI] at this
      have hcu : (w.drewN q).cell? ⟨bw, ow + k, none⟩ = some (.slice Au nx cu) := sw.at hu
      clear hlen hsrc hu
      rcases Bool.eq_false_or_eq_true (overB nw x) with hb | hb
      rotate_left
      · have HB := Lib.hid hb
        clear hb
        go_wp2_with (go_at_call 122; refine (l09Over_is Au nx cu nw x false HB.out _ hau (by omega) hnw).mono ?_; rintro e w' ⟨rfl, rfl⟩)
        go_ret
        exact ⟨ret_bool (by rw [HV.out, List.all_eq_false.2 ⟨x, List.mem_of_getElem? HX.out, by rw [HB.out]; simp⟩]), q, rfl⟩
      · have HB := Lib.hid hb
        clear hb
        go_wp2_with (go_at_call 122; refine (l09Over_is Au nx cu nw x true HB.out _ hau (by omega) hnw).mono ?_; rintro e w' ⟨rfl, rfl⟩)
        go_roundw
        case rel => exact ⟨k + 1, q, by omega, by go_num, rfl, by
          intro j y hj hy
          by_cases ej : j = k
          · subst ej
            have h2 := HX.out
            rw [hy] at h2; injection h2 with h2; subst h2; exact HB.out
          · exact HR.out j y (by omega) hy⟩
        case measure => simp [intOf]; omega
    · have HE : Hid (ws.all (overB nw) = true) := by
        have hl := HLW.out
        unfold Hid
        rw [List.all_eq_true]
        intro x hx
        obtain ⟨j, hj⟩ := List.getElem?_of_mem hx
        exact HR.out j x (by have := (List.getElem?_eq_some_iff.1 hj).1; omega) hj
      go_wp2_with fail
      go_ret
      exact ⟨ret_bool (by rw [HV.out, HE.out]), q, rfl⟩
end Go.Proofs.Ytcfkjigapnknnaa
